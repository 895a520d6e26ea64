/- Eval and True. -/
import Derived.Test.YtnelgblmogciiaaFind8
set_option linter.unusedSimpArgs false
set_option linter.unusedVariables false
namespace Go.Proofs.Ytnelgblmogciiaa
open Go.RowKit

set_option maxHeartbeats 1000000 in
theorem eval_any (V : LView) (e : LExpr) (vc cs : List Value) (B : Nat) (w : World) (hB : B ≤ w.heap.size) (hv : IsView B w V vc) (he : IsExpr B w e cs) :
    Calls Try.prog 19 #[.agg vc.toArray, .agg cs.toArray] w fun r w' => r = .returned (evalE V e).res ∧ Below w.heap.size w w' := by
  have HC := fun W (hb : Below B w W) (hl : B ≤ W.heap.size) => Lib.hid (checkE_any e cs B W hl (he.carry hb))
  have HF := fun W (h0 : checkE e = 0) (hb : Below B w W) (hl : B ≤ W.heap.size) => Lib.hid (find_all V e (checkE_okE h0) vc cs B W hl (hv.carry hb) (he.carry hb))
  rw [checkE_is] at HC
  obtain ⟨hd, ks, A, c, rfl, rfl, hlen⟩ := he.form
  obtain ⟨IA, ic, MA, mc, rfl, _⟩ := hv
  clear he
  unfold Hd.cells at HC HF ⊢
  generalize hE : evalE V (.mk hd ks) = E
  have HE := Lib.hid hE
  clear hE
  have hb0 : ∀ o1 o2 o3, Below B w (((w.alloc o1).alloc o2).alloc o3) := fun o1 o2 o3 => (((Below.refl B w).alloc hB o1).alloc (by simp; omega) o2).alloc (by simp; omega) o3
  go_enter Try.func19, Try.ntmps19
  go_wp2_with fail
  refine (HC _ (hb0 _ _ _) (by simp; omega)).out.mono ?_
  rintro r w1 ⟨rfl, hb1⟩
  have hR1 := ((Blk.at2 w _ _ _ _)).below hb1
  have hV1 := (((Blk.new w _ _).alloc _).alloc _).below hb1
  have hE1 := (((Blk.at1 w _ _ _)).alloc _).below hb1
  have cV1 := hV1.cell
  have cE1 := hE1.cell
  have hl1 := hb1.size
  have hbB1 := (hb0 _ _ _).trans (hb1.mono (by simp; omega))
  have hBB := (((Below.refl w.heap.size w).al _).al _).al _ |>.th hb1
  simp only [World.size_alloc] at hl1
  clear HC hb0
  cases h0 : (checkE (.mk hd ks) != 0) with
  | true =>
    have h1 : checkE (.mk hd ks) ≠ 0 := by simpa using h0
    have h2 : unknownE = E := by rw [← HE.out, evalE, if_neg h1]
    subst h2
    clear h1 HE HF
    go_wp2_with fail
    refine (unknown_any _).mono ?_
    rintro r w2 ⟨rfl, hb2⟩
    have hR := hR1.below hb2
    have cR := hR.cell
    have fR := hR.free
    have hs := hR.lt
    have hOb := hBB.th hb2
    go_wp2_with fail
    refine bodyPost_ret (v := ?_) ?_ rfl ?_
    rotate_left
    · simp [results, Try.results19, go_sem, cR]; exact rfl
    refine ⟨rfl, ?_⟩
    (repeat (first | refine Below.st ?_ (by first | (simp; done) | (simp; omega)) _ | exact hOb))
  | false =>
    have h1 : checkE (.mk hd ks) = 0 := by simpa using h0
    have h2 : findS V (.mk hd ks) = E := by rw [← HE.out, evalE, if_pos h1]
    have HF2 := fun W => HF W h1
    rw [h2] at HF2
    clear h2 HE HF h1
    obtain ⟨ek, en, es, eok⟩ := E
    go_wp2_with fail
    refine (HF2 _ hbB1 (by omega)).out.mono ?_
    rintro r w2 ⟨rfl, hb2⟩
    have hR := hR1.below hb2
    have cR := hR.cell
    have fR := hR.free
    have hs := hR.lt
    have hOb := hBB.th hb2
    clear HF2
    go_wp2_with fail
    refine bodyPost_ret (v := ?_) ?_ rfl ?_
    rotate_left
    · simp [results, Try.results19, go_sem, cR]; exact rfl
    refine ⟨rfl, ?_⟩
    (repeat (first | refine Below.st ?_ (by first | (simp; done) | (simp; omega)) _ | exact hOb))

/-- Is a value the known true? -/
def isTrue (x : EV) : Bool := x.ok && decide (x.k = 1) && decide (x.n = 1)

/-- What lay at W0 below block B lies as it lay. -/
def FB (B : Nat) (W0 W : World) : Prop := Below B W0 W ∧ B ≤ W.heap.size
theorem FB.al {B : Nat} {W0 W : World} (h : FB B W0 W) (o : Obj) : FB B W0 (W.alloc o) := ⟨h.1.alloc h.2 o, by have := h.2; simp; omega⟩
theorem FB.dr {B : Nat} {W0 W : World} (h : FB B W0 W) : FB B W0 W.drew := ⟨h.1.drew, h.2⟩
theorem FB.th {B : Nat} {W0 W W2 : World} (h : FB B W0 W) (hb : Below W.heap.size W W2) : FB B W0 W2 := ⟨h.1.trans (hb.mono h.2), Nat.le_trans h.2 hb.size⟩
theorem FB.far {B : Nat} {W0 W : World} (h : FB B W0 W) {g : Nat} (hB : B ≤ g) (i : Nat) (u : Value) : FB B W0 (W.setCell ⟨g, i, none⟩ u) := ⟨h.1.setCell (p := ⟨g, i, none⟩) hB u, by simpa using h.2⟩

set_option maxRecDepth 100000 in
set_option maxHeartbeats 4000000 in
theorem true_any (V : LView) (e : LExpr) (vc cs : List Value) (B : Nat) (w : World) (hB : B ≤ w.heap.size) (hv : IsView B w V vc) (he : IsExpr B w e cs) :
    Calls Try.prog 21 #[.agg vc.toArray, .agg cs.toArray] w fun r w' => r = .returned (.bool (isTrue (evalE V e))) ∧ Below w.heap.size w w' := by
  have HC := fun W (hb : Below B w W) (hl : B ≤ W.heap.size) => Lib.hid (eval_any V e vc cs B W hl (hv.carry hb) (he.carry hb))
  obtain ⟨hd, ks, A, c, rfl, rfl, hlen⟩ := he.form
  obtain ⟨IA, ic, MA, mc, rfl, _⟩ := hv
  clear he
  unfold Hd.cells at HC ⊢
  have hb0 : ∀ o1 o2, Below B w ((w.alloc o1).alloc o2) := fun o1 o2 => ((Below.refl B w).alloc hB o1).alloc (by simp; omega) o2
  generalize evalE V (.mk hd ks) = E at *
  obtain ⟨ek, en, es, eok⟩ := E
  cases hxo : eok
  · go_enter Try.func21, Try.ntmps21
    go_wp2_with fail
    refine (HC _ (hb0 _ _) (by simp; omega)).out.mono ?_
    rintro r w2 ⟨rfl, hb2⟩
    clear HC
    subst hxo
    go_wp2_with fail
    go_ret
    exact ⟨ret_bool (by simp [isTrue]), ((((Below.refl _ _).al _).al _).th hb2).al _⟩
  · by_cases hk1 : ek = 1
    all_goals
      go_enter Try.func21, Try.ntmps21
      go_wp2_with fail
      refine (HC _ (hb0 _ _) (by simp; omega)).out.mono ?_
      rintro r w2 ⟨rfl, hb2⟩
      clear HC
      subst hxo
      go_wp2_with fail
      go_ret
      exact ⟨ret_bool (by simp [isTrue, hk1]; try rfl), ((((Below.refl _ _).al _).al _).th hb2).al _⟩

end Go.Proofs.Ytnelgblmogciiaa
