/- The value of an expression: all kinds; Eval and True. Eval and True. -/
import Derived.Test.YtnelgblmogciiaaFind7
namespace Go.Proofs.Ytnelgblmogciiaa
section
set_option linter.unusedSimpArgs false
set_option linter.unusedVariables false
open Go.RowKit

theorem valCheck_I64 {k n : Int} {s : ByteArray} (h : valCheck k n s = 0) : I64 n := by
  unfold valCheck at h
  split at h
  · simp at h
  · split at h
    · simp at h
    · rename_i h1 h2
      have h3 : valOk k n := by simpa using h2
      unfold valOk at h3
      unfold I64; omega
theorem bit_I64 (b : Bool) : I64 (bit b) := by cases b <;> (unfold I64 bit; simp)
theorem satI_I64 (n : Int) : I64 (satI n) := by unfold I64 satI; repeat' split <;> omega
theorem zero_I64 : I64 0 := by unfold I64; omega
theorem attrE_I64 (l : List LItem) (d : Int) (cl a : ByteArray) : I64 (attrE l d cl a).n := by
  induction l with
  | nil => exact zero_I64
  | cons x l ih =>
    simp only [attrE]
    split
    · unfold itemE
      split
      · exact zero_I64
      · rename_i h
        exact valCheck_I64 (by simpa using (not_or.1 h).2)
    · exact ih
theorem junE_I64 (d : Int) (l : List EV) (op : Bool) : I64 (junE d l op).n := by
  induction l generalizing op with
  | nil => simp only [junE]; split
           · exact zero_I64
           · exact bit_I64 _
  | cons x l ih =>
    simp only [junE]
    split
    · exact ih _
    · split
      · exact bit_I64 _
      · exact ih _
theorem opE_I64 (kd k1 n1 : Int) (s1 : ByteArray) (k2 n2 : Int) (s2 : ByteArray) : I64 (opE kd k1 n1 s1 k2 n2 s2).n := by
  unfold opE
  repeat' split
  all_goals first | exact bit_I64 _ | exact zero_I64 | exact satI_I64 _
theorem ite_I64 {c : Prop} [Decidable c] {a b : EV} (ha : I64 a.n) (hb : I64 b.n) : I64 (if c then a else b).n := by split <;> assumption
theorem nodeE_I64 (V : LView) (h : Hd) (xs : List EV) (h1 : I64 h.vn) (h2 : ∀ x ∈ xs, I64 x.n) : I64 (nodeE V h xs).n := by
  have hg : ∀ i, I64 (xs.getD i unknownE).n := fun i => by
    by_cases hi : i < xs.length
    · rw [List.getD_eq_getElem?_getD, List.getElem?_eq_getElem hi]; exact h2 _ (List.getElem_mem hi)
    · rw [List.getD_eq_getElem?_getD, List.getElem?_eq_none (by omega)]; exact zero_I64
  unfold nodeE
  repeat' apply ite_I64
  all_goals first | exact h1 | exact attrE_I64 _ _ _ _ | exact bit_I64 _ | exact zero_I64 | exact junE_I64 _ _ _ | exact hg _ | exact opE_I64 _ _ _ _ _ _ _ | exact satI_I64 _
theorem findS_I64 (V : LView) (e : LExpr) : ∀ (B : Nat) (w : World) (cs : List Value), IsExpr B w e cs → I64 (findS V e).n := by
  induction e using LExpr.ind with | _ hd ks ih => ?_
  intro B w cs he
  cases he with
  | mk _ _ A c b off cs ok hlen hA hsz hrow hk =>
  simp only [findS]
  refine nodeE_I64 V hd _ ok.vn (fun x hx => ?_)
  obtain ⟨i, hi, rfl⟩ := List.getElem_of_mem hx
  rw [findL_len] at hi
  rw [findL_get V ks i hi]
  exact ih i hi B w _ (hk i hi)

/-- Every node of an expression is well made by itself. -/
def okE : LExpr → Prop
  | .mk h ks => nodeCheck h ks.length = 0 ∧ ∀ k ∈ ks, okE k

theorem rwalk_okE (e : LExpr) : ∀ lv bf, (rwalk e lv bf).2 = 0 → okE e := by
  induction e using LExpr.ind with | _ hd ks ih => ?_
  have hL : ∀ (l : List LExpr), (∀ (i : Nat) (hi : i < l.length), ∀ lv bf, (rwalk l[i] lv bf).2 = 0 → okE l[i]) → ∀ lv bf, (rwalkL l lv bf).2 = 0 → ∀ k ∈ l, okE k := by
    intro l
    induction l with
    | nil => intro _ _ _ _ k hk; cases hk
    | cons k ks ihl =>
      intro h lv bf h0 k' hk'
      simp only [rwalkL] at h0
      split at h0
      · rename_i h1; exact absurd h0 h1
      · rename_i h1
        rcases List.mem_cons.1 hk' with rfl | hk2
        · exact h 0 (by simp) lv bf (by simpa using h1)
        · exact ihl (fun i hi => by have := h (i + 1) (by simpa using hi); simpa using this) lv _ h0 k' hk2
  intro lv bf h0
  simp only [rwalk] at h0
  split at h0
  · simp at h0
  · split at h0
    · simp at h0
    · split at h0
      · rename_i h1; exact absurd h0 h1
      · rename_i h1
        rw [okE]
        exact ⟨by simpa using h1, hL ks ih _ _ h0⟩
theorem checkE_okE {e : LExpr} (h : checkE e = 0) : okE e := rwalk_okE e 1 0 h

theorem nodeCheck_kinds {h : Hd} {l : Nat} (h0 : nodeCheck h l = 0) : 1 ≤ h.kind ∧ h.kind ≤ 15 ∧ kidsOk h.kind l := by
  unfold nodeCheck at h0
  repeat' split at h0
  all_goals first | omega | (refine ⟨?_, ?_, ?_⟩ <;> grind)

set_option maxRecDepth 100000 in
set_option maxHeartbeats 1000000 in
theorem find_if (V : LView) (h : Hd) (ks : List LExpr) (hk : h.kind = 14) (hlk : ks.length = 3) (ih : ∀ (i : Nat) (hi : i < ks.length), FindOk V ks[i]) : FindOk V (.mk h ks) := by
  intro vc cs B w hB hv he
  obtain ⟨e0, e1, e2, rfl⟩ : ∃ a b c, ks = [a, b, c] := by
    match ks, hlk with
    | [a, b, c], _ => exact ⟨a, b, c, rfl⟩
  have hs : findS V (.mk h [e0, e1, e2]) = chE (findS V e0) (findS V e1) (findS V e2) := by
    simp only [findS, findL, nodeE, hk, chE]; rfl
  rw [hs]
  have f0 := ih 0 (by simp)
  have f1 := ih 1 (by simp)
  have f2 := ih 2 (by simp)
  cases he with
  | mk _ _ A c b off cs ok hlen hA hsz hrow hkk =>
  obtain ⟨rfl, hbB⟩ := hA (by simp)
  have r0 := hrow 0 (by simp)
  have r1 := hrow 1 (by simp)
  have r2 := hrow 2 (by simp)
  have g0 := hkk 0 (by simp)
  have g1 := hkk 1 (by simp)
  have g2 := hkk 2 (by simp)
  simp only [List.getElem_cons_zero, List.getElem_cons_succ] at f0 f1 f2 g0 g1 g2
  clear hrow hkk ih hA hs
  obtain ⟨h0, k0, A0, c0, q0, p0, _⟩ := g0.form
  obtain ⟨h1, k1, A1, c1, q1, p1, _⟩ := g1.form
  obtain ⟨h2, k2, A2, c2, q2, p2, _⟩ := g2.form
  rw [p0] at r0 g0
  rw [p1] at r1 g1
  rw [p2] at r2 g2
  have hBb : ∀ o1 o2 o3, Below B w (((w.alloc o1).alloc o2).alloc o3) := fun o1 o2 o3 => (((Below.refl B w).alloc hB o1).alloc (by simp; omega) o2).alloc (by simp; omega) o3
  have HC := fun o1 o2 o3 => Lib.hid (choice_any V vc B b off c h0 h1 h2 k0 k1 k2 A0 A1 A2 c0 c1 c2 (findS V e0) (findS V e1) (findS V e2) (((w.alloc o1).alloc o2).alloc o3) (by simp; omega) (hv.carry (hBb o1 o2 o3)) hbB
    (by have := r0.below (hBb o1 o2 o3) hbB; simpa using this) (by have := r1.below (hBb o1 o2 o3) hbB; simpa using this) (by have := r2.below (hBb o1 o2 o3) hbB; simpa using this)
    (fun W hb hl => f0 vc _ B W hl (hv.carry ((hBb o1 o2 o3).trans hb)) (g0.carry ((hBb o1 o2 o3).trans hb)))
    (fun W hb hl => f1 vc _ B W hl (hv.carry ((hBb o1 o2 o3).trans hb)) (g1.carry ((hBb o1 o2 o3).trans hb)))
    (fun W hb hl => f2 vc _ B W hl (hv.carry ((hBb o1 o2 o3).trans hb)) (g2.carry ((hBb o1 o2 o3).trans hb))))
  generalize chE (findS V e0) (findS V e1) (findS V e2) = R at *
  obtain ⟨IA, ic, MA, mc, rfl, _⟩ := hv
  clear f0 f1 f2 g0 g1 g2 r0 r1 r2 q0 q1 q2 p0 p1 p2 hBb
  simp only [List.length_cons, List.length_nil, Nat.reduceAdd]
  go_enter Try.func44, Try.ntmps44
  unfold Hd.cells
  rw [hk]
  go_wp2_with fail
  refine (HC _ _ _).out.mono ?_
  rintro r w2 ⟨rfl, hb2⟩
  have hR := ((Blk.at2 w _ _ _ _)).below hb2
  have cR := hR.cell
  have fR := hR.free
  have hs := hR.lt
  clear HC
  go_wp2_with fail
  refine bodyPost_ret (v := ?_) ?_ rfl ?_
  rotate_left
  · simp [results, Try.results44, go_sem, cR]; exact rfl
  refine ⟨rfl, ?_⟩
  (repeat (first | exact Below.refl _ _ | refine Below.al ?_ _ | refine Below.st ?_ (by simp; omega) _ | refine Below.th ?_ (by assumption)))

set_option maxHeartbeats 1000000 in
theorem find_bin (V : LView) (h : Hd) (ks : List LExpr) (hk9 : 9 ≤ h.kind) (hk13 : h.kind ≤ 13) (hlk : ks.length = 2) (ih : ∀ (i : Nat) (hi : i < ks.length), FindOk V ks[i]) : FindOk V (.mk h ks) := by
  intro vc cs B w hB hv he
  obtain ⟨e0, e1, rfl⟩ : ∃ a b, ks = [a, b] := by
    match ks, hlk with
    | [a, b], _ => exact ⟨a, b, rfl⟩
  have hs : findS V (.mk h [e0, e1]) = if (findS V e0).ok = false ∨ (findS V e1).ok = false then unknownE else opE h.kind (findS V e0).k (findS V e0).n (findS V e0).s (findS V e1).k (findS V e1).n (findS V e1).s := by
    simp only [findS, findL, nodeE]
    rw [if_neg (by omega), if_neg (by omega), if_neg (by omega), if_neg (by omega), if_neg (by omega), if_neg (by omega), if_neg (by omega), if_neg (by omega), if_neg (by omega), if_neg (by omega)]
    rfl
  rw [hs]
  have f0 := ih 0 (by simp)
  have f1 := ih 1 (by simp)
  cases he with
  | mk _ _ A c b off cs ok hlen hA hsz hrow hkk =>
  obtain ⟨rfl, hbB⟩ := hA (by simp)
  have r0 := hrow 0 (by simp)
  have r1 := hrow 1 (by simp)
  have g0 := hkk 0 (by simp)
  have g1 := hkk 1 (by simp)
  simp only [List.getElem_cons_zero, List.getElem_cons_succ] at f0 f1 g0 g1
  clear hrow hkk ih hA hs
  obtain ⟨h0, k0, A0, c0, q0, p0, _⟩ := g0.form
  obtain ⟨h1, k1, A1, c1, q1, p1, _⟩ := g1.form
  have n0 := findS_I64 V e0 B w _ g0
  have n1 := findS_I64 V e1 B w _ g1
  rw [p0] at r0 g0
  rw [p1] at r1 g1
  exact bin_any V vc B b off c h h0 h1 k0 k1 A0 A1 c0 c1 (findS V e0) (findS V e1) w hB hv hbB hk9 hk13 n0 n1 (by simpa using r0) (by simpa using r1)
    (fun W hb hl => f0 vc _ B W hl (hv.carry hb) (g0.carry hb)) (fun W hb hl => f1 vc _ B W hl (hv.carry hb) (g1.carry hb))

/-- What find answers at every expression that is well made. -/
theorem find_all (V : LView) (e : LExpr) (h : okE e) : FindOk V e := by
  induction e using LExpr.ind with | _ hd ks ih => ?_
  rw [okE] at h
  obtain ⟨h1, h2⟩ := h
  have ih' : ∀ (i : Nat) (hi : i < ks.length), FindOk V ks[i] := fun i hi => ih i hi (h2 _ (List.getElem_mem hi))
  obtain ⟨a1, a2, a3⟩ := nodeCheck_kinds h1
  unfold kidsOk at a3
  by_cases k1 : hd.kind = 1
  · exact find_lit V hd ks k1
  by_cases k2 : hd.kind = 2
  · exact find_attr V hd ks k2
  by_cases k3 : hd.kind = 3
  · exact find_mode V hd ks k3
  by_cases k4 : hd.kind = 4
  · exact find_time V hd ks k4
  by_cases k5 : hd.kind = 5
  · exact find_day V hd ks k5
  by_cases k15 : hd.kind = 15
  · exact find_home V hd ks k15
  by_cases k6 : hd.kind = 6
  · exact find_not V hd ks k6 (by omega) ih'
  by_cases k7 : hd.kind = 7
  · exact find_jun V hd ks 0 (.inl ⟨k7, rfl⟩) ih'
  by_cases k8 : hd.kind = 8
  · exact find_jun V hd ks 1 (.inr ⟨k8, rfl⟩) ih'
  by_cases k14 : hd.kind = 14
  · exact find_if V hd ks k14 (by omega) ih'
  exact find_bin V hd ks (by omega) (by omega) (by omega) ih'

/-- The value of an expression, checked. -/
def evalE (V : LView) (e : LExpr) : EV := if checkE e = 0 then findS V e else unknownE
end

section
set_option linter.unusedSimpArgs false
set_option linter.unusedVariables false
open Go.RowKit

set_option maxHeartbeats 1000000 in
theorem eval_any (V : LView) (e : LExpr) (vc cs : List Value) (B : Nat) (w : World) (hB : B ≤ w.heap.size) (hv : IsView B w V vc) (he : IsExpr B w e cs) :
    Calls Try.prog 19 #[.agg vc.toArray, .agg cs.toArray] w fun r w' => r = .returned (evalE V e).res ∧ Below w.heap.size w w' := by
  have HC := fun W (hb : Below B w W) (hl : B ≤ W.heap.size) => Lib.hid (checkE_any e cs B W hl (he.carry hb))
  have HF := fun W (h0 : checkE e = 0) (hb : Below B w W) (hl : B ≤ W.heap.size) => Lib.hid (find_all V e (checkE_okE h0) vc cs B W hl (hv.carry hb) (he.carry hb))
  rw [checkE_is] at HC
  obtain ⟨hd, ks, A, c, rfl, rfl, hlen⟩ := he.form
  obtain ⟨IA, ic, MA, mc, rfl, _⟩ := hv
  clear he
  unfold Hd.cells at HC HF ⊢
  generalize hE : evalE V (.mk hd ks) = E
  have HE := Lib.hid hE
  clear hE
  have hb0 : ∀ o1 o2 o3, Below B w (((w.alloc o1).alloc o2).alloc o3) := fun o1 o2 o3 => (((Below.refl B w).alloc hB o1).alloc (by simp; omega) o2).alloc (by simp; omega) o3
  go_enter Try.func19, Try.ntmps19
  go_wp2_with fail
  refine (HC _ (hb0 _ _ _) (by simp; omega)).out.mono ?_
  rintro r w1 ⟨rfl, hb1⟩
  have hR1 := ((Blk.at2 w _ _ _ _)).below hb1
  have hV1 := (((Blk.new w _ _).alloc _).alloc _).below hb1
  have hE1 := (((Blk.at1 w _ _ _)).alloc _).below hb1
  have cV1 := hV1.cell
  have cE1 := hE1.cell
  have hl1 := hb1.size
  have hbB1 := (hb0 _ _ _).trans (hb1.mono (by simp; omega))
  have hBB := (((Below.refl w.heap.size w).al _).al _).al _ |>.th hb1
  simp only [World.size_alloc] at hl1
  clear HC hb0
  cases h0 : (checkE (.mk hd ks) != 0) with
  | true =>
    have h1 : checkE (.mk hd ks) ≠ 0 := by simpa using h0
    have h2 : unknownE = E := by rw [← HE.out, evalE, if_neg h1]
    subst h2
    clear h1 HE HF
    go_wp2_with fail
    refine (unknown_any _).mono ?_
    rintro r w2 ⟨rfl, hb2⟩
    have hR := hR1.below hb2
    have cR := hR.cell
    have fR := hR.free
    have hs := hR.lt
    have hOb := hBB.th hb2
    go_wp2_with fail
    refine bodyPost_ret (v := ?_) ?_ rfl ?_
    rotate_left
    · simp [results, Try.results19, go_sem, cR]; exact rfl
    refine ⟨rfl, ?_⟩
    (repeat (first | refine Below.st ?_ (by first | (simp; done) | (simp; omega)) _ | exact hOb))
  | false =>
    have h1 : checkE (.mk hd ks) = 0 := by simpa using h0
    have h2 : findS V (.mk hd ks) = E := by rw [← HE.out, evalE, if_pos h1]
    have HF2 := fun W => HF W h1
    rw [h2] at HF2
    clear h2 HE HF h1
    obtain ⟨ek, en, es, eok⟩ := E
    go_wp2_with fail
    refine (HF2 _ hbB1 (by omega)).out.mono ?_
    rintro r w2 ⟨rfl, hb2⟩
    have hR := hR1.below hb2
    have cR := hR.cell
    have fR := hR.free
    have hs := hR.lt
    have hOb := hBB.th hb2
    clear HF2
    go_wp2_with fail
    refine bodyPost_ret (v := ?_) ?_ rfl ?_
    rotate_left
    · simp [results, Try.results19, go_sem, cR]; exact rfl
    refine ⟨rfl, ?_⟩
    (repeat (first | refine Below.st ?_ (by first | (simp; done) | (simp; omega)) _ | exact hOb))

/-- Is a value the known true? -/
def isTrue (x : EV) : Bool := x.ok && decide (x.k = 1) && decide (x.n = 1)

/-- What lay at W0 below block B lies as it lay. -/
def FB (B : Nat) (W0 W : World) : Prop := Below B W0 W ∧ B ≤ W.heap.size
theorem FB.al {B : Nat} {W0 W : World} (h : FB B W0 W) (o : Obj) : FB B W0 (W.alloc o) := ⟨h.1.alloc h.2 o, by have := h.2; simp; omega⟩
theorem FB.dr {B : Nat} {W0 W : World} (h : FB B W0 W) : FB B W0 W.drew := ⟨h.1.drew, h.2⟩
theorem FB.th {B : Nat} {W0 W W2 : World} (h : FB B W0 W) (hb : Below W.heap.size W W2) : FB B W0 W2 := ⟨h.1.trans (hb.mono h.2), Nat.le_trans h.2 hb.size⟩
theorem FB.far {B : Nat} {W0 W : World} (h : FB B W0 W) {g : Nat} (hB : B ≤ g) (i : Nat) (u : Value) : FB B W0 (W.setCell ⟨g, i, none⟩ u) := ⟨h.1.setCell (p := ⟨g, i, none⟩) hB u, by simpa using h.2⟩

set_option maxRecDepth 100000 in
set_option maxHeartbeats 4000000 in
theorem true_any (V : LView) (e : LExpr) (vc cs : List Value) (B : Nat) (w : World) (hB : B ≤ w.heap.size) (hv : IsView B w V vc) (he : IsExpr B w e cs) :
    Calls Try.prog 21 #[.agg vc.toArray, .agg cs.toArray] w fun r w' => r = .returned (.bool (isTrue (evalE V e))) ∧ Below w.heap.size w w' := by
  have HC := fun W (hb : Below B w W) (hl : B ≤ W.heap.size) => Lib.hid (eval_any V e vc cs B W hl (hv.carry hb) (he.carry hb))
  obtain ⟨hd, ks, A, c, rfl, rfl, hlen⟩ := he.form
  obtain ⟨IA, ic, MA, mc, rfl, _⟩ := hv
  clear he
  unfold Hd.cells at HC ⊢
  have hb0 : ∀ o1 o2, Below B w ((w.alloc o1).alloc o2) := fun o1 o2 => ((Below.refl B w).alloc hB o1).alloc (by simp; omega) o2
  generalize evalE V (.mk hd ks) = E at *
  obtain ⟨ek, en, es, eok⟩ := E
  cases hxo : eok
  · go_enter Try.func21, Try.ntmps21
    go_wp2_with fail
    refine (HC _ (hb0 _ _) (by simp; omega)).out.mono ?_
    rintro r w2 ⟨rfl, hb2⟩
    clear HC
    subst hxo
    go_wp2_with fail
    go_ret
    exact ⟨ret_bool (by simp [isTrue]), ((((Below.refl _ _).al _).al _).th hb2).al _⟩
  · by_cases hk1 : ek = 1
    all_goals
      go_enter Try.func21, Try.ntmps21
      go_wp2_with fail
      refine (HC _ (hb0 _ _) (by simp; omega)).out.mono ?_
      rintro r w2 ⟨rfl, hb2⟩
      clear HC
      subst hxo
      go_wp2_with fail
      go_ret
      exact ⟨ret_bool (by simp [isTrue, hk1]; try rfl), ((((Below.refl _ _).al _).al _).th hb2).al _⟩
end

end Go.Proofs.Ytnelgblmogciiaa
