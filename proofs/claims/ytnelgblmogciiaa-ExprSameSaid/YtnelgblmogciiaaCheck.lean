/- The check of an expression by the program: its visitor, and the whole. -/
import Derived.Test.YtnelgblmogciiaaWalk2
import Derived.Test.YtnelgblmogciiaaNode3
set_option linter.unusedSimpArgs false
set_option linter.unusedVariables false
namespace Go.Proofs.Ytnelgblmogciiaa
open Go.RowKit

/-- A variable that a function literal has captured. -/
def Var (w : World) (b : Nat) (t : TypeId) (v : Value) : Prop := w.heap[b]? = some (.cells #[v] t (0, 0))
theorem Var.lt {w : World} {b : Nat} {t : TypeId} {v : Value} (h : Var w b t v) : b < w.heap.size := (Array.getElem?_eq_some_iff.1 h).1
theorem Var.cell {w : World} {b : Nat} {t : TypeId} {v : Value} (h : Var w b t v) : w.cell? ⟨b, 0, none⟩ = some v := cell_of_row _ _ _ _ _ _ h
theorem Var.free {w : World} {b : Nat} {t : TypeId} {v : Value} (h : Var w b t v) : w.frozen? ⟨b, 0, none⟩ = false := frozen_of_row _ _ _ _ _ h
theorem Var.alloc {w : World} {b : Nat} {t : TypeId} {v : Value} (h : Var w b t v) (o : Obj) : Var (w.alloc o) b t v := (Below.heap_alloc w o b h.lt).trans h
theorem Var.set {w : World} {b : Nat} {t : TypeId} {v : Value} (h : Var w b t v) (u : Value) : Var (w.setCell ⟨b, 0, none⟩ u) b t u := heap_setCell_same w b 0 _ t u h
theorem Var.far {w : World} {b b' : Nat} {t : TypeId} {v : Value} (h : Var w b t v) (hb : b ≠ b') (u : Value) : Var (w.setCell ⟨b', 0, none⟩ u) b t v := (heap_setCell_other w ⟨b', 0, none⟩ b u hb).trans h
theorem Var.below {w w' : World} {b : Nat} {t : TypeId} {v : Value} (h : Var w b t v) (hb : Below w.heap.size w w') : Var w' b t v := (hb.block b h.lt).trans h
theorem Var.ne {w : World} {b b' : Nat} {t t' : TypeId} {v v' : Value} (h : Var w b t v) (h' : Var w b' t' v') (ht : t ≠ t') : b ≠ b' := by
  rintro rfl; unfold Var at h h'; rw [h] at h'; injection h' with h'; injection h' with _ h2; exact ht h2
theorem Fr.set {B : Nat} {a w : World} (h : Fr B a w) {b : Nat} {t : TypeId} {v : Value} (hv : Var w b t v) (ht : t ≠ 32 ∧ t ≠ 61) (hB : B ≤ b) (u : Value) : Fr B a (w.setCell ⟨b, 0, none⟩ u) :=
  ⟨h.low.setCell (p := ⟨b, 0, none⟩) hB u, fun k cs t' fr ht' hk => by
    have h1 := h.row k cs t' fr ht' hk
    have hne : k ≠ b := by
      rintro rfl; unfold Var at hv; rw [hv] at h1; injection h1 with h1; injection h1 with _ h2; subst h2; rcases ht' with e | e
      · exact ht.1 e
      · exact ht.2 e
    exact (heap_setCell_other w ⟨b, 0, none⟩ k u hne).trans h1⟩

/-- The visitor of Check. -/
def visCheck (e : LExpr) (lv : Int) (s : Int × Int) : (Int × Int) × Bool :=
  let f := if 24 < lv then 22 else if 200 < wrap64 (s.1 + 1) then 3 else nodeCheck e.hd e.kids.length
  ((wrap64 (s.1 + 1), f), f == 0)

def RCheck (bc bf : Nat) (s : Int × Int) (w : World) : Prop := Var w bc 3 (.int .i64 s.1) ∧ Var w bf 38 (.int .i64 s.2)

set_option maxHeartbeats 1000000 in
theorem check1_any (B bc bf : Nat) (hbc : B ≤ bc) (hbf : B ≤ bf) (e : LExpr) (cs : List Value) (lv : Int) (w : World) (s : Int × Int) (hB : B ≤ w.heap.size) (he : IsExpr B w e cs) (hR : RCheck bc bf s w) :
    Calls Try.prog 49 #[.agg cs.toArray, .int .i64 lv, .pointer (some ⟨bc, 0, none⟩), .pointer (some ⟨bf, 0, none⟩)] w fun r w' =>
      r = .returned (.bool (visCheck e lv s).2) ∧ RCheck bc bf (visCheck e lv s).1 w' ∧ Fr B w w' := by
  obtain ⟨hd, ks, A, c, rfl, rfl, hlen⟩ := he.form
  obtain ⟨h1, h2⟩ := hR
  obtain ⟨cn, fd⟩ := s
  dsimp only at h1 h2
  have hne : bc ≠ bf := h1.ne h2 (by decide)
  have l1 := h1.lt
  have l2 := h2.lt
  have a1 := h1.cell
  have a2 := h2.cell
  have f1 := h1.free
  have f2 := h2.free
  clear he
  have hn1 : (⟨bc, 0, none⟩ : Addr) ≠ ⟨bf, 0, none⟩ := fun h => hne (by injection h)
  go_enter Try.func49, Try.ntmps49
  unfold Hd.cells
  go_wp2_with (go_at_call 50; refine (node_any hd A ks.length c _ (by omega)).mono ?_; rintro r w2 ⟨rfl, hb2⟩; go_must (have hv1 := ((h1.set (.int .i64 (wrap64 (cn + 1)))).alloc _).below hb2; have hv2 := ((h2.far hne.symm (.int .i64 (wrap64 (cn + 1)))).alloc _).below hb2; have b2 := hv2.cell; have g2 := hv2.free; have hF := (((Fr.refl B w).set h1 (by decide) hbc (.int .i64 (wrap64 (cn + 1)))).alloc (by simpa using hB) _).trans (Fr.of_below hb2 (by simp only [World.size_alloc, World.size_setCell]; omega))))
  all_goals go_ret
  · have e1 : visCheck (.mk hd ks) lv (cn, fd) = ((wrap64 (cn + 1), 22), false) := by simp [visCheck, *]
    rw [e1]
    exact ⟨rfl, ⟨((h1.set _).far hne _).alloc _, ((h2.far hne.symm _).set _).alloc _⟩, ((((Fr.refl B w).set h1 (by decide) hbc _).set (h2.far hne.symm _) (by decide) hbf _).alloc (by simpa using hB) _)⟩
  · have e1 : visCheck (.mk hd ks) lv (cn, fd) = ((wrap64 (cn + 1), 3), false) := by
      have : ¬ 24 < lv := by omega
      simp [visCheck, *]
    rw [e1]
    exact ⟨rfl, ⟨((h1.set _).far hne _).alloc _, ((h2.far hne.symm _).set _).alloc _⟩, ((((Fr.refl B w).set h1 (by decide) hbc _).set (h2.far hne.symm _) (by decide) hbf _).alloc (by simpa using hB) _)⟩
  · have e1 : visCheck (.mk hd ks) lv (cn, fd) = ((wrap64 (cn + 1), nodeCheck hd ks.length), nodeCheck hd ks.length == 0) := by
      have h24 : ¬ 24 < lv := by omega
      have h200 : ¬ 200 < wrap64 (cn + 1) := by omega
      simp only [visCheck, if_neg h24, if_neg h200]; rfl
    rw [e1]
    exact ⟨rfl, ⟨hv1.far hne _, hv2.set _⟩, hF.set hv2 (by decide) hbf _⟩

set_option maxHeartbeats 1000000 in
/-- The check by the program. -/
theorem checkE_any (e : LExpr) (cs : List Value) (B : Nat) (w : World) (hB : B ≤ w.heap.size) (he : IsExpr B w e cs) :
    Calls Try.prog 29 #[.agg cs.toArray] w fun r w' => r = .returned (.int .i64 (walkS visCheck e 1 (0, 0)).1.2) ∧ Below w.heap.size w w' := by
  obtain ⟨hd, ks, A, c, rfl, rfl, hlen⟩ := he.form
  have hcall : ∀ (args : Array Value) (w : World), (callFunc 49 args).run Try.prog w = .ok (.enter 49 args) w := fun args w => by kernel_rfl
  have HW := fun W s hB' he' hR' => Lib.hid (walk_any visCheck (RCheck (w.heap.size + 1 + 1) (w.heap.size + 1)) w.heap.size 49 #[.pointer (some ⟨w.heap.size + 1 + 1, 0, none⟩), .pointer (some ⟨w.heap.size + 1, 0, none⟩)] hcall
    (fun s w o h => ⟨h.1.alloc o, h.2.alloc o⟩) (fun e cs lv w' s hB he hR => check1_any w.heap.size (w.heap.size + 1 + 1) (w.heap.size + 1) (by omega) (by omega) e cs lv w' s hB he hR)
    (.mk hd ks) (hd.cells (.slice A ks.length c)) W s hB' he' hR')
  clear hcall
  have he1 := he.mono hB
  clear he
  go_enter Try.func29, Try.ntmps29
  unfold Hd.cells
  go_wp2_with fail
  refine (HW _ (0, 0) ?_ ?_ ?_).out.mono ?_
  · simp; omega
  · exact he1.carry ((((Below.refl _ _).al _).al _).al _)
  · exact ⟨alloc3_at2 _ _ _ _, alloc3_at1 _ _ _ _⟩
  rintro r w1 ⟨rfl, ⟨hR1, hR2⟩, F1⟩
  have b1 := hR2.cell
  clear HW he1
  go_wp2_with fail
  go_ret
  exact ⟨rfl, (((Below.refl _ _).al _).al _).al _ |>.trans F1.low⟩

end Go.Proofs.Ytnelgblmogciiaa
