/- Are two expressions of the same value? -/
import Derived.Test.YtnelgblmogciiaaFindZ
set_option linter.unusedSimpArgs false
set_option linter.unusedVariables false
namespace Go.Proofs.Ytnelgblmogciiaa
open Go.RowKit

def sameB (x y : EV) : Bool := decide (x.k = y.k ∧ x.n = y.n ∧ x.s = y.s ∧ x.ok = y.ok)
theorem sameB_self (x : EV) : sameB x x = true := by simp [sameB]

set_option maxRecDepth 100000 in
set_option maxHeartbeats 2000000 in
theorem same_any (V : LView) (e1 e2 : LExpr) (vc cs1 cs2 : List Value) (B : Nat) (w : World) (hB : B ≤ w.heap.size) (hv : IsView B w V vc) (he1 : IsExpr B w e1 cs1) (he2 : IsExpr B w e2 cs2) :
    Calls Try.prog 27 #[.agg vc.toArray, .agg cs1.toArray, .agg cs2.toArray] w fun r w' => r = .returned (.bool (sameB (evalE V e1) (evalE V e2))) ∧ Below w.heap.size w w' := by
  have HC1 := fun W (hb : Below B w W) (hl : B ≤ W.heap.size) => Lib.hid (eval_any V e1 vc cs1 B W hl (hv.carry hb) (he1.carry hb))
  have HC2 := fun W (hb : Below B w W) (hl : B ≤ W.heap.size) => Lib.hid (eval_any V e2 vc cs2 B W hl (hv.carry hb) (he2.carry hb))
  obtain ⟨h1, k1, A1, c1, q1, rfl, _⟩ := he1.form
  obtain ⟨h2, k2, A2, c2, q2, rfl, _⟩ := he2.form
  obtain ⟨IA, ic, MA, mc, rfl, _⟩ := hv
  clear he1 he2 q1 q2
  unfold Hd.cells at HC1 HC2 ⊢
  generalize evalE V e1 = E1 at *
  generalize evalE V e2 = E2 at *
  obtain ⟨xk, xn, xs, xok⟩ := E1
  obtain ⟨yk, yn, ys, yok⟩ := E2
  have hb0 : ∀ o1 o2 o3, Below B w (((w.alloc o1).alloc o2).alloc o3) := fun o1 o2 o3 => (((Below.refl B w).alloc hB o1).alloc (by simp; omega) o2).alloc (by simp; omega) o3
  go_enter Try.func27, Try.ntmps27
  go_wp2_with fail
  refine (HC1 _ (hb0 _ _ _) (by simp; omega)).out.mono ?_
  rintro r w1 ⟨rfl, hb1⟩
  have hV1 := (((Blk.new w _ _).alloc _).alloc _).below hb1
  have hE1 := (Blk.at2 w _ _ _ _).below hb1
  have cV1 := hV1.cell
  have cE1 := hE1.cell
  have lV1 := hV1.lt
  have lE1 := hE1.lt
  have hbB1 := (hb0 _ _ _).trans (hb1.mono (by simp; omega))
  have hBB := ((((Below.refl w.heap.size w).al _).al _).al _).th hb1
  have nV : ¬ w1.heap.size = w.heap.size := by omega
  have nE : ¬ w1.heap.size = w.heap.size + 1 + 1 := by omega
  clear HC1 hb0 hb1 hV1 hE1
  go_wp2_with fail
  refine (HC2 _ (hbB1.alloc (by omega) _) (by simp; omega)).out.mono ?_
  rintro r w2 ⟨rfl, hb2⟩
  have hX := (Blk.new w1 _ _).below hb2
  have cX := hX.cell
  have lX := hX.lt
  have hBB2 := (hBB.al _).th hb2
  clear HC2 cV1 cE1 hbB1 hBB hb2 hX
  cases xok <;> cases yok
  all_goals go_wp2_with fail
  all_goals go_ret
  all_goals refine ⟨ret_bool ?_, hBB2.al _⟩
  all_goals (clear hBB2 cX; simp only [sameB]; go_tidy; (try simp only [toList_inj] at *); (try simp only [toList_beq]); grind)

end Go.Proofs.Ytnelgblmogciiaa
