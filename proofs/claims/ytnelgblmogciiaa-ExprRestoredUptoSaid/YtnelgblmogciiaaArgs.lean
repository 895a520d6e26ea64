/- Arguments: read when the call begins, and read behind it. -/
import Derived.Test.YtnelgblmogciiaaRead2
import Derived.Test.YtnelgblmogciiaaPost
import Derived.SizedLaws
set_option linter.unusedSimpArgs false
set_option linter.unusedVariables false
namespace Go.Proofs.Ytnelgblmogciiaa
open Go.ChangeShapes Go.WideShapes Go.ChangeAt Go.RowKit

theorem own : ownKnob Try.prog.godebug = none := by kernel_rfl
theorem laid : laidOutB Try.prog = true := by kernel_rfl
theorem can32 : Try.prog.readableRec 32 = true := by kernel_rfl
theorem can25 : Try.prog.readableRec 25 = true := by kernel_rfl
theorem can22 : Try.prog.readableRec 22 = true := by kernel_rfl
theorem row32 : 32 < Try.prog.types.size := of_decide_eq_true (by kernel_rfl)
theorem row25 : 25 < Try.prog.types.size := of_decide_eq_true (by kernel_rfl)
theorem row22 : 22 < Try.prog.types.size := of_decide_eq_true (by kernel_rfl)

section
variable {H : Type} {enc : TypeId × Value → H} {W : World}
theorem IsView.len4 {B : Nat} {w : World} {V : LView} {cs : List Value} (h : IsView B w V cs) : cs.length = 4 := by
  obtain ⟨_, _, _, _, rfl, _⟩ := h; rfl
theorem arg_view {v : Value} {d : DataW H} {p : List MemPlace} (h : DataW.Trod enc Try.prog W 0 (fun _ => true) true 25 v d p) (hw : ∀ n ∈ d.weights Try.prog 25, n ≤ reachBytes) :
    ∃ V cs, v = .agg cs.toArray ∧ IsView W.heap.size W V cs := by
  obtain ⟨fuel, h1⟩ := h
  obtain ⟨V, hV⟩ := rd_view h1 hw
  exact ⟨V, v.cells.toList, by rw [Array.toArray_toList]; exact agg_of hV.len4 (by omega), hV⟩
theorem arg_expr {v : Value} {d : DataW H} {p : List MemPlace} (h : DataW.Trod enc Try.prog W 0 (fun _ => true) true 32 v d p) (hw : ∀ n ∈ d.weights Try.prog 32, n ≤ reachBytes) :
    ∃ e cs, v = .agg cs.toArray ∧ IsExpr W.heap.size W e cs := by
  obtain ⟨fuel, h1⟩ := h
  obtain ⟨e, he⟩ := rd_expr _ _ _ h1 hw
  exact ⟨e, v.cells.toList, by rw [Array.toArray_toList]; exact agg_of he.len (by omega), he⟩
end
end Go.Proofs.Ytnelgblmogciiaa
