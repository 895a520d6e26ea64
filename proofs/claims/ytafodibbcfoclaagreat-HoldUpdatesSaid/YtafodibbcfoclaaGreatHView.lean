/- Hold: view; an argument read as a view. -/
import Derived.Test.YtafodibbcfoclaaGreatHReads
import Derived.Test.YtafodibbcfoclaaGreatEvReads
set_option linter.unusedSimpArgs false
set_option linter.unusedVariables false
namespace Go.Proofs.YtafodibbcfoclaaGreat
open Go.ChangeShapes Go.WideShapes Go.ChangeAt Go.RowKit

theorem canVw : Tryz.prog.readableRec 27 = true := by kernel_rfl
theorem rowVw : 27 < Tryz.prog.types.size := of_decide_eq_true (by kernel_rfl)
section
variable {H : Type} {enc : TypeId × Value → H} {W : World}
theorem isView_len4 {B : Nat} {w : World} {V : Ev.LView} {cs : List Value} (h : Ev.IsView B w V cs) : cs.length = 4 := by
  obtain ⟨_, _, _, _, rfl, _⟩ := h; rfl
theorem arg_view {v : Value} {d : DataW H} {p : List MemPlace} (h : DataW.Trod enc Tryz.prog W 0 (fun _ => true) true 27 v d p) (hw : ∀ n ∈ d.weights Tryz.prog 27, n ≤ reachBytes) :
    ∃ V cs, v = .agg cs.toArray ∧ Ev.IsView W.heap.size W V cs := by
  obtain ⟨fuel, h1⟩ := h
  obtain ⟨V, hV⟩ := Ev.rd_view h1 hw
  exact ⟨V, v.cells.toList, by rw [Array.toArray_toList]; exact agg_of (isView_len4 hV) (by omega), hV⟩
end
def ViewOut (r : Ending) : Prop := ∃ b, r = .returned (.bool b)
set_option maxRecDepth 100000 in
set_option maxHeartbeats 1000000 in
theorem view_any (V : Ev.LView) (vc : List Value) (B : Nat) (w : World) (hv : Ev.IsView B w V vc) :
    Calls Tryz.prog 5 #[.agg vc.toArray] w fun r w' => ViewOut r ∧ Lat w w' := by
  obtain ⟨IA, ic, MA, mc, rfl, -⟩ := hv
  by_cases h1 : V.items.length ≤ 60
  · have a1 : (V.items.length : Int) ≤ 60 := by omega
    go_enter Tryz.func5, Tryz.ntmps5
    go_wp2_with fail
    go_ret
    exact ⟨⟨_, rfl⟩, Lat.al _ _⟩
  · have a1 : ¬ ((V.items.length : Int) ≤ 60) := by omega
    go_enter Tryz.func5, Tryz.ntmps5
    go_wp2_with fail
    go_ret
    exact ⟨⟨_, rfl⟩, Lat.al _ _⟩
end Go.Proofs.YtafodibbcfoclaaGreat
