/- Hold: arguments read as lists of bools. -/
import Derived.Test.YtafodibbcfoclaaHRead
import Derived.Test.YtafodibbcfoclaaHLawRuns
set_option linter.unusedSimpArgs false
set_option linter.unusedVariables false
namespace Go.Proofs.Ytafodibbcfoclaa
open Go.ChangeShapes Go.WideShapes Go.ChangeAt Go.RowKit

section
variable {H : Type} {enc : TypeId × Value → H} {W : World}
set_option maxRecDepth 100000 in
theorem arg_bools {base : Nat} {v : Value} {d : DataW H} {p : List MemPlace} (hok : Value.okWide Try.prog W .any base 53 v) (h : DataW.Trod enc Try.prog W 0 (fun _ => true) true 53 v d p) :
    ∃ (l : List Bool) (A : Option Addr) (c : Nat), v = .slice A l.length c ∧ EBl.Rd W l (.slice A l.length c) := by
  obtain ⟨fuel, h1⟩ := h
  obtain ⟨A, l, c, e, hr, hp, hn, hc⟩ := rd_rowsP false (fun s : Bool => [Value.bool s]) (fun _ => True) Try.underlying53 cB (by decide) (fun _ _ _ h => by
    obtain ⟨p1, e1, -⟩ := DataW.trod_bool Try.underlying4 h
    exact ⟨p1, e1, trivial⟩) h1
  obtain rfl := slice_arg Try.underlying53 hok e
  exact ⟨l, A, c, rfl, ⟨A, c, rfl, hr, hn⟩⟩
end
theorem canBS : Try.prog.readableRec 53 = true := by kernel_rfl
theorem rowBS : 53 < Try.prog.types.size := of_decide_eq_true (by kernel_rfl)
end Go.Proofs.Ytafodibbcfoclaa
