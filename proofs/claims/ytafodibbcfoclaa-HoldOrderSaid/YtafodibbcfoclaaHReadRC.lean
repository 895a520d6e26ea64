/- Hold: an argument read as a list of rules, with its capacity. -/
import Derived.Test.YtafodibbcfoclaaHReadR
set_option linter.unusedSimpArgs false
set_option linter.unusedVariables false
namespace Go.Proofs.Ytafodibbcfoclaa
open Go.ChangeShapes Go.WideShapes Go.ChangeAt Go.RowKit

section
variable {H : Type} {enc : TypeId × Value → H} {W : World}
set_option maxRecDepth 100000 in
theorem arg_rulesC {base : Nat} {v : Value} {d : DataW H} {p : List MemPlace} (hok : Value.okWide Try.prog W .any base 23 v) (h : DataW.Trod enc Try.prog W 0 (fun _ => true) true 23 v d p) (hwt : ∀ n ∈ d.weights Try.prog 23, n ≤ reachBytes) :
    ∃ (l : List (RlR × LRule)) (A : Option Addr) (c : Nat), v = .slice A l.length c ∧ RdR W l (.slice A l.length c) ∧ l.length ≤ c := by
  obtain ⟨fuel, h1⟩ := h
  obtain ⟨A, l, c, e, hr, hp, hn, hc⟩ := rd_rowsW ((⟨noStr, 0, none, 0, 0, ⟨0, 0, 0, noStr, 0, 0, noStr, 0, noStr, noStr⟩, none, 0, 0, none, 0, 0⟩, ⟨noStr, [], .mk ⟨0, 0, 0, noStr, 0, 0, noStr, 0, noStr, noStr⟩ []⟩) : RlR × LRule) (fun y => rC y.1) (fun y => y.1.Says W y.2) Try.underlying23 cRl (by decide) (fun _ _ _ h hw => rd_rule h hw) h1 hwt
  obtain rfl := slice_arg Try.underlying23 hok e
  refine ⟨l, A, c, rfl, ⟨⟨A, c, by rw [List.length_map], ?_, fun hA => by rw [List.length_map]; exact hn hA⟩, hp⟩, hc⟩
  rw [List.map_map]
  exact hr
end
end Go.Proofs.Ytafodibbcfoclaa
