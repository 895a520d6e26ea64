/- Arguments that are lists of spans. -/
import Derived.Test.YtdhccaninopicaaSBase
set_option linter.unusedSimpArgs false
set_option linter.unusedVariables false
namespace Go.Proofs.Ytdhccaninopicaa
open Go.ChangeShapes Go.WideShapes Go.ChangeAt Go.RowKit

theorem c3 : Try.prog.cellsOf 3 = 1 := by kernel_rfl
theorem cSpan : Try.prog.cellsOf 35 = 2 := by kernel_rfl
theorem canL : Try.prog.readableRec 22 = true := by kernel_rfl
theorem rowL : 22 < Try.prog.types.size := of_decide_eq_true (by kernel_rfl)
section
variable {H : Type} {enc : TypeId × Value → H} {W : World}
set_option maxRecDepth 100000 in
theorem rd_span {fuel : Nat} {cs : List Value} {x : DataW H × List MemPlace} (h : DataW.trod enc Try.prog W 0 (fun _ => true) true fuel 35 cs = some x) : ∃ s : Sp, cs = spC s := by
  obtain ⟨xs, m, rfl, -, hl, hx, hf⟩ := DataW.trod_struct Try.underlying35 h
  rw [cSpan] at hl
  match cs, hl with
  | [a0, a1], _ =>
    have hx2 : xs.length = 2 := hx
    have f0 := hf 0 _ rfl
    have f1 := hf 1 _ rfl
    rw [List.getElem?_eq_getElem (by omega)] at f0 f1
    obtain ⟨k, e0, -, -⟩ := DataW.trod_int Try.underlying3 f0
    obtain ⟨n, e1, -, -⟩ := DataW.trod_int Try.underlying3 f1
    simp [c3] at e0 e1
    subst e0 e1
    exact ⟨(k, n), rfl⟩
set_option maxRecDepth 100000 in
theorem arg_spans {base : Nat} {v : Value} {d : DataW H} {p : List MemPlace} (hok : Value.okWide Try.prog W .any base 22 v) (h : DataW.Trod enc Try.prog W 0 (fun _ => true) true 22 v d p) (hw : ∀ n ∈ d.weights Try.prog 22, n ≤ reachBytes) :
    ∃ (l : List Sp) (A : Option Addr) (c : Nat), v = .slice A l.length c ∧ IsRows W.heap.size W 2 (l.map spC) A ∧ l.length ≤ 140737488351232 ∧ (A = none → c = 0 ∧ l.length = 0) := by
  obtain ⟨a, len, cap, rfl⟩ := okWide_slice Try.underlying22 hok
  obtain ⟨fuel, h1⟩ := h
  obtain ⟨A, l, c, e0, hI, hI2⟩ := rd_rows ((0, 0) : Sp) spC Try.underlying22 cSpan (by decide) (of_decide_eq_true (by kernel_rfl)) (fun _ _ _ h => rd_span h) h1 hw
  have e0' : [Value.slice a len cap] = [Value.slice A l.length c] := e0
  injection e0' with e0'
  injection e0' with e1 e2 e3
  subst e1 e2 e3
  exact ⟨l, a, cap, rfl, hI, hI2, fun hA => by subst hA; exact rd_nil Try.underlying22 h1 _ _ rfl⟩
end
end Go.Proofs.Ytdhccaninopicaa
