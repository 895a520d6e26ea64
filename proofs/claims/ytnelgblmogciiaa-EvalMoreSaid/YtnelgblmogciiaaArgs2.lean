/- Arguments that are slices of items; views whose nil slices are known. -/
import Derived.Test.YtnelgblmogciiaaArgs
set_option linter.unusedSimpArgs false
set_option linter.unusedVariables false
namespace Go.Proofs.Ytnelgblmogciiaa
open Go.ChangeShapes Go.WideShapes Go.ChangeAt Go.RowKit

section
variable {H : Type} {enc : TypeId × Value → H} {W : World}
set_option maxRecDepth 100000 in
theorem rd_nil {t e : TypeId} (ht : Try.prog.underlying t = some (.slice e)) {fuel : Nat} {cs : List Value} {x : DataW H × List MemPlace} (h : DataW.trod enc Try.prog W 0 (fun _ => true) true fuel t cs = some x) (l c : Nat) (he : cs = [.slice none l c]) : c = 0 ∧ l = 0 := by
  rcases DataW.trod_slice ht h with ⟨e6, -⟩ | ⟨a, len, cap, elems, rest, q, rfl, e6, -⟩
  · rw [e6] at he; injection he with he; injection he with _ h1 h2; exact ⟨h2.symm, h1.symm⟩
  · rw [e6] at he; injection he with he; injection he with h0; cases h0

set_option maxRecDepth 100000 in
theorem arg_items {base : Nat} {v : Value} {d : DataW H} {p : List MemPlace} (hok : Value.okWide Try.prog W .any base 22 v) (h : DataW.Trod enc Try.prog W 0 (fun _ => true) true 22 v d p) (hw : ∀ n ∈ d.weights Try.prog 22, n ≤ reachBytes) :
    ∃ (l : List LItem) (A : Option Addr) (c : Nat), v = .slice A l.length c ∧ IsRows W.heap.size W 7 (l.map LItem.cells) A ∧ l.length ≤ 140737488351232 ∧ (A = none → c = 0 ∧ l.length = 0) := by
  obtain ⟨a, len, cap, rfl⟩ := okWide_slice Try.underlying22 hok
  obtain ⟨fuel, h1⟩ := h
  obtain ⟨A, l, c, e0, hI, hI2⟩ := rd_rows ⟨0, noStr, noStr, 0, 0, noStr, 0⟩ LItem.cells Try.underlying22 cItem (by decide) (of_decide_eq_true (by kernel_rfl)) (fun _ _ _ h => rd_item h) h1 hw
  have e0' : [Value.slice a len cap] = [Value.slice A l.length c] := e0
  injection e0' with e0'
  injection e0' with e1 e2 e3
  subst e1 e2 e3
  exact ⟨l, a, cap, rfl, hI, hI2, fun hA => by subst hA; exact rd_nil Try.underlying22 h1 _ _ rfl⟩

set_option maxRecDepth 100000 in
theorem arg_view2 {v : Value} {d : DataW H} {p : List MemPlace} (h : DataW.Trod enc Try.prog W 0 (fun _ => true) true 25 v d p) (hw : ∀ n ∈ d.weights Try.prog 25, n ≤ reachBytes) :
    ∃ V cs, v = .agg cs.toArray ∧ IsView W.heap.size W V cs ∧ ∀ c, cs.head? = some (.slice none 0 c) → c = 0 := by
  obtain ⟨fuel, h1⟩ := h
  obtain ⟨V, hV⟩ := rd_view h1 hw
  refine ⟨V, v.cells.toList, by rw [Array.toArray_toList]; exact agg_of hV.len4 (by omega), hV, fun c hc => ?_⟩
  obtain ⟨xs, m, rfl, hxe, hl, hx, hf⟩ := DataW.trod_struct Try.underlying25 h1
  have f0 := hf 0 _ rfl
  have hx4 : xs.length = 4 := hx
  rw [List.getElem?_eq_getElem (by omega)] at f0
  cases hcs : v.cells.toList with
  | nil => rw [hcs] at hc; simp at hc
  | cons y ys =>
    rw [hcs] at hc
    simp only [List.head?_cons, Option.some.injEq] at hc
    subst hc
    exact (rd_nil Try.underlying22 f0 0 c (by show List.take (Try.prog.cellsOf 22) (List.drop 0 v.cells.toList) = _; rw [c22, hcs]; rfl)).1
end
end Go.Proofs.Ytnelgblmogciiaa
