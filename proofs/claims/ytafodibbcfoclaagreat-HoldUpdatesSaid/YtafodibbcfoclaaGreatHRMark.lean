/- Hold: the reference's Mark. -/
import Derived.Test.YtafodibbcfoclaaGreatHSane
import Derived.Test.YtafodibbcfoclaaGreatHMark
set_option linter.unusedSimpArgs false
set_option linter.unusedVariables false
namespace Go.Proofs.YtafodibbcfoclaaGreat
open Go.RowKit

theorem mk1_eq (names : List ByteArray) (x1 : ByteArray) (x2 : Int) (x3 : Bool) : mk1 names ⟨x1, x2, x3⟩ = ⟨x1, x2, x3 || names.any (fun x => decide (x = x1))⟩ := by
  unfold mk1
  dsimp only
  cases names.any (fun x => decide (x = x1)) <;> simp
theorem any_one {α : Type} (p : α → Bool) (l : List α) (j : Nat) (h : j < l.length) : (l.take (j + 1)).any p = ((l.take j).any p || p l[j]) := by
  rw [List.take_succ_eq_append_getElem h, List.any_append]
  simp
theorem map_one {α β : Type} (f : α → β) (l : List α) (j : Nat) (h : j < l.length) : (l.take (j + 1)).map f = (l.take j).map f ++ [f l[j]] := by
  rw [List.take_succ_eq_append_getElem h, List.map_append]
  rfl
theorem rd_slice {α : Type} {E : Elt α} {w : World} {xs : List α} {v : Value} (h : E.Rd w xs v) : ∃ A c, v = .slice A xs.length c := by
  obtain ⟨A, c, hv, _⟩ := h
  exact ⟨A, c, hv⟩
end Go.Proofs.YtafodibbcfoclaaGreat
