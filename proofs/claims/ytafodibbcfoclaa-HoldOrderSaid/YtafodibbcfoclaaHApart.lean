/- Hold: lists of the call's own that lie apart. -/
import Derived.Test.YtafodibbcfoclaaHMem
set_option linter.unusedSimpArgs false
set_option linter.unusedVariables false
namespace Go.Proofs.Ytafodibbcfoclaa
open Go.RowKit

/-- Their blocks differ. -/
def ApartV (v u : Value) : Prop := ∀ k k', v.ownBlock = some k → u.ownBlock = some k' → k' ≠ k
theorem ApartV.symm {v u : Value} (h : ApartV v u) : ApartV u v := fun k k' h1 h2 e => h k' k h2 h1 e.symm
theorem ApartV.nil (u : Value) : ApartV (.slice none 0 0) u := fun k k' h1 _ => by cases h1
theorem ApartV.grow {α : Type} {E : Elt α} {w w' : World} {base : Nat} {xs : List α} {v v' u : Value} (h : ApartV v u) (ho : E.Own w base xs u) (hg : w.grownBy w' v.ownBlock) (hw : v'.ownBlock = v.ownBlock ∨ v'.ownBlock = some w.heap.size) : ApartV v' u ∧ E.Own w' base xs u := by
  refine ⟨fun k k' h1 h2 => ?_, ho.carry fun k' h2 => hg.block k' (ho.lt k' h2).2 (fun e => ?_)⟩
  · rcases hw with e | e
    · exact h k k' (by rw [← e]; exact h1) h2
    · rw [e] at h1; injection h1 with h1; have := (ho.lt k' h2).2; omega
  · exact h k' k' e.symm h2 rfl
theorem rev_take {α : Type} (l : List α) (j : Nat) (h : j < l.length) : l.reverse.take (j + 1) = l.reverse.take j ++ [l[l.length - 1 - j]'(by omega)] := by
  rw [List.take_succ_eq_append_getElem (by rw [List.length_reverse]; exact h), List.getElem_reverse]
end Go.Proofs.Ytafodibbcfoclaa
