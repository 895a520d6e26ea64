/- Guard: Safe of the program and of the reference agree: the law walked. -/
import Derived.Test.YtmgalnbacenbbaaGreatGLives
import Derived.Test.YtmgalnbacenbbaaGreatGGreat
set_option linter.unusedSimpArgs false
set_option linter.unusedVariables false
namespace Go.Proofs.YtmgalnbacenbbaaGreat
open Go.RowKit

theorem Fits.few {ps : List (LkR × LLock)} {acts : List ByteArray} (h : Fits ps acts) : FewI ps := fun p hp => ⟨Nat.le_trans (h.items p hp).1 (by decide), Nat.le_trans (h.items p hp).2 (by decide)⟩
theorem Fits.its {ps : List (LkR × LLock)} {acts : List ByteArray} (h : Fits ps acts) : ∀ p ∈ ps, (itsOf p).length ≤ 60 := fun p hp => by
  unfold itsOf
  rw [List.length_append]
  have := h.items p hp
  omega
end Go.Proofs.YtmgalnbacenbbaaGreat
