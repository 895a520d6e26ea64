/- Keys in order: device.Less. -/
import Derived.Test.YtnelgblmogciiaaKPlain
import Derived.Test.YtnelgblmogciiaaRelies
import Derived.Test.YtnelgblmogciiaaShapes
set_option linter.unusedSimpArgs false
set_option linter.unusedVariables false
namespace Go.Proofs.Ytnelgblmogciiaa
open Go.RowKit

set_option maxHeartbeats 1000000 in
theorem less_any (a b : LKey) (w : World) : Calls Try.prog 56 #[.agg (kcells a).toArray, .agg (kcells b).toArray] w fun r w' => r = .returned (.bool (kless a b)) ∧ Below w.heap.size w w' := by
  obtain ⟨a1, a2, a3⟩ := a
  obtain ⟨b1, b2, b3⟩ := b
  have hB : ∀ o1 o2, Below w.heap.size w ((w.alloc o1).alloc o2) := fun o1 o2 => ((Below.refl _ _).al _).al _
  unfold kcells
  go_enter Try.func56, Try.ntmps56
  by_cases e1 : a1 = b1
  · subst e1
    have hl : (a2.toList == b2.toList) = decide (a2 = b2) := by rw [Bool.eq_iff_iff, beq_iff_eq, decide_eq_true_iff, toList_inj]
    by_cases e2 : a2 = b2
    · have e2' : (!(a2.toList == b2.toList)) = false := by simp [e2]
      have hk : kless ⟨a1, a2, a3⟩ ⟨a1, b2, b3⟩ = Op.bytesLess a3.toList b3.toList := by simp [kless, e2]
      rw [hk]
      clear hk hl e2
      go_wp2_with fail
      go_ret
      exact ⟨rfl, hB _ _⟩
    · have e2' : (!(a2.toList == b2.toList)) = true := by rw [hl]; simp [e2]
      have hk : kless ⟨a1, a2, a3⟩ ⟨a1, b2, b3⟩ = Op.bytesLess a2.toList b2.toList := by simp [kless, e2]
      rw [hk]
      clear hk hl e2
      go_wp2_with fail
      go_ret
      exact ⟨rfl, hB _ _⟩
  · have hk : kless ⟨a1, a2, a3⟩ ⟨b1, b2, b3⟩ = decide (a1 < b1) := by simp [kless, e1]
    rw [hk]
    have e1' : (a1 != b1) = true := by simp [e1]
    clear hk
    go_wp2_with fail
    go_ret
    exact ⟨rfl, hB _ _⟩
end Go.Proofs.Ytnelgblmogciiaa
