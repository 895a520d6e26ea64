/- Guard: the order of keys, the program's and the reference's. -/
import Derived.Test.YtmgalnbacenbbaaGMem
import Derived.Lib.Bytealg
import Derived.Lib.Strings
set_option linter.unusedSimpArgs false
set_option linter.unusedVariables false
namespace Go.Proofs.Ytmgalnbacenbbaa
open Go.RowKit

namespace Dr
set_option maxHeartbeats 1000000 in
theorem less_any (a b : LKey) (w : World) : Calls Try.prog 50 #[.agg (kC a).toArray, .agg (kC b).toArray] w fun r w' => r = .returned (.bool (kless a b)) ∧ Lat w w' := by
  obtain ⟨a1, a2, a3⟩ := a
  obtain ⟨b1, b2, b3⟩ := b
  unfold kC
  go_enter Try.func50, Try.ntmps50
  by_cases e1 : a1 = b1
  · subst e1
    by_cases e2 : a2 = b2
    · subst e2
      have hk : kless ⟨a1, a2, a3⟩ ⟨a1, a2, b3⟩ = Op.bytesLess a3.toList b3.toList := by simp [kless, ltB]
      rw [hk]
      clear hk
      go_wp2_with fail
      go_ret
      exact ⟨rfl, ((Lat.al _ _).trans (Lat.al _ _))⟩
    · have e2' : (!(a2.toList == b2.toList)) = true := by rw [toList_beq]; simp [e2]
      have hk : kless ⟨a1, a2, a3⟩ ⟨a1, b2, b3⟩ = Op.bytesLess a2.toList b2.toList := by simp [kless, e2, ltB]
      rw [hk]
      clear hk
      go_wp2_with fail
      go_ret
      exact ⟨rfl, ((Lat.al _ _).trans (Lat.al _ _))⟩
  · have hk : kless ⟨a1, a2, a3⟩ ⟨b1, b2, b3⟩ = decide (a1 < b1) := by simp [kless, e1, ltI]
    rw [hk]
    have e1' : (a1 != b1) = true := by simp [e1]
    clear hk
    go_wp2_with fail
    go_ret
    exact ⟨rfl, ((Lat.al _ _).trans (Lat.al _ _))⟩
set_option maxHeartbeats 1000000 in
theorem rless_any (a b : LKey) (w : World) : Calls Try.prog 73 #[.agg (kC a).toArray, .agg (kC b).toArray] w fun r w' => r = .returned (.bool (kless a b)) ∧ Lat w w' := by
  obtain ⟨a1, a2, a3⟩ := a
  obtain ⟨b1, b2, b3⟩ := b
  unfold kC
  go_enter Try.func73, Try.ntmps73
  by_cases e1 : a1 = b1
  · subst e1
    by_cases e2 : a2 = b2
    · subst e2
      have hk : kless ⟨a1, a2, a3⟩ ⟨a1, a2, b3⟩ = Op.bytesLess a3.toList b3.toList := by simp [kless, ltB]
      rw [hk]
      clear hk
      go_wp2_with fail
      go_ret
      exact ⟨rfl, ((Lat.al _ _).trans (Lat.al _ _))⟩
    · have e2' : (!(a2.toList == b2.toList)) = true := by rw [toList_beq]; simp [e2]
      have hk : kless ⟨a1, a2, a3⟩ ⟨a1, b2, b3⟩ = Op.bytesLess a2.toList b2.toList := by simp [kless, e2, ltB]
      rw [hk]
      clear hk
      go_wp2_with fail
      go_ret
      exact ⟨rfl, ((Lat.al _ _).trans (Lat.al _ _))⟩
  · have hk : kless ⟨a1, a2, a3⟩ ⟨b1, b2, b3⟩ = decide (a1 < b1) := by simp [kless, e1, ltI]
    rw [hk]
    have e1' : (a1 != b1) = true := by simp [e1]
    clear hk
    go_wp2_with fail
    go_ret
    exact ⟨rfl, ((Lat.al _ _).trans (Lat.al _ _))⟩
end Dr
end Go.Proofs.Ytmgalnbacenbbaa
