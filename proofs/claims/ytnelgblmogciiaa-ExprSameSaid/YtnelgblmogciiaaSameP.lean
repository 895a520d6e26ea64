/- Are two expressions equal? The program. -/
import Derived.Test.YtnelgblmogciiaaSameE
set_option linter.unusedSimpArgs false
set_option linter.unusedVariables false
namespace Go.Proofs.Ytnelgblmogciiaa
open Go.RowKit


set_option maxRecDepth 100000 in
set_option maxHeartbeats 8000000 in
theorem ediff_any (a b : Hd) (A A' : Option Addr) (l l' c c' : Nat) (w : World) (h : Diff a b) :
    Calls Try.prog 41 #[.agg (a.cells (.slice A l c)).toArray, .agg (b.cells (.slice A' l' c')).toArray] w fun r w' => r = .returned (.bool false) ∧ Below w.heap.size w w' := by
  unfold Hd.cells
  rcases h with h | ⟨e1, h⟩ | ⟨e1, e2, h⟩ | ⟨e1, e2, e3, h⟩ | ⟨e1, e2, e3, e4, h⟩ | ⟨e1, e2, e3, e4, e5, h⟩ | ⟨e1, e2, e3, e4, e5, e6, h⟩ | ⟨e1, e2, e3, e4, e5, e6, e7, h⟩ | ⟨e1, e2, e3, e4, e5, e6, e7, e8, h⟩ | ⟨e1, e2, e3, e4, e5, e6, e7, e8, e9, h⟩
  · obtain ⟨q1, q2, q3⟩ := int_ne h
    clear h
    go_enter Try.func41, Try.ntmps41
    go_wp2_with fail
    go_ret
    exact ⟨rfl, ((Below.refl _ _).al _).al _⟩
  · obtain ⟨q1, q2, q3⟩ := int_ne h
    rw [e1]
    clear h e1
    go_enter Try.func41, Try.ntmps41
    go_wp2_with fail
    go_ret
    exact ⟨rfl, ((Below.refl _ _).al _).al _⟩
  · obtain ⟨q1, q2, q3⟩ := int_ne h
    rw [e1, e2]
    clear h e1 e2
    go_enter Try.func41, Try.ntmps41
    go_wp2_with fail
    go_ret
    exact ⟨rfl, ((Below.refl _ _).al _).al _⟩
  · obtain ⟨q1, q2, q3⟩ := str_ne h
    rw [e1, e2, e3]
    clear h e1 e2 e3
    go_enter Try.func41, Try.ntmps41
    go_wp2_with fail
    go_ret
    exact ⟨rfl, ((Below.refl _ _).al _).al _⟩
  · obtain ⟨q1, q2, q3⟩ := int_ne h
    rw [e1, e2, e3, e4]
    clear h e1 e2 e3 e4
    go_enter Try.func41, Try.ntmps41
    go_wp2_with fail
    go_ret
    exact ⟨rfl, ((Below.refl _ _).al _).al _⟩
  · obtain ⟨q1, q2, q3⟩ := int_ne h
    rw [e1, e2, e3, e4, e5]
    clear h e1 e2 e3 e4 e5
    go_enter Try.func41, Try.ntmps41
    go_wp2_with fail
    go_ret
    exact ⟨rfl, ((Below.refl _ _).al _).al _⟩
  · obtain ⟨q1, q2, q3⟩ := str_ne h
    rw [e1, e2, e3, e4, e5, e6]
    clear h e1 e2 e3 e4 e5 e6
    go_enter Try.func41, Try.ntmps41
    go_wp2_with fail
    go_ret
    exact ⟨rfl, ((Below.refl _ _).al _).al _⟩
  · obtain ⟨q1, q2, q3⟩ := int_ne h
    rw [e1, e2, e3, e4, e5, e6, e7]
    clear h e1 e2 e3 e4 e5 e6 e7
    go_enter Try.func41, Try.ntmps41
    go_wp2_with fail
    go_ret
    exact ⟨rfl, ((Below.refl _ _).al _).al _⟩
  · obtain ⟨q1, q2, q3⟩ := str_ne h
    rw [e1, e2, e3, e4, e5, e6, e7, e8]
    clear h e1 e2 e3 e4 e5 e6 e7 e8
    go_enter Try.func41, Try.ntmps41
    go_wp2_with fail
    go_ret
    exact ⟨rfl, ((Below.refl _ _).al _).al _⟩
  · obtain ⟨q1, q2, q3⟩ := str_ne h
    rw [e1, e2, e3, e4, e5, e6, e7, e8, e9]
    clear h e1 e2 e3 e4 e5 e6 e7 e8 e9
    go_enter Try.func41, Try.ntmps41
    go_wp2_with fail
    go_ret
    exact ⟨rfl, ((Below.refl _ _).al _).al _⟩

set_option maxRecDepth 100000 in
set_option maxHeartbeats 2000000 in
theorem elen_any (a : Hd) (A A' : Option Addr) (l l' c c' : Nat) (w : World) (h : l ≠ l') :
    Calls Try.prog 41 #[.agg (a.cells (.slice A l c)).toArray, .agg (a.cells (.slice A' l' c')).toArray] w fun r w' => r = .returned (.bool false) ∧ Below w.heap.size w w' := by
  unfold Hd.cells
  have q1 : ((l : Int) == l') = false := by simp; omega
  have q2 : ((l : Int) != l') = true := by simp; omega
  have q3 : (l == l') = false := by simpa using h
  have q4 : (l != l') = true := by simpa using h
  clear h
  go_enter Try.func41, Try.ntmps41
  go_wp2_with fail
  go_ret
  exact ⟨rfl, ((Below.refl _ _).al _).al _⟩

end Go.Proofs.Ytnelgblmogciiaa
