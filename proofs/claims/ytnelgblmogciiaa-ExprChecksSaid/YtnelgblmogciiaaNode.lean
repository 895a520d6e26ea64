/- Contracts of the functions that check one node of an expression. -/
import Derived.Test.YtnelgblmogciiaaVal
set_option linter.unusedSimpArgs false
set_option linter.unusedVariables false
namespace Go.Proofs.Ytnelgblmogciiaa
open Go.RowKit

/-- Can a kind have a number of kids? -/
def kidsOk (k n : Int) : Prop :=
  (k = 6 ∧ n = 1) ∨ ((k = 7 ∨ k = 8) ∧ 2 ≤ n ∧ n ≤ 8) ∨ (9 ≤ k ∧ k ≤ 13 ∧ n = 2) ∨ (k = 14 ∧ n = 3) ∨ (¬ (6 ≤ k ∧ k ≤ 14) ∧ n = 0)
instance (k n : Int) : Decidable (kidsOk k n) := by unfold kidsOk; infer_instance

set_option maxHeartbeats 1000000 in
theorem kids_any (k n : Int) (w : World) : Calls Try.prog 86 #[.int .i64 k, .int .i64 n] w fun e w' => e = .returned (.bool (decide (kidsOk k n))) ∧ w = w' := by
  go_enter Try.func86, Try.ntmps86
  go_wp2_with fail
  all_goals go_ret
  all_goals (refine ⟨ret_bool (bool_is ?_), rfl⟩; unfold kidsOk; (try simp only [beq_iff_eq, bne_iff_ne, Bool.not_eq_true', beq_eq_false_iff_ne, bne_eq_false_iff_eq, ne_eq, decide_eq_decide, decide_eq_true_eq, decide_eq_false_iff_not, Bool.not_eq_eq_eq_not, Bool.not_true, Bool.not_false, Bool.and_eq_true, Bool.or_eq_true, Bool.and_eq_false_iff, Bool.or_eq_false_iff, List.isEmpty_iff, List.isEmpty_eq_false_iff, Bool.false_eq_true, false_iff, true_iff, toList_nil] at *); omega)

/-- Has a node no field that its kind does not have? -/
structure Hd.spare (h : Hd) : Prop where
  n : h.kind = 4 ∨ h.kind = 5 ∨ h.kind = 15 ∨ h.n = 0
  m : h.kind = 4 ∨ h.m = 0
  name : h.kind = 3 ∨ h.name.size = 0
  val : h.kind = 1 ∨ (h.vk = 0 ∧ h.vn = 0 ∧ h.vs.size = 0)
  key : h.kind = 2 ∨ (h.dev = 0 ∧ h.cl.size = 0 ∧ h.at_.size = 0)

def spareP (k n m nm vk vn vs dv cl at_ : Int) : Prop :=
  (k = 4 ∨ k = 5 ∨ k = 15 ∨ n = 0) ∧ (k = 4 ∨ m = 0) ∧ (k = 3 ∨ nm = 0) ∧ (k = 1 ∨ (vk = 0 ∧ vn = 0 ∧ vs = 0)) ∧ (k = 2 ∨ (dv = 0 ∧ cl = 0 ∧ at_ = 0))
instance (k n m nm vk vn vs dv cl at_ : Int) : Decidable (spareP k n m nm vk vn vs dv cl at_) := by unfold spareP; infer_instance
def Hd.spareB (h : Hd) : Bool := decide (spareP h.kind h.n h.m h.name.size h.vk h.vn h.vs.size h.dev h.cl.size h.at_.size)

set_option maxHeartbeats 2000000 in
theorem spare_any (h : Hd) (A : Option Addr) (l c : Nat) (w : World) : Calls Try.prog 87 #[.agg (h.cells (.slice A l c)).toArray] w fun e w' => e = .returned (.bool (!h.spareB)) ∧ Below w.heap.size w w' := by
  obtain ⟨k, n, m, nm, vk, vn, vs, dv, cl, at_⟩ := h
  simp only [Hd.spareB, Hd.cells]
  go_enter Try.func87, Try.ntmps87
  go_wp2_with fail
  all_goals go_ret
  all_goals refine ⟨ret_bool ?_, ?_⟩
  rotate_left
  all_goals first | (((repeat (refine Below.al ?_ _)); exact Below.refl _ _)) | (go_tidy; refine bool_isNot ?_; simp only [beq_iff_eq, bne_iff_ne, Bool.not_eq_true', beq_eq_false_iff_ne, bne_eq_false_iff_eq, ne_eq, decide_eq_decide, decide_eq_true_eq, decide_eq_false_iff_not, Bool.not_eq_eq_eq_not, Bool.not_true, Bool.not_false, Bool.and_eq_true, Bool.or_eq_true, Bool.and_eq_false_iff, Bool.or_eq_false_iff, List.isEmpty_iff, List.isEmpty_eq_false_iff, Bool.false_eq_true, false_iff, true_iff, toList_nil] at *; unfold spareP; first | omega | trace_state)

end Go.Proofs.Ytnelgblmogciiaa
