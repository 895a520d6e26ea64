/- Contracts of the functions that check one node of an expression, continued. -/
import Derived.Test.YtnelgblmogciiaaNode
set_option linter.unusedSimpArgs false
set_option linter.unusedVariables false
namespace Go.Proofs.Ytnelgblmogciiaa
open Go.RowKit

def kidsLo (k : Int) : Int := if k = 6 then 1 else if k = 7 ∨ k = 8 then 2 else if 9 ≤ k ∧ k ≤ 13 then 2 else if k = 14 then 3 else 0
def kidsHi (k : Int) : Int := if k = 6 then 1 else if k = 7 ∨ k = 8 then 8 else if 9 ≤ k ∧ k ≤ 13 then 2 else if k = 14 then 3 else 0
theorem kidsOk_iff (k n : Int) : kidsOk k n ↔ kidsLo k ≤ n ∧ n ≤ kidsHi k := by
  unfold kidsOk kidsLo kidsHi; repeat' split <;> omega
theorem ret_two {k k' : IntKind} {a b a' b' : Int} (h : a = b) (h' : a' = b') : Ending.returned (.tuple #[.int k a, .int k' a']) = .returned (.tuple #[.int k b, .int k' b']) := by rw [h, h']

set_option maxHeartbeats 1000000 in
theorem rkids_any (k : Int) (w : World) : Calls Try.prog 109 #[.int .i64 k] w fun e w' => e = .returned (.tuple #[.int .i64 (kidsLo k), .int .i64 (kidsHi k)]) ∧ w = w' := by
  go_enter Try.func109, Try.ntmps109
  go_wp2_with fail
  all_goals go_ret2
  all_goals (refine ⟨ret_two ?_ ?_, rfl⟩ <;> (simp only [kidsLo, kidsHi]; (try simp only [beq_iff_eq, bne_iff_ne, Bool.not_eq_true', beq_eq_false_iff_ne, bne_eq_false_iff_eq, ne_eq, decide_eq_decide, decide_eq_true_eq, decide_eq_false_iff_not, Bool.not_eq_eq_eq_not, Bool.not_true, Bool.not_false, Bool.and_eq_true, Bool.or_eq_true, Bool.and_eq_false_iff, Bool.or_eq_false_iff, List.isEmpty_iff, List.isEmpty_eq_false_iff, Bool.false_eq_true, false_iff, true_iff, toList_nil] at *); repeat' split <;> omega))

set_option maxHeartbeats 2000000 in
theorem rspare_any (h : Hd) (A : Option Addr) (l c : Nat) (w : World) : Calls Try.prog 110 #[.agg (h.cells (.slice A l c)).toArray] w fun e w' => e = .returned (.bool h.spareB) ∧ Below w.heap.size w w' := by
  obtain ⟨k, n, m, nm, vk, vn, vs, dv, cl, at_⟩ := h
  simp only [Hd.spareB, Hd.cells]
  go_enter Try.func110, Try.ntmps110
  go_wp2_with fail
  all_goals go_ret
  all_goals refine ⟨ret_bool ?_, ?_⟩
  rotate_left
  all_goals first | (((repeat (refine Below.al ?_ _)); exact Below.refl _ _)) | (go_tidy; refine bool_is ?_; simp only [beq_iff_eq, bne_iff_ne, Bool.not_eq_true', beq_eq_false_iff_ne, bne_eq_false_iff_eq, ne_eq, decide_eq_decide, decide_eq_true_eq, decide_eq_false_iff_not, Bool.not_eq_eq_eq_not, Bool.not_true, Bool.not_false, Bool.and_eq_true, Bool.or_eq_true, Bool.and_eq_false_iff, Bool.or_eq_false_iff, List.isEmpty_iff, List.isEmpty_eq_false_iff, Bool.false_eq_true, false_iff, true_iff, toList_nil] at *; unfold spareP; omega)

/-- Are the numbers of a node in range? -/
def rangesP (k n m dv : Int) : Prop :=
  (k = 4 → 0 ≤ n ∧ n ≤ 1439 ∧ 0 ≤ m ∧ m ≤ 1439) ∧ (k = 5 → 1 ≤ n ∧ n ≤ 127) ∧ (k = 15 → 0 ≤ n ∧ n ≤ 4) ∧ (k = 2 → 1 ≤ dv ∧ dv ≤ 250)
instance (k n m dv : Int) : Decidable (rangesP k n m dv) := by unfold rangesP; infer_instance
def Hd.rangesB (h : Hd) : Bool := decide (rangesP h.kind h.n h.m h.dev)

set_option maxHeartbeats 2000000 in
theorem ranges_any (h : Hd) (A : Option Addr) (l c : Nat) (w : World) : Calls Try.prog 88 #[.agg (h.cells (.slice A l c)).toArray] w fun e w' => e = .returned (.bool h.rangesB) ∧ Below w.heap.size w w' := by
  obtain ⟨k, n, m, nm, vk, vn, vs, dv, cl, at_⟩ := h
  simp only [Hd.rangesB, Hd.cells]
  go_enter Try.func88, Try.ntmps88
  go_wp2_with fail
  all_goals go_ret
  all_goals refine ⟨ret_bool ?_, ?_⟩
  rotate_left
  all_goals first | (((repeat (refine Below.al ?_ _)); exact Below.refl _ _)) | (go_tidy; refine bool_is ?_; (try simp only [beq_iff_eq, bne_iff_ne, Bool.not_eq_true', beq_eq_false_iff_ne, bne_eq_false_iff_eq, ne_eq, decide_eq_decide, decide_eq_true_eq, decide_eq_false_iff_not, Bool.not_eq_eq_eq_not, Bool.not_true, Bool.not_false, Bool.and_eq_true, Bool.or_eq_true, Bool.and_eq_false_iff, Bool.or_eq_false_iff, List.isEmpty_iff, List.isEmpty_eq_false_iff, Bool.false_eq_true, false_iff, true_iff, toList_nil] at *); unfold rangesP; first | omega | trace_state)

end Go.Proofs.Ytnelgblmogciiaa
