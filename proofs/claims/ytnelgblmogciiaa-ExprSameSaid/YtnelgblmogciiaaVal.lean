/- Contracts of the functions that check a value. -/
import Derived.Test.YtnelgblmogciiaaRNum
import Derived.Test.YtnelgblmogciiaaNames
set_option linter.unusedSimpArgs false
set_option linter.unusedVariables false
namespace Go.Proofs.Ytnelgblmogciiaa
open Go.RowKit

def valOk (k n : Int) : Prop := ((k = 0 ∨ k = 4) ∧ n = 0) ∨ (k = 1 ∧ (n = 0 ∨ n = 1)) ∨ (k = 2 ∧ -1099511627776 ≤ n ∧ n ≤ 1099511627776) ∨ (k = 3 ∧ 0 ≤ n ∧ n ≤ 63)
instance (k n : Int) : Decidable (valOk k n) := by unfold valOk; infer_instance

/-- What Check says of a value. -/
def valCheck (k n : Int) (s : ByteArray) : Int :=
  if k < 0 ∨ 4 < k then 7 else if ¬ valOk k n then 2 else if 60 < s.size then 3 else if s.size ≠ 0 ∧ k ≠ 4 then 4 else 0

set_option maxHeartbeats 400000 in
theorem inRange_any (n : Int) (w : World) : Calls Try.prog 113 #[.int .i64 n] w fun e w' => e = .returned (.bool (decide (-1099511627776 ≤ n) && decide (n ≤ 1099511627776))) ∧ w = w' := by
  go_enter Try.func113, Try.ntmps113
  go_wp2
  all_goals go_ret
  all_goals (refine ⟨ret_bool ?_, rfl⟩; first | (simp [*]; done) | (simp [*]; omega))

set_option maxHeartbeats 1000000 in
theorem rvalCheck_any (k n : Int) (s : ByteArray) (w : World) : Calls Try.prog 104 #[.agg #[.int .i64 k, .int .i64 n, .string s]] w fun e w' => e = .returned (.int .i64 (valCheck k n s)) ∧ Below w.heap.size w w' := by
  go_enter Try.func104, Try.ntmps104
  go_wp2_with fail
  all_goals go_ret
  all_goals refine ⟨ret_int ?_, (Below.refl _ _).alloc (Nat.le_refl _) _⟩
  all_goals (have hz := toList_nil s; unfold valCheck valOk; (try simp only [beq_iff_eq, bne_iff_ne, Bool.not_eq_true', beq_eq_false_iff_ne, bne_eq_false_iff_eq, ne_eq, decide_eq_decide, decide_eq_true_eq, decide_eq_false_iff_not, Bool.not_eq_eq_eq_not, Bool.not_true, Bool.not_false, Bool.and_eq_true, Bool.or_eq_true, Bool.and_eq_false_iff, Bool.or_eq_false_iff, List.isEmpty_iff, List.isEmpty_eq_false_iff, hz] at *); repeat' split <;> omega)

set_option maxHeartbeats 1000000 in
theorem valCheck_any (k n : Int) (s : ByteArray) (w : World) : Calls Try.prog 90 #[.agg #[.int .i64 k, .int .i64 n, .string s]] w fun e w' => e = .returned (.int .i64 (valCheck k n s)) ∧ Below w.heap.size w w' := by
  go_enter Try.func90, Try.ntmps90
  go_wp2_with (go_at_call 113; refine (inRange_any _ _).mono ?_; rintro e w' ⟨rfl, rfl⟩)
  all_goals go_ret
  all_goals refine ⟨ret_int ?_, (Below.refl _ _).alloc (Nat.le_refl _) _⟩
  all_goals (have hz := toList_nil s; unfold valCheck valOk; (try simp only [beq_iff_eq, bne_iff_ne, Bool.not_eq_true', beq_eq_false_iff_ne, bne_eq_false_iff_eq, ne_eq, decide_eq_decide, decide_eq_true_eq, decide_eq_false_iff_not, Bool.not_eq_eq_eq_not, Bool.not_true, Bool.not_false, Bool.and_eq_true, Bool.or_eq_true, Bool.and_eq_false_iff, Bool.or_eq_false_iff, List.isEmpty_iff, List.isEmpty_eq_false_iff, hz] at *); repeat' split <;> omega)

end Go.Proofs.Ytnelgblmogciiaa
