/- Contracts of the small functions on numbers: limited sums, differences and products, minutes of the day and weekdays. -/
import Derived.Test.YtnelgblmogciiaaBase
set_option linter.unusedSimpArgs false
set_option linter.unusedVariables false
namespace Go.Proofs.Ytnelgblmogciiaa
open Go.RowKit

def satI (n : Int) : Int := if n < -1099511627776 then -1099511627776 else if 1099511627776 < n then 1099511627776 else n
def clampI (n lo hi : Int) : Int := if hi < lo ∨ hi < n then hi else if n < lo then lo else n

/-- The greatest value with a sign. -/
def limI (b : Bool) : Int := if b then -1099511627776 else 1099511627776
theorem limI_eq (b : Bool) : (limI b = -1099511627776 ∧ b = true) ∨ (limI b = 1099511627776 ∧ b = false) := by cases b <;> simp [limI]

set_option maxHeartbeats 400000 in
theorem limit_any (b : Bool) (w : World) : Calls Try.prog 116 #[.bool b] w fun e w' => e = .returned (.int .i64 (limI b)) ∧ w = w' := by
  go_enter Try.func116, Try.ntmps116
  go_wp2
  all_goals go_ret
  all_goals simp [limI, *]

set_option maxHeartbeats 400000 in
theorem sat_any (n : Int) (w : World) : Calls Try.prog 117 #[.int .i64 n] w fun e w' => e = .returned (.int .i64 (satI n)) ∧ w = w' := by
  go_enter Try.func117, Try.ntmps117
  go_wp2
  all_goals go_ret
  all_goals exact ⟨ret_int (by unfold satI; repeat' split <;> try omega), rfl⟩

set_option maxHeartbeats 400000 in
theorem add_any (a b : Int) (w : World) (ha : I64 a) (hb : I64 b) : Calls Try.prog 96 #[.int .i64 a, .int .i64 b] w fun e w' => e = .returned (.int .i64 (satI (a + b))) ∧ w = w' := by
  unfold I64 at ha hb
  go_enter Try.func96, Try.ntmps96
  go_wp2_with (first | (go_at_call 117; refine (sat_any _ _).mono ?_; rintro e w' ⟨rfl, rfl⟩) | (go_at_call 116; refine (limit_any _ _).mono ?_; rintro e w' ⟨rfl, rfl⟩))
  all_goals go_ret
  all_goals (refine ⟨ret_int ?_, rfl⟩; have := limI_eq (decide (a < 0)); have := limI_eq (decide (b < 0)); simp only [satI, wrap64, beq_iff_eq, bne_iff_ne, Bool.not_eq_true', beq_eq_false_iff_ne, bne_eq_false_iff_eq, ne_eq, decide_eq_decide, decide_eq_true_eq, decide_eq_false_iff_not, Bool.not_eq_eq_eq_not, Bool.not_true, Bool.not_false] at *)
  all_goals first | omega | (repeat' split <;> omega)

set_option maxHeartbeats 400000 in
theorem sub_any (a b : Int) (w : World) (ha : I64 a) (hb : I64 b) : Calls Try.prog 97 #[.int .i64 a, .int .i64 b] w fun e w' => e = .returned (.int .i64 (satI (a - b))) ∧ w = w' := by
  unfold I64 at ha hb
  go_enter Try.func97, Try.ntmps97
  go_wp2_with (first | (go_at_call 117; refine (sat_any _ _).mono ?_; rintro e w' ⟨rfl, rfl⟩) | (go_at_call 116; refine (limit_any _ _).mono ?_; rintro e w' ⟨rfl, rfl⟩))
  all_goals go_ret
  all_goals (refine ⟨ret_int ?_, rfl⟩; have := limI_eq (decide (a < 0)); have := limI_eq (decide (b < 0)); simp only [satI, wrap64, beq_iff_eq, bne_iff_ne, Bool.not_eq_true', beq_eq_false_iff_ne, bne_eq_false_iff_eq, ne_eq, decide_eq_decide, decide_eq_true_eq, decide_eq_false_iff_not, Bool.not_eq_eq_eq_not, Bool.not_true, Bool.not_false] at *)
  all_goals first | omega | (repeat' split <;> omega)

/-- The absolute value. -/
def absI (n : Int) : Int := if n < 0 then -n else n

set_option maxHeartbeats 400000 in
theorem size_of_int (a : Int) (w : World) (ha : I64 a) : Calls Try.prog 120 #[.int .i64 a] w fun e w' => e = .returned (.int .u64 (absI a)) ∧ w = w' := by
  unfold I64 at ha
  go_enter Try.func120, Try.ntmps120
  go_wp2
  all_goals go_ret
  all_goals exact ⟨ret_int (by unfold absI; split <;> omega), rfl⟩

theorem times_lt {a b : Int} (h0 : 0 < b) : 1099511627776 / b < a ↔ 1099511627776 < a * b := Int.ediv_lt_iff_lt_mul h0
theorem u64_wrap (n : Int) (h : 0 ≤ n ∧ n ≤ 18446744073709551615) : IntKind.u64.wrap n = n := Go.IntWalk.u64_in n h
def timesI (a b : Int) : Int := if 1099511627776 < a * b then 1099511627777 else a * b

set_option maxHeartbeats 400000 in
theorem times_any (a b : Int) (w : World) (ha : 0 ≤ a ∧ a ≤ 9223372036854775808) (hb : 0 ≤ b ∧ b ≤ 9223372036854775808) : Calls Try.prog 119 #[.int .u64 a, .int .u64 b] w fun e w' => e = .returned (.int .u64 (timesI a b)) ∧ w = w' := by
  have hp : 0 ≤ a * b := Int.mul_nonneg ha.1 hb.1
  go_enter Try.func119, Try.ntmps119
  go_wp2
  all_goals go_ret
  · rename_i h1
    exact ⟨ret_int (by simp [timesI, h1]), rfl⟩
  · rename_i h1 h2
    refine ⟨ret_int ?_, rfl⟩
    have h3 := (times_lt (a := a) (b := b) (by omega)).1 h2.2
    simp [timesI, h3]
  · rename_i h1 h2
    refine ⟨ret_int ?_, rfl⟩
    have h3 : ¬ 1099511627776 < a * b := fun h => by
      have h4 := (times_lt (a := a) (b := b) (by omega)).2 h
      rcases h2 with h2 | h2
      · simp at h2; omega
      · omega
    rw [timesI, if_neg h3]
    exact u64_wrap _ (by omega)

def signI (a : Int) (b : Bool) : Int := if 1099511627776 < a then limI b else if b then -a else a

set_option maxHeartbeats 400000 in
theorem signed_any (a : Int) (b : Bool) (w : World) (ha : 0 ≤ a ∧ a ≤ 9223372036854775808) : Calls Try.prog 118 #[.int .u64 a, .bool b] w fun e w' => e = .returned (.int .i64 (signI a b)) ∧ w = w' := by
  go_enter Try.func118, Try.ntmps118
  go_wp2_with (go_at_call 116; refine (limit_any _ _).mono ?_; rintro e w' ⟨rfl, rfl⟩)
  all_goals go_ret
  all_goals (refine ⟨ret_int ?_, rfl⟩; unfold signI)
  · rw [if_pos ‹_›]
  all_goals (rw [if_neg (by omega)]; simp [*])

theorem mul_is (a b : Int) : signI (timesI (absI a) (absI b)) (decide (a < 0) != decide (b < 0)) = satI (a * b) := by
  unfold signI timesI absI satI limI
  by_cases ha : a < 0 <;> by_cases hb : b < 0
  · have hp : 0 < a * b := Int.mul_pos_of_neg_of_neg ha hb
    simp only [ha, hb, if_true, decide_true, bne_self_eq_false, Bool.false_eq_true, if_false, Int.neg_mul_neg]
    repeat' split
    all_goals omega
  · have hp : a * b ≤ 0 := Int.mul_nonpos_of_nonpos_of_nonneg (by omega) (by omega)
    simp only [ha, hb, if_true, decide_true, decide_false, Bool.true_bne, Bool.not_false, if_false, Int.neg_mul]
    repeat' split
    all_goals omega
  · have hp : a * b ≤ 0 := Int.mul_nonpos_of_nonneg_of_nonpos (by omega) (by omega)
    simp only [ha, hb, if_true, decide_true, decide_false, Bool.false_bne, if_false, Int.mul_neg]
    repeat' split
    all_goals omega
  · have hp : 0 ≤ a * b := Int.mul_nonneg (by omega) (by omega)
    simp only [ha, hb, decide_false, bne_self_eq_false, Bool.false_eq_true, if_false]
    repeat' split
    all_goals omega

theorem absI_bd (a : Int) (h : I64 a) : 0 ≤ absI a ∧ absI a ≤ 9223372036854775808 := by unfold I64 at h; unfold absI; split <;> omega
theorem timesI_bd (a b : Int) (ha : 0 ≤ a) (hb : 0 ≤ b) : 0 ≤ timesI a b ∧ timesI a b ≤ 9223372036854775808 := by
  have hp : 0 ≤ a * b := Int.mul_nonneg ha hb
  unfold timesI; split <;> omega

set_option maxHeartbeats 400000 in
theorem mul_any (a b : Int) (w : World) (ha : I64 a) (hb : I64 b) : Calls Try.prog 98 #[.int .i64 a, .int .i64 b] w fun e w' => e = .returned (.int .i64 (satI (a * b))) ∧ w = w' := by
  have h1 := absI_bd a ha
  have h2 := absI_bd b hb
  have h3 := timesI_bd (absI a) (absI b) h1.1 h2.1
  have hm := Lib.hid (mul_is a b)
  go_enter Try.func98, Try.ntmps98
  go_wp2_with fail
  refine (size_of_int a _ ha).mono ?_
  rintro e w' ⟨rfl, rfl⟩
  go_wp2_with fail
  refine (size_of_int b _ hb).mono ?_
  rintro e w' ⟨rfl, rfl⟩
  go_wp2_with (first | (go_at_call 119; refine (times_any _ _ _ h1 h2).mono ?_; rintro e w' ⟨rfl, rfl⟩) | (go_at_call 118; refine (signed_any _ _ _ h3).mono ?_; rintro e w' ⟨rfl, rfl⟩))
  go_ret
  exact ⟨ret_int hm.out, rfl⟩

set_option maxHeartbeats 400000 in
theorem clamp_any (n lo hi : Int) (w : World) : Calls Try.prog 121 #[.int .i64 n, .int .i64 lo, .int .i64 hi] w fun e w' => e = .returned (.int .i64 (clampI n lo hi)) ∧ w = w' := by
  go_enter Try.func121, Try.ntmps121
  go_wp2
  all_goals go_ret
  all_goals exact ⟨ret_int (by unfold clampI; (try simp only [Bool.or_eq_true, decide_eq_true_eq] at *); repeat' split <;> try omega), rfl⟩

def minI (m : Int) : Int := clampI m 0 1073741824
theorem minI_bd (m : Int) : 0 ≤ minI m ∧ minI m ≤ 1073741824 := by unfold minI clampI; repeat' split <;> omega

set_option maxHeartbeats 400000 in
theorem valid_any (n : Int) (w : World) : Calls Try.prog 102 #[.int .i64 n] w fun e w' => e = .returned (.int .i64 (minI n)) ∧ w = w' := by
  go_enter Try.func102, Try.ntmps102
  go_wp2_with (go_at_call 121; refine (clamp_any _ _ _ _).mono ?_; rintro e w' ⟨rfl, rfl⟩)
  go_ret
  exact ⟨rfl, rfl⟩

def ofDayI (m : Int) : Int := minI m % 1440
def weekdayI (m : Int) : Int := (minI m / 1440 + 5) % 7

set_option maxHeartbeats 400000 in
theorem ofDay_any (n : Int) (w : World) : Calls Try.prog 71 #[.int .i64 n] w fun e w' => e = .returned (.int .i64 (ofDayI n)) ∧ w = w' := by
  have hb := minI_bd n
  go_enter Try.func71, Try.ntmps71
  go_wp2_with (go_at_call 102; refine (valid_any _ _).mono ?_; rintro e w' ⟨rfl, rfl⟩)
  go_ret
  exact ⟨rfl, rfl⟩

set_option maxHeartbeats 400000 in
theorem weekday_any (n : Int) (w : World) : Calls Try.prog 72 #[.int .i64 n] w fun e w' => e = .returned (.int .i64 (weekdayI n)) ∧ w = w' := by
  have hb := minI_bd n
  go_enter Try.func72, Try.ntmps72
  go_wp2_with (go_at_call 102; refine (valid_any _ _).mono ?_; rintro e w' ⟨rfl, rfl⟩)
  go_ret
  exact ⟨rfl, rfl⟩

end Go.Proofs.Ytnelgblmogciiaa
