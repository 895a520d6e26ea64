/- Contracts of the references' small functions on numbers. -/
import Derived.Test.YtnelgblmogciiaaNum
set_option linter.unusedSimpArgs false
set_option linter.unusedVariables false
namespace Go.Proofs.Ytnelgblmogciiaa
open Go.RowKit

set_option maxHeartbeats 400000 in
theorem rsat_any (n : Int) (w : World) : Calls Try.prog 124 #[.int .i64 n] w fun e w' => e = .returned (.int .i64 (satI n)) ∧ w = w' := by
  go_enter Try.func124, Try.ntmps124
  go_wp2
  all_goals go_ret
  all_goals exact ⟨ret_int (by unfold satI; repeat' split <;> try omega), rfl⟩

set_option maxHeartbeats 400000 in
theorem radd_any (a b : Int) (w : World) (ha : I64 a) (hb : I64 b) : Calls Try.prog 106 #[.int .i64 a, .int .i64 b] w fun e w' => e = .returned (.int .i64 (satI (a + b))) ∧ w = w' := by
  unfold I64 at ha hb
  by_cases h1 : 0 < b <;> by_cases h2 : b < 0
  · omega
  all_goals
    go_enter Try.func106, Try.ntmps106
    go_wp2_with (go_at_call 124; refine (rsat_any _ _).mono ?_; rintro e w' ⟨rfl, rfl⟩)
  all_goals go_ret
  all_goals (refine ⟨ret_int ?_, rfl⟩; (try simp only [satI, wrap64, beq_iff_eq, bne_iff_ne, Bool.not_eq_true', beq_eq_false_iff_ne, bne_eq_false_iff_eq, ne_eq, decide_eq_decide, decide_eq_true_eq, decide_eq_false_iff_not, Bool.not_eq_eq_eq_not, Bool.not_true, Bool.not_false] at *); first | omega | (repeat' split <;> omega))

set_option maxHeartbeats 400000 in
theorem rsub_any (a b : Int) (w : World) (ha : I64 a) (hb : I64 b) : Calls Try.prog 107 #[.int .i64 a, .int .i64 b] w fun e w' => e = .returned (.int .i64 (satI (a - b))) ∧ w = w' := by
  unfold I64 at ha hb
  by_cases h1 : 0 < b <;> by_cases h2 : b < 0
  · omega
  all_goals
    go_enter Try.func107, Try.ntmps107
    go_wp2_with (go_at_call 124; refine (rsat_any _ _).mono ?_; rintro e w' ⟨rfl, rfl⟩)
  all_goals go_ret
  all_goals (refine ⟨ret_int ?_, rfl⟩; (try simp only [satI, wrap64, beq_iff_eq, bne_iff_ne, Bool.not_eq_true', beq_eq_false_iff_ne, bne_eq_false_iff_eq, ne_eq, decide_eq_decide, decide_eq_true_eq, decide_eq_false_iff_not, Bool.not_eq_eq_eq_not, Bool.not_true, Bool.not_false] at *); first | omega | (repeat' split <;> omega))

set_option maxHeartbeats 400000 in
theorem rabs_any (a : Int) (w : World) (ha : -1099511627776 ≤ a ∧ a ≤ 1099511627776) : Calls Try.prog 125 #[.int .i64 a] w fun e w' => e = .returned (.int .i64 (absI a)) ∧ w = w' := by
  go_enter Try.func125, Try.ntmps125
  go_wp2
  all_goals go_ret
  all_goals exact ⟨ret_int (by unfold absI; split <;> omega), rfl⟩

theorem satI_bd (n : Int) : -1099511627776 ≤ satI n ∧ satI n ≤ 1099511627776 := by unfold satI; repeat' split <;> omega
theorem absI_sat (n : Int) : 0 ≤ absI (satI n) ∧ absI (satI n) ≤ 1099511627776 := by unfold satI absI; repeat' split <;> omega

theorem big_left {a b : Int} (ha : 1099511627776 < a) (hb : b ≠ 0) : satI (a * b) = if b < 0 then -1099511627776 else 1099511627776 := by
  by_cases h : b < 0
  · have h1 : a * b ≤ a * (-1) := Int.mul_le_mul_of_nonneg_left (by omega) (by omega)
    simp only [satI, h, if_true]; split <;> omega
  · have h1 : a * 1 ≤ a * b := Int.mul_le_mul_of_nonneg_left (by omega) (by omega)
    simp only [satI, h, if_false]; repeat' split <;> omega
theorem small_left {a b : Int} (ha : a < -1099511627776) (hb : b ≠ 0) : satI (a * b) = if b < 0 then 1099511627776 else -1099511627776 := by
  have h := big_left (a := -a) (b := -b) (by omega) (by omega)
  rw [Int.neg_mul_neg] at h
  rw [h]
  by_cases h2 : b < 0
  · rw [if_neg (by omega), if_pos h2]
  · rw [if_pos (by omega), if_neg h2]
/-- Both factors within the range, neither 0: the product, or its limit where the quotient says so. -/
theorem mid_div {x y : Int} (hx : 0 ≤ x) (hy : 0 < y) : 1099511627776 / y < x ↔ 1099511627776 < x * y := Int.ediv_lt_iff_lt_mul hy

def mulR (a b : Int) : Int :=
  if a = 0 ∨ b = 0 then 0 else
  if (1099511627776 < a ∨ a < -1099511627776) ∨ (1099511627776 < b ∨ b < -1099511627776) ∨ 1099511627776 / absI (satI b) < absI (satI a) then (if (decide (a < 0) != decide (b < 0)) = true then -1099511627776 else 1099511627776) else
  if (decide (a < 0) != decide (b < 0)) = true then -(absI (satI a) * absI (satI b)) else absI (satI a) * absI (satI b)
theorem mulR_eq (a b : Int) : mulR a b = satI (a * b) := by
  unfold mulR
  by_cases h0 : a = 0 ∨ b = 0
  · rw [if_pos h0]; rcases h0 with rfl | rfl <;> simp [satI]
  rw [if_neg h0]
  have hs : ((decide (a < 0) != decide (b < 0)) = true) ↔ ¬ (a < 0 ↔ b < 0) := by simp
  by_cases h1 : 1099511627776 < a ∨ a < -1099511627776
  · rw [if_pos (.inl h1)]
    rcases h1 with h1 | h1
    · rw [big_left h1 (by omega)]; by_cases hb : b < 0
      · rw [if_pos hb, if_pos (hs.2 (by omega))]
      · rw [if_neg hb, if_neg (fun h => hs.1 h (by omega))]
    · rw [small_left h1 (by omega)]; by_cases hb : b < 0
      · rw [if_pos hb, if_neg (fun h => hs.1 h (by omega))]
      · rw [if_neg hb, if_pos (hs.2 (by omega))]
  by_cases h2 : 1099511627776 < b ∨ b < -1099511627776
  · rw [if_pos (.inr (.inl h2)), Int.mul_comm a b]
    rcases h2 with h2 | h2
    · rw [big_left h2 (by omega)]; by_cases ha : a < 0
      · rw [if_pos ha, if_pos (hs.2 (by omega))]
      · rw [if_neg ha, if_neg (fun h => hs.1 h (by omega))]
    · rw [small_left h2 (by omega)]; by_cases ha : a < 0
      · rw [if_pos ha, if_neg (fun h => hs.1 h (by omega))]
      · rw [if_neg ha, if_pos (hs.2 (by omega))]
  have ea : satI a = a := by unfold satI; rw [if_neg (by omega), if_neg (by omega)]
  have eb : satI b = b := by unfold satI; rw [if_neg (by omega), if_neg (by omega)]
  rw [ea, eb]
  have hy : 0 < absI b := by unfold absI; split <;> omega
  have hx : 0 ≤ absI a := by unfold absI; split <;> omega
  have hm := mul_is a b
  unfold signI timesI at hm
  rw [← hm]
  by_cases h3 : 1099511627776 < absI a * absI b
  · rw [if_pos (.inr (.inr ((mid_div hx hy).2 h3)))]
    simp only [h3, if_true, limI]; simp
  · rw [if_neg (fun h => by rcases h with h | h | h; exact h1 h; exact h2 h; exact h3 ((mid_div hx hy).1 h))]
    simp only [h3, if_false]

set_option maxHeartbeats 400000 in
theorem rmul_any (a b : Int) (w : World) (ha : I64 a) (hb : I64 b) : Calls Try.prog 108 #[.int .i64 a, .int .i64 b] w fun e w' => e = .returned (.int .i64 (satI (a * b))) ∧ w = w' := by
  have h1 := absI_sat a
  have h2 := absI_sat b
  have hp : 0 ≤ absI (satI a) * absI (satI b) := Int.mul_nonneg h1.1 h2.1
  have hp2 : absI (satI a) * absI (satI b) ≤ 1099511627776 * 1099511627776 := Int.mul_le_mul h1.2 h2.2 h2.1 (by omega)
  have hy : b ≠ 0 → 1 ≤ absI (satI b) := fun h => by unfold satI absI; repeat' split <;> omega
  have hm := Lib.hid (mulR_eq a b)
  have s1 := satI_bd a
  have s2 := satI_bd b
  by_cases ha0 : a = 0
  · subst ha0
    go_enter Try.func108, Try.ntmps108
    go_wp2_with fail
    go_ret
    exact ⟨ret_int (by rw [← hm.out]; simp [mulR]), rfl⟩
  by_cases hb0 : b = 0
  · subst hb0
    go_enter Try.func108, Try.ntmps108
    go_wp2_with fail
    go_ret
    exact ⟨ret_int (by rw [← hm.out]; simp [mulR]), rfl⟩
  have hy1 := hy hb0
  clear hy
  have ha1 : (a == 0) = false := by simpa using ha0
  have hb1 : (b == 0) = false := by simpa using hb0
  clear ha0 hb0
  go_enter Try.func108, Try.ntmps108
  go_wp2_with fail
  refine (rsat_any a _).mono ?_
  rintro e w' ⟨rfl, rfl⟩
  go_wp2_with fail
  refine (rabs_any _ _ s1).mono ?_
  rintro e w' ⟨rfl, rfl⟩
  go_wp2_with fail
  refine (rsat_any b _).mono ?_
  rintro e w' ⟨rfl, rfl⟩
  go_wp2_with fail
  refine (rabs_any _ _ s2).mono ?_
  rintro e w' ⟨rfl, rfl⟩
  go_wp2_with fail
  all_goals go_ret
  all_goals
    refine ⟨ret_int ?_, rfl⟩
    rw [← hm.out]
    clear hm
    unfold mulR
    generalize absI (satI a) = x at *
    generalize absI (satI b) = y at *
    have hn : -x * y = -(x * y) := Int.neg_mul x y
    have hd : 1099511627776 / y < x ↔ 1099511627776 < x * y := mid_div h1.1 (by omega)
    simp only [beq_iff_eq, bne_iff_ne, Bool.not_eq_true', beq_eq_false_iff_ne, bne_eq_false_iff_eq, ne_eq, decide_eq_decide, decide_eq_true_eq, decide_eq_false_iff_not, Bool.not_eq_eq_eq_not, Bool.not_true, Bool.not_false, wrap64, hn] at *
    repeat' split
    all_goals omega

set_option maxHeartbeats 400000 in
theorem rclamp_any (n lo hi : Int) (w : World) : Calls Try.prog 123 #[.int .i64 n, .int .i64 lo, .int .i64 hi] w fun e w' => e = .returned (.int .i64 (clampI n lo hi)) ∧ w = w' := by
  go_enter Try.func123, Try.ntmps123
  go_wp2
  all_goals go_ret
  all_goals exact ⟨ret_int (by unfold clampI; (try simp only [Bool.or_eq_true, decide_eq_true_eq] at *); repeat' split <;> try omega), rfl⟩

set_option maxHeartbeats 400000 in
theorem rvalid_any (n : Int) (w : World) : Calls Try.prog 105 #[.int .i64 n] w fun e w' => e = .returned (.int .i64 (minI n)) ∧ w = w' := by
  go_enter Try.func105, Try.ntmps105
  go_wp2_with (go_at_call 123; refine (rclamp_any _ _ _ _).mono ?_; rintro e w' ⟨rfl, rfl⟩)
  go_ret
  exact ⟨rfl, rfl⟩

set_option maxHeartbeats 400000 in
theorem rofDay_any (n : Int) (w : World) : Calls Try.prog 79 #[.int .i64 n] w fun e w' => e = .returned (.int .i64 (ofDayI n)) ∧ w = w' := by
  have hb := minI_bd n
  go_enter Try.func79, Try.ntmps79
  go_wp2_with (go_at_call 105; refine (rvalid_any _ _).mono ?_; rintro e w' ⟨rfl, rfl⟩)
  go_ret
  exact ⟨rfl, rfl⟩

set_option maxHeartbeats 400000 in
theorem rweekday_any (n : Int) (w : World) : Calls Try.prog 80 #[.int .i64 n] w fun e w' => e = .returned (.int .i64 (weekdayI n)) ∧ w = w' := by
  have hb := minI_bd n
  go_enter Try.func80, Try.ntmps80
  go_wp2_with (go_at_call 105; refine (rvalid_any _ _).mono ?_; rintro e w' ⟨rfl, rfl⟩)
  go_ret
  exact ⟨rfl, rfl⟩

end Go.Proofs.Ytnelgblmogciiaa
