/- Resolve: the checks of a value, the program's and the reference's. -/
import Derived.Test.YtgjoojailghilaaDoorVLaw1
set_option linter.unusedSimpArgs false
set_option linter.unusedVariables false
namespace Go.Proofs.YtgjoojailghilaaDoor
open Go.RowKit

def okN (k n : Int) : Prop := (k = 0 ∧ n = 0) ∨ (k = 4 ∧ n = 0) ∨ (k = 1 ∧ (n = 0 ∨ n = 1)) ∨ (k = 2 ∧ -1099511627776 ≤ n ∧ n ≤ 1099511627776) ∨ (k = 3 ∧ 0 ≤ n ∧ n ≤ 63)
/-- A value that passes. -/
def OkV (v : LVal) : Prop := okN v.k v.n ∧ v.s.size ≤ 60 ∧ (v.s.size = 0 ∨ v.k = 4)
set_option maxHeartbeats 1000000 in
theorem inRange_any (n : Int) (w : World) : Calls Tryd.prog 85 #[.int .i64 n] w fun r w' => r = .returned (.bool (decide (-1099511627776 ≤ n ∧ n ≤ 1099511627776))) ∧ w' = w := by
  by_cases h1 : -1099511627776 ≤ n
  · by_cases h2 : n ≤ 1099511627776
    · go_enter Tryd.func85, Tryd.ntmps85
      go_wp2_with fail
      go_ret
      exact ⟨ret_bool (by simp [h1, h2]), rfl⟩
    · go_enter Tryd.func85, Tryd.ntmps85
      go_wp2_with fail
      go_ret
      exact ⟨ret_bool (by simp [h1, h2]), rfl⟩
  · go_enter Tryd.func85, Tryd.ntmps85
    go_wp2_with fail
    go_ret
    have h2 : decide (-1099511627776 ≤ n) = false := decide_eq_false (by omega)
    exact ⟨ret_bool (by first | rfl | (rw [h2]; rfl) | (simp only [Bool.decide_and, h2]; rfl)), rfl⟩
theorem size_nil {s : ByteArray} (h : s.size = 0) : s = ⟨#[]⟩ := by
  cases s with
  | mk d => congr 1; exact Array.eq_empty_of_size_eq_zero h
set_option maxRecDepth 100000 in
set_option maxHeartbeats 1000000 in
theorem check0 (n : Int) (s : ByteArray) (w : World) : Calls Tryd.prog 70 #[.agg #[.int .i64 0, .int .i64 n, .string s]] w fun r w' => (∃ e, r = .returned (.int .i64 e) ∧ (e = 0 ↔ OkV ⟨0, n, s⟩)) ∧ Lat w w' := by
  have hx := (Blk.new w 25 #[.int .i64 0, .int .i64 n, .string s]).cell
  by_cases hs : s.size = 0
  · obtain rfl := size_nil hs
    clear hs
    go_enter Tryd.func70, Tryd.ntmps70
    go_wp2_with fail
    all_goals (go_ret; refine ⟨⟨_, rfl, ?_⟩, Lat.al _ _⟩; clear hx; (try clear hs1 hs2); simp [toList_nil] at *; unfold OkV okN; dsimp only; have hz : (⟨#[]⟩ : ByteArray).size = 0 := rfl; (try (have hq := HS.out; have hq2 : ¬ s.size = 0 := fun h => hq (size_nil h))); omega)
  · have hs1 : ¬ s.toList = [] := fun h => hs ((toList_nil s).1 h)
    have hs2 : s.toList.isEmpty = false := by simpa using hs1
    have HS := Lib.hid hs
    clear hs
    go_enter Tryd.func70, Tryd.ntmps70
    go_wp2_with fail
    all_goals (go_ret; refine ⟨⟨_, rfl, ?_⟩, Lat.al _ _⟩; clear hx; (try clear hs1 hs2); simp [toList_nil] at *; unfold OkV okN; dsimp only; have hz : (⟨#[]⟩ : ByteArray).size = 0 := rfl; (try (have hq := HS.out; have hq2 : ¬ s.size = 0 := fun h => hq (size_nil h))); omega)
set_option maxRecDepth 100000 in
set_option maxHeartbeats 1000000 in
theorem check1 (n : Int) (s : ByteArray) (w : World) : Calls Tryd.prog 70 #[.agg #[.int .i64 1, .int .i64 n, .string s]] w fun r w' => (∃ e, r = .returned (.int .i64 e) ∧ (e = 0 ↔ OkV ⟨1, n, s⟩)) ∧ Lat w w' := by
  have hx := (Blk.new w 25 #[.int .i64 1, .int .i64 n, .string s]).cell
  by_cases hs : s.size = 0
  · obtain rfl := size_nil hs
    clear hs
    go_enter Tryd.func70, Tryd.ntmps70
    go_wp2_with fail
    all_goals (go_ret; refine ⟨⟨_, rfl, ?_⟩, Lat.al _ _⟩; clear hx; (try clear hs1 hs2); simp [toList_nil] at *; unfold OkV okN; dsimp only; have hz : (⟨#[]⟩ : ByteArray).size = 0 := rfl; (try (have hq := HS.out; have hq2 : ¬ s.size = 0 := fun h => hq (size_nil h))); omega)
  · have hs1 : ¬ s.toList = [] := fun h => hs ((toList_nil s).1 h)
    have hs2 : s.toList.isEmpty = false := by simpa using hs1
    have HS := Lib.hid hs
    clear hs
    go_enter Tryd.func70, Tryd.ntmps70
    go_wp2_with fail
    all_goals (go_ret; refine ⟨⟨_, rfl, ?_⟩, Lat.al _ _⟩; clear hx; (try clear hs1 hs2); simp [toList_nil] at *; unfold OkV okN; dsimp only; have hz : (⟨#[]⟩ : ByteArray).size = 0 := rfl; (try (have hq := HS.out; have hq2 : ¬ s.size = 0 := fun h => hq (size_nil h))); omega)
set_option maxRecDepth 100000 in
set_option maxHeartbeats 1000000 in
theorem check3 (n : Int) (s : ByteArray) (w : World) : Calls Tryd.prog 70 #[.agg #[.int .i64 3, .int .i64 n, .string s]] w fun r w' => (∃ e, r = .returned (.int .i64 e) ∧ (e = 0 ↔ OkV ⟨3, n, s⟩)) ∧ Lat w w' := by
  have hx := (Blk.new w 25 #[.int .i64 3, .int .i64 n, .string s]).cell
  by_cases hs : s.size = 0
  · obtain rfl := size_nil hs
    clear hs
    go_enter Tryd.func70, Tryd.ntmps70
    go_wp2_with fail
    all_goals (go_ret; refine ⟨⟨_, rfl, ?_⟩, Lat.al _ _⟩; clear hx; (try clear hs1 hs2); simp [toList_nil] at *; unfold OkV okN; dsimp only; have hz : (⟨#[]⟩ : ByteArray).size = 0 := rfl; (try (have hq := HS.out; have hq2 : ¬ s.size = 0 := fun h => hq (size_nil h))); omega)
  · have hs1 : ¬ s.toList = [] := fun h => hs ((toList_nil s).1 h)
    have hs2 : s.toList.isEmpty = false := by simpa using hs1
    have HS := Lib.hid hs
    clear hs
    go_enter Tryd.func70, Tryd.ntmps70
    go_wp2_with fail
    all_goals (go_ret; refine ⟨⟨_, rfl, ?_⟩, Lat.al _ _⟩; clear hx; (try clear hs1 hs2); simp [toList_nil] at *; unfold OkV okN; dsimp only; have hz : (⟨#[]⟩ : ByteArray).size = 0 := rfl; (try (have hq := HS.out; have hq2 : ¬ s.size = 0 := fun h => hq (size_nil h))); omega)
set_option maxRecDepth 100000 in
set_option maxHeartbeats 1000000 in
theorem check4 (n : Int) (s : ByteArray) (w : World) : Calls Tryd.prog 70 #[.agg #[.int .i64 4, .int .i64 n, .string s]] w fun r w' => (∃ e, r = .returned (.int .i64 e) ∧ (e = 0 ↔ OkV ⟨4, n, s⟩)) ∧ Lat w w' := by
  have hx := (Blk.new w 25 #[.int .i64 4, .int .i64 n, .string s]).cell
  by_cases hs : s.size = 0
  · obtain rfl := size_nil hs
    clear hs
    go_enter Tryd.func70, Tryd.ntmps70
    go_wp2_with fail
    all_goals (go_ret; refine ⟨⟨_, rfl, ?_⟩, Lat.al _ _⟩; clear hx; (try clear hs1 hs2); simp [toList_nil] at *; unfold OkV okN; dsimp only; have hz : (⟨#[]⟩ : ByteArray).size = 0 := rfl; (try (have hq := HS.out; have hq2 : ¬ s.size = 0 := fun h => hq (size_nil h))); omega)
  · have hs1 : ¬ s.toList = [] := fun h => hs ((toList_nil s).1 h)
    have hs2 : s.toList.isEmpty = false := by simpa using hs1
    have HS := Lib.hid hs
    clear hs
    go_enter Tryd.func70, Tryd.ntmps70
    go_wp2_with fail
    all_goals (go_ret; refine ⟨⟨_, rfl, ?_⟩, Lat.al _ _⟩; clear hx; (try clear hs1 hs2); simp [toList_nil] at *; unfold OkV okN; dsimp only; have hz : (⟨#[]⟩ : ByteArray).size = 0 := rfl; (try (have hq := HS.out; have hq2 : ¬ s.size = 0 := fun h => hq (size_nil h))); omega)
set_option maxRecDepth 100000 in
set_option maxHeartbeats 1000000 in
theorem rcheck0 (n : Int) (s : ByteArray) (w : World) : Calls Tryd.prog 73 #[.agg #[.int .i64 0, .int .i64 n, .string s]] w fun r w' => (∃ e, r = .returned (.int .i64 e) ∧ (e = 0 ↔ OkV ⟨0, n, s⟩)) ∧ Lat w w' := by
  have hx := (Blk.new w 25 #[.int .i64 0, .int .i64 n, .string s]).cell
  by_cases hs : s.size = 0
  · obtain rfl := size_nil hs
    clear hs
    go_enter Tryd.func73, Tryd.ntmps73
    go_wp2_with fail
    all_goals (go_ret; refine ⟨⟨_, rfl, ?_⟩, Lat.al _ _⟩; clear hx; (try clear hs1 hs2); simp [toList_nil] at *; unfold OkV okN; dsimp only; have hz : (⟨#[]⟩ : ByteArray).size = 0 := rfl; (try (have hq := HS.out; have hq2 : ¬ s.size = 0 := fun h => hq (size_nil h))); omega)
  · have hs1 : ¬ s.toList = [] := fun h => hs ((toList_nil s).1 h)
    have hs2 : s.toList.isEmpty = false := by simpa using hs1
    have HS := Lib.hid hs
    clear hs
    go_enter Tryd.func73, Tryd.ntmps73
    go_wp2_with fail
    all_goals (go_ret; refine ⟨⟨_, rfl, ?_⟩, Lat.al _ _⟩; clear hx; (try clear hs1 hs2); simp [toList_nil] at *; unfold OkV okN; dsimp only; have hz : (⟨#[]⟩ : ByteArray).size = 0 := rfl; (try (have hq := HS.out; have hq2 : ¬ s.size = 0 := fun h => hq (size_nil h))); omega)
set_option maxRecDepth 100000 in
set_option maxHeartbeats 1000000 in
theorem rcheck1 (n : Int) (s : ByteArray) (w : World) : Calls Tryd.prog 73 #[.agg #[.int .i64 1, .int .i64 n, .string s]] w fun r w' => (∃ e, r = .returned (.int .i64 e) ∧ (e = 0 ↔ OkV ⟨1, n, s⟩)) ∧ Lat w w' := by
  have hx := (Blk.new w 25 #[.int .i64 1, .int .i64 n, .string s]).cell
  by_cases hs : s.size = 0
  · obtain rfl := size_nil hs
    clear hs
    go_enter Tryd.func73, Tryd.ntmps73
    go_wp2_with fail
    all_goals (go_ret; refine ⟨⟨_, rfl, ?_⟩, Lat.al _ _⟩; clear hx; (try clear hs1 hs2); simp [toList_nil] at *; unfold OkV okN; dsimp only; have hz : (⟨#[]⟩ : ByteArray).size = 0 := rfl; (try (have hq := HS.out; have hq2 : ¬ s.size = 0 := fun h => hq (size_nil h))); omega)
  · have hs1 : ¬ s.toList = [] := fun h => hs ((toList_nil s).1 h)
    have hs2 : s.toList.isEmpty = false := by simpa using hs1
    have HS := Lib.hid hs
    clear hs
    go_enter Tryd.func73, Tryd.ntmps73
    go_wp2_with fail
    all_goals (go_ret; refine ⟨⟨_, rfl, ?_⟩, Lat.al _ _⟩; clear hx; (try clear hs1 hs2); simp [toList_nil] at *; unfold OkV okN; dsimp only; have hz : (⟨#[]⟩ : ByteArray).size = 0 := rfl; (try (have hq := HS.out; have hq2 : ¬ s.size = 0 := fun h => hq (size_nil h))); omega)
set_option maxRecDepth 100000 in
set_option maxHeartbeats 1000000 in
theorem rcheck2 (n : Int) (s : ByteArray) (w : World) : Calls Tryd.prog 73 #[.agg #[.int .i64 2, .int .i64 n, .string s]] w fun r w' => (∃ e, r = .returned (.int .i64 e) ∧ (e = 0 ↔ OkV ⟨2, n, s⟩)) ∧ Lat w w' := by
  have hx := (Blk.new w 25 #[.int .i64 2, .int .i64 n, .string s]).cell
  by_cases hs : s.size = 0
  · obtain rfl := size_nil hs
    clear hs
    go_enter Tryd.func73, Tryd.ntmps73
    go_wp2_with fail
    all_goals (go_ret; refine ⟨⟨_, rfl, ?_⟩, Lat.al _ _⟩; clear hx; (try clear hs1 hs2); simp [toList_nil] at *; unfold OkV okN; dsimp only; have hz : (⟨#[]⟩ : ByteArray).size = 0 := rfl; (try (have hq := HS.out; have hq2 : ¬ s.size = 0 := fun h => hq (size_nil h))); omega)
  · have hs1 : ¬ s.toList = [] := fun h => hs ((toList_nil s).1 h)
    have hs2 : s.toList.isEmpty = false := by simpa using hs1
    have HS := Lib.hid hs
    clear hs
    go_enter Tryd.func73, Tryd.ntmps73
    go_wp2_with fail
    all_goals (go_ret; refine ⟨⟨_, rfl, ?_⟩, Lat.al _ _⟩; clear hx; (try clear hs1 hs2); simp [toList_nil] at *; unfold OkV okN; dsimp only; have hz : (⟨#[]⟩ : ByteArray).size = 0 := rfl; (try (have hq := HS.out; have hq2 : ¬ s.size = 0 := fun h => hq (size_nil h))); omega)
set_option maxRecDepth 100000 in
set_option maxHeartbeats 1000000 in
theorem rcheck3 (n : Int) (s : ByteArray) (w : World) : Calls Tryd.prog 73 #[.agg #[.int .i64 3, .int .i64 n, .string s]] w fun r w' => (∃ e, r = .returned (.int .i64 e) ∧ (e = 0 ↔ OkV ⟨3, n, s⟩)) ∧ Lat w w' := by
  have hx := (Blk.new w 25 #[.int .i64 3, .int .i64 n, .string s]).cell
  by_cases hs : s.size = 0
  · obtain rfl := size_nil hs
    clear hs
    go_enter Tryd.func73, Tryd.ntmps73
    go_wp2_with fail
    all_goals (go_ret; refine ⟨⟨_, rfl, ?_⟩, Lat.al _ _⟩; clear hx; (try clear hs1 hs2); simp [toList_nil] at *; unfold OkV okN; dsimp only; have hz : (⟨#[]⟩ : ByteArray).size = 0 := rfl; (try (have hq := HS.out; have hq2 : ¬ s.size = 0 := fun h => hq (size_nil h))); omega)
  · have hs1 : ¬ s.toList = [] := fun h => hs ((toList_nil s).1 h)
    have hs2 : s.toList.isEmpty = false := by simpa using hs1
    have HS := Lib.hid hs
    clear hs
    go_enter Tryd.func73, Tryd.ntmps73
    go_wp2_with fail
    all_goals (go_ret; refine ⟨⟨_, rfl, ?_⟩, Lat.al _ _⟩; clear hx; (try clear hs1 hs2); simp [toList_nil] at *; unfold OkV okN; dsimp only; have hz : (⟨#[]⟩ : ByteArray).size = 0 := rfl; (try (have hq := HS.out; have hq2 : ¬ s.size = 0 := fun h => hq (size_nil h))); omega)
set_option maxRecDepth 100000 in
set_option maxHeartbeats 1000000 in
theorem rcheck4 (n : Int) (s : ByteArray) (w : World) : Calls Tryd.prog 73 #[.agg #[.int .i64 4, .int .i64 n, .string s]] w fun r w' => (∃ e, r = .returned (.int .i64 e) ∧ (e = 0 ↔ OkV ⟨4, n, s⟩)) ∧ Lat w w' := by
  have hx := (Blk.new w 25 #[.int .i64 4, .int .i64 n, .string s]).cell
  by_cases hs : s.size = 0
  · obtain rfl := size_nil hs
    clear hs
    go_enter Tryd.func73, Tryd.ntmps73
    go_wp2_with fail
    all_goals (go_ret; refine ⟨⟨_, rfl, ?_⟩, Lat.al _ _⟩; clear hx; (try clear hs1 hs2); simp [toList_nil] at *; unfold OkV okN; dsimp only; have hz : (⟨#[]⟩ : ByteArray).size = 0 := rfl; (try (have hq := HS.out; have hq2 : ¬ s.size = 0 := fun h => hq (size_nil h))); omega)
  · have hs1 : ¬ s.toList = [] := fun h => hs ((toList_nil s).1 h)
    have hs2 : s.toList.isEmpty = false := by simpa using hs1
    have HS := Lib.hid hs
    clear hs
    go_enter Tryd.func73, Tryd.ntmps73
    go_wp2_with fail
    all_goals (go_ret; refine ⟨⟨_, rfl, ?_⟩, Lat.al _ _⟩; clear hx; (try clear hs1 hs2); simp [toList_nil] at *; unfold OkV okN; dsimp only; have hz : (⟨#[]⟩ : ByteArray).size = 0 := rfl; (try (have hq := HS.out; have hq2 : ¬ s.size = 0 := fun h => hq (size_nil h))); omega)
set_option maxRecDepth 100000 in
set_option maxHeartbeats 1000000 in
theorem check2 (n : Int) (s : ByteArray) (w : World) : Calls Tryd.prog 70 #[.agg #[.int .i64 2, .int .i64 n, .string s]] w fun r w' => (∃ e, r = .returned (.int .i64 e) ∧ (e = 0 ↔ OkV ⟨2, n, s⟩)) ∧ Lat w w' := by
  have hx := (Blk.new w 25 #[.int .i64 2, .int .i64 n, .string s]).cell
  by_cases hs : s.size = 0
  · obtain rfl := size_nil hs
    clear hs
    go_enter Tryd.func70, Tryd.ntmps70
    go_wp2_with fail
    refine (inRange_any n _).mono ?_
    rintro r w2 ⟨rfl, rfl⟩
    by_cases hb : -1099511627776 ≤ n ∧ n ≤ 1099511627776
    · rw [decide_eq_true hb]
      go_wp2_with fail
      all_goals (go_ret; refine ⟨⟨_, rfl, ?_⟩, Lat.al _ _⟩; clear hx; (try clear hs1 hs2); simp [toList_nil] at *; unfold OkV okN; dsimp only; have hz : (⟨#[]⟩ : ByteArray).size = 0 := rfl; (try (have hq := HS.out; have hq2 : ¬ s.size = 0 := fun h => hq (size_nil h))); omega)
    · rw [decide_eq_false hb]
      go_wp2_with fail
      all_goals (go_ret; refine ⟨⟨_, rfl, ?_⟩, Lat.al _ _⟩; clear hx; (try clear hs1 hs2); simp [toList_nil] at *; unfold OkV okN; dsimp only; have hz : (⟨#[]⟩ : ByteArray).size = 0 := rfl; (try (have hq := HS.out; have hq2 : ¬ s.size = 0 := fun h => hq (size_nil h))); omega)
  · have hs1 : ¬ s.toList = [] := fun h => hs ((toList_nil s).1 h)
    have hs2 : s.toList.isEmpty = false := by simpa using hs1
    have HS := Lib.hid hs
    clear hs
    go_enter Tryd.func70, Tryd.ntmps70
    go_wp2_with fail
    refine (inRange_any n _).mono ?_
    rintro r w2 ⟨rfl, rfl⟩
    by_cases hb : -1099511627776 ≤ n ∧ n ≤ 1099511627776
    · rw [decide_eq_true hb]
      go_wp2_with fail
      all_goals (go_ret; refine ⟨⟨_, rfl, ?_⟩, Lat.al _ _⟩; clear hx; (try clear hs1 hs2); simp [toList_nil] at *; unfold OkV okN; dsimp only; have hz : (⟨#[]⟩ : ByteArray).size = 0 := rfl; (try (have hq := HS.out; have hq2 : ¬ s.size = 0 := fun h => hq (size_nil h))); omega)
    · rw [decide_eq_false hb]
      go_wp2_with fail
      all_goals (go_ret; refine ⟨⟨_, rfl, ?_⟩, Lat.al _ _⟩; clear hx; (try clear hs1 hs2); simp [toList_nil] at *; unfold OkV okN; dsimp only; have hz : (⟨#[]⟩ : ByteArray).size = 0 := rfl; (try (have hq := HS.out; have hq2 : ¬ s.size = 0 := fun h => hq (size_nil h))); omega)
set_option maxRecDepth 100000 in
set_option maxHeartbeats 1000000 in
theorem checkO (k n : Int) (s : ByteArray) (w : World) (h0 : k ≠ 0) (h1 : k ≠ 1) (h2 : k ≠ 2) (h3 : k ≠ 3) (h4 : k ≠ 4) : Calls Tryd.prog 70 #[.agg #[.int .i64 k, .int .i64 n, .string s]] w fun r w' => (∃ e, r = .returned (.int .i64 e) ∧ (e = 0 ↔ OkV ⟨k, n, s⟩)) ∧ Lat w w' := by
  have hx := (Blk.new w 25 #[.int .i64 k, .int .i64 n, .string s]).cell
  by_cases hs : s.size = 0
  · obtain rfl := size_nil hs
    clear hs
    go_enter Tryd.func70, Tryd.ntmps70
    go_wp2_with fail
    all_goals (go_ret; refine ⟨⟨_, rfl, ?_⟩, Lat.al _ _⟩; clear hx; (try clear hs1 hs2); simp [toList_nil] at *; unfold OkV okN; dsimp only; have hz : (⟨#[]⟩ : ByteArray).size = 0 := rfl; (try (have hq := HS.out; have hq2 : ¬ s.size = 0 := fun h => hq (size_nil h))); omega)
  · have hs1 : ¬ s.toList = [] := fun h => hs ((toList_nil s).1 h)
    have hs2 : s.toList.isEmpty = false := by simpa using hs1
    have HS := Lib.hid hs
    clear hs
    go_enter Tryd.func70, Tryd.ntmps70
    go_wp2_with fail
    all_goals (go_ret; refine ⟨⟨_, rfl, ?_⟩, Lat.al _ _⟩; clear hx; (try clear hs1 hs2); simp [toList_nil] at *; unfold OkV okN; dsimp only; have hz : (⟨#[]⟩ : ByteArray).size = 0 := rfl; (try (have hq := HS.out; have hq2 : ¬ s.size = 0 := fun h => hq (size_nil h))); omega)
set_option maxRecDepth 100000 in
set_option maxHeartbeats 1000000 in
theorem rcheckO (k n : Int) (s : ByteArray) (w : World) (h0 : k ≠ 0) (h1 : k ≠ 1) (h2 : k ≠ 2) (h3 : k ≠ 3) (h4 : k ≠ 4) : Calls Tryd.prog 73 #[.agg #[.int .i64 k, .int .i64 n, .string s]] w fun r w' => (∃ e, r = .returned (.int .i64 e) ∧ (e = 0 ↔ OkV ⟨k, n, s⟩)) ∧ Lat w w' := by
  have hx := (Blk.new w 25 #[.int .i64 k, .int .i64 n, .string s]).cell
  by_cases hs : s.size = 0
  · obtain rfl := size_nil hs
    clear hs
    go_enter Tryd.func73, Tryd.ntmps73
    go_wp2_with fail
    all_goals (go_ret; refine ⟨⟨_, rfl, ?_⟩, Lat.al _ _⟩; clear hx; (try clear hs1 hs2); simp [toList_nil] at *; unfold OkV okN; dsimp only; have hz : (⟨#[]⟩ : ByteArray).size = 0 := rfl; (try (have hq := HS.out; have hq2 : ¬ s.size = 0 := fun h => hq (size_nil h))); omega)
  · have hs1 : ¬ s.toList = [] := fun h => hs ((toList_nil s).1 h)
    have hs2 : s.toList.isEmpty = false := by simpa using hs1
    have HS := Lib.hid hs
    clear hs
    go_enter Tryd.func73, Tryd.ntmps73
    go_wp2_with fail
    all_goals (go_ret; refine ⟨⟨_, rfl, ?_⟩, Lat.al _ _⟩; clear hx; (try clear hs1 hs2); simp [toList_nil] at *; unfold OkV okN; dsimp only; have hz : (⟨#[]⟩ : ByteArray).size = 0 := rfl; (try (have hq := HS.out; have hq2 : ¬ s.size = 0 := fun h => hq (size_nil h))); omega)
theorem check_any (v : LVal) (w : World) : Calls Tryd.prog 70 #[.agg (vC v).toArray] w fun r w' => (∃ e, r = .returned (.int .i64 e) ∧ (e = 0 ↔ OkV v)) ∧ Lat w w' := by
  obtain ⟨k, n, s⟩ := v
  by_cases h0 : k = 0
  · subst h0; exact check0 n s w
  · by_cases h1 : k = 1
    · subst h1; exact check1 n s w
    · by_cases h2 : k = 2
      · subst h2; exact check2 n s w
      · by_cases h3 : k = 3
        · subst h3; exact check3 n s w
        · by_cases h4 : k = 4
          · subst h4; exact check4 n s w
          · exact checkO k n s w h0 h1 h2 h3 h4
theorem rcheck_any (v : LVal) (w : World) : Calls Tryd.prog 73 #[.agg (vC v).toArray] w fun r w' => (∃ e, r = .returned (.int .i64 e) ∧ (e = 0 ↔ OkV v)) ∧ Lat w w' := by
  obtain ⟨k, n, s⟩ := v
  by_cases h0 : k = 0
  · subst h0; exact rcheck0 n s w
  · by_cases h1 : k = 1
    · subst h1; exact rcheck1 n s w
    · by_cases h2 : k = 2
      · subst h2; exact rcheck2 n s w
      · by_cases h3 : k = 3
        · subst h3; exact rcheck3 n s w
        · by_cases h4 : k = 4
          · subst h4; exact rcheck4 n s w
          · exact rcheckO k n s w h0 h1 h2 h3 h4
end Go.Proofs.YtgjoojailghilaaDoor
