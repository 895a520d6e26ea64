/- Resolve: the text of a value, the program's and the reference's. -/
import Derived.Test.YtgjoojailghilaaDoorXChk
import Derived.Test.YtgjoojailghilaaDoorXQuo3
set_option linter.unusedSimpArgs false
set_option linter.unusedVariables false
namespace Go.Proofs.YtgjoojailghilaaDoor
open Go.RowKit

open Classical in
/-- The text of a value. -/
noncomputable def printB (v : LVal) : ByteArray :=
  if OkV v then (if v.k = 0 then ⟨#[110, 111, 110, 101]⟩ else if v.k = 1 then (if v.n = 1 then ⟨#[116, 114, 117, 101]⟩ else ⟨#[102, 97, 108, 115, 101]⟩) else if v.k = 2 then itoaB v.n else if v.k = 3 then ⟨#[35]⟩ ++ itoaB v.n else quoteB v.s) else ⟨#[]⟩
theorem quoteB_size (s : ByteArray) : (quoteB s).size ≤ 2 + 4 * s.size := by
  show (quoteL s).toArray.size ≤ _
  rw [List.size_toArray, quoteL, List.length_cons, List.length_append]
  have h := formsL_len s.data.toList
  have h2 : s.data.toList.length = s.size := by simp
  simp only [List.length_singleton]
  omega
theorem printB_size (v : LVal) : (printB v).size ≤ 1000 := by
  unfold printB
  by_cases h : OkV v
  · rw [if_pos h]
    obtain ⟨h1, h2, h3⟩ := h
    have hq := quoteB_size v.s
    repeat' split
    · decide
    · decide
    · decide
    · have h4 : I64 v.n := by unfold okN at h1; constructor <;> omega
      have := itoa_size h4; omega
    · have h4 : I64 v.n := by unfold okN at h1; constructor <;> omega
      have := itoa_size h4
      rw [ByteArray.size_append, show (⟨#[35]⟩ : ByteArray).size = 1 from rfl]; omega
    · omega
  · rw [if_neg h]; decide
set_option maxRecDepth 100000 in
set_option maxHeartbeats 1000000 in
theorem print_no (k n : Int) (s : ByteArray) (h : ¬ OkV ⟨k, n, s⟩) (w : World) : Calls Tryd.prog 55 #[.agg #[.int .i64 k, .int .i64 n, .string s]] w fun r w' => r = .returned (.string ⟨#[]⟩) ∧ Lat w w' := by
  have HC := fun w' => Lib.hid (show Calls Tryd.prog 70 #[.agg #[.int .i64 k, .int .i64 n, .string s]] w' _ from check_any ⟨k, n, s⟩ w')
  have hl : Lat w (w.alloc (.cells #[.int .i64 k, .int .i64 n, .string s] 25)) := Lat.al _ _
  have hb := Blk.new w 25 #[.int .i64 k, .int .i64 n, .string s]
  go_enter Tryd.func55, Tryd.ntmps55
  go_wp2_with fail
  refine (HC _).out.mono ?_
  rintro r w2 ⟨⟨e, rfl, he⟩, hl2⟩
  have cx := (hb.lat hl2).cell
  have hl3 := hl.trans hl2
  clear HC hb hl hl2
  have hq : (e != 0) = true := bne_iff_ne.2 fun h0 => h (he.1 h0)
  clear he h
  go_wp2_with fail
  go_ret
  exact ⟨rfl, hl3⟩
set_option maxRecDepth 100000 in
set_option maxHeartbeats 1000000 in
theorem print_0 (n : Int) (s : ByteArray) (h : OkV ⟨0, n, s⟩) (w : World) : Calls Tryd.prog 55 #[.agg #[.int .i64 0, .int .i64 n, .string s]] w fun r w' => r = .returned (.string ⟨#[110, 111, 110, 101]⟩) ∧ Lat w w' := by
  have HC := fun w' => Lib.hid (show Calls Tryd.prog 70 #[.agg #[.int .i64 0, .int .i64 n, .string s]] w' _ from check_any ⟨0, n, s⟩ w')
  have hl : Lat w (w.alloc (.cells #[.int .i64 0, .int .i64 n, .string s] 25)) := Lat.al _ _
  have hb := Blk.new w 25 #[.int .i64 0, .int .i64 n, .string s]
  go_enter Tryd.func55, Tryd.ntmps55
  go_wp2_with fail
  refine (HC _).out.mono ?_
  rintro r w2 ⟨⟨e, rfl, he⟩, hl2⟩
  have cx := (hb.lat hl2).cell
  have hl3 := hl.trans hl2
  clear HC hb hl hl2
  obtain rfl := he.2 h
  clear he h
  go_wp2_with fail
  go_ret
  exact ⟨rfl, hl3⟩
set_option maxRecDepth 100000 in
set_option maxHeartbeats 1000000 in
theorem print_1 (n : Int) (s : ByteArray) (h : OkV ⟨1, n, s⟩) (w : World) : Calls Tryd.prog 55 #[.agg #[.int .i64 1, .int .i64 n, .string s]] w fun r w' => r = .returned (.string (if n = 1 then ⟨#[116, 114, 117, 101]⟩ else ⟨#[102, 97, 108, 115, 101]⟩)) ∧ Lat w w' := by
  have HC := fun w' => Lib.hid (show Calls Tryd.prog 70 #[.agg #[.int .i64 1, .int .i64 n, .string s]] w' _ from check_any ⟨1, n, s⟩ w')
  have hn : n = 1 ∨ n = 0 := by obtain ⟨h1, -, -⟩ := h; unfold okN at h1; dsimp only at h1; omega
  rcases hn with rfl | rfl
  · rw [if_pos rfl]
    have hl : Lat w (w.alloc (.cells #[.int .i64 1, .int .i64 1, .string s] 25)) := Lat.al _ _
    have hb := Blk.new w 25 #[.int .i64 1, .int .i64 1, .string s]
    go_enter Tryd.func55, Tryd.ntmps55
    go_wp2_with fail
    refine (HC _).out.mono ?_
    rintro r w2 ⟨⟨e, rfl, he⟩, hl2⟩
    have cx := (hb.lat hl2).cell
    have hl3 := hl.trans hl2
    clear HC hb hl hl2
    obtain rfl := he.2 h
    clear he h
    go_wp2_with fail
    go_ret
    exact ⟨rfl, hl3⟩
  · rw [if_neg (by decide)]
    have hl : Lat w (w.alloc (.cells #[.int .i64 1, .int .i64 0, .string s] 25)) := Lat.al _ _
    have hb := Blk.new w 25 #[.int .i64 1, .int .i64 0, .string s]
    go_enter Tryd.func55, Tryd.ntmps55
    go_wp2_with fail
    refine (HC _).out.mono ?_
    rintro r w2 ⟨⟨e, rfl, he⟩, hl2⟩
    have cx := (hb.lat hl2).cell
    have hl3 := hl.trans hl2
    clear HC hb hl hl2
    obtain rfl := he.2 h
    clear he h
    go_wp2_with fail
    go_ret
    exact ⟨rfl, hl3⟩
set_option maxRecDepth 100000 in
set_option maxHeartbeats 1000000 in
theorem print_2 (n : Int) (s : ByteArray) (h : OkV ⟨2, n, s⟩) (w : World) (HD0 : ∀ w', Lat w w' → Calls Tryd.prog 71 #[.int .i64 n] w' fun r w'' => r = .returned (.string (itoaB n)) ∧ Lat w' w'') : Calls Tryd.prog 55 #[.agg #[.int .i64 2, .int .i64 n, .string s]] w fun r w' => r = .returned (.string (itoaB n)) ∧ Lat w w' := by
  have HC := fun w' => Lib.hid (show Calls Tryd.prog 70 #[.agg #[.int .i64 2, .int .i64 n, .string s]] w' _ from check_any ⟨2, n, s⟩ w')
  have hl : Lat w (w.alloc (.cells #[.int .i64 2, .int .i64 n, .string s] 25)) := Lat.al _ _
  have hb := Blk.new w 25 #[.int .i64 2, .int .i64 n, .string s]
  go_enter Tryd.func55, Tryd.ntmps55
  go_wp2_with fail
  refine (HC _).out.mono ?_
  rintro r w2 ⟨⟨e, rfl, he⟩, hl2⟩
  have cx := (hb.lat hl2).cell
  have hl3 := hl.trans hl2
  clear HC hb hl hl2
  obtain rfl := he.2 h
  have HD := Lib.hid (HD0 w2 hl3)
  clear he h HD0
  go_wp2_with fail
  refine HD.out.mono ?_
  rintro r w4 ⟨rfl, hl4⟩
  go_wp2_with fail
  go_ret
  exact ⟨rfl, hl3.trans hl4⟩
set_option maxRecDepth 100000 in
set_option maxHeartbeats 1000000 in
theorem print_3 (n : Int) (s : ByteArray) (h : OkV ⟨3, n, s⟩) (w : World) (HD0 : ∀ w', Lat w w' → Calls Tryd.prog 71 #[.int .i64 n] w' fun r w'' => r = .returned (.string (itoaB n)) ∧ Lat w' w'') : Calls Tryd.prog 55 #[.agg #[.int .i64 3, .int .i64 n, .string s]] w fun r w' => r = .returned (.string ((⟨#[35]⟩ : ByteArray) ++ itoaB n)) ∧ Lat w w' := by
  have HC := fun w' => Lib.hid (show Calls Tryd.prog 70 #[.agg #[.int .i64 3, .int .i64 n, .string s]] w' _ from check_any ⟨3, n, s⟩ w')
  have hl : Lat w (w.alloc (.cells #[.int .i64 3, .int .i64 n, .string s] 25)) := Lat.al _ _
  have hb := Blk.new w 25 #[.int .i64 3, .int .i64 n, .string s]
  go_enter Tryd.func55, Tryd.ntmps55
  go_wp2_with fail
  refine (HC _).out.mono ?_
  rintro r w2 ⟨⟨e, rfl, he⟩, hl2⟩
  have cx := (hb.lat hl2).cell
  have hl3 := hl.trans hl2
  clear HC hb hl hl2
  obtain rfl := he.2 h
  have HD := Lib.hid (HD0 w2 hl3)
  have hs : (itoaB n).size ≤ 21 := itoa_size (by obtain ⟨h1, -, -⟩ := h; unfold okN at h1; dsimp only at h1; constructor <;> omega)
  clear he h HD0
  go_wp2_with fail
  refine HD.out.mono ?_
  rintro r w4 ⟨rfl, hl4⟩
  go_wp2_with fail
  go_ret
  exact ⟨rfl, hl3.trans hl4⟩
set_option maxRecDepth 100000 in
set_option maxHeartbeats 1000000 in
theorem print_4 (n : Int) (s : ByteArray) (h : OkV ⟨4, n, s⟩) (w : World) : Calls Tryd.prog 55 #[.agg #[.int .i64 4, .int .i64 n, .string s]] w fun r w' => r = .returned (.string (quoteB s)) ∧ Lat w w' := by
  have HC := fun w' => Lib.hid (show Calls Tryd.prog 70 #[.agg #[.int .i64 4, .int .i64 n, .string s]] w' _ from check_any ⟨4, n, s⟩ w')
  have hl : Lat w (w.alloc (.cells #[.int .i64 4, .int .i64 n, .string s] 25)) := Lat.al _ _
  have hb := Blk.new w 25 #[.int .i64 4, .int .i64 n, .string s]
  go_enter Tryd.func55, Tryd.ntmps55
  go_wp2_with fail
  refine (HC _).out.mono ?_
  rintro r w2 ⟨⟨e, rfl, he⟩, hl2⟩
  have cx := (hb.lat hl2).cell
  have hl3 := hl.trans hl2
  clear HC hb hl hl2
  obtain rfl := he.2 h
  have HD := Lib.hid (quote_any s (by have := h.2.1; dsimp only at this; omega) w2)
  clear he h
  go_wp2_with fail
  refine HD.out.mono ?_
  rintro r w4 ⟨rfl, hl4⟩
  go_wp2_with fail
  go_ret
  exact ⟨rfl, hl3.trans hl4⟩
theorem print_any (v : LVal) (w : World) (HD0 : v.n.natAbs ≤ 1099511627776 → ∀ w', Lat w w' → Calls Tryd.prog 71 #[.int .i64 v.n] w' fun r w'' => r = .returned (.string (itoaB v.n)) ∧ Lat w' w'') : Calls Tryd.prog 55 #[.agg (vC v).toArray] w fun r w' => r = .returned (.string (printB v)) ∧ Lat w w' := by
  unfold printB
  by_cases h : OkV v
  · rw [if_pos h]
    obtain ⟨k, n, s⟩ := v
    have hb : n.natAbs ≤ 1099511627776 := by obtain ⟨h1, -, -⟩ := h; unfold okN at h1; dsimp only at h1; omega
    have hk : k = 0 ∨ k = 1 ∨ k = 2 ∨ k = 3 ∨ k = 4 := by obtain ⟨h1, -, -⟩ := h; unfold okN at h1; dsimp only at h1; omega
    rcases hk with rfl | rfl | rfl | rfl | rfl
    · exact print_0 n s h w
    · exact print_1 n s h w
    · exact print_2 n s h w (HD0 hb)
    · exact print_3 n s h w (HD0 hb)
    · exact print_4 n s h w
  · rw [if_neg h]
    obtain ⟨k, n, s⟩ := v
    exact print_no k n s h w
set_option maxRecDepth 100000 in
set_option maxHeartbeats 1000000 in
theorem rprint_no (k n : Int) (s : ByteArray) (h : ¬ OkV ⟨k, n, s⟩) (w : World) : Calls Tryd.prog 57 #[.agg #[.int .i64 k, .int .i64 n, .string s]] w fun r w' => r = .returned (.string ⟨#[]⟩) ∧ Lat w w' := by
  have HC := fun w' => Lib.hid (show Calls Tryd.prog 73 #[.agg #[.int .i64 k, .int .i64 n, .string s]] w' _ from rcheck_any ⟨k, n, s⟩ w')
  have hl : Lat w (w.alloc (.cells #[.int .i64 k, .int .i64 n, .string s] 25)) := Lat.al _ _
  have hb := Blk.new w 25 #[.int .i64 k, .int .i64 n, .string s]
  go_enter Tryd.func57, Tryd.ntmps57
  go_wp2_with fail
  refine (HC _).out.mono ?_
  rintro r w2 ⟨⟨e, rfl, he⟩, hl2⟩
  have cx := (hb.lat hl2).cell
  have hl3 := hl.trans hl2
  clear HC hb hl hl2
  have hq : (e != 0) = true := bne_iff_ne.2 fun h0 => h (he.1 h0)
  clear he h
  go_wp2_with fail
  go_ret
  exact ⟨rfl, hl3⟩
set_option maxRecDepth 100000 in
set_option maxHeartbeats 1000000 in
theorem rprint_0 (n : Int) (s : ByteArray) (h : OkV ⟨0, n, s⟩) (w : World) : Calls Tryd.prog 57 #[.agg #[.int .i64 0, .int .i64 n, .string s]] w fun r w' => r = .returned (.string ⟨#[110, 111, 110, 101]⟩) ∧ Lat w w' := by
  have HC := fun w' => Lib.hid (show Calls Tryd.prog 73 #[.agg #[.int .i64 0, .int .i64 n, .string s]] w' _ from rcheck_any ⟨0, n, s⟩ w')
  have hl : Lat w (w.alloc (.cells #[.int .i64 0, .int .i64 n, .string s] 25)) := Lat.al _ _
  have hb := Blk.new w 25 #[.int .i64 0, .int .i64 n, .string s]
  go_enter Tryd.func57, Tryd.ntmps57
  go_wp2_with fail
  refine (HC _).out.mono ?_
  rintro r w2 ⟨⟨e, rfl, he⟩, hl2⟩
  have cx := (hb.lat hl2).cell
  have hl3 := hl.trans hl2
  clear HC hb hl hl2
  obtain rfl := he.2 h
  clear he h
  go_wp2_with fail
  go_ret
  exact ⟨rfl, hl3⟩
set_option maxRecDepth 100000 in
set_option maxHeartbeats 1000000 in
theorem rprint_1 (n : Int) (s : ByteArray) (h : OkV ⟨1, n, s⟩) (w : World) : Calls Tryd.prog 57 #[.agg #[.int .i64 1, .int .i64 n, .string s]] w fun r w' => r = .returned (.string (if n = 1 then ⟨#[116, 114, 117, 101]⟩ else ⟨#[102, 97, 108, 115, 101]⟩)) ∧ Lat w w' := by
  have HC := fun w' => Lib.hid (show Calls Tryd.prog 73 #[.agg #[.int .i64 1, .int .i64 n, .string s]] w' _ from rcheck_any ⟨1, n, s⟩ w')
  have hn : n = 1 ∨ n = 0 := by obtain ⟨h1, -, -⟩ := h; unfold okN at h1; dsimp only at h1; omega
  rcases hn with rfl | rfl
  · rw [if_pos rfl]
    have hl : Lat w (w.alloc (.cells #[.int .i64 1, .int .i64 1, .string s] 25)) := Lat.al _ _
    have hb := Blk.new w 25 #[.int .i64 1, .int .i64 1, .string s]
    go_enter Tryd.func57, Tryd.ntmps57
    go_wp2_with fail
    refine (HC _).out.mono ?_
    rintro r w2 ⟨⟨e, rfl, he⟩, hl2⟩
    have cx := (hb.lat hl2).cell
    have hl3 := hl.trans hl2
    clear HC hb hl hl2
    obtain rfl := he.2 h
    clear he h
    go_wp2_with fail
    go_ret
    exact ⟨rfl, hl3⟩
  · rw [if_neg (by decide)]
    have hl : Lat w (w.alloc (.cells #[.int .i64 1, .int .i64 0, .string s] 25)) := Lat.al _ _
    have hb := Blk.new w 25 #[.int .i64 1, .int .i64 0, .string s]
    go_enter Tryd.func57, Tryd.ntmps57
    go_wp2_with fail
    refine (HC _).out.mono ?_
    rintro r w2 ⟨⟨e, rfl, he⟩, hl2⟩
    have cx := (hb.lat hl2).cell
    have hl3 := hl.trans hl2
    clear HC hb hl hl2
    obtain rfl := he.2 h
    clear he h
    go_wp2_with fail
    go_ret
    exact ⟨rfl, hl3⟩
set_option maxRecDepth 100000 in
set_option maxHeartbeats 1000000 in
theorem rprint_2 (n : Int) (s : ByteArray) (h : OkV ⟨2, n, s⟩) (w : World) (HD0 : ∀ w', Lat w w' → Calls Tryd.prog 74 #[.int .i64 n] w' fun r w'' => r = .returned (.string (itoaB n)) ∧ Lat w' w'') : Calls Tryd.prog 57 #[.agg #[.int .i64 2, .int .i64 n, .string s]] w fun r w' => r = .returned (.string (itoaB n)) ∧ Lat w w' := by
  have HC := fun w' => Lib.hid (show Calls Tryd.prog 73 #[.agg #[.int .i64 2, .int .i64 n, .string s]] w' _ from rcheck_any ⟨2, n, s⟩ w')
  have hl : Lat w (w.alloc (.cells #[.int .i64 2, .int .i64 n, .string s] 25)) := Lat.al _ _
  have hb := Blk.new w 25 #[.int .i64 2, .int .i64 n, .string s]
  go_enter Tryd.func57, Tryd.ntmps57
  go_wp2_with fail
  refine (HC _).out.mono ?_
  rintro r w2 ⟨⟨e, rfl, he⟩, hl2⟩
  have cx := (hb.lat hl2).cell
  have hl3 := hl.trans hl2
  clear HC hb hl hl2
  obtain rfl := he.2 h
  have HD := Lib.hid (HD0 w2 hl3)
  clear he h HD0
  go_wp2_with fail
  refine HD.out.mono ?_
  rintro r w4 ⟨rfl, hl4⟩
  go_wp2_with fail
  go_ret
  exact ⟨rfl, hl3.trans hl4⟩
set_option maxRecDepth 100000 in
set_option maxHeartbeats 1000000 in
theorem rprint_3 (n : Int) (s : ByteArray) (h : OkV ⟨3, n, s⟩) (w : World) (HD0 : ∀ w', Lat w w' → Calls Tryd.prog 74 #[.int .i64 n] w' fun r w'' => r = .returned (.string (itoaB n)) ∧ Lat w' w'') : Calls Tryd.prog 57 #[.agg #[.int .i64 3, .int .i64 n, .string s]] w fun r w' => r = .returned (.string ((⟨#[35]⟩ : ByteArray) ++ itoaB n)) ∧ Lat w w' := by
  have HC := fun w' => Lib.hid (show Calls Tryd.prog 73 #[.agg #[.int .i64 3, .int .i64 n, .string s]] w' _ from rcheck_any ⟨3, n, s⟩ w')
  have hl : Lat w (w.alloc (.cells #[.int .i64 3, .int .i64 n, .string s] 25)) := Lat.al _ _
  have hb := Blk.new w 25 #[.int .i64 3, .int .i64 n, .string s]
  go_enter Tryd.func57, Tryd.ntmps57
  go_wp2_with fail
  refine (HC _).out.mono ?_
  rintro r w2 ⟨⟨e, rfl, he⟩, hl2⟩
  have cx := (hb.lat hl2).cell
  have hl3 := hl.trans hl2
  clear HC hb hl hl2
  obtain rfl := he.2 h
  have HD := Lib.hid (HD0 w2 hl3)
  have hs : (itoaB n).size ≤ 21 := itoa_size (by obtain ⟨h1, -, -⟩ := h; unfold okN at h1; dsimp only at h1; constructor <;> omega)
  clear he h HD0
  go_wp2_with fail
  refine HD.out.mono ?_
  rintro r w4 ⟨rfl, hl4⟩
  go_wp2_with fail
  go_ret
  exact ⟨rfl, hl3.trans hl4⟩
set_option maxRecDepth 100000 in
set_option maxHeartbeats 1000000 in
theorem rprint_4 (n : Int) (s : ByteArray) (h : OkV ⟨4, n, s⟩) (w : World) : Calls Tryd.prog 57 #[.agg #[.int .i64 4, .int .i64 n, .string s]] w fun r w' => r = .returned (.string (quoteB s)) ∧ Lat w w' := by
  have HC := fun w' => Lib.hid (show Calls Tryd.prog 73 #[.agg #[.int .i64 4, .int .i64 n, .string s]] w' _ from rcheck_any ⟨4, n, s⟩ w')
  have hl : Lat w (w.alloc (.cells #[.int .i64 4, .int .i64 n, .string s] 25)) := Lat.al _ _
  have hb := Blk.new w 25 #[.int .i64 4, .int .i64 n, .string s]
  go_enter Tryd.func57, Tryd.ntmps57
  go_wp2_with fail
  refine (HC _).out.mono ?_
  rintro r w2 ⟨⟨e, rfl, he⟩, hl2⟩
  have cx := (hb.lat hl2).cell
  have hl3 := hl.trans hl2
  clear HC hb hl hl2
  obtain rfl := he.2 h
  have HD := Lib.hid (rquote_any s (by have := h.2.1; dsimp only at this; omega) w2)
  clear he h
  go_wp2_with fail
  refine HD.out.mono ?_
  rintro r w4 ⟨rfl, hl4⟩
  go_wp2_with fail
  go_ret
  exact ⟨rfl, hl3.trans hl4⟩
theorem rprint_any (v : LVal) (w : World) (HD0 : v.n.natAbs ≤ 1099511627776 → ∀ w', Lat w w' → Calls Tryd.prog 74 #[.int .i64 v.n] w' fun r w'' => r = .returned (.string (itoaB v.n)) ∧ Lat w' w'') : Calls Tryd.prog 57 #[.agg (vC v).toArray] w fun r w' => r = .returned (.string (printB v)) ∧ Lat w w' := by
  unfold printB
  by_cases h : OkV v
  · rw [if_pos h]
    obtain ⟨k, n, s⟩ := v
    have hb : n.natAbs ≤ 1099511627776 := by obtain ⟨h1, -, -⟩ := h; unfold okN at h1; dsimp only at h1; omega
    have hk : k = 0 ∨ k = 1 ∨ k = 2 ∨ k = 3 ∨ k = 4 := by obtain ⟨h1, -, -⟩ := h; unfold okN at h1; dsimp only at h1; omega
    rcases hk with rfl | rfl | rfl | rfl | rfl
    · exact rprint_0 n s h w
    · exact rprint_1 n s h w
    · exact rprint_2 n s h w (HD0 hb)
    · exact rprint_3 n s h w (HD0 hb)
    · exact rprint_4 n s h w
  · rw [if_neg h]
    obtain ⟨k, n, s⟩ := v
    exact rprint_no k n s h w
theorem print_all (v : LVal) (w : World) (ht : Tab w) : Calls Tryd.prog 55 #[.agg (vC v).toArray] w fun r w' => r = .returned (.string (printB v)) ∧ Lat w w' :=
  print_any v w fun hb w' hl => ndigits_any v.n ⟨by omega, by omega⟩ w' (ht.lat hl)
theorem rprint_all (v : LVal) (w : World) : Calls Tryd.prog 57 #[.agg (vC v).toArray] w fun r w' => r = .returned (.string (printB v)) ∧ Lat w w' :=
  rprint_any v w fun hb w' hl => rdigits_any v.n hb w'
end Go.Proofs.YtgjoojailghilaaDoor
