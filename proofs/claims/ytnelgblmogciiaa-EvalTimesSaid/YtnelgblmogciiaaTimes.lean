/- EvalTimes. -/
import Derived.Test.YtnelgblmogciiaaAwake2
set_option linter.unusedSimpArgs false
set_option linter.unusedVariables false
namespace Go.Proofs.Ytnelgblmogciiaa
open Go.RowKit

def timeH (n m : Int) : Hd := ⟨4, n, m, noStr, 0, 0, noStr, 0, noStr, noStr⟩
def viewT (t : Int) : LView := ⟨[], noStr, t, []⟩
theorem viewT_is (t : Int) (ht : I64 t) (B : Nat) (W : World) (A A' : Option Addr) (c c' : Nat) : IsView B W (viewT t) [.slice A 0 c, .string noStr, .int .i64 t, .slice A' 0 c'] :=
  ⟨A, c, A', c', rfl, fun h => by simp [viewT] at h, fun h => by simp [viewT] at h, ht, by simp [viewT], by simp [viewT]⟩
theorem time_node (n m : Int) (h1 : 0 ≤ n) (h2 : n < 1440) (h3 : 0 ≤ m) (h4 : m < 1440) : nodeCheck (timeH n m) 0 = 0 := by
  have hs : (timeH n m).spareB = true := by
    have h0 : noStr.size = 0 := rfl
    simp [Hd.spareB, spareP, timeH, h0]
  have hr : (timeH n m).rangesB = true := by simp [Hd.rangesB, rangesP, timeH]; omega
  unfold nodeCheck
  rw [hs, hr]
  simp [timeH, kidsOk]
theorem time_check (n m : Int) (h1 : 0 ≤ n) (h2 : n < 1440) (h3 : 0 ≤ m) (h4 : m < 1440) : checkE (.mk (timeH n m) []) = 0 := by
  have h := time_node n m h1 h2 h3 h4
  simp only [checkE, rwalk, rwalkL, List.length_nil]
  simp [h]
theorem time_eval (t n m : Int) (h1 : 0 ≤ n) (h2 : n < 1440) (h3 : 0 ≤ m) (h4 : m < 1440) : evalE (viewT t) (.mk (timeH n m) []) = if t < 0 then unknownE else truthE (decide (duringP (ofDayI t) n m)) := by
  rw [evalE, if_pos (time_check n m h1 h2 h3 h4)]
  simp [findS, nodeE, timeH, viewT]
  rfl

theorem evalT_any (t n m : Int) (ht : I64 t) (h1 : 0 ≤ n) (h2 : n < 1440) (h3 : 0 ≤ m) (h4 : m < 1440) (E : EV) (hE : (if t < 0 then unknownE else truthE (decide (duringP (ofDayI t) n m))) = E) (W : World) :
    Calls Try.prog 19 #[.agg #[.slice none 0 0, .string { data := #[] }, .int .i64 t, .slice none 0 0], .agg #[.int .i64 4, .int .i64 n, .int .i64 m, .string { data := #[] }, .int .i64 0, .int .i64 0, .string { data := #[] }, .int .i64 0, .string { data := #[] }, .string { data := #[] }, .slice none 0 0]] W fun r w' => r = .returned E.res ∧ Below W.heap.size W w' := by
  have h := eval_any (viewT t) _ [.slice none 0 0, .string noStr, .int .i64 t, .slice none 0 0] _ W.heap.size W (Nat.le_refl _) (viewT_is t ht _ _ _ _ _ _) (leaf_is _ _ (timeH n m) ⟨by unfold I64; simp [timeH], by unfold I64; simp [timeH]; omega, by unfold I64; simp [timeH]; omega, zero_I64, zero_I64, zero_I64⟩ none 0)
  rw [time_eval t n m h1 h2 h3 h4, hE] at h
  exact h

theorem times_one (t n m : Int) (h : n ≠ m) : bit (decide (duringP t n m)) ≠ bit (decide (duringP t m n)) := by
  have : decide (duringP t n m) = !decide (duringP t m n) := by
    rw [Bool.eq_iff_iff]; simp only [decide_eq_true_eq, Bool.not_eq_true', decide_eq_false_iff_not]
    unfold duringP; grind
  rw [this]
  cases decide (duringP t m n) <;> simp [bit]

set_option maxRecDepth 100000 in
set_option maxHeartbeats 4000000 in
theorem evalTimes_any (t n m : Int) (ht : I64 t) (w : World) :
    Calls Try.prog 7 #[.int .i64 t, .int .i64 n, .int .i64 m] w fun r w' => r = .returned (.bool true) ∧ Below w.heap.size w w' := by
  by_cases bad : (0 ≤ n ∧ n < 1440) ∧ (0 ≤ m ∧ m < 1440) ∧ n ≠ m
  · obtain ⟨⟨a1, a2⟩, ⟨a3, a4⟩, a5⟩ := bad
    have g5 : (n == m) = false := by simpa using a5
    by_cases hm : t < 0
    · go_enter Try.func7, Try.ntmps7
      go_wp2_with fail
      refine (evalT_any t n m ht a1 a2 a3 a4 _ (if_pos hm) _).mono ?_
      rintro r w1 ⟨rfl, hb1⟩
      have hv1 := (Blk.new w _ _).below hb1
      have cv1 := hv1.cell
      have lv1 := hv1.lt
      have hB1 := ((Below.refl w.heap.size w).al _).th hb1
      simp only [unknownE]
      go_wp2_with fail
      refine (evalT_any t m n ht a3 a4 a1 a2 _ (if_pos hm) _).mono ?_
      rintro r w2 ⟨rfl, hb2⟩
      have hB2 := (hB1.al _).th hb2
      simp only [unknownE]
      clear cv1
      go_wp2_with fail
      refine (awake_any _).mono ?_
      rintro r w3 ⟨rfl, hb3⟩
      go_wp2_with fail
      go_ret
      exact ⟨rfl, (hB2.al _).th hb3⟩
    · have K1 := fun W => Lib.hid (evalT_any t n m ht a1 a2 a3 a4 _ (if_neg hm) W)
      have K2 := fun W => Lib.hid (evalT_any t m n ht a3 a4 a1 a2 _ (if_neg hm) W)
      have HN := Lib.hid (times_one (ofDayI t) n m a5)
      go_enter Try.func7, Try.ntmps7
      go_wp2_with fail
      refine (K1 _).out.mono ?_
      rintro r w1 ⟨rfl, hb1⟩
      have hv1 := (Blk.new w _ _).below hb1
      have cv1 := hv1.cell
      have lv1 := hv1.lt
      have hB1 := ((Below.refl w.heap.size w).al _).th hb1
      simp only [truthE]
      generalize bit (decide (duringP (ofDayI t) n m)) = X1 at *
      go_wp2_with fail
      refine (K2 _).out.mono ?_
      rintro r w2 ⟨rfl, hb2⟩
      have hx1 := (Blk.new w1 _ _).below hb2
      have cx1 := hx1.cell
      have lx1 := hx1.lt
      have hB2 := (hB1.al _).th hb2
      simp only [truthE]
      generalize bit (decide (duringP (ofDayI t) m n)) = X2 at *
      have HX := HN.out
      have gX : (X1 == X2) = false := by simpa using HX
      clear cv1 HN K1 K2
      go_wp2_with fail
      refine (awake_any _).mono ?_
      rintro r w3 ⟨rfl, hb3⟩
      go_wp2_with fail
      go_ret
      exact ⟨rfl, (hB2.al _).th hb3⟩
  · rcases (by omega : n < 0 ∨ (0 ≤ n ∧ 1440 ≤ n) ∨ ((0 ≤ n ∧ n < 1440) ∧ m < 0) ∨ ((0 ≤ n ∧ n < 1440) ∧ 0 ≤ m ∧ 1440 ≤ m) ∨ ((0 ≤ n ∧ n < 1440) ∧ n = m)) with h | ⟨h, h'⟩ | ⟨⟨h, h'⟩, h''⟩ | ⟨⟨h, h'⟩, h'', h'''⟩ | ⟨⟨h, h'⟩, rfl⟩
    all_goals
      clear bad
      go_enter Try.func7, Try.ntmps7
      go_wp2_with fail
      refine (awake_any _).mono ?_
      rintro r w3 ⟨rfl, hb3⟩
      go_wp2_with fail
      go_ret
      exact ⟨rfl, hb3⟩

end Go.Proofs.Ytnelgblmogciiaa
