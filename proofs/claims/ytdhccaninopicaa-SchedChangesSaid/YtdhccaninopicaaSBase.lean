/- The small functions of the weekly schedules; lists of spans in memory. -/
import Derived.Test.YtdhccaninopicaaGenRead
import Derived.Test.YtdhccaninopicaaRely
import Derived.Test.YtdhccaninopicaaSPlain2
set_option linter.unusedSimpArgs false
set_option linter.unusedVariables false
namespace Go.Proofs.Ytdhccaninopicaa
open Go.RowKit

/-- The cells of a span. -/
def spC (s : Sp) : List Value := [.int .i64 s.1, .int .i64 s.2]
theorem spC_len (s : Sp) : (spC s).length = 2 := rfl
theorem spC_all {l : List Sp} : ∀ r ∈ l.map spC, r.length = 2 := fun r hr => by obtain ⟨s, _, rfl⟩ := List.mem_map.1 hr; rfl
theorem spC_one {l : List Sp} : ∀ u ∈ (l.map spC).flatten, u.oneCell' = true := fun u hu => by
  obtain ⟨r, hr, hu⟩ := List.mem_flatten.1 hu
  obtain ⟨s, _, rfl⟩ := List.mem_map.1 hr
  simp only [spC, List.mem_cons, List.not_mem_nil, or_false] at hu
  rcases hu with rfl | rfl <;> rfl
theorem ine {a b : Int} (h : a ≠ b) : (a == b) = false ∧ (a != b) = true ∧ ¬ a = b := ⟨by simpa using h, by simpa using h, h⟩

set_option maxHeartbeats 400000 in
theorem valid_any (a b : Int) (w : World) : Calls Try.prog 32 #[.agg #[.int .i64 a, .int .i64 b]] w fun r w' => r = .returned (.bool (spOk (a, b))) ∧ Below w.heap.size w w' := by
  go_enter Try.func32, Try.ntmps32
  go_wp2_with fail
  all_goals go_ret
  all_goals (refine ⟨ret_bool ?_, (Below.refl _ _).alloc (Nat.le_refl _) _⟩; unfold spOk; grind)
set_option maxHeartbeats 400000 in
theorem rvalid_any (a b : Int) (w : World) : Calls Try.prog 40 #[.agg #[.int .i64 a, .int .i64 b]] w fun r w' => r = .returned (.bool (spOk (a, b))) ∧ Below w.heap.size w w' := by
  go_enter Try.func40, Try.ntmps40
  go_wp2_with fail
  all_goals go_ret
  all_goals (refine ⟨ret_bool ?_, (Below.refl _ _).alloc (Nat.le_refl _) _⟩; unfold spOk; grind)
theorem tmod_bd (m : Int) : -10080 < m.tmod 10080 ∧ m.tmod 10080 < 10080 :=
  ⟨Int.lt_tmod_of_pos m (by omega), Int.tmod_lt_of_pos m (by omega)⟩
set_option maxHeartbeats 400000 in
theorem wrap_any (m : Int) (w : World) (hm : I64 m) : Calls Try.prog 38 #[.int .i64 m] w fun r w' => r = .returned (.int .i64 (wrapI m)) ∧ w = w' := by
  obtain ⟨hm1, hm2⟩ := hm
  have hw := wrapI_tmod m
  obtain ⟨ht1, ht2⟩ := tmod_bd m
  by_cases h0 : m.tmod 10080 < 0
  · rw [if_pos h0] at hw
    have HW := Lib.hid hw
    clear hw
    have h0' : decide (m.tmod 10080 < 0) = true := by simpa using h0
    go_enter Try.func38, Try.ntmps38
    go_wp2_with fail
    go_ret
    exact ⟨ret_int HW.out, rfl⟩
  · rw [if_neg h0] at hw
    have HW := Lib.hid hw
    clear hw
    have h0' : decide (m.tmod 10080 < 0) = false := by simpa using h0
    go_enter Try.func38, Try.ntmps38
    go_wp2_with fail
    go_ret
    exact ⟨ret_int HW.out, rfl⟩
set_option maxHeartbeats 400000 in
theorem minute_any (m : Int) (w : World) (hm : I64 m) : Calls Try.prog 39 #[.int .i64 m] w fun r w' => r = .returned (.int .i64 (wrapI m)) ∧ w = w' := by
  obtain ⟨hm1, hm2⟩ := hm
  have hw := wrapI_tmod m
  obtain ⟨ht1, ht2⟩ := tmod_bd m
  by_cases h0 : m.tmod 10080 < 0
  · rw [if_pos h0] at hw
    have HW := Lib.hid hw
    clear hw
    have h0' : decide (m.tmod 10080 < 0) = true := by simpa using h0
    go_enter Try.func39, Try.ntmps39
    go_wp2_with fail
    go_ret
    exact ⟨ret_int HW.out, rfl⟩
  · rw [if_neg h0] at hw
    have HW := Lib.hid hw
    clear hw
    have h0' : decide (m.tmod 10080 < 0) = false := by simpa using h0
    go_enter Try.func39, Try.ntmps39
    go_wp2_with fail
    go_ret
    exact ⟨ret_int HW.out, rfl⟩

-- the k-th span of a slice that came in: $1 what is known of the rest, $2 its equation for one span more
theorem spIn_mk {a b m : Int} : spIn (a, b) m = (spOk (a, b) && (decide (a ≤ m) && decide (m < b))) := by
  unfold spIn; simp only [Bool.decide_and]
set_option maxHeartbeats 2000000 in
theorem has_any (l : List Sp) (A : Option Addr) (c : Nat) (m : Int) (B : Nat) (w : World) (hB : B ≤ w.heap.size) (hr : IsRows B w 2 (l.map spC) A) (hl : l.length ≤ 140737488351232) (hm : I64 m) :
    Calls Try.prog 18 #[.slice A l.length c, .int .i64 m] w fun r w' => r = .returned (.bool (memS l (wrapI m))) ∧ Below w.heap.size w w' := by
  have HW := fun w => Lib.hid (wrap_any m w hm)
  obtain ⟨hm1, hm2⟩ := hm
  have hM := wrapI_bd m
  generalize wrapI m = M at *
  go_enter Try.func18, Try.ntmps18
  go_wp2_with (go_at_call 38; refine (HW _).out.mono ?_; rintro r w2 ⟨rfl, rfl⟩)
  go_loopw [11] (fun i wr => ∃ k : Nat, k ≤ l.length ∧ i = .int .i64 k ∧ Hid (memS l M = memS (l.drop k) M) ∧ Below w.heap.size w wr) (fun i _ => l.length - (intOf i).toNat)
  case atStart => exact ⟨0, Nat.zero_le _, rfl, rfl, Below.refl _ _⟩
  case round =>
    clear HW
    obtain ⟨k, hkl, rfl, HH, hbw⟩ := hrel
    by_cases hlk : k < l.length
    · obtain ⟨b, off, rfl, hbB, hrow⟩ := hr (by simp; omega)
      have hbl : b < wr.heap.size := by have := hbw.size; omega
      have hr1 := (hrow k (by simpa using hlk)).below hbw (Nat.lt_of_lt_of_le hbB hB)
      have hst := HH.out
      rw [List.drop_eq_getElem_cons hlk, memS_cons] at hst
      simp only [List.getElem_map] at hr1
      clear HH hrow hr
      generalize l[k] = s at *
      obtain ⟨sf, st⟩ := s
      simp only [spC] at hr1
      rw [spIn_mk] at hst
      have HV := fun w => Lib.hid (valid_any sf st w)
      generalize spOk (sf, st) = ok at *
      cases ok
      · rw [Bool.false_and, Bool.false_or] at hst
        have HST := Lib.hid hst
        clear hst
        go_wp2_with (first | (with_reducible refine wpList_load_at rfl 35 _ rfl b (off + k * 2) rfl _ _ hr1 Try.underlying35 rfl (by kernel_rfl) ?_) | (go_at_call 32; refine (HV _).out.mono ?_; rintro r w2 ⟨rfl, hb2⟩))
        go_roundw
        case rel => exact ⟨k + 1, by omega, by go_num, HST, (hbw.al _).th hb2⟩
        case measure => simp [intOf]; omega
      · rw [Bool.true_and] at hst
        have hsf : decide (sf ≤ M) = true ∨ decide (sf ≤ M) = false := by cases decide (sf ≤ M) <;> simp
        have hst' : decide (M < st) = true ∨ decide (M < st) = false := by cases decide (M < st) <;> simp
        rcases hsf with e1 | e1 <;> rcases hst' with e2 | e2
        all_goals
          rw [e1, e2] at hst
          simp only [Bool.and_true, Bool.true_and, Bool.and_false, Bool.false_and, Bool.or_false, Bool.false_or, Bool.true_or, Bool.and_self] at hst
          have HST := Lib.hid hst
          clear hst
          have hz : wr.heap.size < (wr.alloc (.cells #[.int .i64 sf, .int .i64 st] 35)).heap.size := by simp
          go_wp2_with (first | (with_reducible refine wpList_load_at rfl 35 _ rfl b (off + k * 2) rfl _ _ hr1 Try.underlying35 rfl (by kernel_rfl) ?_) | (go_at_call 32; refine (HV _).out.mono ?_; rintro r w2 ⟨rfl, hb2⟩; have kB := ((Blk.new wr 35 #[.int .i64 sf, .int .i64 st]).below hb2).cell; have g0 := kB 0; have g1 := kB 1; simp only [List.getElem?_toArray, List.getElem?_cons_zero, List.getElem?_cons_succ] at g0 g1; clear kB))
        · go_ret
          exact ⟨ret_bool HST.out.symm, (hbw.al _).th hb2⟩
        all_goals
          go_roundw
          case rel => exact ⟨k + 1, by omega, by go_num, HST, (hbw.al _).th hb2⟩
          case measure => simp [intOf]; omega
    · have hst := HH.out
      rw [List.drop_of_length_le (by omega)] at hst
      go_wp2_with fail
      go_ret
      exact ⟨ret_bool hst.symm, hbw⟩

end Go.Proofs.Ytdhccaninopicaa
