/- Whether minutes are in a schedule, checks, equality of lists of spans, the reference's next change. -/
import Derived.Test.YtdhccaninopicaaSRef2
import Derived.Deep.DeepCutAuto
set_option linter.unusedSimpArgs false
set_option linter.unusedVariables false
namespace Go.Proofs.Ytdhccaninopicaa
open Go.RowKit

set_option maxHeartbeats 2000000 in
theorem rhas_any (l : List Sp) (A : Option Addr) (c : Nat) (m : Int) (B : Nat) (w : World) (hB : B ≤ w.heap.size) (hr : IsRows B w 2 (l.map spC) A) (hl : l.length ≤ 140737488351232) (hm : I64 m) :
    Calls Try.prog 19 #[.slice A l.length c, .int .i64 m] w fun r w' => r = .returned (.bool (memS l (wrapI m))) ∧ Below w.heap.size w w' := by
  have HW := fun w => Lib.hid (minute_any m w hm)
  obtain ⟨hm1, hm2⟩ := hm
  have hM := wrapI_bd m
  generalize wrapI m = M at *
  go_enter Try.func19, Try.ntmps19
  go_wp2_with (go_at_call 39; refine (HW _).out.mono ?_; rintro r w2 ⟨rfl, rfl⟩)
  go_loopw [10] (fun i wr => ∃ k : Nat, k ≤ l.length ∧ i = .int .i64 k ∧ Hid (memS l M = memS (l.drop k) M) ∧ Below w.heap.size w wr) (fun i _ => l.length - (intOf i).toNat)
  case atStart => exact ⟨0, Nat.zero_le _, rfl, rfl, Below.refl _ _⟩
  case round =>
    clear HW
    obtain ⟨k, hkl, rfl, HH, hbw⟩ := hrel
    by_cases hlk : k < l.length
    · have hst := HH.out
      rw [List.drop_eq_getElem_cons hlk, memS_cons] at hst
      obtain ⟨b, off, rfl, hbB, hrow⟩ := hr (by simp; omega)
      have hbl : b < wr.heap.size := by have := hbw.size; omega
      have hr1 := (hrow k (by simpa using hlk)).below hbw (Nat.lt_of_lt_of_le hbB hB)
      simp only [List.getElem_map] at hr1
      clear hrow hr
      clear HH
      generalize l[k] = s at *
      obtain ⟨sf, st⟩ := s
      simp only [spC] at hr1
      rw [spIn_mk] at hst
      have HV := fun w => Lib.hid (rvalid_any sf st w)
      generalize spOk (sf, st) = ok at *
      cases ok
      · rw [Bool.false_and, Bool.false_or] at hst
        have HST := Lib.hid hst
        clear hst
        go_wp2_with (first | (with_reducible refine wpList_load_at rfl 35 _ rfl b (off + k * 2) rfl _ _ hr1 Try.underlying35 rfl (by kernel_rfl) ?_) | (go_at_call 40; refine (HV _).out.mono ?_; rintro r w2 ⟨rfl, hb2⟩))
        go_roundw
        case rel => exact ⟨k + 1, by omega, by go_num, HST, hbw.th hb2⟩
        case measure => simp [intOf]; omega
      · rw [Bool.true_and] at hst
        have hsf : decide (sf ≤ M) = true ∨ decide (sf ≤ M) = false := by cases decide (sf ≤ M) <;> simp
        have hst' : decide (M < st) = true ∨ decide (M < st) = false := by cases decide (M < st) <;> simp
        rcases hsf with e1 | e1 <;> rcases hst' with e2 | e2
        all_goals
          rw [e1, e2] at hst
          simp only [Bool.and_true, Bool.true_and, Bool.and_false, Bool.false_and, Bool.or_false, Bool.false_or, Bool.true_or, Bool.and_self] at hst
          have HST := Lib.hid hst
          clear hst
          go_wp2_with (first | (with_reducible refine wpList_load_at rfl 35 _ rfl b (off + k * 2) rfl _ _ hr1 Try.underlying35 rfl (by kernel_rfl) ?_) | (go_at_call 40; refine (HV _).out.mono ?_; rintro r w2 ⟨rfl, hb2⟩; have hr2 := hr1.below hb2 hbl; have g0 := hr2 0 _ rfl; have g1 := hr2 1 _ rfl; rw [Nat.add_zero] at g0; clear hr2))
        · go_ret
          exact ⟨ret_bool HST.out.symm, hbw.th hb2⟩
        all_goals
          go_roundw
          case rel => exact ⟨k + 1, by omega, by go_num, HST, hbw.th hb2⟩
          case measure => simp [intOf]; omega
    · have hst := HH.out
      rw [List.drop_of_length_le (by omega)] at hst
      go_wp2_with fail
      go_ret
      exact ⟨ret_bool hst.symm, hbw⟩

/-- What Check says of a list of spans. -/
def checkS (l : List Sp) : Int := if 256 < l.length then 3 else if l.all spOk then 0 else 2
set_option maxHeartbeats 2000000 in
theorem check_any (l : List Sp) (A : Option Addr) (c : Nat) (B : Nat) (w : World) (hB : B ≤ w.heap.size) (hr : IsRows B w 2 (l.map spC) A) (hl : l.length ≤ 140737488351232) :
    Calls Try.prog 30 #[.slice A l.length c] w fun r w' => r = .returned (.int .i64 (checkS l)) ∧ Below w.heap.size w w' := by
  unfold checkS
  obtain ⟨R, hR⟩ : ∃ R : Int, R = if l.all spOk then 0 else 2 := ⟨_, rfl⟩
  have HR := Lib.hid hR
  rw [← hR]
  clear hR
  by_cases h256 : 256 < l.length
  · rw [if_pos h256]
    go_enter Try.func30, Try.ntmps30
    go_wp2_with fail
    go_ret
    exact ⟨rfl, Below.refl _ _⟩
  · rw [if_neg h256]
    go_enter Try.func30, Try.ntmps30
    go_wp2_with fail
    go_loopw [10] (fun i wr => ∃ k : Nat, k ≤ l.length ∧ i = .int .i64 k ∧ Hid (R = if (l.drop k).all spOk then 0 else 2) ∧ Below w.heap.size w wr) (fun i _ => l.length - (intOf i).toNat)
    case atStart => exact ⟨0, Nat.zero_le _, rfl, Lib.hid HR.out, Below.refl _ _⟩
    case round =>
      obtain ⟨k, hkl, rfl, HH, hbw⟩ := hrel
      by_cases hlk : k < l.length
      · have hst := HH.out
        rw [List.drop_eq_getElem_cons hlk, List.all_cons] at hst
        obtain ⟨b, off, rfl, hbB, hrow⟩ := hr (by simp; omega)
        have hbl : b < wr.heap.size := by have := hbw.size; omega
        have hr1 := (hrow k (by simpa using hlk)).below hbw (Nat.lt_of_lt_of_le hbB hB)
        simp only [List.getElem_map] at hr1
        clear hrow hr
        clear HH
        generalize l[k] = s at *
        obtain ⟨sf, st⟩ := s
        simp only [spC] at hr1
        have HV := fun w => Lib.hid (valid_any sf st w)
        generalize spOk (sf, st) = ok at *
        cases ok
        · rw [Bool.false_and] at hst
          have HST := Lib.hid hst
          clear hst
          go_wp2_with (first | (with_reducible refine wpList_load_at rfl 35 _ rfl b (off + k * 2) rfl _ _ hr1 Try.underlying35 rfl (by kernel_rfl) ?_) | (go_at_call 32; refine (HV _).out.mono ?_; rintro r w2 ⟨rfl, hb2⟩))
          go_ret
          exact ⟨ret_int HST.out.symm, (hbw.al _).th hb2⟩
        · rw [Bool.true_and] at hst
          have HST := Lib.hid hst
          clear hst
          go_wp2_with (first | (with_reducible refine wpList_load_at rfl 35 _ rfl b (off + k * 2) rfl _ _ hr1 Try.underlying35 rfl (by kernel_rfl) ?_) | (go_at_call 32; refine (HV _).out.mono ?_; rintro r w2 ⟨rfl, hb2⟩))
          go_roundw
          case rel => exact ⟨k + 1, by omega, by go_num, HST, (hbw.al _).th hb2⟩
          case measure => simp [intOf]; omega
      · have hst := HH.out
        rw [List.drop_of_length_le (by omega)] at hst
        have HST := Lib.hid hst
        clear hst HH
        go_wp2_with fail
        go_ret
        exact ⟨ret_int HST.out.symm, hbw⟩
set_option maxHeartbeats 2000000 in
theorem rcheck_any (l : List Sp) (A : Option Addr) (c : Nat) (B : Nat) (w : World) (hB : B ≤ w.heap.size) (hr : IsRows B w 2 (l.map spC) A) (hl : l.length ≤ 140737488351232) :
    Calls Try.prog 31 #[.slice A l.length c] w fun r w' => r = .returned (.int .i64 (checkS l)) ∧ Below w.heap.size w w' := by
  unfold checkS
  obtain ⟨R, hR⟩ : ∃ R : Int, R = if l.all spOk then 0 else 2 := ⟨_, rfl⟩
  have HR := Lib.hid hR
  rw [← hR]
  clear hR
  by_cases h256 : 256 < l.length
  · rw [if_pos h256]
    go_enter Try.func31, Try.ntmps31
    go_wp2_with fail
    go_ret
    exact ⟨rfl, Below.refl _ _⟩
  · rw [if_neg h256]
    go_enter Try.func31, Try.ntmps31
    go_wp2_with fail
    go_loopw [9] (fun i wr => ∃ k : Nat, k ≤ l.length ∧ i = .int .i64 k ∧ Hid (R = if (l.drop k).all spOk then 0 else 2) ∧ Below w.heap.size w wr) (fun i _ => l.length - (intOf i).toNat)
    case atStart => exact ⟨0, Nat.zero_le _, rfl, Lib.hid HR.out, Below.refl _ _⟩
    case round =>
      obtain ⟨k, hkl, rfl, HH, hbw⟩ := hrel
      by_cases hlk : k < l.length
      · have hst := HH.out
        rw [List.drop_eq_getElem_cons hlk, List.all_cons] at hst
        obtain ⟨b, off, rfl, hbB, hrow⟩ := hr (by simp; omega)
        have hbl : b < wr.heap.size := by have := hbw.size; omega
        have hr1 := (hrow k (by simpa using hlk)).below hbw (Nat.lt_of_lt_of_le hbB hB)
        simp only [List.getElem_map] at hr1
        clear hrow hr
        clear HH
        generalize l[k] = s at *
        obtain ⟨sf, st⟩ := s
        simp only [spC] at hr1
        have HV := fun w => Lib.hid (rvalid_any sf st w)
        generalize spOk (sf, st) = ok at *
        cases ok
        · rw [Bool.false_and] at hst
          have HST := Lib.hid hst
          clear hst
          go_wp2_with (first | (with_reducible refine wpList_load_at rfl 35 _ rfl b (off + k * 2) rfl _ _ hr1 Try.underlying35 rfl (by kernel_rfl) ?_) | (go_at_call 40; refine (HV _).out.mono ?_; rintro r w2 ⟨rfl, hb2⟩))
          go_ret
          exact ⟨ret_int HST.out.symm, hbw.th hb2⟩
        · rw [Bool.true_and] at hst
          have HST := Lib.hid hst
          clear hst
          go_wp2_with (first | (with_reducible refine wpList_load_at rfl 35 _ rfl b (off + k * 2) rfl _ _ hr1 Try.underlying35 rfl (by kernel_rfl) ?_) | (go_at_call 40; refine (HV _).out.mono ?_; rintro r w2 ⟨rfl, hb2⟩))
          go_roundw
          case rel => exact ⟨k + 1, by omega, by go_num, HST, hbw.th hb2⟩
          case measure => simp [intOf]; omega
      · have hst := HH.out
        rw [List.drop_of_length_le (by omega)] at hst
        have HST := Lib.hid hst
        clear hst HH
        go_wp2_with fail
        go_ret
        exact ⟨ret_int HST.out.symm, hbw⟩

theorem same_step {a b : List Sp} {k : Nat} (ha : k < a.length) (hb : k < b.length) : (a.drop k = b.drop k) ↔ a[k] = b[k] ∧ a.drop (k + 1) = b.drop (k + 1) := by
  rw [List.drop_eq_getElem_cons ha, List.drop_eq_getElem_cons hb, List.cons.injEq]
set_option maxHeartbeats 2000000 in
theorem same_any (a b : List Sp) (A A2 : Option Addr) (c c2 : Nat) (B : Nat) (w : World) (hB : B ≤ w.heap.size) (hr : IsRows B w 2 (a.map spC) A) (hl : a.length ≤ 140737488351232) (hq : IsRows B w 2 (b.map spC) A2) (hl2 : b.length ≤ 140737488351232) :
    Calls Try.prog 13 #[.slice A a.length c, .slice A2 b.length c2] w fun r w' => r = .returned (.bool (decide (a = b))) ∧ Below w.heap.size w w' := by
  by_cases hlen : a.length = b.length
  · have q1 : ((a.length : Int) == (b.length : Int)) = true := beq_iff_eq.2 (by omega)
    have q2 : ((a.length : Int) != (b.length : Int)) = false := bne_eq_false_iff_eq.2 (by omega)
    have HLEN := Lib.hid hlen
    clear hlen
    go_enter Try.func13, Try.ntmps13
    go_wp2_with fail
    go_loopw [13] (fun i wr => ∃ k : Nat, k ≤ a.length ∧ i = .int .i64 k ∧ Hid (decide (a = b) = decide (a.drop k = b.drop k)) ∧ Below w.heap.size w wr) (fun i _ => a.length - (intOf i).toNat)
    case atStart => exact ⟨0, Nat.zero_le _, rfl, rfl, Below.refl _ _⟩
    case round =>
      obtain ⟨k, hkl, rfl, HH, hbw⟩ := hrel
      by_cases hlk : k < a.length
      · have hlk2 : k < b.length := by have := HLEN.out; omega
        have hst : decide (a = b) = decide (a[k] = b[k] ∧ a.drop (k + 1) = b.drop (k + 1)) := HH.out.trans (decide_eq_decide.2 (same_step hlk hlk2))
        clear HH
        obtain ⟨b', off', rfl, hbB', hrow'⟩ := hq (by simp; omega)
        obtain ⟨b₀, off, rfl, hbB, hrow⟩ := hr (by simp; omega)
        have hbl' : b' < wr.heap.size := by have := hbw.size; omega
        have hbl : b₀ < wr.heap.size := by have := hbw.size; omega
        have hr1 := (hrow k (by simpa using hlk)).below hbw (Nat.lt_of_lt_of_le hbB hB)
        have hr2 := (hrow' k (by simp; omega)).below hbw (Nat.lt_of_lt_of_le hbB' hB)
        simp only [List.getElem_map] at hr1 hr2
        clear hrow hrow' hr hq HLEN
        generalize a[k] = s at *
        generalize b[k] = t at *
        generalize a.length = n at *
        generalize b.length = n' at *
        obtain ⟨s1, s2⟩ := s
        obtain ⟨t1, t2⟩ := t
        simp only [spC] at hr1 hr2
        by_cases e1 : s1 = t1
        · subst e1
          by_cases e2 : s2 = t2
          · subst e2
            have HST : Hid (decide (a = b) = decide (a.drop (k + 1) = b.drop (k + 1))) := Lib.hid (by rw [hst]; simp)
            clear hst
            go_upto_region 6 with fail
            refine wp_rely (by kernel_rfl) (by kernel_rfl) ?_
            apply RelyL.val
            · intro ν w' hL hF K hK
              skip
              go_simp
              exact hK.out _ _ rfl (Lat.refl _)
            simp only [Act.put, List.setIfInBounds_toArray, List.set_cons_zero, List.set_cons_succ, Nat.reduceAdd]
            apply RelyL.val
            · intro ν w' hL hF K hK
              skip
              go_simp
              exact hK.out _ _ rfl (Lat.refl _)
            simp only [Act.put, List.setIfInBounds_toArray, List.set_cons_zero, List.set_cons_succ, Nat.reduceAdd]
            apply RelyL.val
            · intro ν w' hL hF K hK
              skip
              go_simp
              exact hK.out _ _ rfl (Lat.refl _)
            simp only [Act.put, List.setIfInBounds_toArray, List.set_cons_zero, List.set_cons_succ, Nat.reduceAdd]
            apply RelyL.val
            · intro ν w' hL hF K hK
              refine take_op rfl ?_
              refine wp_load_at 35 _ rfl b₀ (off + k * 2) rfl _ _ (hr1.below hL hbl) Try.underlying35 rfl (by kernel_rfl) ?_
              exact hK.out _ _ rfl (Lat.refl _)
            simp only [Act.put, List.setIfInBounds_toArray, List.set_cons_zero, List.set_cons_succ, Nat.reduceAdd]
            apply RelyL.val
            · intro ν w' hL hF K hK
              skip
              go_simp
              exact hK.out _ _ rfl (Lat.refl _)
            simp only [Act.put, List.setIfInBounds_toArray, List.set_cons_zero, List.set_cons_succ, Nat.reduceAdd]
            apply RelyL.val
            · intro ν w' hL hF K hK
              skip
              go_simp
              exact hK.out _ _ rfl (Lat.refl _)
            simp only [Act.put, List.setIfInBounds_toArray, List.set_cons_zero, List.set_cons_succ, Nat.reduceAdd]
            apply RelyL.val
            · intro ν w' hL hF K hK
              skip
              go_simp
              exact hK.out _ _ rfl (Lat.refl _)
            simp only [Act.put, List.setIfInBounds_toArray, List.set_cons_zero, List.set_cons_succ, Nat.reduceAdd]
            apply RelyL.val
            · intro ν w' hL hF K hK
              refine take_op rfl ?_
              refine wp_load_at 35 _ rfl b' (off' + k * 2) rfl _ _ (hr2.below hL hbl') Try.underlying35 rfl (by kernel_rfl) ?_
              exact hK.out _ _ rfl (Lat.refl _)
            simp only [Act.put, List.setIfInBounds_toArray, List.set_cons_zero, List.set_cons_succ, Nat.reduceAdd]
            apply RelyL.val
            · intro ν w' hL hF K hK
              skip
              go_simp
              exact hK.out _ _ rfl (Lat.refl _)
            simp only [Act.put, List.setIfInBounds_toArray, List.set_cons_zero, List.set_cons_succ, Nat.reduceAdd]
            refine RelyL.done fun ν w1 hL hF => ?_
            clear hF
            have hbw1 := hbw.th hL
            clear hL hr1 hr2
            go_wp2_with fail
            go_roundw
            case rel => exact ⟨k + 1, by omega, by go_num, HST, hbw1⟩
            case measure => simp [intOf]; omega
          · have HST : Hid (decide (a = b) = false) := Lib.hid (by rw [hst]; simp [e2])
            obtain ⟨g1, g2, g3⟩ := ine e2
            clear hst e2
            go_upto_region 6 with fail
            refine wp_rely (by kernel_rfl) (by kernel_rfl) ?_
            apply RelyL.val
            · intro ν w' hL hF K hK
              skip
              go_simp
              exact hK.out _ _ rfl (Lat.refl _)
            simp only [Act.put, List.setIfInBounds_toArray, List.set_cons_zero, List.set_cons_succ, Nat.reduceAdd]
            apply RelyL.val
            · intro ν w' hL hF K hK
              skip
              go_simp
              exact hK.out _ _ rfl (Lat.refl _)
            simp only [Act.put, List.setIfInBounds_toArray, List.set_cons_zero, List.set_cons_succ, Nat.reduceAdd]
            apply RelyL.val
            · intro ν w' hL hF K hK
              skip
              go_simp
              exact hK.out _ _ rfl (Lat.refl _)
            simp only [Act.put, List.setIfInBounds_toArray, List.set_cons_zero, List.set_cons_succ, Nat.reduceAdd]
            apply RelyL.val
            · intro ν w' hL hF K hK
              refine take_op rfl ?_
              refine wp_load_at 35 _ rfl b₀ (off + k * 2) rfl _ _ (hr1.below hL hbl) Try.underlying35 rfl (by kernel_rfl) ?_
              exact hK.out _ _ rfl (Lat.refl _)
            simp only [Act.put, List.setIfInBounds_toArray, List.set_cons_zero, List.set_cons_succ, Nat.reduceAdd]
            apply RelyL.val
            · intro ν w' hL hF K hK
              skip
              go_simp
              exact hK.out _ _ rfl (Lat.refl _)
            simp only [Act.put, List.setIfInBounds_toArray, List.set_cons_zero, List.set_cons_succ, Nat.reduceAdd]
            apply RelyL.val
            · intro ν w' hL hF K hK
              skip
              go_simp
              exact hK.out _ _ rfl (Lat.refl _)
            simp only [Act.put, List.setIfInBounds_toArray, List.set_cons_zero, List.set_cons_succ, Nat.reduceAdd]
            apply RelyL.val
            · intro ν w' hL hF K hK
              skip
              go_simp
              exact hK.out _ _ rfl (Lat.refl _)
            simp only [Act.put, List.setIfInBounds_toArray, List.set_cons_zero, List.set_cons_succ, Nat.reduceAdd]
            apply RelyL.val
            · intro ν w' hL hF K hK
              refine take_op rfl ?_
              refine wp_load_at 35 _ rfl b' (off' + k * 2) rfl _ _ (hr2.below hL hbl') Try.underlying35 rfl (by kernel_rfl) ?_
              exact hK.out _ _ rfl (Lat.refl _)
            simp only [Act.put, List.setIfInBounds_toArray, List.set_cons_zero, List.set_cons_succ, Nat.reduceAdd]
            apply RelyL.val
            · intro ν w' hL hF K hK
              skip
              go_simp
              exact hK.out _ _ rfl (Lat.refl _)
            simp only [Act.put, List.setIfInBounds_toArray, List.set_cons_zero, List.set_cons_succ, Nat.reduceAdd]
            refine RelyL.done fun ν w1 hL hF => ?_
            clear hF
            have hbw1 := hbw.th hL
            clear hL hr1 hr2
            go_wp2_with fail
            go_ret
            exact ⟨ret_bool HST.out.symm, hbw1⟩
        · have HST : Hid (decide (a = b) = false) := Lib.hid (by rw [hst]; simp [e1])
          obtain ⟨g1, g2, g3⟩ := ine e1
          clear hst e1
          go_upto_region 6 with fail
          refine wp_rely (by kernel_rfl) (by kernel_rfl) ?_
          apply RelyL.val
          · intro ν w' hL hF K hK
            skip
            go_simp
            exact hK.out _ _ rfl (Lat.refl _)
          simp only [Act.put, List.setIfInBounds_toArray, List.set_cons_zero, List.set_cons_succ, Nat.reduceAdd]
          apply RelyL.val
          · intro ν w' hL hF K hK
            skip
            go_simp
            exact hK.out _ _ rfl (Lat.refl _)
          simp only [Act.put, List.setIfInBounds_toArray, List.set_cons_zero, List.set_cons_succ, Nat.reduceAdd]
          apply RelyL.val
          · intro ν w' hL hF K hK
            skip
            go_simp
            exact hK.out _ _ rfl (Lat.refl _)
          simp only [Act.put, List.setIfInBounds_toArray, List.set_cons_zero, List.set_cons_succ, Nat.reduceAdd]
          apply RelyL.val
          · intro ν w' hL hF K hK
            refine take_op rfl ?_
            refine wp_load_at 35 _ rfl b₀ (off + k * 2) rfl _ _ (hr1.below hL hbl) Try.underlying35 rfl (by kernel_rfl) ?_
            exact hK.out _ _ rfl (Lat.refl _)
          simp only [Act.put, List.setIfInBounds_toArray, List.set_cons_zero, List.set_cons_succ, Nat.reduceAdd]
          apply RelyL.val
          · intro ν w' hL hF K hK
            skip
            go_simp
            exact hK.out _ _ rfl (Lat.refl _)
          simp only [Act.put, List.setIfInBounds_toArray, List.set_cons_zero, List.set_cons_succ, Nat.reduceAdd]
          apply RelyL.val
          · intro ν w' hL hF K hK
            skip
            go_simp
            exact hK.out _ _ rfl (Lat.refl _)
          simp only [Act.put, List.setIfInBounds_toArray, List.set_cons_zero, List.set_cons_succ, Nat.reduceAdd]
          apply RelyL.val
          · intro ν w' hL hF K hK
            skip
            go_simp
            exact hK.out _ _ rfl (Lat.refl _)
          simp only [Act.put, List.setIfInBounds_toArray, List.set_cons_zero, List.set_cons_succ, Nat.reduceAdd]
          apply RelyL.val
          · intro ν w' hL hF K hK
            refine take_op rfl ?_
            refine wp_load_at 35 _ rfl b' (off' + k * 2) rfl _ _ (hr2.below hL hbl') Try.underlying35 rfl (by kernel_rfl) ?_
            exact hK.out _ _ rfl (Lat.refl _)
          simp only [Act.put, List.setIfInBounds_toArray, List.set_cons_zero, List.set_cons_succ, Nat.reduceAdd]
          apply RelyL.val
          · intro ν w' hL hF K hK
            skip
            go_simp
            exact hK.out _ _ rfl (Lat.refl _)
          simp only [Act.put, List.setIfInBounds_toArray, List.set_cons_zero, List.set_cons_succ, Nat.reduceAdd]
          refine RelyL.done fun ν w1 hL hF => ?_
          clear hF
          have hbw1 := hbw.th hL
          clear hL hr1 hr2
          go_wp2_with fail
          go_ret
          exact ⟨ret_bool HST.out.symm, hbw1⟩
      · have hst := HH.out
        rw [List.drop_of_length_le (by omega), List.drop_of_length_le (by have := HLEN.out; omega)] at hst
        have HST := Lib.hid hst
        clear hst HH
        go_wp2_with fail
        go_ret
        exact ⟨ret_bool (by rw [HST.out]; rfl), hbw⟩
  · have hne : decide (a = b) = false := by simp; intro h; exact hlen (by rw [h])
    have q1 : ((a.length : Int) == (b.length : Int)) = false := beq_eq_false_iff_ne.2 (by omega)
    have q2 : ((a.length : Int) != (b.length : Int)) = true := bne_iff_ne.2 (by omega)
    have HN := Lib.hid hne
    clear hne hlen
    go_enter Try.func13, Try.ntmps13
    go_wp2_with fail
    go_ret
    exact ⟨ret_bool HN.out.symm, Below.refl _ _⟩

end Go.Proofs.Ytdhccaninopicaa
