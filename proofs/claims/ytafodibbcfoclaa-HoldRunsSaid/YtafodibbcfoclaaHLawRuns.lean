/- Hold: a rule of a time is due exactly once in each period in which it has held for its time: the law walked. -/
import Derived.Test.YtafodibbcfoclaaHAwake
set_option linter.unusedSimpArgs false
set_option linter.unusedVariables false
namespace Go.Proofs.Ytafodibbcfoclaa
open Go.RowKit

theorem infoEBl : (Try.prog.info? 4).map (fun i => (i.zero, i.size, i.bytes)) = some (some (.bool false), 1, 1) := by kernel_rfl
/-- Bools. -/
noncomputable def EBl : Elt Bool where
  e := 4
  t := 53
  n := 1
  bytes := 1
  f := (fun s => [.bool s])
  i := (info_parts infoEBl).choose
  z := _
  ht := Try.underlying53
  hi := (info_parts infoEBl).choose_spec.1
  hz := (info_parts infoEBl).choose_spec.2.1
  hs := (info_parts infoEBl).choose_spec.2.2.1
  hb := (info_parts infoEBl).choose_spec.2.2.2
  hzs := rfl
  hn := by decide
  len := fun x => rfl
  one := fun x u hu => by rw [List.mem_singleton.1 hu]; rfl
def RunSt (nm : ByteArray) (i : Nat) (tl : List LTim) (s : Int) (d : Bool) : Prop := (tl = [] ∧ s = -1 ∧ d = false) ∨ (tl = [⟨nm, s, d⟩] ∧ 0 ≤ s ∧ s ≤ i)
theorem valid_nil : validP [] = [] := rfl
theorem valid_one {nm : ByteArray} {s : Int} {d : Bool} (h0 : 0 ≤ s) (h1 : s ≤ 100) : validP [⟨nm, s, d⟩] = [⟨nm, s, d⟩] := by
  unfold validP okT
  rw [okF_cons, decide_eq_true h0, decide_eq_true (show s ≤ MT by unfold MT; omega)]
  rfl
theorem find_one (nm : ByteArray) (s : Int) (d : Bool) : findT [⟨nm, s, d⟩] nm = some ⟨nm, s, d⟩ := by
  unfold findT isN
  rw [List.find?_cons, decide_eq_true rfl]
theorem updR_nil (nm : ByteArray) {i : Int} (h0 : 0 ≤ i) (h1 : i ≤ 100) : updO nm true (validP []) i = [⟨nm, i, false⟩] := by
  unfold updO
  rw [valid_nil, if_pos rfl, lim_id h0 (by unfold MT; omega)]
  rfl
theorem updR_one (nm : ByteArray) {s : Int} (d : Bool) (i : Int) (h0 : 0 ≤ s) (h1 : s ≤ 100) : updO nm true (validP [⟨nm, s, d⟩]) i = [⟨nm, s, d⟩] := by
  unfold updO
  rw [valid_one h0 h1, if_pos rfl, find_one]
  rfl
theorem updR_off (nm : ByteArray) (vs : List LTim) (i : Int) : updO nm false vs i = [] := rfl
theorem dueR_nil (nm : ByteArray) (tm i : Int) : dueO nm tm (validP []) i = [] := by
  unfold dueO
  rw [valid_nil]
  rfl
theorem dueR_one (nm : ByteArray) {s : Int} (d : Bool) {tm i : Int} (h0 : 0 ≤ s) (h1 : s ≤ 100) (t0 : 0 ≤ tm) (t1 : tm ≤ 100) (i0 : 0 ≤ i) (i1 : i ≤ 100) : dueO nm tm (validP [⟨nm, s, d⟩]) i = if !d && decide (tm ≤ i - s) then [nm] else [] := by
  unfold dueO tmOf
  rw [valid_one h0 h1, find_one, lim_id t0 (by unfold MT; omega), lim_id i0 (by unfold MT; omega)]
  rfl
theorem markR_nil : markP [] [] = [] := rfl
theorem markR_off (nm : ByteArray) {s : Int} (d : Bool) (h0 : 0 ≤ s) (h1 : s ≤ 100) : markP [⟨nm, s, d⟩] [] = [⟨nm, s, d⟩] := by
  unfold markP
  rw [valid_one h0 h1]
  rfl
theorem markR_on (nm : ByteArray) {s : Int} (d : Bool) (h0 : 0 ≤ s) (h1 : s ≤ 100) : markP [⟨nm, s, d⟩] [nm] = [⟨nm, s, true⟩] := by
  unfold markP mk1
  rw [valid_one h0 h1]
  simp
set_option maxRecDepth 100000 in
set_option maxHeartbeats 8000000 in
theorem lawRuns (nm : ByteArray) (tm : Int) (hs : List Bool) (A : Option Addr) (c : Nat) (w : World) (hnm : nm.size ≤ maxLen) (hx : EBl.Rd w hs (.slice A hs.length c)) :
    Calls Try.prog 6 #[.string nm, .int .i64 tm, .slice A hs.length c] w fun r w' => r = .returned (.bool true) ∧ Lat w w' := by
  have HR1 : ∀ w, Hid (Calls Try.prog 20 #[.string nm, .int .i64 tm, .bool true] w fun r w' => (∃ g1, r = .returned (.agg #[.string nm, .int .i64 0, .slice (some ⟨g1, 0, none⟩) 1 1, .int .i64 1, .int .i64 0, .int .i64 0, .string { data := #[] }, .int .i64 1, .int .i64 1, .string { data := #[] }, .int .i64 0, .string { data := #[] }, .string { data := #[] }, .slice none 0 0, .slice none 0 0]) ∧ Blk w' g1 78 (gC (trR tm)).toArray) ∧ Lat w w') := fun w => Lib.hid (rule_any nm tm true w)
  have HR2 : ∀ w, Hid (Calls Try.prog 20 #[.string nm, .int .i64 tm, .bool false] w fun r w' => (∃ g1, r = .returned (.agg #[.string nm, .int .i64 0, .slice (some ⟨g1, 0, none⟩) 1 1, .int .i64 1, .int .i64 0, .int .i64 0, .string { data := #[] }, .int .i64 1, .int .i64 0, .string { data := #[] }, .int .i64 0, .string { data := #[] }, .string { data := #[] }, .slice none 0 0, .slice none 0 0]) ∧ Blk w' g1 78 (gC (trR tm)).toArray) ∧ Lat w w') := fun w => Lib.hid (rule_any nm tm false w)
  go_enter Try.func6, Try.ntmps6
  by_cases h1 : 100 < nm.size
  · have a1 : (100 : Int) < (nm.size : Int) := by omega
    clear HR1 HR2
    go_wp2_with fail
    refine (awake_any _).mono ?_
    rintro r w9 ⟨rfl, hl9⟩
    go_wp2_with fail
    go_ret
    exact ⟨rfl, hl9⟩
  have a1 : ¬ ((100 : Int) < (nm.size : Int)) := by omega
  by_cases h2 : tm < 0
  · clear HR1 HR2
    go_wp2_with fail
    refine (awake_any _).mono ?_
    rintro r w9 ⟨rfl, hl9⟩
    go_wp2_with fail
    go_ret
    exact ⟨rfl, hl9⟩
  by_cases h3 : 100 < tm
  · clear HR1 HR2
    go_wp2_with fail
    refine (awake_any _).mono ?_
    rintro r w9 ⟨rfl, hl9⟩
    go_wp2_with fail
    go_ret
    exact ⟨rfl, hl9⟩
  by_cases h4 : 60 < hs.length
  · have a4 : (60 : Int) < (hs.length : Int) := by omega
    clear HR1 HR2
    go_wp2_with fail
    refine (awake_any _).mono ?_
    rintro r w9 ⟨rfl, hl9⟩
    go_wp2_with fail
    go_ret
    exact ⟨rfl, hl9⟩
  have a4 : ¬ ((60 : Int) < (hs.length : Int)) := by omega
  have ht0 : 0 ≤ tm := by omega
  have ht1 : tm ≤ 100 := by omega
  go_wp2_with fail
  clear h1 h2 h3
  go_loopw [7, 8, 9, 34] (fun lv sv dv iv wr => ∃ (j : Nat) (tl : List LTim) (s : Int) (d : Bool) (A1 : Option Addr) (c1 : Nat), j ≤ hs.length ∧ iv = .int .i64 j ∧ lv = .slice A1 tl.length c1 ∧ RdT wr tl (.slice A1 tl.length c1) ∧ sv = .int .i64 s ∧ dv = .bool d ∧ Hid (RunSt nm j tl s d) ∧ Lat w wr) (fun _ _ _ iv _ => hs.length - (intOf iv).toNat)
  case atStart => exact ⟨0, [], -1, false, none, 0, Nat.zero_le _, rfl, rfl, ⟨Elt.Rd.nil _, fun t ht => by simp at ht⟩, rfl, rfl, Lib.hid (.inl ⟨rfl, rfl, rfl⟩), Lat.refl _⟩
  case round =>
    obtain ⟨j, tl, s, d, A1, c1, hjl, rfl, rfl, hxt, rfl, rfl, HST, hLW⟩ := hrel
    by_cases hlt : j < hs.length
    · obtain ⟨b, off, hA, hb0, hr1⟩ := (hx.lat hLW).row j hlt
      subst hA
      have hcb : wr.cell? ⟨b, off + j, none⟩ = some (.bool hs[j]) := by
        have h := hr1 0 _ rfl
        rwa [show off + j * EBl.n + 0 = off + j from by show off + j * 1 + 0 = _; omega] at h
      have hj0 : (0 : Int) ≤ (j : Int) := by omega
      have hj1 : (j : Int) ≤ 100 := by omega
      clear hr1
      generalize hs[j] = is at *
      cases is
      · go_wp2_with fail
        refine (HR2 _).out.mono ?_
        rintro r w1 ⟨⟨g1, rfl, hg1⟩, hl1⟩
        have hLa : Lat w1 (w1.alloc (.cells #[.string nm, .int .i64 0, .slice (some ⟨g1, 0, none⟩) 1 1, .int .i64 1, .int .i64 0, .int .i64 0, .string { data := #[] }, .int .i64 1, .int .i64 0, .string { data := #[] }, .int .i64 0, .string { data := #[] }, .string { data := #[] }, .slice none 0 0, .slice none 0 0] 50)) := Lat.al _ _
        have hb1 : Blk _ w1.heap.size 50 (rC (ruR nm g1 false)).toArray := Blk.new w1 50 _
        have hg1 := hg1.lat hLa
        have hxt := hxt.lat (hl1.trans hLa)
        have hL2 := hLW.trans (hl1.trans hLa)
        clear HR1 HR2 hl1 hLa hLW hcb
        have hU := one_upd nm tm false g1 _ tl A1 _ c1 _ (j : Int) hnm rfl hxt hg1 hb1
        rw [updR_off] at hU
        go_wp2_with fail
        refine Calls.mono (hU) ?_
        rintro r w4 ⟨⟨A4, c4, rfl, hx4⟩, hl4⟩
        have hb1 := hb1.lat hl4
        have hg1 := hg1.lat hl4
        have hL4 := hL2.trans hl4
        simp only [List.length_nil] at hx4 ⊢
        clear hU hl4 hL2 hxt HST
        have hD := one_due nm tm false g1 _ [] A4 0 c4 w4 (j : Int) hnm rfl hx4 hg1 hb1
        rw [dueR_nil] at hD
        go_wp2_with fail
        refine Calls.mono (hD) ?_
        rintro r w5 ⟨⟨A5, c5, rfl, hd5⟩, hl5⟩
        have hL5 := hL4.trans hl5
        have hx5 := hx4.lat hl5
        simp only [List.length_nil] at hd5 ⊢
        have hM := one_mark [] A4 0 c4 w5 [] A5 0 c5 rfl rfl hx5 hd5 (by simp)
        rw [markR_nil] at hM
        have HM := Lib.hid hM
        clear hD hl5 hL4 hx4 hd5 hx5 hM hb1 hg1
        go_wp2_with fail
        refine Calls.mono (HM.out) ?_
        rintro r w6 ⟨⟨A6, c6, rfl, hx6⟩, hl6⟩
        have hL6 := hL5.trans hl6
        simp only [List.length_nil] at hx6 ⊢
        clear HM hl6 hL5
        go_wp2_with fail
        go_roundw
        case rel => exact ⟨j + 1, [], -1, false, A6, c6, by omega, by go_num, rfl, hx6, rfl, rfl, Lib.hid (.inl ⟨rfl, rfl, rfl⟩), hL6⟩
        case measure => simp [intOf]; omega
      · go_wp2_with fail
        refine (HR1 _).out.mono ?_
        rintro r w1 ⟨⟨g1, rfl, hg1⟩, hl1⟩
        have hLa : Lat w1 (w1.alloc (.cells #[.string nm, .int .i64 0, .slice (some ⟨g1, 0, none⟩) 1 1, .int .i64 1, .int .i64 0, .int .i64 0, .string { data := #[] }, .int .i64 1, .int .i64 1, .string { data := #[] }, .int .i64 0, .string { data := #[] }, .string { data := #[] }, .slice none 0 0, .slice none 0 0] 50)) := Lat.al _ _
        have hb1 : Blk _ w1.heap.size 50 (rC (ruR nm g1 true)).toArray := Blk.new w1 50 _
        have hg1 := hg1.lat hLa
        have hxt := hxt.lat (hl1.trans hLa)
        have hL2 := hLW.trans (hl1.trans hLa)
        clear HR1 HR2 hl1 hLa hLW hcb
        rcases HST.out with ⟨rfl, rfl, rfl⟩ | ⟨rfl, hs0, hsj⟩
        · clear HST
          have hU := one_upd nm tm true g1 _ [] A1 _ c1 _ (j : Int) hnm rfl hxt hg1 hb1
          rw [updR_nil nm hj0 hj1] at hU
          go_wp2_with fail
          refine Calls.mono (hU) ?_
          rintro r w4 ⟨⟨A4, c4, rfl, hx4⟩, hl4⟩
          have hb1 := hb1.lat hl4
          have hg1 := hg1.lat hl4
          have hL4 := hL2.trans hl4
          simp only [List.length_cons, List.length_nil, Nat.zero_add] at hx4 ⊢
          clear hU hl4 hL2
          have hD := one_due nm tm true g1 _ [⟨nm, (j : Int), false⟩] A4 1 c4 w4 (j : Int) hnm rfl hx4 hg1 hb1
          rw [dueR_one nm false hj0 hj1 ht0 ht1 hj0 hj1] at hD
          have hwp : IntKind.i64.wrap ((j : Int) - (j : Int)) = (j : Int) - (j : Int) := by rw [IntKind.wrap_i64]; omega
          by_cases hq : tm ≤ (j : Int) - (j : Int)
          · rw [if_pos (by first | rfl | simpa using hq)] at hD
            go_wp2_with fail
            refine Calls.mono (hD) ?_
            rintro r w5 ⟨⟨A5, c5, rfl, hd5⟩, hl5⟩
            have hL5 := hL4.trans hl5
            have hx5 := hx4.lat hl5
            simp only [List.length_cons, List.length_nil, Nat.zero_add] at hd5 ⊢
            obtain ⟨bd, od, hAd, hbd, hrd⟩ := hd5.row 0 (by simp)
            obtain ⟨bt, ot, hAt, hbt, hrt⟩ := hx5.1.row 0 (by simp)
            subst hAd hAt
            have cd : w5.cell? ⟨bd, od, none⟩ = some (.string nm) := by have := hrd 0 _ rfl; simpa using this
            have ct : w5.cell? ⟨bt, ot + 1, none⟩ = some (.int .i64 (j : Int)) := by have := hrt 1 _ rfl; simpa using this
            have hM := one_mark [⟨nm, (j : Int), false⟩] (some ⟨bt, ot, none⟩) 1 c4 w5 [nm] (some ⟨bd, od, none⟩) 1 c5 rfl rfl hx5 hd5 (by simp)
            rw [markR_on nm false hj0 hj1] at hM
            have HM := Lib.hid hM
            clear hD hl5 hL4 hx4 hd5 hrd hrt hx5 hM hb1 hg1
            go_wp2_with fail
            refine Calls.mono (HM.out) ?_
            rintro r w6 ⟨⟨A6, c6, rfl, hx6⟩, hl6⟩
            have hL6 := hL5.trans hl6
            simp only [List.length_cons, List.length_nil, Nat.zero_add] at hx6 ⊢
            clear HM hl6 hL5
            go_wp2_with fail
            go_roundw
            case rel => exact ⟨j + 1, [⟨nm, (j : Int), true⟩], (j : Int), true, A6, c6, by omega, by go_num, rfl, hx6, rfl, rfl, Lib.hid (.inr ⟨rfl, hj0, by omega⟩), hL6⟩
            case measure => simp [intOf]; omega
          · rw [if_neg (by first | simp; done | simpa using hq)] at hD
            go_wp2_with fail
            refine Calls.mono (hD) ?_
            rintro r w5 ⟨⟨A5, c5, rfl, hd5⟩, hl5⟩
            have hL5 := hL4.trans hl5
            have hx5 := hx4.lat hl5
            simp only [List.length_nil] at hd5 ⊢
            obtain ⟨bt, ot, hAt, hbt, hrt⟩ := hx5.1.row 0 (by simp)
            subst hAt
            have ct : w5.cell? ⟨bt, ot + 1, none⟩ = some (.int .i64 (j : Int)) := by have := hrt 1 _ rfl; simpa using this
            have hM := one_mark [⟨nm, (j : Int), false⟩] (some ⟨bt, ot, none⟩) 1 c4 w5 [] A5 0 c5 rfl rfl hx5 hd5 (by simp)
            rw [markR_off nm false hj0 hj1] at hM
            have HM := Lib.hid hM
            clear hD hl5 hL4 hx4 hd5 hrt hx5 hM hb1 hg1
            go_wp2_with fail
            refine Calls.mono (HM.out) ?_
            rintro r w6 ⟨⟨A6, c6, rfl, hx6⟩, hl6⟩
            have hL6 := hL5.trans hl6
            simp only [List.length_cons, List.length_nil, Nat.zero_add] at hx6 ⊢
            clear HM hl6 hL5
            go_wp2_with fail
            go_roundw
            case rel => exact ⟨j + 1, [⟨nm, (j : Int), false⟩], (j : Int), false, A6, c6, by omega, by go_num, rfl, hx6, rfl, rfl, Lib.hid (.inr ⟨rfl, hj0, by omega⟩), hL6⟩
            case measure => simp [intOf]; omega
        · clear HST
          have hs1 : s ≤ 100 := by omega
          have hU := one_upd nm tm true g1 _ [⟨nm, s, d⟩] A1 _ c1 _ (j : Int) hnm rfl hxt hg1 hb1
          rw [updR_one nm d (j : Int) hs0 hs1] at hU
          cases d
          · go_wp2_with fail
            refine Calls.mono (hU) ?_
            rintro r w4 ⟨⟨A4, c4, rfl, hx4⟩, hl4⟩
            have hb1 := hb1.lat hl4
            have hg1 := hg1.lat hl4
            have hL4 := hL2.trans hl4
            simp only [List.length_cons, List.length_nil, Nat.zero_add] at hx4 ⊢
            clear hU hl4 hL2
            have hD := one_due nm tm true g1 _ [⟨nm, s, false⟩] A4 1 c4 w4 (j : Int) hnm rfl hx4 hg1 hb1
            rw [dueR_one nm false hs0 hs1 ht0 ht1 hj0 hj1] at hD
            have hwp : IntKind.i64.wrap ((j : Int) - s) = (j : Int) - s := by rw [IntKind.wrap_i64]; omega
            by_cases hq : tm ≤ (j : Int) - s
            · rw [if_pos (by first | rfl | simpa using hq)] at hD
              go_wp2_with fail
              refine Calls.mono (hD) ?_
              rintro r w5 ⟨⟨A5, c5, rfl, hd5⟩, hl5⟩
              have hL5 := hL4.trans hl5
              have hx5 := hx4.lat hl5
              simp only [List.length_cons, List.length_nil, Nat.zero_add] at hd5 ⊢
              obtain ⟨bd, od, hAd, hbd, hrd⟩ := hd5.row 0 (by simp)
              obtain ⟨bt, ot, hAt, hbt, hrt⟩ := hx5.1.row 0 (by simp)
              subst hAd hAt
              have cd : w5.cell? ⟨bd, od, none⟩ = some (.string nm) := by have := hrd 0 _ rfl; simpa using this
              have ct : w5.cell? ⟨bt, ot + 1, none⟩ = some (.int .i64 s) := by have := hrt 1 _ rfl; simpa using this
              have hM := one_mark [⟨nm, s, false⟩] (some ⟨bt, ot, none⟩) 1 c4 w5 [nm] (some ⟨bd, od, none⟩) 1 c5 rfl rfl hx5 hd5 (by simp)
              rw [markR_on nm false hs0 hs1] at hM
              have HM := Lib.hid hM
              clear hD hl5 hL4 hx4 hd5 hrd hrt hx5 hM hb1 hg1
              go_wp2_with fail
              refine Calls.mono (HM.out) ?_
              rintro r w6 ⟨⟨A6, c6, rfl, hx6⟩, hl6⟩
              have hL6 := hL5.trans hl6
              simp only [List.length_cons, List.length_nil, Nat.zero_add] at hx6 ⊢
              clear HM hl6 hL5
              go_wp2_with fail
              go_roundw
              case rel => exact ⟨j + 1, [⟨nm, s, true⟩], s, true, A6, c6, by omega, by go_num, rfl, hx6, rfl, rfl, Lib.hid (.inr ⟨rfl, hs0, by omega⟩), hL6⟩
              case measure => simp [intOf]; omega
            · rw [if_neg (by first | simp; done | simpa using hq)] at hD
              go_wp2_with fail
              refine Calls.mono (hD) ?_
              rintro r w5 ⟨⟨A5, c5, rfl, hd5⟩, hl5⟩
              have hL5 := hL4.trans hl5
              have hx5 := hx4.lat hl5
              simp only [List.length_nil] at hd5 ⊢
              obtain ⟨bt, ot, hAt, hbt, hrt⟩ := hx5.1.row 0 (by simp)
              subst hAt
              have ct : w5.cell? ⟨bt, ot + 1, none⟩ = some (.int .i64 s) := by have := hrt 1 _ rfl; simpa using this
              have hM := one_mark [⟨nm, s, false⟩] (some ⟨bt, ot, none⟩) 1 c4 w5 [] A5 0 c5 rfl rfl hx5 hd5 (by simp)
              rw [markR_off nm false hs0 hs1] at hM
              have HM := Lib.hid hM
              clear hD hl5 hL4 hx4 hd5 hrt hx5 hM hb1 hg1
              go_wp2_with fail
              refine Calls.mono (HM.out) ?_
              rintro r w6 ⟨⟨A6, c6, rfl, hx6⟩, hl6⟩
              have hL6 := hL5.trans hl6
              simp only [List.length_cons, List.length_nil, Nat.zero_add] at hx6 ⊢
              clear HM hl6 hL5
              go_wp2_with fail
              go_roundw
              case rel => exact ⟨j + 1, [⟨nm, s, false⟩], s, false, A6, c6, by omega, by go_num, rfl, hx6, rfl, rfl, Lib.hid (.inr ⟨rfl, hs0, by omega⟩), hL6⟩
              case measure => simp [intOf]; omega
          · go_wp2_with fail
            refine Calls.mono (hU) ?_
            rintro r w4 ⟨⟨A4, c4, rfl, hx4⟩, hl4⟩
            have hb1 := hb1.lat hl4
            have hg1 := hg1.lat hl4
            have hL4 := hL2.trans hl4
            simp only [List.length_cons, List.length_nil, Nat.zero_add] at hx4 ⊢
            clear hU hl4 hL2
            have hD := one_due nm tm true g1 _ [⟨nm, s, true⟩] A4 1 c4 w4 (j : Int) hnm rfl hx4 hg1 hb1
            rw [dueR_one nm true hs0 hs1 ht0 ht1 hj0 hj1] at hD
            have hwp : IntKind.i64.wrap ((j : Int) - s) = (j : Int) - s := by rw [IntKind.wrap_i64]; omega
            rw [if_neg (by first | simp; done | simpa using hq)] at hD
            go_wp2_with fail
            refine Calls.mono (hD) ?_
            rintro r w5 ⟨⟨A5, c5, rfl, hd5⟩, hl5⟩
            have hL5 := hL4.trans hl5
            have hx5 := hx4.lat hl5
            simp only [List.length_nil] at hd5 ⊢
            obtain ⟨bt, ot, hAt, hbt, hrt⟩ := hx5.1.row 0 (by simp)
            subst hAt
            have ct : w5.cell? ⟨bt, ot + 1, none⟩ = some (.int .i64 s) := by have := hrt 1 _ rfl; simpa using this
            have hM := one_mark [⟨nm, s, true⟩] (some ⟨bt, ot, none⟩) 1 c4 w5 [] A5 0 c5 rfl rfl hx5 hd5 (by simp)
            rw [markR_off nm true hs0 hs1] at hM
            have HM := Lib.hid hM
            clear hD hl5 hL4 hx4 hd5 hrt hx5 hM hb1 hg1
            go_wp2_with fail
            refine Calls.mono (HM.out) ?_
            rintro r w6 ⟨⟨A6, c6, rfl, hx6⟩, hl6⟩
            have hL6 := hL5.trans hl6
            simp only [List.length_cons, List.length_nil, Nat.zero_add] at hx6 ⊢
            clear HM hl6 hL5
            go_wp2_with fail
            go_roundw
            case rel => exact ⟨j + 1, [⟨nm, s, true⟩], s, true, A6, c6, by omega, by go_num, rfl, hx6, rfl, rfl, Lib.hid (.inr ⟨rfl, hs0, by omega⟩), hL6⟩
            case measure => simp [intOf]; omega
    · have hj : j = hs.length := by omega
      subst hj
      clear HR1 HR2 hxt HST
      go_wp2_with fail
      refine (awake_any _).mono ?_
      rintro r w9 ⟨rfl, hl9⟩
      go_wp2_with fail
      go_ret
      exact ⟨rfl, (hLW.trans hl9)⟩
end Go.Proofs.Ytafodibbcfoclaa
