/- Resolve: the law on Merge and Winners. -/
import Derived.Test.YtgjoojailghilaaDoorVMrg
import Derived.Test.YtgjoojailghilaaDoorVLaw3
set_option linter.unusedSimpArgs false
set_option linter.unusedVariables false
namespace Go.Proofs.YtgjoojailghilaaDoor
open Go.RowKit

/-- What some asks, as far as the law needs it. -/
def Some12 (ds : List LD) : Prop := ds.length ≤ 12 ∧ ∀ d ∈ ds, d.los.length ≤ 12
theorem dec_strs {w : World} {b off : Nat} {k : LKey} {x : LW} {t : List Value} (h : RowAt w b off (kC k ++ wC x ++ t)) : w.cell? ⟨b, off + 1, none⟩ = some (.string k.cl) ∧ w.cell? ⟨b, off + 2, none⟩ = some (.string k.at_) := ⟨h 1 _ rfl, h 2 _ rfl⟩
set_option maxRecDepth 100000 in
set_option maxHeartbeats 2000000 in
theorem some_any (ds : List LD) (A : Option Addr) (c : Nat) (w : World) (hx : RdD w ds (.slice A ds.length c)) :
    Calls Tryd.prog 18 #[.slice A ds.length c] w fun r w' => ∃ e, r = .returned (.bool e) ∧ (e = true → Some12 ds) ∧ Lat w w' := by
  by_cases hl : ds.length ≤ 12
  · have hgt : ¬ ((12 : Int) < (ds.length : Int)) := by omega
    go_enter Tryd.func18, Tryd.ntmps18
    go_wp2_with fail
    go_loopw [3] (fun i wr => ∃ j : Nat, j ≤ ds.length ∧ i = .int .i64 j ∧ Hid (∀ d ∈ ds.take j, d.los.length ≤ 12) ∧ Lat w wr) (fun i _ => ds.length - (intOf i).toNat)
    case atStart => exact ⟨0, Nat.zero_le _, rfl, Lib.hid (fun d hd => by simp at hd), Lat.refl _⟩
    case round =>
      clear hgt
      obtain ⟨j, hjl, rfl, HD, hLW⟩ := hrel
      by_cases hlt : j < ds.length
      · obtain ⟨b, off, A1, n1, m1, hA, hb1, hr1, hlr⟩ := (hx.lat hLW).row j hlt
        subst hA
        have htk : ds.take (j + 1) = ds.take j ++ [ds[j]] := List.take_succ_eq_append_getElem hlt
        obtain ⟨d, hd⟩ : ∃ d, d = ds[j] := ⟨_, rfl⟩
        rw [← hd] at hr1 hlr htk
        clear hd
        obtain ⟨A1', m1', hv1⟩ : ∃ A' c', Value.slice A1 n1 m1 = .slice A' d.los.length c' := by obtain ⟨A', c', h, _⟩ := hlr; exact ⟨A', c', h⟩
        injection hv1 with f1 f2 f3
        subst f1 f2 f3
        have c13 := (dec_los hr1).1
        have HTK := Lib.hid htk
        have HFEW := Lib.hid (few_any d.los A1 m1 wr hlr)
        clear htk hlr
        by_cases h1 : (12 : Int) < (d.los.length : Int)
        · clear hr1
          go_wp2_with fail
          go_ret
          exact ⟨_, rfl, (fun h => by cases h), hLW⟩
        · go_wp2_with fail
          refine HFEW.out.mono ?_
          rintro r w2 ⟨rfl, hl2⟩
          have hL2 := hLW.trans hl2
          have hr2 := hr1.below hl2 hb1
          have hb2 := Nat.lt_of_lt_of_le hb1 hl2.size
          have hw2 := dec_win hr2
          clear HFEW hr1 hl2 hb1 hLW c13
          cases hf : fewB d.los
          · clear hr2
            go_wp2_with fail
            go_ret
            exact ⟨_, rfl, (fun h => by cases h), hL2⟩
          · clear hf
            have HLONG := Lib.hid (long_any d.win w2)
            go_wp2_with (first | (with_reducible refine wpList_load_at rfl 29 _ rfl b (off + j * 15 + 3) rfl _ _ hw2 Tryd.underlying29 rfl (by kernel_rfl) ?_) | (refine wpList_load_atG rfl 29 _ rfl b (off + j * 15 + 3) rfl _ _ hw2 Tryd.underlying29 rfl (by kernel_rfl) ?_))
            refine HLONG.out.mono ?_
            rintro r w3 ⟨rfl, hl3⟩
            have hL3 := hL2.trans hl3
            have hr3 := hr2.below hl3 hb2
            obtain ⟨c1, c2⟩ := dec_strs hr3
            clear HLONG hr2 hl3 hb2 hL2 hw2 hr3
            cases hg : longB d.win
            · clear hg
              by_cases h2 : (100 : Int) < (d.key.cl.size : Int)
              · go_wp2_with fail
                go_ret
                exact ⟨_, rfl, (fun h => by cases h), hL3⟩
              · by_cases h3 : (100 : Int) < (d.key.at_.size : Int)
                · go_wp2_with fail
                  go_ret
                  exact ⟨_, rfl, (fun h => by cases h), hL3⟩
                · go_wp2_with fail
                  go_roundw
                  case rel => exact ⟨j + 1, by omega, by go_num, Lib.hid (fun x hx => by rw [HTK.out] at hx; rcases List.mem_append.1 hx with hx | hx; exact HD.out x hx; rw [List.mem_singleton.1 hx]; omega), hL3⟩
                  case measure => simp [intOf]; omega
            · clear hg
              go_wp2_with fail
              go_ret
              exact ⟨_, rfl, (fun h => by cases h), hL3⟩
      · have hj : ds.take j = ds := List.take_of_length_le (by omega)
        have hall := HD.out
        rw [hj] at hall
        have HALL := Lib.hid hall
        clear hj hall HD
        go_wp2_with fail
        go_ret
        exact ⟨_, rfl, fun _ => ⟨hl, HALL.out⟩, hLW⟩
  · have hgt : (12 : Int) < (ds.length : Int) := by omega
    go_enter Tryd.func18, Tryd.ntmps18
    go_wp2_with fail
    go_ret
    exact ⟨_, rfl, (fun h => by cases h), (Lat.refl _)⟩
theorem all_len {ds : List LD} (h : Some12 ds) : (allW ds).length ≤ 13 * ds.length := by
  have h2 := h.2
  clear h
  unfold allW
  induction ds with
  | nil => simp
  | cons d r ih =>
    have h1 := h2 d (by simp)
    have h3 := ih (fun x hx => h2 x (by simp [hx]))
    simp [LD.all] at *
    omega
set_option maxRecDepth 100000 in
set_option maxHeartbeats 2000000 in
theorem lawMerges (xs : List LD) (A : Option Addr) (c : Nat) (ys : List LD) (B : Option Addr) (c' : Nat) (w : World) (hx : RdD w xs (.slice A xs.length c)) (hy : RdD w ys (.slice B ys.length c')) :
    Calls Tryd.prog 5 #[.slice A xs.length c, .slice B ys.length c'] w fun r w' => r = .returned (.bool true) ∧ Lat w w' := by
  have HA := Lib.hid (some_any xs A c w hx)
  go_enter Tryd.func5, Tryd.ntmps5
  go_wp2_with fail
  refine HA.out.mono ?_
  rintro r w2 ⟨e, rfl, hsx, hl2⟩
  clear HA
  cases e
  · clear hsx
    go_wp2_with fail
    refine (awake_any _).mono ?_
    rintro r w9 ⟨rfl, hl9⟩
    go_wp2_with fail
    go_ret
    exact ⟨rfl, (hl2).trans hl9⟩
  · have HSX := Lib.hid (hsx rfl)
    have HB := Lib.hid (some_any ys B c' w2 (hy.lat hl2))
    clear hsx
    go_wp2_with fail
    refine HB.out.mono ?_
    rintro r w3 ⟨e, rfl, hsy, hl3⟩
    have hL3 := hl2.trans hl3
    clear HB hl2 hl3
    cases e
    · clear hsy
      go_wp2_with fail
      refine (awake_any _).mono ?_
      rintro r w9 ⟨rfl, hl9⟩
      go_wp2_with fail
      go_ret
      exact ⟨rfl, (hL3).trans hl9⟩
    · have hsx := HSX.out
      have hsy := hsy rfl
      have h1 := hsx.1
      have h2 := hsy.1
      have h3 := all_len hsx
      have h4 := all_len hsy
      have h5 : (allW (xs ++ ys)).length ≤ 1000 := by rw [allW_append, List.length_append]; omega
      have HM := Lib.hid (merge_any xs ys A B c c' w3 (hx.lat hL3) (hy.lat hL3) (by omega) (by omega))
      have H5 := Lib.hid h5
      clear HSX hsx hsy h3 h4 h5
      go_wp2_with fail
      refine HM.out.mono ?_
      rintro r w4 ⟨⟨ds, v4, rfl, hgood, hrd4⟩, hl4⟩
      have hL4 := hL3.trans hl4
      obtain rfl : ds = decR (allW (xs ++ ys)) := hgood.unique (decR_good _)
      have HR := Lib.hid (rmerge_any xs ys A B c c' w4 (hx.lat hL4) (hy.lat hL4) (by omega) (by have := H5.out; omega))
      clear HM hgood hL3 hl4
      go_wp2_with fail
      refine HR.out.mono ?_
      rintro r w5 ⟨⟨v5, rfl, hrd5⟩, hl5⟩
      have hL5 := hL4.trans hl5
      have hrd4 := hrd4.lat hl5
      have hdl := Nat.le_trans (decR_len (allW (xs ++ ys))) H5.out
      have hdo := fun x hx => Nat.le_trans (decR_los (allW (xs ++ ys)) x hx) H5.out
      generalize decR (allW (xs ++ ys)) = D at *
      obtain ⟨A4, c4, rfl⟩ := hrd4.slice
      obtain ⟨A5, c5, rfl⟩ := hrd5.slice
      have HS := Lib.hid (same_any D D A4 A5 c4 c5 w5 hrd4 hrd5 (by omega) (fun x hx => by have := hdo x hx; omega))
      clear HR hrd4 hrd5 hdo hL4 hl5
      go_wp2_with fail
      refine HS.out.mono ?_
      rintro r w6 ⟨rfl, hl6⟩
      have hL6 := hL5.trans hl6
      have HW := Lib.hid (winners_any xs A c w6 (hx.lat hL6) (by omega))
      clear HS hL5 hl6
      go_wp2_with fail
      refine HW.out.mono ?_
      rintro r w7 ⟨v7, rfl, hown7, hl7⟩
      have hL7 := hL6.trans hl7
      have HW2 := Lib.hid (rwinners_any xs A c w7 (hx.lat hL7) (by omega))
      clear HW hL6 hl7
      go_wp2_with fail
      refine HW2.out.mono ?_
      rintro r w8 ⟨v8, rfl, hown8, hl8⟩
      have hL8 := hL7.trans hl8
      have hr7 := (hown7.lat hl8).rd
      have hr8 := hown8.rd
      have hwl := winD_len xs
      obtain ⟨A7, c7, rfl⟩ := hown7.slice
      obtain ⟨A8, c8, rfl⟩ := hown8.slice
      have HE := Lib.hid (equal_any (winD xs) (winD xs) A7 A8 c7 c8 w8 hr7 hr8 (by omega))
      clear HW2 hown7 hown8 hr7 hr8 hwl hL7 hl8
      go_wp2_with fail
      refine HE.out.mono ?_
      rintro r w10 ⟨rfl, hl10⟩
      have hL10 := hL8.trans hl10
      clear HE
      go_wp2_with fail
      refine (awake_any _).mono ?_
      rintro r w9 ⟨rfl, hl9⟩
      go_wp2_with fail
      go_ret
      exact ⟨rfl, (hL10).trans hl9⟩
end Go.Proofs.YtgjoojailghilaaDoor
