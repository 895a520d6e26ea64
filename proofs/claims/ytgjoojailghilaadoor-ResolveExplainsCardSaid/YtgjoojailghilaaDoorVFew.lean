/- Resolve: few. -/
import Derived.Test.YtgjoojailghilaaDoorVLaw1
set_option linter.unusedSimpArgs false
set_option linter.unusedVariables false
namespace Go.Proofs.YtgjoojailghilaaDoor
open Go.RowKit

def fewB (l : List LW) : Bool := decide (l.length ≤ 40) && l.all (fun x => !longB x)
set_option maxRecDepth 100000 in
set_option maxHeartbeats 4000000 in
theorem few_any (l : List LW) (A : Option Addr) (c : Nat) (w : World) (hx : EW.Rd w l (.slice A l.length c)) :
    Calls Tryd.prog 14 #[.slice A l.length c] w fun r w' => r = .returned (.bool (fewB l)) ∧ Lat w w' := by
  by_cases hl : l.length ≤ 40
  · have HR : Hid (fewB l = (l.drop 0).all (fun x => !longB x)) := Lib.hid (by rw [fewB, decide_eq_true hl, List.drop_zero]; rfl)
    have hgt : ¬ ((40 : Int) < (l.length : Int)) := by omega
    generalize fewB l = R at *
    go_enter Tryd.func14, Tryd.ntmps14
    go_wp2_with fail
    go_loopw [3] (fun i wr => ∃ j : Nat, j ≤ l.length ∧ i = .int .i64 j ∧ Hid (R = (l.drop j).all (fun x => !longB x)) ∧ Lat w wr) (fun i _ => l.length - (intOf i).toNat)
    case atStart => exact ⟨0, Nat.zero_le _, rfl, HR, Lat.refl _⟩
    case round =>
      clear HR hgt
      obtain ⟨j, hjl, rfl, HR, hLW⟩ := hrel
      by_cases hlt : j < l.length
      · obtain ⟨b, off, hA, hb1, hr1'⟩ := (hx.lat hLW).row j hlt
        subst hA
        have hr1 : RowAt wr b (off + j * 10) (wC l[j]) := hr1'
        clear hr1'
        rw [List.drop_eq_getElem_cons hlt, List.all_cons] at HR
        have HQ := Lib.hid (long_any l[j] wr)
        go_wp2_with (with_reducible refine wpList_load_at rfl 29 _ rfl b (off + j * 10) rfl _ _ hr1 Tryd.underlying29 rfl (by kernel_rfl) ?_)
        refine HQ.out.mono ?_
        rintro r w2 ⟨rfl, hl2⟩
        have hL2 := hLW.trans hl2
        clear HQ
        cases hq : longB l[j]
        · rw [hq] at HR
          clear hq
          go_wp2_with fail
          go_roundw
          case rel => exact ⟨j + 1, by omega, by go_num, HR, hL2⟩
          case measure => simp [intOf]; omega
        · rw [hq] at HR
          have hR : R = false := HR.out
          clear hq HR
          subst hR
          go_wp2_with fail
          go_ret
          exact ⟨rfl, hL2⟩
      · have d1 : l.drop j = [] := List.drop_of_length_le (by omega)
        have hR : R = true := HR.out.trans (by rw [d1]; rfl)
        clear d1
        have hj : j = l.length := by omega
        subst hj
        go_wp2_with fail
        go_ret
        subst hR
        exact ⟨rfl, hLW⟩
  · have hR : fewB l = false := by rw [fewB, decide_eq_false hl]; rfl
    have hgt : (40 : Int) < (l.length : Int) := by omega
    rw [hR]
    go_enter Tryd.func14, Tryd.ntmps14
    go_wp2_with fail
    go_ret
    exact ⟨rfl, Lat.refl _⟩
end Go.Proofs.YtgjoojailghilaaDoor
