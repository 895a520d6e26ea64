/- Hold: Mark of the program and of the reference agree: the law walked. -/
import Derived.Test.YtafodibbcfoclaaHAwake
import Derived.Test.YtafodibbcfoclaaHSame
import Derived.Test.YtafodibbcfoclaaHRMark
set_option linter.unusedSimpArgs false
set_option linter.unusedVariables false
namespace Go.Proofs.Ytafodibbcfoclaa
open Go.RowKit

theorem markP_len (l : List LTim) (names : List ByteArray) : (markP l names).length ≤ 40 := by
  unfold markP
  rw [List.length_map]
  exact validP_len l
theorem rsame_self (xs : List LTim) (A B : Option Addr) (c c' : Nat) (w : World) (hx : ET.Rd w xs (.slice A xs.length c)) (hy : ET.Rd w xs (.slice B xs.length c')) (hbig : xs.length ≤ 1000000) :
    Calls Try.prog 15 #[.slice A xs.length c, .slice B xs.length c'] w fun r w' => r = .returned (.bool true) ∧ Lat w w' := by
  have h := rsame_any xs xs A B c c' w hx hy hbig
  rwa [decide_eq_true (rfl : xs = xs)] at h
set_option maxRecDepth 100000 in
set_option maxHeartbeats 2000000 in
theorem lawMarks (l : List LTim) (A : Option Addr) (c : Nat) (names : List ByteArray) (B : Option Addr) (m : Nat) (w : World) (hx : RdT w l (.slice A l.length c)) (hy : ES.Rd w names (.slice B names.length m)) :
    Calls Try.prog 4 #[.slice A l.length c, .slice B names.length m] w fun r w' => r = .returned (.bool true) ∧ Lat w w' := by
  by_cases h1 : 50 < l.length
  · have a1 : (50 : Int) < (l.length : Int) := by omega
    clear hx hy
    go_enter Try.func4, Try.ntmps4
    go_wp2_with fail
    refine (awake_any _).mono ?_
    rintro r w9 ⟨rfl, hl9⟩
    go_wp2_with fail
    go_ret
    exact ⟨rfl, hl9⟩
  · have a1 : ¬ ((50 : Int) < (l.length : Int)) := by omega
    by_cases h2 : 50 < names.length
    · have a2 : (50 : Int) < (names.length : Int) := by omega
      clear hx hy
      go_enter Try.func4, Try.ntmps4
      go_wp2_with fail
      refine (awake_any _).mono ?_
      rintro r w9 ⟨rfl, hl9⟩
      go_wp2_with fail
      go_ret
      exact ⟨rfl, hl9⟩
    · have a2 : ¬ ((50 : Int) < (names.length : Int)) := by omega
      have HM := Lib.hid (mark_any l A c names B m w hx.1 hy (by omega))
      have HR := fun (w' : World) (hl : Lat w w') => Lib.hid (rmark_any l A c names B m w' (hx.1.lat hl) (hy.lat hl) (by omega))
      have HS := fun (A1 B1 : Option Addr) (c1 c2 : Nat) (w' : World) (h1 : ET.Rd w' (markP l names) (.slice A1 (markP l names).length c1)) (h2 : ET.Rd w' (markP l names) (.slice B1 (markP l names).length c2)) => Lib.hid (rsame_self (markP l names) A1 B1 c1 c2 w' h1 h2 (by have := markP_len l names; omega))
      generalize markP l names = M at *
      clear hx hy
      go_enter Try.func4, Try.ntmps4
      go_wp2_with fail
      refine HM.out.mono ?_
      rintro r w1 ⟨⟨v1, rfl, hr1⟩, hl1⟩
      obtain ⟨A1, c1, rfl⟩ := rd_slice hr1
      have HR1 := HR w1 hl1
      clear HM HR
      go_wp2_with fail
      refine HR1.out.mono ?_
      rintro r w2 ⟨⟨v2, rfl, hr2⟩, hl2⟩
      obtain ⟨A2, c2, rfl⟩ := rd_slice hr2
      have HS1 := HS A1 A2 c1 c2 w2 (hr1.lat hl2) hr2
      have hL2 := hl1.trans hl2
      clear HR1 HS hr1 hr2 hl1 hl2
      go_wp2_with fail
      refine HS1.out.mono ?_
      rintro r w3 ⟨rfl, hl3⟩
      have hL3 := hL2.trans hl3
      clear HS1 hL2 hl3
      go_wp2_with fail
      refine (awake_any _).mono ?_
      rintro r w9 ⟨rfl, hl9⟩
      go_wp2_with fail
      go_ret
      exact ⟨rfl, hL3.trans hl9⟩
end Go.Proofs.Ytafodibbcfoclaa
