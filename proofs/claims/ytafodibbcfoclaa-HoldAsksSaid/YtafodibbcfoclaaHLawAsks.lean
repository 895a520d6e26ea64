/- Hold: Next and Due of the program and of the reference agree: the law walked. -/
import Derived.Test.YtafodibbcfoclaaHAwake
import Derived.Test.YtafodibbcfoclaaHRNext
import Derived.Test.YtafodibbcfoclaaHRDue
import Derived.Test.YtafodibbcfoclaaHFew
import Derived.Test.YtafodibbcfoclaaHSame
set_option linter.unusedSimpArgs false
set_option linter.unusedVariables false
namespace Go.Proofs.Ytafodibbcfoclaa
open Go.RowKit

theorem nsame_self (xs : List ByteArray) (A B : Option Addr) (c c' : Nat) (w : World) (hx : ES.Rd w xs (.slice A xs.length c)) (hy : ES.Rd w xs (.slice B xs.length c')) (hbig : xs.length ≤ 1000000) :
    Calls Try.prog 12 #[.slice A xs.length c, .slice B xs.length c'] w fun r w' => r = .returned (.bool true) ∧ Lat w w' := by
  have h := nsame_any xs xs A B c c' w hx hy hbig
  rwa [decide_eq_true (rfl : xs = xs)] at h
set_option maxRecDepth 100000 in
set_option maxHeartbeats 4000000 in
theorem lawAsks (l : List LTim) (A : Option Addr) (c : Nat) (ps : List RP) (B : Option Addr) (m : Nat) (now : Int) (w : World) (hx : RdT w l (.slice A l.length c)) (hy : RdR w ps (.slice B ps.length m)) :
    Calls Try.prog 3 #[.slice A l.length c, .slice B ps.length m, .int .i64 now] w fun r w' => r = .returned (.bool true) ∧ Lat w w' := by
  have HAW := Lib.hid awake_any
  have HF := Lib.hid (few_any l A c ps B m w hy)
  have HNX := fun (hf : FewR l ps) (w' : World) (hl : Lat w w') => Lib.hid (next_any l A c ps B m w' (hx.lat hl) (hy.lat hl) (by have := hf.rules; omega) (fun p hp => by have := hf.ons p hp; omega))
  have HRX := fun (hf : FewR l ps) (w' : World) (hl : Lat w w') => Lib.hid (rnext_any l A c ps B m w' (hx.lat hl) (hy.lat hl) (by have := hf.rules; omega) (fun p hp => by have := hf.ons p hp; omega))
  have HDU := fun (hf : FewR l ps) (w' : World) (hl : Lat w w') => Lib.hid (due_any l A c ps B m now w' (hx.lat hl) (hy.lat hl) (by have := hf.rules; omega) (fun p hp => by have := hf.ons p hp; omega))
  have HRD := fun (hf : FewR l ps) (w' : World) (hl : Lat w w') => Lib.hid (rdue_any l A c ps B m now w' (hx.lat hl) (hy.lat hl) (by have := hf.rules; omega) (fun p hp => by have := hf.ons p hp; omega))
  have HDL : (dueP (holdsP ps) (validP l) now).length ≤ 40 := Nat.le_trans (dueP_len _ _ _) (holdsP_len ps)
  generalize dueP (holdsP ps) (validP l) now = D at *
  generalize nextP (holdsP ps) (validP l) = R at *
  obtain ⟨n, ok⟩ := R
  clear hx hy
  go_enter Try.func3, Try.ntmps3
  go_wp2_with fail
  refine HF.out.mono ?_
  rintro r w1 ⟨⟨b, rfl, hb⟩, hl1⟩
  clear HF
  cases b
  · clear hb HNX HRX HDU HRD
    go_wp2_with fail
    refine (HAW.out _).mono ?_
    rintro r w9 ⟨rfl, hl9⟩
    have hL9 := hl1.trans hl9
    clear HAW
    go_wp2_with fail
    go_ret
    exact ⟨rfl, hL9⟩
  have hf := Lib.hid (hb rfl)
  have HNX1 := HNX hf.out w1 hl1
  have HRX := HRX hf.out
  have HDU := HDU hf.out
  have HRD := HRD hf.out
  clear hb HNX hf
  go_wp2_with fail
  refine HNX1.out.mono ?_
  rintro r w2 ⟨rfl, hl2⟩
  have hL2 := hl1.trans hl2
  have HRX1 := HRX w2 hL2
  clear HNX1 HRX hl1 hl2
  go_wp2_with fail
  refine HRX1.out.mono ?_
  rintro r w3 ⟨rfl, hl3⟩
  have hL3 := hL2.trans hl3
  have HDU1 := HDU w3 hL3
  clear HRX1 HDU hL2 hl3
  cases ok <;>
  · go_wp2_with fail
    refine HDU1.out.mono ?_
    rintro r w4 ⟨⟨v4, rfl, hrd4⟩, hl4⟩
    obtain ⟨A4, c4, rfl⟩ := rd_slice hrd4
    have hL4 := hL3.trans hl4
    have HRD1 := HRD w4 hL4
    clear HDU1 HRD hL3 hl4
    go_wp2_with fail
    refine HRD1.out.mono ?_
    rintro r w5 ⟨⟨v5, rfl, hrd5⟩, hl5⟩
    obtain ⟨A5, c5, rfl⟩ := rd_slice hrd5
    have hL5 := hL4.trans hl5
    have HSA := Lib.hid (nsame_self D A4 A5 c4 c5 w5 (hrd4.lat hl5) hrd5 (by omega))
    clear HRD1 hL4 hl5 hrd4 hrd5
    go_wp2_with fail
    refine HSA.out.mono ?_
    rintro r w6 ⟨rfl, hl6⟩
    have hL6 := hL5.trans hl6
    clear HSA hL5 hl6
    go_wp2_with fail
    refine (HAW.out _).mono ?_
    rintro r w9 ⟨rfl, hl9⟩
    have hL9 := hL6.trans hl9
    clear HAW
    go_wp2_with fail
    go_ret
    exact ⟨rfl, hL9⟩
end Go.Proofs.Ytafodibbcfoclaa
