/- Guard: Forced and Conflicts agree with the reference: the law walked. -/
import Derived.Test.YtmgalnbacenbbaaGLawOrder
import Derived.Test.YtmgalnbacenbbaaGRConW2
set_option linter.unusedSimpArgs false
set_option linter.unusedVariables false
namespace Go.Proofs.Ytmgalnbacenbbaa
open Go.RowKit

theorem same_fo2 {S : List (LkR × LLock)} {v v' : Value} {w : World} (h : FoAt S v w) (h' : ∃ ks, EW.Rd w (frc S ks) v' ∧ ks.Pairwise (fun a b => kless a b = true) ∧ ∀ k, k ∈ ks ↔ HasF S k) : Calls Try.prog 11 #[v, v'] w fun r w' => r = .returned (.bool true) ∧ Lat w w' := by
  obtain ⟨ks, A, c, rfl, h2, h3, h4⟩ := h
  obtain ⟨ks', h2', h3', h4'⟩ := h'
  rw [← frc_same h3.1 h3.2 h3' h4'] at h2'
  obtain ⟨A', c', rfl, h5⟩ := h2'
  exact sameW_same _ A A' c c' w h2 ⟨A', c', rfl, h5⟩ h4
theorem same_co2 {S : List (LkR × LLock)} {v v' : Value} {w : World} (h : CoAt S v w) (h' : ∃ ks, EK.Rd w (con S ks) v' ∧ ks.Pairwise (fun a b => kless a b = true) ∧ ∀ k, k ∈ ks ↔ HasF S k) : Calls Try.prog 14 #[v, v'] w fun r w' => r = .returned (.bool true) ∧ Lat w w' := by
  obtain ⟨ks, A, c, rfl, h2, h3, h4⟩ := h
  obtain ⟨ks', h2', h3', h4'⟩ := h'
  rw [← con_same h3.1 h3.2 h3' h4'] at h2'
  obtain ⟨A', c', rfl, h5⟩ := h2'
  exact sameK_same _ A A' c c' w h2 ⟨A', c', rfl, h5⟩ h4
set_option maxRecDepth 100000 in
set_option maxHeartbeats 2000000 in
theorem lawForces (ps : List (LkR × LLock)) (A : Option Addr) (c : Nat) (acts : List ByteArray) (B : Option Addr) (m : Nat) (w : World) (hx : RdL w ps (.slice A ps.length c)) (hy : ES.Rd w acts (.slice B acts.length m)) :
    Calls Try.prog 3 #[.slice A ps.length c, .slice B acts.length m] w fun r w' => r = .returned (.bool true) ∧ Lat w w' := by
  have HLV := fun w' => Lib.hid (lives_any w')
  have HG := Lib.hid (great_any ps A c acts B m w hx)
  go_enter Try.func3, Try.ntmps3
  go_wp2_with fail
  refine HG.out.mono ?_
  rintro r w1 ⟨⟨b, rfl, hb⟩, hl1⟩
  clear HG
  cases b
  · have HF := Lib.hid (hb rfl)
    have hp := HF.out.locks
    have ha := HF.out.acts
    clear hb
    go_wp2_with fail
    refine (forced_at ps A c acts B m _ (hx.lat hl1) (hy.lat hl1) HF.out).mono ?_
    rintro r w2 ⟨⟨v2, rfl, f2⟩, hl2⟩
    have hL2 := hl1.trans hl2
    go_wp2_with fail
    refine (rforcedW_any ps A c acts B m _ (hx.lat hL2) (hy.lat hL2) (by omega) (by omega) (fun p hp => (HF.out.items p hp).1)).mono ?_
    rintro r w3 ⟨ks3, v3, rfl, o3, p3, q3, hl3⟩
    have hL3 := hL2.trans hl3
    have HS := Lib.hid (same_fo2 (f2.lat hl3) ⟨ks3, o3.rd, p3, q3⟩)
    clear f2 o3 p3 q3
    go_wp2_with fail
    refine HS.out.mono ?_
    rintro r w4 ⟨rfl, hl4⟩
    have hL4 := hL3.trans hl4
    clear HS
    go_wp2_with fail
    refine (conf_at ps A c acts B m _ (hx.lat hL4) (hy.lat hL4) HF.out).mono ?_
    rintro r w5 ⟨⟨v5, rfl, f5⟩, hl5⟩
    have hL5 := hL4.trans hl5
    go_wp2_with fail
    refine (rconflicts_any ps A c acts B m _ (hx.lat hL5) (hy.lat hL5) (by omega) (by omega) (fun p hp => (HF.out.items p hp).1)).mono ?_
    rintro r w6 ⟨ks6, v6, rfl, o6, p6, q6, hl6⟩
    have hL6 := hL5.trans hl6
    have HS := Lib.hid (same_co2 (f5.lat hl6) ⟨ks6, o6.rd, p6, q6⟩)
    clear f5 o6 p6 q6
    go_wp2_with fail
    refine HS.out.mono ?_
    rintro r w7 ⟨rfl, hl7⟩
    have hL7 := hL6.trans hl7
    clear HS
    go_wp2_with fail
    refine (HLV _).out.mono ?_
    rintro r w8 ⟨rfl, hl8⟩
    have hL8 := hL7.trans hl8
    go_wp2_with fail
    go_ret
    exact ⟨rfl, hL8⟩
  · clear hb
    go_wp2_with fail
    refine (HLV _).out.mono ?_
    rintro r w4 ⟨rfl, hl4⟩
    have hL4 := hl1.trans hl4
    go_wp2_with fail
    go_ret
    exact ⟨rfl, hL4⟩
end Go.Proofs.Ytmgalnbacenbbaa
