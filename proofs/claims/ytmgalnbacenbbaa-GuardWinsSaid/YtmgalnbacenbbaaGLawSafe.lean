/- Guard: Safe of the program and of the reference agree: the law walked. -/
import Derived.Test.YtmgalnbacenbbaaGLives
import Derived.Test.YtmgalnbacenbbaaGGreat
set_option linter.unusedSimpArgs false
set_option linter.unusedVariables false
namespace Go.Proofs.Ytmgalnbacenbbaa
open Go.RowKit

theorem Fits.few {ps : List (LkR × LLock)} {acts : List ByteArray} (h : Fits ps acts) : FewI ps := fun p hp => ⟨Nat.le_trans (h.items p hp).1 (by decide), Nat.le_trans (h.items p hp).2 (by decide)⟩
theorem Fits.its {ps : List (LkR × LLock)} {acts : List ByteArray} (h : Fits ps acts) : ∀ p ∈ ps, (itsOf p).length ≤ 60 := fun p hp => by
  unfold itsOf
  rw [List.length_append]
  have := h.items p hp
  omega
set_option maxRecDepth 100000 in
set_option maxHeartbeats 2000000 in
theorem lawSafe (ps : List (LkR × LLock)) (A : Option Addr) (c : Nat) (acts : List ByteArray) (B : Option Addr) (m : Nat) (its : List LItem) (C : Option Addr) (q : Nat) (w : World) (hx : RdL w ps (.slice A ps.length c)) (hy : ES.Rd w acts (.slice B acts.length m)) (hz : EI.Rd w its (.slice C its.length q)) :
    Calls Try.prog 7 #[.slice A ps.length c, .slice B acts.length m, .slice C its.length q] w fun r w' => r = .returned (.bool true) ∧ Lat w w' := by
  have HLV := fun w' => Lib.hid (lives_any w')
  have HG := Lib.hid (great_any ps A c acts B m w hx)
  have HS := fun (hf : Fits ps acts) (hi : its.length ≤ 100) (w' : World) (hl : Lat w w') => Lib.hid (safe_any ps A c acts B m its C q w' (hx.lat hl) (hy.lat hl) (hz.lat hl) (by have := hf.locks; omega) (by have := hf.acts; omega) (by omega) hf.few)
  have HR := fun (hf : Fits ps acts) (hi : its.length ≤ 100) (w' : World) (hl : Lat w w') => Lib.hid (rsafe_any ps A c acts B m its C q w' (hx.lat hl) (hy.lat hl) (hz.lat hl) (by have := hf.locks; omega) (by have := hf.acts; omega) (by omega) hf.few)
  generalize (!(its.any (badI ps acts))) = Q at *
  clear hx hy hz
  go_enter Try.func7, Try.ntmps7
  go_wp2_with fail
  refine HG.out.mono ?_
  rintro r w1 ⟨⟨b, rfl, hb⟩, hl1⟩
  clear HG
  cases b
  · have hf := hb rfl
    clear hb
    by_cases hi : its.length ≤ 100
    · have a1 : ¬ ((100 : Int) < (its.length : Int)) := by omega
      have HS2 := HS hf hi
      have HR2 := HR hf hi
      clear HS HR hi hf
      go_wp2_with fail
      refine (HS2 _ hl1).out.mono ?_
      rintro r w2 ⟨rfl, hl2⟩
      have hL2 := hl1.trans hl2
      go_wp2_with fail
      refine (HR2 _ hL2).out.mono ?_
      rintro r w3 ⟨rfl, hl3⟩
      have hL3 := hL2.trans hl3
      clear HS2 HR2
      cases Q <;> (
        go_wp2_with fail
        refine (HLV _).out.mono ?_
        rintro r w4 ⟨rfl, hl4⟩
        have hL4 := hL3.trans hl4
        go_wp2_with fail
        go_ret
        exact ⟨rfl, hL4⟩)
    · have a1 : (100 : Int) < (its.length : Int) := by omega
      clear HS HR hi hf
      go_wp2_with fail
      refine (HLV _).out.mono ?_
      rintro r w4 ⟨rfl, hl4⟩
      have hL4 := hl1.trans hl4
      go_wp2_with fail
      go_ret
      exact ⟨rfl, hL4⟩
  · clear HS HR hb
    go_wp2_with fail
    refine (HLV _).out.mono ?_
    rintro r w4 ⟨rfl, hl4⟩
    have hL4 := hl1.trans hl4
    go_wp2_with fail
    go_ret
    exact ⟨rfl, hL4⟩
end Go.Proofs.Ytmgalnbacenbbaa
