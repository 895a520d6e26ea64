/- Guard: Blocked and Allowed agree with the reference: the law walked. -/
import Derived.Test.YtmgalnbacenbbaaGLawSafe
import Derived.Test.YtmgalnbacenbbaaGReadC
set_option linter.unusedSimpArgs false
set_option linter.unusedVariables false
namespace Go.Proofs.Ytmgalnbacenbbaa
open Go.RowKit

set_option maxRecDepth 100000 in
set_option maxHeartbeats 2000000 in
theorem lawBlocks (ps : List (LkR × LLock)) (A : Option Addr) (c : Nat) (acts : List ByteArray) (B : Option Addr) (m : Nat) (k : LKey) (v : LVal) (w : World) (hx : RdL w ps (.slice A ps.length c)) (hy : ES.Rd w acts (.slice B acts.length m)) :
    Calls Try.prog 4 #[.agg (caC A ps.length c B acts.length m k v).toArray] w fun r w' => r = .returned (.bool true) ∧ Lat w w' := by
  have HLV := fun w' => Lib.hid (lives_any w')
  have hL0 : Lat w (w.alloc (.cells (caC A ps.length c B acts.length m k v).toArray 37)) := Lat.al _ _
  have hb0 := Blk.new w 37 (caC A ps.length c B acts.length m k v).toArray
  have HG := Lib.hid (great_any ps A c acts B m (w.alloc (.cells (caC A ps.length c B acts.length m k v).toArray 37)) (hx.lat hL0))
  have HR := fun (hf : Fits ps acts) (w' : World) (hl : Lat w w') => Lib.hid (rblocked_any ps A c acts B m k v w' (hx.lat hl) (hy.lat hl) (by have := hf.locks; omega) (by have := hf.acts; omega) hf.few)
  have HB := fun (hf : Fits ps acts) (w' : World) (hl : Lat w w') => Lib.hid (blocked_any ps A c acts B m k v w' (hx.lat hl) (hy.lat hl) (by have := hf.locks; omega) (by have := hf.acts; omega) hf.few)
  have HA := fun (hf : Fits ps acts) (w' : World) (hl : Lat w w') => Lib.hid (allowed_any ps A c acts B m k v w' (hx.lat hl) (hy.lat hl) (by have := hf.locks; omega) (by have := hf.acts; omega) hf.few)
  have hR : blkN k v ((strg ps acts).map Prod.snd) = blkAll ps acts k v := rfl
  rw [hR] at HR
  generalize blkAll ps acts k v = R at *
  clear hx hy hR
  obtain ⟨k1, k2, k3⟩ := k
  obtain ⟨v1, v2, v3⟩ := v
  simp only [caC, kC, vC] at *
  have hc0 := hb0.cell
  go_enter Try.func4, Try.ntmps4
  go_wp2_with fail
  refine HG.out.mono ?_
  rintro r w1 ⟨⟨b, rfl, hb⟩, hl1⟩
  have hL1 := hL0.trans hl1
  have hb1 := hb0.lat hl1
  have hc1 := hb1.cell
  clear HG hc0 hb0 hL0
  cases b
  · have hf := hb rfl
    have HR2 := HR hf
    have HB2 := HB hf
    have HA2 := HA hf
    clear hb HR HB HA hf
    go_wp2_with fail
    refine (HR2 _ hL1).out.mono ?_
    rintro r w2 ⟨rfl, hl2⟩
    have hL2 := hL1.trans hl2
    have hb2 := hb1.lat hl2
    have hc2 := hb2.cell
    clear hc1
    go_wp2_with fail
    refine (HB2 _ hL2).out.mono ?_
    rintro r w3 ⟨rfl, hl3⟩
    have hL3 := hL2.trans hl3
    have hb3 := hb2.lat hl3
    have hc3 := hb3.cell
    clear hc2
    go_wp2_with fail
    refine (HA2 _ hL3).out.mono ?_
    rintro r w4 ⟨rfl, hl4⟩
    have hL4 := hL3.trans hl4
    clear hc3 HR2 HB2 HA2 hl4 hl3 hl2 hb3 hb2 hb1
    by_cases hz : R.size = 0
    · have hz2 := hz
      obtain rfl := size_nil hz
      go_wp2_with fail
      refine (HLV _).out.mono ?_
      rintro r w5 ⟨rfl, hl5⟩
      have hL5 := hL4.trans hl5
      go_wp2_with fail
      go_ret
      exact ⟨rfl, hL5⟩
    · have hd : decide (R.size = 0) = false := decide_eq_false hz
      have hs1 : ¬ R.toList = [] := fun h => hz ((toList_nil R).1 h)
      have hs2 : R.toList.isEmpty = false := by simpa using hs1
      have hne : (R.toList == []) = false := by simpa using hs1
      have HS := Lib.hid hz
      clear hz
      rw [hd]
      go_wp2_with fail
      refine (HLV _).out.mono ?_
      rintro r w5 ⟨rfl, hl5⟩
      have hL5 := hL4.trans hl5
      go_wp2_with fail
      go_ret
      exact ⟨rfl, hL5⟩
  · clear HR HB HA hb
    go_wp2_with fail
    refine (HLV _).out.mono ?_
    rintro r w4 ⟨rfl, hl4⟩
    have hL4 := hL1.trans hl4
    go_wp2_with fail
    go_ret
    exact ⟨rfl, hL4⟩
end Go.Proofs.Ytmgalnbacenbbaa
