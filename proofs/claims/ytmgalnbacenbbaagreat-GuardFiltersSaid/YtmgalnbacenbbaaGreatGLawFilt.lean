/- Guard: Filter of the program and of the reference agree: the law walked. -/
import Derived.Test.YtmgalnbacenbbaaGreatGFSame
set_option linter.unusedSimpArgs false
set_option linter.unusedVariables false
namespace Go.Proofs.YtmgalnbacenbbaaGreat
open Go.RowKit

theorem los_allW : ∀ (ds : List LD) (d : LD), d ∈ ds → d.los.length ≤ (allW ds).length
  | [], d, h => by simp at h
  | x :: r, d, h => by
    rw [show allW (x :: r) = x.all ++ allW r from rfl, List.length_append]
    rcases List.mem_cons.1 h with e | h
    · subst e; simp only [LD.all, List.length_cons]; omega
    · have := los_allW r d h; omega
theorem frc_few {ps : List (LkR × LLock)} {acts : List ByteArray} (hf : Fits ps acts) {ks : List LKey} (h1 : ks.Pairwise (fun a b => kless a b = true)) (h2 : ∀ k, k ∈ ks ↔ HasKey (strg ps acts) k) : (frc (strg ps acts) ks).length ≤ 3000 := by
  have e1 := frc_len (strg ps acts) ks
  have e2 : ks.length ≤ (keysOf (strg ps acts)).length := nodup_len _ _ (h1.imp (fun hb => sto_kless.ne hb)) (fun k hk => mem_keysOf.2 ((h2 k).1 hk))
  have e3 := keysOf_len (strg ps acts) (fun p hp => hf.its p (strg_mem hp))
  have e4 := strg_len ps acts
  have e5 := hf.locks
  omega
theorem los_few {ps : List (LkR × LLock)} {acts : List ByteArray} {xs ds : List LD} (hf : Fits ps acts) (hm : FewD xs) {ks : List LKey} (h1 : ks.Pairwise (fun a b => kless a b = true)) (h2 : ∀ k, k ∈ ks ↔ HasKey (strg ps acts) k)
    (hg : Good (fun x => x ∈ allW xs ∨ x ∈ frc (strg ps acts) ks) ds) (d : LD) (hd : d ∈ ds) : d.los.length ≤ 100000 := by
  have e1 := los_allW ds d hd
  have e2 := nodup_len (allW ds) (allW xs ++ frc (strg ps acts) ks) hg.nodup (fun x hx => by
    obtain ⟨c, hc, hm⟩ := mem_allW.1 hx
    rw [List.mem_append]
    exact hg.sound c hc x hm)
  rw [List.length_append] at e2
  have e3 := allW_few xs 30 hm.2
  have e4 := frc_few hf h1 h2
  have e5 := hm.1
  omega
theorem los_fix (ps : List (LkR × LLock)) (acts : List ByteArray) (ds es : List LD) (he : ds.map (fixE ps acts) = es) (hc : ∀ d, d ∈ ds → d.los.length ≤ 100000) (j : Nat) (h : j < es.length) : (es[j]'h).los.length ≤ 9223372036854775807 := by
  subst he
  have hj : j < ds.length := by simpa using h
  rw [List.getElem_map]
  exact Nat.le_trans (hc (ds[j]'hj) (List.getElem_mem hj)) (by decide)
set_option maxRecDepth 100000 in
set_option maxHeartbeats 4000000 in
theorem lawFilters (ps : List (LkR × LLock)) (A : Option Addr) (c : Nat) (acts : List ByteArray) (B : Option Addr) (m : Nat) (xs : List LD) (D : Option Addr) (q : Nat) (w : World) (hx : RdL w ps (.slice A ps.length c)) (hy : ES.Rd w acts (.slice B acts.length m)) (hd : RdD w xs (.slice D xs.length q)) :
    Calls Tryz.prog 3 #[.slice A ps.length c, .slice B acts.length m, .slice D xs.length q] w fun r w' => r = .returned (.bool true) ∧ Lat w w' := by
  have HLV := fun w' => Lib.hid (lives_any w')
  have HG := Lib.hid (great_any ps A c acts B m w hx)
  have HM := fun (w' : World) (hl : Lat w w') => Lib.hid (many_any xs D q w' (hd.lat hl))
  have HFI := fun (hf : Fits ps acts) (hm : FewD xs) (w' : World) (hl : Lat w w') => Lib.hid (filter_any ps A c acts B m xs D q w' (hx.lat hl) (hy.lat hl) (hd.lat hl) (by have := hf.locks; omega) (by have := hf.acts; omega) hf.few hf.its hm.1 hm.2)
  have HRF := fun (hf : Fits ps acts) (hm : FewD xs) (w' : World) (hl : Lat w w') => Lib.hid (rfilter_any ps A c acts B m xs D q w' (hx.lat hl) (hy.lat hl) (hd.lat hl) (by have := hf.locks; omega) (by have := hf.acts; omega) hf.few (fun p hp => (hf.items p hp).1) hf.its hm.1 hm.2)
  clear hx hy hd
  go_enter Tryz.func3, Tryz.ntmps3
  go_wp2_with fail
  refine HG.out.mono ?_
  rintro r w1 ⟨⟨b, rfl, hb⟩, hl1⟩
  clear HG
  cases b
  rotate_left
  · clear hb HM HFI HRF
    go_wp2_with fail
    refine (HLV _).out.mono ?_
    rintro r w9 ⟨rfl, hl9⟩
    have hL9 := hl1.trans hl9
    go_wp2_with fail
    go_ret
    exact ⟨rfl, hL9⟩
  have hf := Lib.hid (hb rfl)
  clear hb
  go_wp2_with fail
  refine (HM _ hl1).out.mono ?_
  rintro r w2 ⟨⟨b, rfl, hb⟩, hl2⟩
  have hL2 := hl1.trans hl2
  clear HM hl1 hl2
  cases b
  rotate_left
  · clear hb HFI HRF
    go_wp2_with fail
    refine (HLV _).out.mono ?_
    rintro r w9 ⟨rfl, hl9⟩
    have hL9 := hL2.trans hl9
    go_wp2_with fail
    go_ret
    exact ⟨rfl, hL9⟩
  have hm := Lib.hid (hb rfl)
  clear hb
  go_wp2_with fail
  refine (HFI hf.out hm.out _ hL2).out.mono ?_
  rintro r w3 ⟨⟨ks, ds, v3, rfl, hgd, hks, hkm, hdl, hrd⟩, hl3⟩
  have hL3 := hL2.trans hl3
  have hdl' : (ds.map (fixE ps acts)).length ≤ 100000 := by rw [List.length_map]; exact hdl
  clear hdl
  obtain ⟨es, hes⟩ : ∃ es, ds.map (fixE ps acts) = es := ⟨_, rfl⟩
  rw [hes] at hrd hdl'
  obtain ⟨A3, c3, rfl⟩ := hrd.slice
  clear HFI hL2 hl3
  go_wp2_with fail
  refine (HRF hf.out hm.out _ hL3).out.mono ?_
  rintro r w4 ⟨⟨ks4, ds4, v4, rfl, hgd4, hks4, hkm4, hrd4⟩, hl4⟩
  rw [← frc_same hks hkm hks4 hkm4] at hgd4
  have he := hgd.unique hgd4
  subst he
  rw [hes] at hrd4
  have hL4 := hL3.trans hl4
  have hrd3 := hrd.lat hl4
  obtain ⟨A4, c4, rfl⟩ := hrd4.slice
  have HLO := los_fix ps acts ds es hes (los_few hf.out hm.out hks hkm hgd)
  have HS := Lib.hid (dsame_same es A3 A4 c3 c4 w4 hrd3 hrd4 hdl' HLO)
  clear HRF hgd hgd4 hks hkm hks4 hkm4 hdl' hrd hrd4 hrd3 hL3 hl4 HLO hes
  go_wp2_with fail
  refine HS.out.mono ?_
  rintro r w5 ⟨rfl, hl5⟩
  have hL5 := hL4.trans hl5
  clear HS
  go_wp2_with fail
  refine (HLV _).out.mono ?_
  rintro r w9 ⟨rfl, hl9⟩
  have hL9 := hL5.trans hl9
  go_wp2_with fail
  go_ret
  exact ⟨rfl, hL9⟩
end Go.Proofs.YtmgalnbacenbbaaGreat
