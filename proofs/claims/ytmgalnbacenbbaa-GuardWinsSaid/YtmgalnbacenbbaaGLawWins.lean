/- Guard: the winner of each forced key is the forced write: the law walked. -/
import Derived.Test.YtmgalnbacenbbaaGFilt
import Derived.Test.YtmgalnbacenbbaaGMany
import Derived.Test.YtmgalnbacenbbaaGLawSafe
import Derived.Test.YtmgalnbacenbbaaGSame
set_option linter.unusedSimpArgs false
set_option linter.unusedVariables false
namespace Go.Proofs.Ytmgalnbacenbbaa
open Go.RowKit

theorem wC_k {w : World} {b off : Nat} {x : LW} (h : RowAt w b off (wC x)) : RowAt w b off (kC x.key) := fun q v hq => h q v (by
  match q, hq with
  | 0, hq => exact hq
  | 1, hq => exact hq
  | 2, hq => exact hq
  | q + 3, hq => simp [kC] at hq)
theorem wC_v {w : World} {b off : Nat} {x : LW} (h : RowAt w b off (wC x)) : RowAt w b (off + 3) (vC x.val) := h.part 3 _ fun q v hq => by
  match q, hq with
  | 0, hq => exact hq
  | 1, hq => exact hq
  | 2, hq => exact hq
  | q + 3, hq => simp [vC] at hq
theorem wC_ck {w : World} {b off : Nat} {x : LW} (h : RowAt w b off (wC x)) : w.cell? ⟨b, off + 6, none⟩ = some (.int .i64 x.ck) := h 6 _ rfl
theorem any_step {α : Type} (p : α → Bool) (l : List α) (j : Nat) (h : j < l.length) : (l.take (j + 1)).any p = ((l.take j).any p || p l[j]) := by
  rw [List.take_succ_eq_append_getElem h, List.any_append]
  simp
def beats (d : LD) (x : LW) : Bool := decide (d.key = x.key) && decide (d.win = x)
set_option maxRecDepth 100000 in
set_option maxHeartbeats 8000000 in
theorem lawWins (ps : List (LkR × LLock)) (A : Option Addr) (c : Nat) (acts : List ByteArray) (B : Option Addr) (m : Nat) (xs : List LD) (D : Option Addr) (q : Nat) (w : World) (hx : RdL w ps (.slice A ps.length c)) (hy : ES.Rd w acts (.slice B acts.length m)) (hd : RdD w xs (.slice D xs.length q)) :
    Calls Try.prog 8 #[.slice A ps.length c, .slice B acts.length m, .slice D xs.length q] w fun r w' => r = .returned (.bool true) ∧ Lat w w' := by
  have HLV := fun w' => Lib.hid (lives_any w')
  have HG := Lib.hid (great_any ps A c acts B m w hx)
  have HM := fun (w' : World) (hl : Lat w w') => Lib.hid (many_any xs D q w' (hd.lat hl))
  have HFI := fun (hf : Fits ps acts) (hm : FewD xs) (w' : World) (hl : Lat w w') => Lib.hid (filter_any ps A c acts B m xs D q w' (hx.lat hl) (hy.lat hl) (hd.lat hl) (by have := hf.locks; omega) (by have := hf.acts; omega) hf.few hf.its hm.1 hm.2)
  have HAL := fun (hf : Fits ps acts) (k : LKey) (v : LVal) (w' : World) (hl : Lat w w') => Lib.hid (allowed_any ps A c acts B m k v w' (hx.lat hl) (hy.lat hl) (by have := hf.locks; omega) (by have := hf.acts; omega) hf.few)
  have HFO := fun (hf : Fits ps acts) (w' : World) (hl : Lat w w') => Lib.hid (forcedW_any ps A c acts B m w' (hx.lat hl) (hy.lat hl) (by have := hf.locks; omega) (by have := hf.acts; omega) hf.its)
  have hcap : xs.length ≤ 30 → True := fun _ => trivial
  clear hx hy hcap
  go_enter Try.func8, Try.ntmps8
  go_wp2_with fail
  refine HG.out.mono ?_
  rintro r w1 ⟨⟨b, rfl, hb⟩, hl1⟩
  clear HG
  cases b
  rotate_left
  · clear hb HM HFI HAL HFO hd
    go_wp2_with fail
    refine (HLV _).out.mono ?_
    rintro r w9 ⟨rfl, hl9⟩
    have hL9 := hl1.trans hl9
    go_wp2_with fail
    go_ret
    exact ⟨rfl, hL9⟩
  have hf := Lib.hid (hb rfl)
  clear hb
  go_wp2_with fail
  refine (HM _ hl1).out.mono ?_
  rintro r w2 ⟨⟨b, rfl, hb⟩, hl2⟩
  have hL2 := hl1.trans hl2
  clear HM hl1 hl2
  cases b
  rotate_left
  · clear hb HFI HAL HFO hd
    go_wp2_with fail
    refine (HLV _).out.mono ?_
    rintro r w9 ⟨rfl, hl9⟩
    have hL9 := hL2.trans hl9
    go_wp2_with fail
    go_ret
    exact ⟨rfl, hL9⟩
  have hm := Lib.hid (hb rfl)
  have hxl := hm.out.1
  have HXL : Hid (∀ (j : Nat) (h : j < xs.length), xs[j].los.length ≤ 30) := Lib.hid (fun j h => hm.out.2 _ (List.getElem_mem h))
  clear hb
  go_wp2_with fail
  go_loopw [7, 8] (fun i k wr => ∃ j : Nat, j ≤ xs.length ∧ i = .int .i64 j ∧ Hid (∀ x ∈ allW (xs.take j), x.ck < 4) ∧ Lat w wr) (fun i k _ => xs.length - (intOf i).toNat)
  case atStart => exact ⟨0, Nat.zero_le _, rfl, Lib.hid (fun x hx => by simp [allW] at hx), hL2⟩
  case round =>
    clear hL2
    obtain ⟨j, hjl, rfl, HJ, hLW⟩ := hrel
    by_cases hlt : j < xs.length
    · obtain ⟨b, off, A', n', c', hA, hb1, hr1, hlo⟩ := (hd.lat hLW).row j hlt
      subst hA
      have HTK := Lib.hid (allW_take xs j hlt)
      have hlos := HXL.out j hlt
      have c9 : wr.cell? ⟨b, off + j * 15 + 9, none⟩ = some (.int .i64 xs[j].win.ck) := hr1 9 _ rfl
      have c13 : wr.cell? ⟨b, off + j * 15 + 13, none⟩ = some (.slice A' n' c') := (dec_los hr1).1
      have hlo' := hlo
      obtain ⟨_, _, hv, _⟩ := hlo'
      injection hv with e1 e2 e3
      subst e2
      clear e1 e3
      by_cases h3 : xs[j].win.ck < 4
      · generalize xs[j].win = X at *
        generalize xs[j].los = los at *
        have a3 : ¬ (4 ≤ X.ck) := by omega
        have a3' : decide (4 ≤ X.ck) = false := decide_eq_false a3
        have H3 := Lib.hid h3
        clear hr1 h3
        go_wp2_with fail
        obtain ⟨w5, rfl⟩ : ∃ w, w = wr := ⟨_, rfl⟩
        go_loopw [8] (fun k wr2 => ∃ n : Nat, n ≤ los.length ∧ k = .int .i64 n ∧ Hid (∀ x ∈ los.take n, x.ck < 4) ∧ Lat w5 wr2) (fun k _ => los.length - (intOf k).toNat)
        case atStart => exact ⟨0, Nat.zero_le _, rfl, Lib.hid (fun x hx => by simp at hx), Lat.refl _⟩
        case round =>
          obtain ⟨n, hnl, rfl, HN, hL5⟩ := hrel
          have c13' : wr.cell? ⟨b, off + j * 15 + 13, none⟩ = some (.slice A' los.length c') := (hL5.cell (p := ⟨b, off + j * 15 + 13, none⟩) hb1).trans c13
          have hLW5 := hLW.trans hL5
          by_cases hn : n < los.length
          · obtain ⟨b2, off2, hA2, hb2, hr2⟩ := (hlo.lat hL5).row n hn
            subst hA2
            have HTN := Lib.hid (List.take_succ_eq_append_getElem hn)
            have c6 : wr.cell? ⟨b2, off2 + n * 10 + 6, none⟩ = some (.int .i64 los[n].ck) := wC_ck hr2
            by_cases h4 : los[n].ck < 4
            · have a4 : ¬ (4 ≤ los[n].ck) := by omega
              have a4' : decide (4 ≤ los[n].ck) = false := decide_eq_false a4
              have HN2 : Hid (∀ x ∈ los.take (n + 1), x.ck < 4) := Lib.hid (fun x hx => by
                rw [HTN.out] at hx
                rcases List.mem_append.1 hx with hx | hx
                · exact HN.out x hx
                · rw [List.mem_singleton] at hx; subst hx; exact h4)
              generalize los[n] = X2 at *
              clear hr2 h4 HN HTN
              go_wp2_with fail
              go_roundw
              case rel => exact ⟨n + 1, by omega, by go_num, HN2, hL5⟩
              case measure => simp [intOf]; omega
            · have a4 : 4 ≤ los[n].ck := by omega
              generalize los[n] = X2 at *
              clear hr2 h4 HN HTN HJ HTK H3 hlo HFI HAL HFO HXL
              go_wp2_with fail
              refine (HLV _).out.mono ?_
              rintro r w9 ⟨rfl, hl9⟩
              have hL9 := hLW5.trans hl9
              go_wp2_with fail
              go_ret
              exact ⟨rfl, hL9⟩
          · have hn' : n = los.length := by omega
            subst hn'
            have HJ2 : Hid (∀ x ∈ allW (xs.take (j + 1)), x.ck < 4) := Lib.hid (fun x hx => by
              rw [HTK.out] at hx
              rcases List.mem_append.1 hx with hx | hx
              · exact HJ.out x hx
              · rcases List.mem_cons.1 hx with hx | hx
                · subst hx; exact H3.out
                · exact HN.out x (by rw [List.take_length]; exact hx))
            clear HN HJ HTK
            go_wp2_with fail
            go_roundw
            case rel => exact ⟨j + 1, by omega, by go_num, HJ2, hLW5⟩
            case measure => simp [intOf]; omega
      · generalize xs[j].win = X at *
        generalize xs[j].los = los at *
        have a3 : 4 ≤ X.ck := by omega
        clear hr1 h3 HJ HTK hlo HFI HAL HFO HXL
        go_wp2_with fail
        refine (HLV _).out.mono ?_
        rintro r w9 ⟨rfl, hl9⟩
        have hL9 := hLW.trans hl9
        go_wp2_with fail
        go_ret
        exact ⟨rfl, hL9⟩
    · have HS : Hid (∀ x, x ∈ allW xs → x.ck < 4) := Lib.hid (fun x hx => HJ.out x (by rw [List.take_of_length_le (by omega)]; exact hx))
      have hj : j = xs.length := by omega
      subst hj
      clear HJ HXL hd
      go_wp2_with fail
      refine (HFI hf.out hm.out _ hLW).out.mono ?_
      rintro r w3 ⟨⟨ks, ds, v3, rfl, hgd, hks, hkm, hdl, hrd⟩, hl3⟩
      have hL3 := hLW.trans hl3
      clear HFI hLW
      have HWN := Lib.hid (fun x (hx : x ∈ frc (strg ps acts) ks) => wins_fix (acts := acts) hgd HS.out x hx)
      have HKS := Lib.hid (And.intro hks hkm)
      have hml : (ds.map (fixE ps acts)).length ≤ 100000 := by rw [List.length_map]; exact hdl
      have HER : Hid (∀ (n : Nat) (h : n < (ds.map (fixE ps acts)).length), (ds.map (fixE ps acts))[n].err = if (blkAll ps acts (ds.map (fixE ps acts))[n].win.key (ds.map (fixE ps acts))[n].win.val).size = 0 then 0 else 19) := Lib.hid (fun n h => by rw [List.getElem_map]; rfl)
      clear hgd hks hkm HS hdl hm
      generalize ds.map (fixE ps acts) = F at *
      obtain ⟨A3, c3, rfl⟩ := hrd.slice
      go_wp2_with fail
      go_loopw [10] (fun k wr2 => ∃ n : Nat, n ≤ F.length ∧ k = .int .i64 n ∧ Lat w3 wr2) (fun k _ => F.length - (intOf k).toNat)
      case atStart => exact ⟨0, Nat.zero_le _, rfl, Lat.refl _⟩
      case round =>
        obtain ⟨n, hnl, rfl, hLr⟩ := hrel
        by_cases hn : n < F.length
        · obtain ⟨b, off, A', n', c', hA, hb1, hr1, -⟩ := (hrd.lat hLr).row n hn
          subst hA
          have her := HER.out n hn
          generalize F[n] = X at *
          have hw3 := dec_win hr1
          have hk1 : RowAt wr b (off + n * 15 + 3) (kC X.win.key) := wC_k hw3
          have hv1 : RowAt wr b (off + n * 15 + 6) (vC X.win.val) := wC_v hw3
          have h14 := (dec_los hr1).2
          have hLW3 := hL3.trans hLr
          clear hr1 hw3 HER
          by_cases hz : (blkAll ps acts X.win.key X.win.val).size = 0
          · rw [if_pos hz] at her
            rw [her] at h14
            have HA := fun (w' : World) (h : Lat w w') => Lib.hid (show Calls Try.prog 19 #[.slice A ps.length c, .slice B acts.length m, .agg (kC X.win.key).toArray, .agg (vC X.win.val).toArray] w' fun r w'' => r = .returned (.bool true) ∧ Lat w' w'' from by
              have := (HAL hf.out X.win.key X.win.val w' h).out
              rwa [decide_eq_true hz] at this)
            clear her hz HAL
            go_wp2_with fail
            refine wp_rely (by kernel_rfl) (by kernel_rfl) ?_
            apply RelyL.val
            · intro ν w' hL hF K hK'
              go_simp
              exact hK'.out _ _ rfl (Lat.refl _)
            simp only [Act.put, List.setIfInBounds_toArray, List.set_cons_zero, List.set_cons_succ, Nat.reduceAdd]
            apply RelyL.val
            · intro ν w' hL hF K hK'
              go_simp
              exact hK'.out _ _ rfl (Lat.refl _)
            simp only [Act.put, List.setIfInBounds_toArray, List.set_cons_zero, List.set_cons_succ, Nat.reduceAdd]
            apply RelyL.val
            · intro ν w' hL hF K hK'
              go_simp
              exact hK'.out _ _ rfl (Lat.refl _)
            simp only [Act.put, List.setIfInBounds_toArray, List.set_cons_zero, List.set_cons_succ, Nat.reduceAdd]
            apply RelyL.val
            · intro ν w' hL hF K hK'
              go_simp
              exact hK'.out _ _ rfl (Lat.refl _)
            simp only [Act.put, List.setIfInBounds_toArray, List.set_cons_zero, List.set_cons_succ, Nat.reduceAdd]
            apply RelyL.val
            · intro ν w' hL hF K hK'
              have c14 := (hL.cell (p := ⟨b, off + n * 15 + 14, none⟩) hb1).trans h14
              go_simp
              exact hK'.out _ _ rfl (Lat.refl _)
            simp only [Act.put, List.setIfInBounds_toArray, List.set_cons_zero, List.set_cons_succ, Nat.reduceAdd]
            apply RelyL.val
            · intro ν w' hL hF K hK'
              go_simp
              exact hK'.out _ _ rfl (Lat.refl _)
            simp only [Act.put, List.setIfInBounds_toArray, List.set_cons_zero, List.set_cons_succ, Nat.reduceAdd]
            apply RelyL.val
            · intro ν w' hL hF K hK'
              go_simp
              exact hK'.out _ _ rfl (Lat.refl _)
            simp only [Act.put, List.setIfInBounds_toArray, List.set_cons_zero, List.set_cons_succ, Nat.reduceAdd]
            apply RelyL.val
            · intro ν w' hL hF K hK'
              go_simp
              exact hK'.out _ _ rfl (Lat.refl _)
            simp only [Act.put, List.setIfInBounds_toArray, List.set_cons_zero, List.set_cons_succ, Nat.reduceAdd]
            apply RelyL.val
            · intro ν w' hL hF K hK'
              go_simp
              exact hK'.out _ _ rfl (Lat.refl _)
            simp only [Act.put, List.setIfInBounds_toArray, List.set_cons_zero, List.set_cons_succ, Nat.reduceAdd]
            apply RelyL.val
            · intro ν w' hL hF K hK'
              go_simp
              exact hK'.out _ _ rfl (Lat.refl _)
            simp only [Act.put, List.setIfInBounds_toArray, List.set_cons_zero, List.set_cons_succ, Nat.reduceAdd]
            apply RelyL.val
            · intro ν w' hL hF K hK'
              go_simp
              exact hK'.out _ _ rfl (Lat.refl _)
            simp only [Act.put, List.setIfInBounds_toArray, List.set_cons_zero, List.set_cons_succ, Nat.reduceAdd]
            apply RelyL.val
            · intro ν w' hL hF K hK'
              go_simp
              exact hK'.out _ _ rfl (Lat.refl _)
            simp only [Act.put, List.setIfInBounds_toArray, List.set_cons_zero, List.set_cons_succ, Nat.reduceAdd]
            apply RelyL.val
            · intro ν w' hL hF K hK'
              go_simp
              exact hK'.out _ _ rfl (Lat.refl _)
            simp only [Act.put, List.setIfInBounds_toArray, List.set_cons_zero, List.set_cons_succ, Nat.reduceAdd]
            apply RelyL.val
            · intro ν w' hL hF K hK'
              refine take_op rfl ?_
              refine wp_load_at 33 _ rfl b ((off + n * 15 + 3)) rfl _ _ (hk1.below hL hb1) Try.underlying33 rfl (by kernel_rfl) ?_
              exact hK'.out _ _ rfl (Lat.refl _)
            simp only [Act.put, List.setIfInBounds_toArray, List.set_cons_zero, List.set_cons_succ, Nat.reduceAdd]
            apply RelyL.val
            · intro ν w' hL hF K hK'
              go_simp
              exact hK'.out _ _ rfl (Lat.refl _)
            simp only [Act.put, List.setIfInBounds_toArray, List.set_cons_zero, List.set_cons_succ, Nat.reduceAdd]
            apply RelyL.val
            · intro ν w' hL hF K hK'
              go_simp
              exact hK'.out _ _ rfl (Lat.refl _)
            simp only [Act.put, List.setIfInBounds_toArray, List.set_cons_zero, List.set_cons_succ, Nat.reduceAdd]
            apply RelyL.val
            · intro ν w' hL hF K hK'
              go_simp
              exact hK'.out _ _ rfl (Lat.refl _)
            simp only [Act.put, List.setIfInBounds_toArray, List.set_cons_zero, List.set_cons_succ, Nat.reduceAdd]
            apply RelyL.val
            · intro ν w' hL hF K hK'
              go_simp
              exact hK'.out _ _ rfl (Lat.refl _)
            simp only [Act.put, List.setIfInBounds_toArray, List.set_cons_zero, List.set_cons_succ, Nat.reduceAdd]
            apply RelyL.val
            · intro ν w' hL hF K hK'
              go_simp
              exact hK'.out _ _ rfl (Lat.refl _)
            simp only [Act.put, List.setIfInBounds_toArray, List.set_cons_zero, List.set_cons_succ, Nat.reduceAdd]
            apply RelyL.val
            · intro ν w' hL hF K hK'
              refine take_op rfl ?_
              refine wp_load_at 35 _ rfl b ((off + n * 15 + 6)) rfl _ _ (hv1.below hL hb1) Try.underlying35 rfl (by kernel_rfl) ?_
              exact hK'.out _ _ rfl (Lat.refl _)
            simp only [Act.put, List.setIfInBounds_toArray, List.set_cons_zero, List.set_cons_succ, Nat.reduceAdd]
            apply RelyL.val
            · intro ν w' hL hF K hK'
              have H := (HA w' (hLW3.trans hL))
              go_simp
              go_at_call 19
              refine H.out.mono ?_
              rintro r w'' ⟨rfl, hbp⟩
              exact hK'.out _ _ rfl hbp
            simp only [Act.put, List.setIfInBounds_toArray, List.set_cons_zero, List.set_cons_succ, Nat.reduceAdd]
            apply RelyL.val
            · intro ν w' hL hF K hK'
              go_simp
              exact hK'.out _ _ rfl (Lat.refl _)
            simp only [Act.put, List.setIfInBounds_toArray, List.set_cons_zero, List.set_cons_succ, Nat.reduceAdd]
            refine RelyL.done fun ν w7 hL hF => ?_
            have hL7 := hLr.trans hL
            clear hF hL HA hk1 hv1 h14
            go_wp2_with fail
            go_roundw
            case rel => exact ⟨n + 1, by omega, by go_num, hL7⟩
            case measure => simp [intOf]; omega
          · rw [if_neg hz] at her
            rw [her] at h14
            have HA := fun (w' : World) (h : Lat w w') => Lib.hid (show Calls Try.prog 19 #[.slice A ps.length c, .slice B acts.length m, .agg (kC X.win.key).toArray, .agg (vC X.win.val).toArray] w' fun r w'' => r = .returned (.bool false) ∧ Lat w' w'' from by
              have := (HAL hf.out X.win.key X.win.val w' h).out
              rwa [decide_eq_false hz] at this)
            clear her hz HAL
            go_wp2_with fail
            refine wp_rely (by kernel_rfl) (by kernel_rfl) ?_
            apply RelyL.val
            · intro ν w' hL hF K hK'
              go_simp
              exact hK'.out _ _ rfl (Lat.refl _)
            simp only [Act.put, List.setIfInBounds_toArray, List.set_cons_zero, List.set_cons_succ, Nat.reduceAdd]
            apply RelyL.val
            · intro ν w' hL hF K hK'
              go_simp
              exact hK'.out _ _ rfl (Lat.refl _)
            simp only [Act.put, List.setIfInBounds_toArray, List.set_cons_zero, List.set_cons_succ, Nat.reduceAdd]
            apply RelyL.val
            · intro ν w' hL hF K hK'
              go_simp
              exact hK'.out _ _ rfl (Lat.refl _)
            simp only [Act.put, List.setIfInBounds_toArray, List.set_cons_zero, List.set_cons_succ, Nat.reduceAdd]
            apply RelyL.val
            · intro ν w' hL hF K hK'
              go_simp
              exact hK'.out _ _ rfl (Lat.refl _)
            simp only [Act.put, List.setIfInBounds_toArray, List.set_cons_zero, List.set_cons_succ, Nat.reduceAdd]
            apply RelyL.val
            · intro ν w' hL hF K hK'
              have c14 := (hL.cell (p := ⟨b, off + n * 15 + 14, none⟩) hb1).trans h14
              go_simp
              exact hK'.out _ _ rfl (Lat.refl _)
            simp only [Act.put, List.setIfInBounds_toArray, List.set_cons_zero, List.set_cons_succ, Nat.reduceAdd]
            apply RelyL.val
            · intro ν w' hL hF K hK'
              go_simp
              exact hK'.out _ _ rfl (Lat.refl _)
            simp only [Act.put, List.setIfInBounds_toArray, List.set_cons_zero, List.set_cons_succ, Nat.reduceAdd]
            apply RelyL.val
            · intro ν w' hL hF K hK'
              go_simp
              exact hK'.out _ _ rfl (Lat.refl _)
            simp only [Act.put, List.setIfInBounds_toArray, List.set_cons_zero, List.set_cons_succ, Nat.reduceAdd]
            apply RelyL.val
            · intro ν w' hL hF K hK'
              go_simp
              exact hK'.out _ _ rfl (Lat.refl _)
            simp only [Act.put, List.setIfInBounds_toArray, List.set_cons_zero, List.set_cons_succ, Nat.reduceAdd]
            apply RelyL.val
            · intro ν w' hL hF K hK'
              go_simp
              exact hK'.out _ _ rfl (Lat.refl _)
            simp only [Act.put, List.setIfInBounds_toArray, List.set_cons_zero, List.set_cons_succ, Nat.reduceAdd]
            apply RelyL.val
            · intro ν w' hL hF K hK'
              go_simp
              exact hK'.out _ _ rfl (Lat.refl _)
            simp only [Act.put, List.setIfInBounds_toArray, List.set_cons_zero, List.set_cons_succ, Nat.reduceAdd]
            apply RelyL.val
            · intro ν w' hL hF K hK'
              go_simp
              exact hK'.out _ _ rfl (Lat.refl _)
            simp only [Act.put, List.setIfInBounds_toArray, List.set_cons_zero, List.set_cons_succ, Nat.reduceAdd]
            apply RelyL.val
            · intro ν w' hL hF K hK'
              go_simp
              exact hK'.out _ _ rfl (Lat.refl _)
            simp only [Act.put, List.setIfInBounds_toArray, List.set_cons_zero, List.set_cons_succ, Nat.reduceAdd]
            apply RelyL.val
            · intro ν w' hL hF K hK'
              go_simp
              exact hK'.out _ _ rfl (Lat.refl _)
            simp only [Act.put, List.setIfInBounds_toArray, List.set_cons_zero, List.set_cons_succ, Nat.reduceAdd]
            apply RelyL.val
            · intro ν w' hL hF K hK'
              refine take_op rfl ?_
              refine wp_load_at 33 _ rfl b ((off + n * 15 + 3)) rfl _ _ (hk1.below hL hb1) Try.underlying33 rfl (by kernel_rfl) ?_
              exact hK'.out _ _ rfl (Lat.refl _)
            simp only [Act.put, List.setIfInBounds_toArray, List.set_cons_zero, List.set_cons_succ, Nat.reduceAdd]
            apply RelyL.val
            · intro ν w' hL hF K hK'
              go_simp
              exact hK'.out _ _ rfl (Lat.refl _)
            simp only [Act.put, List.setIfInBounds_toArray, List.set_cons_zero, List.set_cons_succ, Nat.reduceAdd]
            apply RelyL.val
            · intro ν w' hL hF K hK'
              go_simp
              exact hK'.out _ _ rfl (Lat.refl _)
            simp only [Act.put, List.setIfInBounds_toArray, List.set_cons_zero, List.set_cons_succ, Nat.reduceAdd]
            apply RelyL.val
            · intro ν w' hL hF K hK'
              go_simp
              exact hK'.out _ _ rfl (Lat.refl _)
            simp only [Act.put, List.setIfInBounds_toArray, List.set_cons_zero, List.set_cons_succ, Nat.reduceAdd]
            apply RelyL.val
            · intro ν w' hL hF K hK'
              go_simp
              exact hK'.out _ _ rfl (Lat.refl _)
            simp only [Act.put, List.setIfInBounds_toArray, List.set_cons_zero, List.set_cons_succ, Nat.reduceAdd]
            apply RelyL.val
            · intro ν w' hL hF K hK'
              go_simp
              exact hK'.out _ _ rfl (Lat.refl _)
            simp only [Act.put, List.setIfInBounds_toArray, List.set_cons_zero, List.set_cons_succ, Nat.reduceAdd]
            apply RelyL.val
            · intro ν w' hL hF K hK'
              refine take_op rfl ?_
              refine wp_load_at 35 _ rfl b ((off + n * 15 + 6)) rfl _ _ (hv1.below hL hb1) Try.underlying35 rfl (by kernel_rfl) ?_
              exact hK'.out _ _ rfl (Lat.refl _)
            simp only [Act.put, List.setIfInBounds_toArray, List.set_cons_zero, List.set_cons_succ, Nat.reduceAdd]
            apply RelyL.val
            · intro ν w' hL hF K hK'
              have H := (HA w' (hLW3.trans hL))
              go_simp
              go_at_call 19
              refine H.out.mono ?_
              rintro r w'' ⟨rfl, hbp⟩
              exact hK'.out _ _ rfl hbp
            simp only [Act.put, List.setIfInBounds_toArray, List.set_cons_zero, List.set_cons_succ, Nat.reduceAdd]
            apply RelyL.val
            · intro ν w' hL hF K hK'
              go_simp
              exact hK'.out _ _ rfl (Lat.refl _)
            simp only [Act.put, List.setIfInBounds_toArray, List.set_cons_zero, List.set_cons_succ, Nat.reduceAdd]
            refine RelyL.done fun ν w7 hL hF => ?_
            have hL7 := hLr.trans hL
            clear hF hL HA hk1 hv1 h14
            go_wp2_with fail
            go_roundw
            case rel => exact ⟨n + 1, by omega, by go_num, hL7⟩
            case measure => simp [intOf]; omega
        · have hn' : n = F.length := by omega
          subst hn'
          have hLW3 := hL3.trans hLr
          have hrd3 := hrd.lat hLr
          clear HER HAL hrd hLr hL3
          go_wp2_with fail
          refine (HFO hf.out _ hLW3).out.mono ?_
          rintro r w4 ⟨ks4, v4, rfl, hown4, hks4, hkm4, hl4⟩
          have hks := sorted_ext sto_kless _ _ hks4 HKS.out.1 (fun k => (hkm4 k).trans (HKS.out.2 k).symm)
          subst hks
          have hrd4 := hrd3.lat hl4
          have hrw4 := hown4.rd
          have hL4 := hLW3.trans hl4
          obtain ⟨A4, c4, rfl⟩ := hown4.slice
          have hwl : (frc (strg ps acts) ks4).length ≤ 9223372036854775807 := hown4.small
          clear HFO hown4 hks4 hkm4 hrd3 HKS hLW3 hl4
          generalize frc (strg ps acts) ks4 = W at *
          go_wp2_with fail
          go_loopw [12, 13, 14] (fun k _ _ wr2 => ∃ n : Nat, n ≤ W.length ∧ k = .int .i64 n ∧ Lat w4 wr2) (fun k _ _ _ => W.length - (intOf k).toNat)
          case atStart => exact ⟨0, Nat.zero_le _, rfl, Lat.refl _⟩
          case round =>
            obtain ⟨n, hnl, rfl, hLr⟩ := hrel
            by_cases hn : n < W.length
            · have hwn := HWN.out W[n] (List.getElem_mem hn)
              have HWIN := Lib.hid hwn
              obtain ⟨b2, off2, hA2, hb2, hr2'⟩ := (hrw4.lat hLr).row n hn
              subst hA2
              have hr2 : RowAt wr b2 (off2 + n * 10) (wC W[n]) := hr2'
              have hrd5 := hrd4.lat hLr
              clear hr2' hwn
              generalize W[n] = Y at *
              obtain ⟨w5, rfl⟩ : ∃ w, w = wr := ⟨_, rfl⟩
              have H0 : Hid ((F.take 0).any (fun d => decide (d.key = Y.key) && decide (d.win = Y)) = false) := Lib.hid rfl
              go_wp2_with fail
              go_loopw [13, 14] (fun won k wr2 => ∃ q : Nat, q ≤ F.length ∧ k = .int .i64 q ∧ (∃ won' : Bool, won = .bool won' ∧ Hid ((F.take q).any (fun d => decide (d.key = Y.key) && decide (d.win = Y)) = won')) ∧ Lat w5 wr2) (fun _ k _ => F.length - (intOf k).toNat)
              case atStart => exact ⟨0, Nat.zero_le _, rfl, ⟨false, rfl, H0⟩, Lat.refl _⟩
              case round =>
                clear H0
                obtain ⟨q, hql, rfl, ⟨won, rfl, HQ⟩, hL5⟩ := hrel
                by_cases hq : q < F.length
                · have HST := Lib.hid (any_step (fun d : LD => decide (d.key = Y.key) && decide (d.win = Y)) F q hq)
                  obtain ⟨b, off, A', n', c', hA, hb1, hr1, -⟩ := (hrd5.lat hL5).row q hq
                  subst hA
                  generalize F[q] = X at *
                  have hk1 := dec_key hr1
                  have hw1 := dec_win hr1
                  have hr3 := hr2.below hL5 hb2
                  have hb3 := Nat.lt_of_lt_of_le hb2 hL5.size
                  have hk3 := wC_k hr3
                  clear hr1
                  cases won
                  · by_cases e1 : X.key = Y.key
                    · have HE1 := Lib.hid (decide_eq_true e1)
                      cases hE2 : decide (X.win = Y)
                      · have HQ2 : Hid ((F.take (q + 1)).any (fun d => decide (d.key = Y.key) && decide (d.win = Y)) = false) := Lib.hid (HST.out.trans (by rw [HQ.out, HE1.out, hE2]; rfl))
                        have HE2 := Lib.hid hE2
                        clear e1 hE2 HST HQ
                        go_wp2_with fail
                        refine wp_rely (by kernel_rfl) (by kernel_rfl) ?_
                        apply RelyL.val
                        · intro ν w' hL hF K hK'
                          go_simp
                          exact hK'.out _ _ rfl (Lat.refl _)
                        simp only [Act.put, List.setIfInBounds_toArray, List.set_cons_zero, List.set_cons_succ, Nat.reduceAdd]
                        apply RelyL.val
                        · intro ν w' hL hF K hK'
                          go_simp
                          exact hK'.out _ _ rfl (Lat.refl _)
                        simp only [Act.put, List.setIfInBounds_toArray, List.set_cons_zero, List.set_cons_succ, Nat.reduceAdd]
                        apply RelyL.val
                        · intro ν w' hL hF K hK'
                          go_simp
                          exact hK'.out _ _ rfl (Lat.refl _)
                        simp only [Act.put, List.setIfInBounds_toArray, List.set_cons_zero, List.set_cons_succ, Nat.reduceAdd]
                        apply RelyL.val
                        · intro ν w' hL hF K hK'
                          go_simp
                          exact hK'.out _ _ rfl (Lat.refl _)
                        simp only [Act.put, List.setIfInBounds_toArray, List.set_cons_zero, List.set_cons_succ, Nat.reduceAdd]
                        apply RelyL.val
                        · intro ν w' hL hF K hK'
                          go_simp
                          exact hK'.out _ _ rfl (Lat.refl _)
                        simp only [Act.put, List.setIfInBounds_toArray, List.set_cons_zero, List.set_cons_succ, Nat.reduceAdd]
                        apply RelyL.val
                        · intro ν w' hL hF K hK'
                          go_simp
                          exact hK'.out _ _ rfl (Lat.refl _)
                        simp only [Act.put, List.setIfInBounds_toArray, List.set_cons_zero, List.set_cons_succ, Nat.reduceAdd]
                        apply RelyL.val
                        · intro ν w' hL hF K hK'
                          refine take_op rfl ?_
                          refine wp_load_at 33 _ rfl b ((off + q * 15)) rfl _ _ (hk1.below hL hb1) Try.underlying33 rfl (by kernel_rfl) ?_
                          exact hK'.out _ _ rfl (Lat.refl _)
                        simp only [Act.put, List.setIfInBounds_toArray, List.set_cons_zero, List.set_cons_succ, Nat.reduceAdd]
                        apply RelyL.val
                        · intro ν w' hL hF K hK'
                          go_simp
                          exact hK'.out _ _ rfl (Lat.refl _)
                        simp only [Act.put, List.setIfInBounds_toArray, List.set_cons_zero, List.set_cons_succ, Nat.reduceAdd]
                        apply RelyL.val
                        · intro ν w' hL hF K hK'
                          go_simp
                          exact hK'.out _ _ rfl (Lat.refl _)
                        simp only [Act.put, List.setIfInBounds_toArray, List.set_cons_zero, List.set_cons_succ, Nat.reduceAdd]
                        apply RelyL.val
                        · intro ν w' hL hF K hK'
                          go_simp
                          exact hK'.out _ _ rfl (Lat.refl _)
                        simp only [Act.put, List.setIfInBounds_toArray, List.set_cons_zero, List.set_cons_succ, Nat.reduceAdd]
                        apply RelyL.val
                        · intro ν w' hL hF K hK'
                          go_simp
                          exact hK'.out _ _ rfl (Lat.refl _)
                        simp only [Act.put, List.setIfInBounds_toArray, List.set_cons_zero, List.set_cons_succ, Nat.reduceAdd]
                        apply RelyL.val
                        · intro ν w' hL hF K hK'
                          refine take_op rfl ?_
                          refine wp_load_at 33 _ rfl b2 ((off2 + n * 10)) rfl _ _ (hk3.below hL hb3) Try.underlying33 rfl (by kernel_rfl) ?_
                          exact hK'.out _ _ rfl (Lat.refl _)
                        simp only [Act.put, List.setIfInBounds_toArray, List.set_cons_zero, List.set_cons_succ, Nat.reduceAdd]
                        apply RelyL.val
                        · intro ν w' hL hF K hK'
                          refine take_op rfl ?_
                          refine wp_eql_k _ _ _ rfl X.key Y.key rfl rfl HE1.out ?_
                          exact hK'.out _ _ rfl (Lat.refl _)
                        simp only [Act.put, List.setIfInBounds_toArray, List.set_cons_zero, List.set_cons_succ, Nat.reduceAdd]
                        apply RelyL.val
                        · intro ν w' hL hF K hK'
                          go_simp
                          exact hK'.out _ _ rfl (Lat.refl _)
                        simp only [Act.put, List.setIfInBounds_toArray, List.set_cons_zero, List.set_cons_succ, Nat.reduceAdd]
                        apply RelyL.val
                        · intro ν w' hL hF K hK'
                          go_simp
                          exact hK'.out _ _ rfl (Lat.refl _)
                        simp only [Act.put, List.setIfInBounds_toArray, List.set_cons_zero, List.set_cons_succ, Nat.reduceAdd]
                        apply RelyL.val
                        · intro ν w' hL hF K hK'
                          go_simp
                          exact hK'.out _ _ rfl (Lat.refl _)
                        simp only [Act.put, List.setIfInBounds_toArray, List.set_cons_zero, List.set_cons_succ, Nat.reduceAdd]
                        apply RelyL.val
                        · intro ν w' hL hF K hK'
                          go_simp
                          exact hK'.out _ _ rfl (Lat.refl _)
                        simp only [Act.put, List.setIfInBounds_toArray, List.set_cons_zero, List.set_cons_succ, Nat.reduceAdd]
                        apply RelyL.val
                        · intro ν w' hL hF K hK'
                          go_simp
                          exact hK'.out _ _ rfl (Lat.refl _)
                        simp only [Act.put, List.setIfInBounds_toArray, List.set_cons_zero, List.set_cons_succ, Nat.reduceAdd]
                        apply RelyL.val
                        · intro ν w' hL hF K hK'
                          refine take_op rfl ?_
                          refine wp_load_at 58 _ rfl b ((off + q * 15 + 3)) rfl _ _ (hw1.below hL hb1) Try.underlying58 rfl (by kernel_rfl) ?_
                          exact hK'.out _ _ rfl (Lat.refl _)
                        simp only [Act.put, List.setIfInBounds_toArray, List.set_cons_zero, List.set_cons_succ, Nat.reduceAdd]
                        apply RelyL.val
                        · intro ν w' hL hF K hK'
                          go_simp
                          exact hK'.out _ _ rfl (Lat.refl _)
                        simp only [Act.put, List.setIfInBounds_toArray, List.set_cons_zero, List.set_cons_succ, Nat.reduceAdd]
                        apply RelyL.val
                        · intro ν w' hL hF K hK'
                          go_simp
                          exact hK'.out _ _ rfl (Lat.refl _)
                        simp only [Act.put, List.setIfInBounds_toArray, List.set_cons_zero, List.set_cons_succ, Nat.reduceAdd]
                        apply RelyL.val
                        · intro ν w' hL hF K hK'
                          go_simp
                          exact hK'.out _ _ rfl (Lat.refl _)
                        simp only [Act.put, List.setIfInBounds_toArray, List.set_cons_zero, List.set_cons_succ, Nat.reduceAdd]
                        apply RelyL.val
                        · intro ν w' hL hF K hK'
                          refine take_op rfl ?_
                          refine wp_load_at 58 _ rfl b2 ((off2 + n * 10)) rfl _ _ (hr3.below hL hb3) Try.underlying58 rfl (by kernel_rfl) ?_
                          exact hK'.out _ _ rfl (Lat.refl _)
                        simp only [Act.put, List.setIfInBounds_toArray, List.set_cons_zero, List.set_cons_succ, Nat.reduceAdd]
                        apply RelyL.val
                        · intro ν w' hL hF K hK'
                          refine take_op rfl ?_
                          refine wp_eql_w _ _ _ rfl X.win Y rfl rfl HE2.out ?_
                          exact hK'.out _ _ rfl (Lat.refl _)
                        simp only [Act.put, List.setIfInBounds_toArray, List.set_cons_zero, List.set_cons_succ, Nat.reduceAdd]
                        apply RelyL.val
                        · intro ν w' hL hF K hK'
                          go_simp
                          exact hK'.out _ _ rfl (Lat.refl _)
                        simp only [Act.put, List.setIfInBounds_toArray, List.set_cons_zero, List.set_cons_succ, Nat.reduceAdd]
                        apply RelyL.val
                        · intro ν w' hL hF K hK'
                          go_simp
                          exact hK'.out _ _ rfl (Lat.refl _)
                        simp only [Act.put, List.setIfInBounds_toArray, List.set_cons_zero, List.set_cons_succ, Nat.reduceAdd]
                        apply RelyL.val
                        · intro ν w' hL hF K hK'
                          go_simp
                          exact hK'.out _ _ rfl (Lat.refl _)
                        simp only [Act.put, List.setIfInBounds_toArray, List.set_cons_zero, List.set_cons_succ, Nat.reduceAdd]
                        refine RelyL.done fun ν w7 hL hF => ?_
                        have hL7 := hL5.trans hL
                        clear hF hL hk1 hw1 hr3 hk3
                        go_wp2_with fail
                        go_roundw
                        case rel => exact ⟨q + 1, by omega, by go_num, ⟨_, rfl, HQ2⟩, hL7⟩
                        case measure => simp [intOf]; omega
                      · have HQ2 : Hid ((F.take (q + 1)).any (fun d => decide (d.key = Y.key) && decide (d.win = Y)) = true) := Lib.hid (HST.out.trans (by rw [HQ.out, HE1.out, hE2]; rfl))
                        have HE2 := Lib.hid hE2
                        clear e1 hE2 HST HQ
                        go_wp2_with fail
                        refine wp_rely (by kernel_rfl) (by kernel_rfl) ?_
                        apply RelyL.val
                        · intro ν w' hL hF K hK'
                          go_simp
                          exact hK'.out _ _ rfl (Lat.refl _)
                        simp only [Act.put, List.setIfInBounds_toArray, List.set_cons_zero, List.set_cons_succ, Nat.reduceAdd]
                        apply RelyL.val
                        · intro ν w' hL hF K hK'
                          go_simp
                          exact hK'.out _ _ rfl (Lat.refl _)
                        simp only [Act.put, List.setIfInBounds_toArray, List.set_cons_zero, List.set_cons_succ, Nat.reduceAdd]
                        apply RelyL.val
                        · intro ν w' hL hF K hK'
                          go_simp
                          exact hK'.out _ _ rfl (Lat.refl _)
                        simp only [Act.put, List.setIfInBounds_toArray, List.set_cons_zero, List.set_cons_succ, Nat.reduceAdd]
                        apply RelyL.val
                        · intro ν w' hL hF K hK'
                          go_simp
                          exact hK'.out _ _ rfl (Lat.refl _)
                        simp only [Act.put, List.setIfInBounds_toArray, List.set_cons_zero, List.set_cons_succ, Nat.reduceAdd]
                        apply RelyL.val
                        · intro ν w' hL hF K hK'
                          go_simp
                          exact hK'.out _ _ rfl (Lat.refl _)
                        simp only [Act.put, List.setIfInBounds_toArray, List.set_cons_zero, List.set_cons_succ, Nat.reduceAdd]
                        apply RelyL.val
                        · intro ν w' hL hF K hK'
                          go_simp
                          exact hK'.out _ _ rfl (Lat.refl _)
                        simp only [Act.put, List.setIfInBounds_toArray, List.set_cons_zero, List.set_cons_succ, Nat.reduceAdd]
                        apply RelyL.val
                        · intro ν w' hL hF K hK'
                          refine take_op rfl ?_
                          refine wp_load_at 33 _ rfl b ((off + q * 15)) rfl _ _ (hk1.below hL hb1) Try.underlying33 rfl (by kernel_rfl) ?_
                          exact hK'.out _ _ rfl (Lat.refl _)
                        simp only [Act.put, List.setIfInBounds_toArray, List.set_cons_zero, List.set_cons_succ, Nat.reduceAdd]
                        apply RelyL.val
                        · intro ν w' hL hF K hK'
                          go_simp
                          exact hK'.out _ _ rfl (Lat.refl _)
                        simp only [Act.put, List.setIfInBounds_toArray, List.set_cons_zero, List.set_cons_succ, Nat.reduceAdd]
                        apply RelyL.val
                        · intro ν w' hL hF K hK'
                          go_simp
                          exact hK'.out _ _ rfl (Lat.refl _)
                        simp only [Act.put, List.setIfInBounds_toArray, List.set_cons_zero, List.set_cons_succ, Nat.reduceAdd]
                        apply RelyL.val
                        · intro ν w' hL hF K hK'
                          go_simp
                          exact hK'.out _ _ rfl (Lat.refl _)
                        simp only [Act.put, List.setIfInBounds_toArray, List.set_cons_zero, List.set_cons_succ, Nat.reduceAdd]
                        apply RelyL.val
                        · intro ν w' hL hF K hK'
                          go_simp
                          exact hK'.out _ _ rfl (Lat.refl _)
                        simp only [Act.put, List.setIfInBounds_toArray, List.set_cons_zero, List.set_cons_succ, Nat.reduceAdd]
                        apply RelyL.val
                        · intro ν w' hL hF K hK'
                          refine take_op rfl ?_
                          refine wp_load_at 33 _ rfl b2 ((off2 + n * 10)) rfl _ _ (hk3.below hL hb3) Try.underlying33 rfl (by kernel_rfl) ?_
                          exact hK'.out _ _ rfl (Lat.refl _)
                        simp only [Act.put, List.setIfInBounds_toArray, List.set_cons_zero, List.set_cons_succ, Nat.reduceAdd]
                        apply RelyL.val
                        · intro ν w' hL hF K hK'
                          refine take_op rfl ?_
                          refine wp_eql_k _ _ _ rfl X.key Y.key rfl rfl HE1.out ?_
                          exact hK'.out _ _ rfl (Lat.refl _)
                        simp only [Act.put, List.setIfInBounds_toArray, List.set_cons_zero, List.set_cons_succ, Nat.reduceAdd]
                        apply RelyL.val
                        · intro ν w' hL hF K hK'
                          go_simp
                          exact hK'.out _ _ rfl (Lat.refl _)
                        simp only [Act.put, List.setIfInBounds_toArray, List.set_cons_zero, List.set_cons_succ, Nat.reduceAdd]
                        apply RelyL.val
                        · intro ν w' hL hF K hK'
                          go_simp
                          exact hK'.out _ _ rfl (Lat.refl _)
                        simp only [Act.put, List.setIfInBounds_toArray, List.set_cons_zero, List.set_cons_succ, Nat.reduceAdd]
                        apply RelyL.val
                        · intro ν w' hL hF K hK'
                          go_simp
                          exact hK'.out _ _ rfl (Lat.refl _)
                        simp only [Act.put, List.setIfInBounds_toArray, List.set_cons_zero, List.set_cons_succ, Nat.reduceAdd]
                        apply RelyL.val
                        · intro ν w' hL hF K hK'
                          go_simp
                          exact hK'.out _ _ rfl (Lat.refl _)
                        simp only [Act.put, List.setIfInBounds_toArray, List.set_cons_zero, List.set_cons_succ, Nat.reduceAdd]
                        apply RelyL.val
                        · intro ν w' hL hF K hK'
                          go_simp
                          exact hK'.out _ _ rfl (Lat.refl _)
                        simp only [Act.put, List.setIfInBounds_toArray, List.set_cons_zero, List.set_cons_succ, Nat.reduceAdd]
                        apply RelyL.val
                        · intro ν w' hL hF K hK'
                          refine take_op rfl ?_
                          refine wp_load_at 58 _ rfl b ((off + q * 15 + 3)) rfl _ _ (hw1.below hL hb1) Try.underlying58 rfl (by kernel_rfl) ?_
                          exact hK'.out _ _ rfl (Lat.refl _)
                        simp only [Act.put, List.setIfInBounds_toArray, List.set_cons_zero, List.set_cons_succ, Nat.reduceAdd]
                        apply RelyL.val
                        · intro ν w' hL hF K hK'
                          go_simp
                          exact hK'.out _ _ rfl (Lat.refl _)
                        simp only [Act.put, List.setIfInBounds_toArray, List.set_cons_zero, List.set_cons_succ, Nat.reduceAdd]
                        apply RelyL.val
                        · intro ν w' hL hF K hK'
                          go_simp
                          exact hK'.out _ _ rfl (Lat.refl _)
                        simp only [Act.put, List.setIfInBounds_toArray, List.set_cons_zero, List.set_cons_succ, Nat.reduceAdd]
                        apply RelyL.val
                        · intro ν w' hL hF K hK'
                          go_simp
                          exact hK'.out _ _ rfl (Lat.refl _)
                        simp only [Act.put, List.setIfInBounds_toArray, List.set_cons_zero, List.set_cons_succ, Nat.reduceAdd]
                        apply RelyL.val
                        · intro ν w' hL hF K hK'
                          refine take_op rfl ?_
                          refine wp_load_at 58 _ rfl b2 ((off2 + n * 10)) rfl _ _ (hr3.below hL hb3) Try.underlying58 rfl (by kernel_rfl) ?_
                          exact hK'.out _ _ rfl (Lat.refl _)
                        simp only [Act.put, List.setIfInBounds_toArray, List.set_cons_zero, List.set_cons_succ, Nat.reduceAdd]
                        apply RelyL.val
                        · intro ν w' hL hF K hK'
                          refine take_op rfl ?_
                          refine wp_eql_w _ _ _ rfl X.win Y rfl rfl HE2.out ?_
                          exact hK'.out _ _ rfl (Lat.refl _)
                        simp only [Act.put, List.setIfInBounds_toArray, List.set_cons_zero, List.set_cons_succ, Nat.reduceAdd]
                        apply RelyL.val
                        · intro ν w' hL hF K hK'
                          go_simp
                          exact hK'.out _ _ rfl (Lat.refl _)
                        simp only [Act.put, List.setIfInBounds_toArray, List.set_cons_zero, List.set_cons_succ, Nat.reduceAdd]
                        apply RelyL.val
                        · intro ν w' hL hF K hK'
                          go_simp
                          exact hK'.out _ _ rfl (Lat.refl _)
                        simp only [Act.put, List.setIfInBounds_toArray, List.set_cons_zero, List.set_cons_succ, Nat.reduceAdd]
                        apply RelyL.val
                        · intro ν w' hL hF K hK'
                          go_simp
                          exact hK'.out _ _ rfl (Lat.refl _)
                        simp only [Act.put, List.setIfInBounds_toArray, List.set_cons_zero, List.set_cons_succ, Nat.reduceAdd]
                        refine RelyL.done fun ν w7 hL hF => ?_
                        have hL7 := hL5.trans hL
                        clear hF hL hk1 hw1 hr3 hk3
                        go_wp2_with fail
                        go_roundw
                        case rel => exact ⟨q + 1, by omega, by go_num, ⟨_, rfl, HQ2⟩, hL7⟩
                        case measure => simp [intOf]; omega
                    · have HE1 := Lib.hid (decide_eq_false e1)
                      have HQ2 : Hid ((F.take (q + 1)).any (fun d => decide (d.key = Y.key) && decide (d.win = Y)) = false) := Lib.hid (HST.out.trans (by rw [HQ.out, HE1.out]; rfl))
                      clear e1 HST HQ
                      go_wp2_with fail
                      refine wp_rely (by kernel_rfl) (by kernel_rfl) ?_
                      apply RelyL.val
                      · intro ν w' hL hF K hK'
                        go_simp
                        exact hK'.out _ _ rfl (Lat.refl _)
                      simp only [Act.put, List.setIfInBounds_toArray, List.set_cons_zero, List.set_cons_succ, Nat.reduceAdd]
                      apply RelyL.val
                      · intro ν w' hL hF K hK'
                        go_simp
                        exact hK'.out _ _ rfl (Lat.refl _)
                      simp only [Act.put, List.setIfInBounds_toArray, List.set_cons_zero, List.set_cons_succ, Nat.reduceAdd]
                      apply RelyL.val
                      · intro ν w' hL hF K hK'
                        go_simp
                        exact hK'.out _ _ rfl (Lat.refl _)
                      simp only [Act.put, List.setIfInBounds_toArray, List.set_cons_zero, List.set_cons_succ, Nat.reduceAdd]
                      apply RelyL.val
                      · intro ν w' hL hF K hK'
                        go_simp
                        exact hK'.out _ _ rfl (Lat.refl _)
                      simp only [Act.put, List.setIfInBounds_toArray, List.set_cons_zero, List.set_cons_succ, Nat.reduceAdd]
                      apply RelyL.val
                      · intro ν w' hL hF K hK'
                        go_simp
                        exact hK'.out _ _ rfl (Lat.refl _)
                      simp only [Act.put, List.setIfInBounds_toArray, List.set_cons_zero, List.set_cons_succ, Nat.reduceAdd]
                      apply RelyL.val
                      · intro ν w' hL hF K hK'
                        go_simp
                        exact hK'.out _ _ rfl (Lat.refl _)
                      simp only [Act.put, List.setIfInBounds_toArray, List.set_cons_zero, List.set_cons_succ, Nat.reduceAdd]
                      apply RelyL.val
                      · intro ν w' hL hF K hK'
                        refine take_op rfl ?_
                        refine wp_load_at 33 _ rfl b ((off + q * 15)) rfl _ _ (hk1.below hL hb1) Try.underlying33 rfl (by kernel_rfl) ?_
                        exact hK'.out _ _ rfl (Lat.refl _)
                      simp only [Act.put, List.setIfInBounds_toArray, List.set_cons_zero, List.set_cons_succ, Nat.reduceAdd]
                      apply RelyL.val
                      · intro ν w' hL hF K hK'
                        go_simp
                        exact hK'.out _ _ rfl (Lat.refl _)
                      simp only [Act.put, List.setIfInBounds_toArray, List.set_cons_zero, List.set_cons_succ, Nat.reduceAdd]
                      apply RelyL.val
                      · intro ν w' hL hF K hK'
                        go_simp
                        exact hK'.out _ _ rfl (Lat.refl _)
                      simp only [Act.put, List.setIfInBounds_toArray, List.set_cons_zero, List.set_cons_succ, Nat.reduceAdd]
                      apply RelyL.val
                      · intro ν w' hL hF K hK'
                        go_simp
                        exact hK'.out _ _ rfl (Lat.refl _)
                      simp only [Act.put, List.setIfInBounds_toArray, List.set_cons_zero, List.set_cons_succ, Nat.reduceAdd]
                      apply RelyL.val
                      · intro ν w' hL hF K hK'
                        go_simp
                        exact hK'.out _ _ rfl (Lat.refl _)
                      simp only [Act.put, List.setIfInBounds_toArray, List.set_cons_zero, List.set_cons_succ, Nat.reduceAdd]
                      apply RelyL.val
                      · intro ν w' hL hF K hK'
                        refine take_op rfl ?_
                        refine wp_load_at 33 _ rfl b2 ((off2 + n * 10)) rfl _ _ (hk3.below hL hb3) Try.underlying33 rfl (by kernel_rfl) ?_
                        exact hK'.out _ _ rfl (Lat.refl _)
                      simp only [Act.put, List.setIfInBounds_toArray, List.set_cons_zero, List.set_cons_succ, Nat.reduceAdd]
                      apply RelyL.val
                      · intro ν w' hL hF K hK'
                        refine take_op rfl ?_
                        refine wp_eql_k _ _ _ rfl X.key Y.key rfl rfl HE1.out ?_
                        exact hK'.out _ _ rfl (Lat.refl _)
                      simp only [Act.put, List.setIfInBounds_toArray, List.set_cons_zero, List.set_cons_succ, Nat.reduceAdd]
                      apply RelyL.val
                      · intro ν w' hL hF K hK'
                        go_simp
                        exact hK'.out _ _ rfl (Lat.refl _)
                      simp only [Act.put, List.setIfInBounds_toArray, List.set_cons_zero, List.set_cons_succ, Nat.reduceAdd]
                      apply RelyL.val
                      · intro ν w' hL hF K hK'
                        refine skip_op rfl ?_
                        exact hK'.out _ _ rfl (Lat.refl _)
                      simp only [Act.put, List.setIfInBounds_toArray, List.set_cons_zero, List.set_cons_succ, Nat.reduceAdd]
                      apply RelyL.val
                      · intro ν w' hL hF K hK'
                        refine skip_op rfl ?_
                        exact hK'.out _ _ rfl (Lat.refl _)
                      simp only [Act.put, List.setIfInBounds_toArray, List.set_cons_zero, List.set_cons_succ, Nat.reduceAdd]
                      apply RelyL.val
                      · intro ν w' hL hF K hK'
                        refine skip_op rfl ?_
                        exact hK'.out _ _ rfl (Lat.refl _)
                      simp only [Act.put, List.setIfInBounds_toArray, List.set_cons_zero, List.set_cons_succ, Nat.reduceAdd]
                      apply RelyL.val
                      · intro ν w' hL hF K hK'
                        refine skip_op rfl ?_
                        exact hK'.out _ _ rfl (Lat.refl _)
                      simp only [Act.put, List.setIfInBounds_toArray, List.set_cons_zero, List.set_cons_succ, Nat.reduceAdd]
                      apply RelyL.val
                      · intro ν w' hL hF K hK'
                        refine skip_op rfl ?_
                        exact hK'.out _ _ rfl (Lat.refl _)
                      simp only [Act.put, List.setIfInBounds_toArray, List.set_cons_zero, List.set_cons_succ, Nat.reduceAdd]
                      apply RelyL.val
                      · intro ν w' hL hF K hK'
                        refine skip_op rfl ?_
                        exact hK'.out _ _ rfl (Lat.refl _)
                      simp only [Act.put, List.setIfInBounds_toArray, List.set_cons_zero, List.set_cons_succ, Nat.reduceAdd]
                      apply RelyL.val
                      · intro ν w' hL hF K hK'
                        refine skip_op rfl ?_
                        exact hK'.out _ _ rfl (Lat.refl _)
                      simp only [Act.put, List.setIfInBounds_toArray, List.set_cons_zero, List.set_cons_succ, Nat.reduceAdd]
                      apply RelyL.val
                      · intro ν w' hL hF K hK'
                        refine skip_op rfl ?_
                        exact hK'.out _ _ rfl (Lat.refl _)
                      simp only [Act.put, List.setIfInBounds_toArray, List.set_cons_zero, List.set_cons_succ, Nat.reduceAdd]
                      apply RelyL.val
                      · intro ν w' hL hF K hK'
                        refine skip_op rfl ?_
                        exact hK'.out _ _ rfl (Lat.refl _)
                      simp only [Act.put, List.setIfInBounds_toArray, List.set_cons_zero, List.set_cons_succ, Nat.reduceAdd]
                      apply RelyL.val
                      · intro ν w' hL hF K hK'
                        refine skip_op rfl ?_
                        exact hK'.out _ _ rfl (Lat.refl _)
                      simp only [Act.put, List.setIfInBounds_toArray, List.set_cons_zero, List.set_cons_succ, Nat.reduceAdd]
                      apply RelyL.val
                      · intro ν w' hL hF K hK'
                        go_simp
                        exact hK'.out _ _ rfl (Lat.refl _)
                      simp only [Act.put, List.setIfInBounds_toArray, List.set_cons_zero, List.set_cons_succ, Nat.reduceAdd]
                      apply RelyL.val
                      · intro ν w' hL hF K hK'
                        go_simp
                        exact hK'.out _ _ rfl (Lat.refl _)
                      simp only [Act.put, List.setIfInBounds_toArray, List.set_cons_zero, List.set_cons_succ, Nat.reduceAdd]
                      apply RelyL.val
                      · intro ν w' hL hF K hK'
                        go_simp
                        exact hK'.out _ _ rfl (Lat.refl _)
                      simp only [Act.put, List.setIfInBounds_toArray, List.set_cons_zero, List.set_cons_succ, Nat.reduceAdd]
                      refine RelyL.done fun ν w7 hL hF => ?_
                      have hL7 := hL5.trans hL
                      clear hF hL hk1 hw1 hr3 hk3
                      go_wp2_with fail
                      go_roundw
                      case rel => exact ⟨q + 1, by omega, by go_num, ⟨_, rfl, HQ2⟩, hL7⟩
                      case measure => simp [intOf]; omega
                  · have HQ2 : Hid ((F.take (q + 1)).any (fun d => decide (d.key = Y.key) && decide (d.win = Y)) = true) := Lib.hid (HST.out.trans (by rw [HQ.out]; rfl))
                    clear HST HQ
                    go_wp2_with fail
                    refine wp_rely (by kernel_rfl) (by kernel_rfl) ?_
                    apply RelyL.val
                    · intro ν w' hL hF K hK'
                      go_simp
                      exact hK'.out _ _ rfl (Lat.refl _)
                    simp only [Act.put, List.setIfInBounds_toArray, List.set_cons_zero, List.set_cons_succ, Nat.reduceAdd]
                    apply RelyL.val
                    · intro ν w' hL hF K hK'
                      go_simp
                      exact hK'.out _ _ rfl (Lat.refl _)
                    simp only [Act.put, List.setIfInBounds_toArray, List.set_cons_zero, List.set_cons_succ, Nat.reduceAdd]
                    apply RelyL.val
                    · intro ν w' hL hF K hK'
                      refine skip_op rfl ?_
                      exact hK'.out _ _ rfl (Lat.refl _)
                    simp only [Act.put, List.setIfInBounds_toArray, List.set_cons_zero, List.set_cons_succ, Nat.reduceAdd]
                    apply RelyL.val
                    · intro ν w' hL hF K hK'
                      refine skip_op rfl ?_
                      exact hK'.out _ _ rfl (Lat.refl _)
                    simp only [Act.put, List.setIfInBounds_toArray, List.set_cons_zero, List.set_cons_succ, Nat.reduceAdd]
                    apply RelyL.val
                    · intro ν w' hL hF K hK'
                      refine skip_op rfl ?_
                      exact hK'.out _ _ rfl (Lat.refl _)
                    simp only [Act.put, List.setIfInBounds_toArray, List.set_cons_zero, List.set_cons_succ, Nat.reduceAdd]
                    apply RelyL.val
                    · intro ν w' hL hF K hK'
                      refine skip_op rfl ?_
                      exact hK'.out _ _ rfl (Lat.refl _)
                    simp only [Act.put, List.setIfInBounds_toArray, List.set_cons_zero, List.set_cons_succ, Nat.reduceAdd]
                    apply RelyL.val
                    · intro ν w' hL hF K hK'
                      refine skip_op rfl ?_
                      exact hK'.out _ _ rfl (Lat.refl _)
                    simp only [Act.put, List.setIfInBounds_toArray, List.set_cons_zero, List.set_cons_succ, Nat.reduceAdd]
                    apply RelyL.val
                    · intro ν w' hL hF K hK'
                      refine skip_op rfl ?_
                      exact hK'.out _ _ rfl (Lat.refl _)
                    simp only [Act.put, List.setIfInBounds_toArray, List.set_cons_zero, List.set_cons_succ, Nat.reduceAdd]
                    apply RelyL.val
                    · intro ν w' hL hF K hK'
                      refine skip_op rfl ?_
                      exact hK'.out _ _ rfl (Lat.refl _)
                    simp only [Act.put, List.setIfInBounds_toArray, List.set_cons_zero, List.set_cons_succ, Nat.reduceAdd]
                    apply RelyL.val
                    · intro ν w' hL hF K hK'
                      refine skip_op rfl ?_
                      exact hK'.out _ _ rfl (Lat.refl _)
                    simp only [Act.put, List.setIfInBounds_toArray, List.set_cons_zero, List.set_cons_succ, Nat.reduceAdd]
                    apply RelyL.val
                    · intro ν w' hL hF K hK'
                      refine skip_op rfl ?_
                      exact hK'.out _ _ rfl (Lat.refl _)
                    simp only [Act.put, List.setIfInBounds_toArray, List.set_cons_zero, List.set_cons_succ, Nat.reduceAdd]
                    apply RelyL.val
                    · intro ν w' hL hF K hK'
                      refine skip_op rfl ?_
                      exact hK'.out _ _ rfl (Lat.refl _)
                    simp only [Act.put, List.setIfInBounds_toArray, List.set_cons_zero, List.set_cons_succ, Nat.reduceAdd]
                    apply RelyL.val
                    · intro ν w' hL hF K hK'
                      refine skip_op rfl ?_
                      exact hK'.out _ _ rfl (Lat.refl _)
                    simp only [Act.put, List.setIfInBounds_toArray, List.set_cons_zero, List.set_cons_succ, Nat.reduceAdd]
                    apply RelyL.val
                    · intro ν w' hL hF K hK'
                      refine skip_op rfl ?_
                      exact hK'.out _ _ rfl (Lat.refl _)
                    simp only [Act.put, List.setIfInBounds_toArray, List.set_cons_zero, List.set_cons_succ, Nat.reduceAdd]
                    apply RelyL.val
                    · intro ν w' hL hF K hK'
                      refine skip_op rfl ?_
                      exact hK'.out _ _ rfl (Lat.refl _)
                    simp only [Act.put, List.setIfInBounds_toArray, List.set_cons_zero, List.set_cons_succ, Nat.reduceAdd]
                    apply RelyL.val
                    · intro ν w' hL hF K hK'
                      refine skip_op rfl ?_
                      exact hK'.out _ _ rfl (Lat.refl _)
                    simp only [Act.put, List.setIfInBounds_toArray, List.set_cons_zero, List.set_cons_succ, Nat.reduceAdd]
                    apply RelyL.val
                    · intro ν w' hL hF K hK'
                      refine skip_op rfl ?_
                      exact hK'.out _ _ rfl (Lat.refl _)
                    simp only [Act.put, List.setIfInBounds_toArray, List.set_cons_zero, List.set_cons_succ, Nat.reduceAdd]
                    apply RelyL.val
                    · intro ν w' hL hF K hK'
                      refine skip_op rfl ?_
                      exact hK'.out _ _ rfl (Lat.refl _)
                    simp only [Act.put, List.setIfInBounds_toArray, List.set_cons_zero, List.set_cons_succ, Nat.reduceAdd]
                    apply RelyL.val
                    · intro ν w' hL hF K hK'
                      refine skip_op rfl ?_
                      exact hK'.out _ _ rfl (Lat.refl _)
                    simp only [Act.put, List.setIfInBounds_toArray, List.set_cons_zero, List.set_cons_succ, Nat.reduceAdd]
                    apply RelyL.val
                    · intro ν w' hL hF K hK'
                      refine skip_op rfl ?_
                      exact hK'.out _ _ rfl (Lat.refl _)
                    simp only [Act.put, List.setIfInBounds_toArray, List.set_cons_zero, List.set_cons_succ, Nat.reduceAdd]
                    apply RelyL.val
                    · intro ν w' hL hF K hK'
                      refine skip_op rfl ?_
                      exact hK'.out _ _ rfl (Lat.refl _)
                    simp only [Act.put, List.setIfInBounds_toArray, List.set_cons_zero, List.set_cons_succ, Nat.reduceAdd]
                    apply RelyL.val
                    · intro ν w' hL hF K hK'
                      refine skip_op rfl ?_
                      exact hK'.out _ _ rfl (Lat.refl _)
                    simp only [Act.put, List.setIfInBounds_toArray, List.set_cons_zero, List.set_cons_succ, Nat.reduceAdd]
                    apply RelyL.val
                    · intro ν w' hL hF K hK'
                      refine skip_op rfl ?_
                      exact hK'.out _ _ rfl (Lat.refl _)
                    simp only [Act.put, List.setIfInBounds_toArray, List.set_cons_zero, List.set_cons_succ, Nat.reduceAdd]
                    apply RelyL.val
                    · intro ν w' hL hF K hK'
                      refine skip_op rfl ?_
                      exact hK'.out _ _ rfl (Lat.refl _)
                    simp only [Act.put, List.setIfInBounds_toArray, List.set_cons_zero, List.set_cons_succ, Nat.reduceAdd]
                    apply RelyL.val
                    · intro ν w' hL hF K hK'
                      refine skip_op rfl ?_
                      exact hK'.out _ _ rfl (Lat.refl _)
                    simp only [Act.put, List.setIfInBounds_toArray, List.set_cons_zero, List.set_cons_succ, Nat.reduceAdd]
                    apply RelyL.val
                    · intro ν w' hL hF K hK'
                      go_simp
                      exact hK'.out _ _ rfl (Lat.refl _)
                    simp only [Act.put, List.setIfInBounds_toArray, List.set_cons_zero, List.set_cons_succ, Nat.reduceAdd]
                    apply RelyL.val
                    · intro ν w' hL hF K hK'
                      go_simp
                      exact hK'.out _ _ rfl (Lat.refl _)
                    simp only [Act.put, List.setIfInBounds_toArray, List.set_cons_zero, List.set_cons_succ, Nat.reduceAdd]
                    refine RelyL.done fun ν w7 hL hF => ?_
                    have hL7 := hL5.trans hL
                    clear hF hL hk1 hw1 hr3 hk3
                    go_wp2_with fail
                    go_roundw
                    case rel => exact ⟨q + 1, by omega, by go_num, ⟨_, rfl, HQ2⟩, hL7⟩
                    case measure => simp [intOf]; omega
                · have hq' : F.take q = F := List.take_of_length_le (by omega)
                  have hw : won = true := by rw [← HQ.out, hq']; exact HWIN.out
                  subst hw
                  clear HQ hq' HWIN
                  have hL6 := hLr.trans hL5
                  go_wp2_with fail
                  go_roundw
                  case rel => exact ⟨n + 1, by omega, by go_num, hL6⟩
                  case measure => simp [intOf]; omega
            · have hL5 := hL4.trans hLr
              have hn' : n = W.length := by omega
              subst hn'
              go_wp2_with fail
              refine (HLV _).out.mono ?_
              rintro r w9 ⟨rfl, hl9⟩
              have hL9 := hL5.trans hl9
              go_wp2_with fail
              go_ret
              exact ⟨rfl, hL9⟩
end Go.Proofs.Ytmgalnbacenbbaa
