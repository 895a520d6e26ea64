/- Hold: the reference's Holds. -/
import Derived.Test.YtafodibbcfoclaaGreatHRHoldP
import Derived.Test.YtafodibbcfoclaaGreatHRTrig
import Derived.Test.YtafodibbcfoclaaGreatHHolds
set_option linter.unusedSimpArgs false
set_option linter.unusedVariables false
namespace Go.Proofs.YtafodibbcfoclaaGreat
open Go.RowKit

theorem len15 {l : List Value} (h : l.length = 15) : ∃ a0 a1 a2 a3 a4 a5 a6 a7 a8 a9 a10 a11 a12 a13 a14, l = [a0, a1, a2, a3, a4, a5, a6, a7, a8, a9, a10, a11, a12, a13, a14] := by
  match l, h with
  | [a0, a1, a2, a3, a4, a5, a6, a7, a8, a9, a10, a11, a12, a13, a14], _ => exact ⟨_, _, _, _, _, _, _, _, _, _, _, _, _, _, _, rfl⟩
def RHOut (ps : List RP) (r : Ending) (w' : World) : Prop := ∃ hs v, r = .returned v ∧ EA.Rd w' hs v ∧ hs.map (atP ps) = holdsP ps ∧ ∀ q ∈ hs, q.1 < ps.length
set_option maxRecDepth 100000 in
set_option maxHeartbeats 2000000 in
theorem rholds_any (ps : List RP) (B : Option Addr) (m : Nat) (w : World) (hy : RdR w ps (.slice B ps.length m)) (hl : ps.length ≤ 1000) (hon : ∀ p ∈ ps, p.2.on.length ≤ 1000000) :
    Calls Tryz.prog 22 #[.slice B ps.length m] w fun r w' => RHOut ps r w' ∧ Lat w w' := by
  have HTG := fun (j : Nat) (hj : j < ps.length) (w' : World) (h : Lat w w') => Lib.hid (rtrigger_any ps[j].1 ps[j].2.on w' ((hy.2 _ (List.getElem_mem hj)).lat h).on (hon _ (List.getElem_mem hj)))
  have HFI := fun (j : Nat) (hj : j < ps.length) (w' : World) (h : Lat w w') => Lib.hid (rfirst_any ps B m j hj w' (hy.lat h) (by omega))
  have HH0 := Lib.hid (Held.zero ps)
  go_enter Tryz.func22, Tryz.ntmps22
  go_wp2_with fail
  go_loopw [3, 12] (fun v i wr => ∃ (j : Nat) (out : List (Nat × Int)), j ≤ ps.length ∧ i = .int .i64 j ∧ EA.Own wr w.heap.size out v ∧ Hid (Held ps j out) ∧ Lat w wr) (fun _ i _ => ps.length - (intOf i).toNat)
  case atStart => exact ⟨0, [], Nat.zero_le _, rfl, Elt.Own.nil _ _, HH0, Lat.refl _⟩
  case round =>
    clear HH0
    obtain ⟨j, out, hjl, rfl, hown, HH, hLW⟩ := hrel
    by_cases hlt : j < ps.length
    · obtain ⟨b, off, hA, hb0, hr1, -⟩ := (hy.lat hLW).row j hlt
      subst hA
      have HNM : Hid (∀ (i : Nat) (hi : i < ps.length), wr.cell? ⟨b, off + i * 15, none⟩ = some (.string ps[i].1.name)) := Lib.hid (fun i hi => by
        obtain ⟨b', off', hA', -, hr2, -⟩ := (hy.lat hLW).row i hi
        injection hA' with e
        injection e with e1 e2
        subst e1 e2
        exact hr2 0 _ rfl)
      have HTG1 := HTG j hlt wr hLW
      have hj1000 : (j : Int) ≤ 1000 := by omega
      have hjl' : (j : Int) < ps.length := by omega
      have hbj := hr1
      generalize hP : rC ps[j].1 = RCJ at *
      have hlen15 : RCJ.length = 15 := by rw [← hP]; rfl
      clear hP hbj
      obtain ⟨a0, a1, a2, a3, a4, a5, a6, a7, a8, a9, a10, a11, a12, a13, a14, rfl⟩ := len15 hlen15
      clear hlen15
      go_wp2_with (with_reducible refine wpList_load_at rfl 44 _ rfl b (off + j * 15) rfl _ _ hr1 Tryz.underlying44 rfl (by kernel_rfl) ?_)
      refine HTG1.out.mono ?_
      rintro r w1 ⟨rfl, hl1⟩
      have HFI1 := HFI j hlt w1 (hLW.trans hl1)
      clear HTG HTG1 HFI hr1
      have HSK := fun h => Lib.hid (HH.out.skip hlt h)
      have HPT := fun t h1 h2 => Lib.hid (HH.out.put hlt (t := t) h1 h2)
      generalize trg ps[j].2.on = T at *
      cases T with
      | none =>
        have H1 := HSK (.inl rfl)
        have hL1 := hLW.trans hl1
        have hown1 := hown.lat hl1
        clear HSK HPT HFI1 hLW hl1 hown
        go_wp2_with fail
        go_roundw
        case rel => exact ⟨j + 1, out, by omega, by go_num, hown1, H1, hL1⟩
        case measure => simp [intOf]; omega
      | some t =>
        dsimp only [Option.getD_some, Option.isSome_some] at HPT ⊢
        go_wp2_with fail
        refine HFI1.out.mono ?_
        rintro r w2 ⟨rfl, hl2⟩
        clear HFI1
        have hL2 := (hLW.trans hl1).trans hl2
        have hown2 := hown.lat (hl1.trans hl2)
        have hbw2 : b < w2.heap.size := Nat.lt_of_lt_of_le hb0 (hl1.trans hl2).size
        have HNM2 : Hid (∀ (i : Nat) (hi : i < ps.length), w2.cell? ⟨b, off + i * 15, none⟩ = some (.string ps[i].1.name)) := Lib.hid (fun i hi => ((hl1.trans hl2).cell (p := ⟨b, off + i * 15, none⟩) hb0).trans (HNM.out i hi))
        clear HNM hLW hl1 hl2 hown
        generalize hasN ((ps.take j).map (fun q => q.1.name)) ps[j].1.name = S at *
        cases S
        · have H1 := HPT t rfl rfl
          have HOL := Lib.hid HH.out.len
          have HLT := Lib.hid HH.out.lt
          clear HSK HPT HH
          rw [← endR_is] at H1
          have HST := fun k h => Lib.hid (scanR_take (lt := ltQ ps) (j, t) out k h)
          have HLQ := fun q hq => Lib.hid (ltQ_is (ps := ps) (a := (j, t)) (b := q) hlt hq)
          have HSL := Lib.hid (fun k => scanR_len (lt := ltQ ps) (j, t) (out.take k))
          have H0 : Hid (scanR (ltQ ps) (j, t) (out.take 0) = ([], false)) := Lib.hid rfl
          have HALL : Hid (scanR (ltQ ps) (j, t) out = scanR (ltQ ps) (j, t) (out.take out.length)) := Lib.hid (by rw [List.take_length])
          obtain ⟨A3, c3, rfl⟩ := hown2.slice
          have hrd2 := hown2.rd
          have hol := HOL.out
          have hbs2 : w.heap.size ≤ w2.heap.size := hL2.size
          clear hown2 hy hon
          go_wp2_with fail
          go_loopw [7, 8, 33] (fun v p i wq => ∃ (k : Nat) (acc : List (Nat × Int)) (pl : Bool), k ≤ out.length ∧ i = .int .i64 k ∧ p = .bool pl ∧ EA.Own wq w2.heap.size acc v ∧ Hid (scanR (ltQ ps) (j, t) (out.take k) = (acc, pl)) ∧ Lat w2 wq) (fun _ _ i _ => out.length - (intOf i).toNat)
          case atStart => exact ⟨0, [], false, Nat.zero_le _, rfl, rfl, Elt.Own.nil _ _, H0, Lat.refl _⟩
          case round =>
            clear H0
            obtain ⟨k, acc, pl, hkl, rfl, rfl, hacc, HS, hLQ⟩ := hrel
            have hal : acc.length ≤ 1002 := by
              have h1 := HSL.out k
              rw [HS.out] at h1
              have h2 : (out.take k).length ≤ out.length := by rw [List.length_take]; omega
              dsimp only at h1
              omega
            by_cases hlk : k < out.length
            · obtain ⟨b', off', hA3, hbb2, hrow'⟩ := hrd2.row k hlk
              subst hA3
              have hrow2 : RowAt w2 b' (off' + k * 2) [.int .i64 (out[k].1 : Int), .int .i64 out[k].2] := hrow'
              have hrow : RowAt wr b' (off' + k * 2) [.int .i64 (out[k].1 : Int), .int .i64 out[k].2] := hrow2.below hLQ hbb2
              have hbb : b' < wr.heap.size := Nat.lt_of_lt_of_le hbb2 hLQ.size
              have HRW := Lib.hid hrow2
              clear hrow2
              have hro : wr.cell? ⟨b', off' + k * 2, none⟩ = some (.int .i64 (out[k].1 : Int)) := hrow 0 _ rfl
              have hql := HLT.out _ (List.getElem_mem hlk)
              have HLQ1 := HLQ out[k] hql
              have hcj : wr.cell? ⟨b, off + j * 15, none⟩ = some (.string ps[j].1.name) := (hLQ.cell (p := ⟨b, off + j * 15, none⟩) hbw2).trans (HNM2.out j hlt)
              have hcq : wr.cell? ⟨b, off + out[k].1 * 15, none⟩ = some (.string (ps[out[k].1]'hql).1.name) := (hLQ.cell (p := ⟨b, off + out[k].1 * 15, none⟩) hbw2).trans (HNM2.out _ hql)
              have HS1 := HST k hlk
              rw [HS.out] at HS1
              have hbw : b < wr.heap.size := Nat.lt_of_lt_of_le hbw2 hLQ.size
              have hkl' : (k : Int) < out.length := by omega
              have hqi : (out[k].1 : Int) < ps.length := by omega
              have HLTQ : Hid (ltQ ps (j, t) out[k] = ltB ps[j].1.name (ps[out[k].1]'hql).1.name) := HLQ1
              have HSTP : Hid (stpR (ltQ ps) (j, t) (acc, pl) out[k] = if !pl && ltQ ps (j, t) out[k] then (acc ++ [(j, t)] ++ [out[k]], true) else (acc ++ [out[k]], pl)) := Lib.hid rfl
              rw [HLTQ.out] at HSTP
              rw [HSTP.out] at HS1
              clear hrow' HST HLQ HLQ1 HS HLTQ HSTP HLT hrd2
              generalize (ps[out[k].1]'hql).1.name = NQ at *
              generalize ps[j].1.name = NJ at *
              generalize out[k] = q at *
              obtain ⟨q1, q2⟩ := q
              dsimp only at hrow hro hcq hqi HS1 HRW
              have hmax : acc.length + 1 ≤ maxLen := by unfold maxLen; omega
              have hby : (acc.length + 1) * EA.bytes ≤ 140737488355328 := Nat.le_trans (Nat.mul_le_mul_right EA.bytes (by omega : _ ≤ 1000000)) (by decide)
              go_upto_region 12 with fail
              cases pl
              · cases hb : ltB NJ NQ
                · have hb1 : Op.bytesLess NJ.toList NQ.toList = false := hb
                  rw [hb] at HS1
                  clear hb
                  refine wp_rely (by kernel_rfl) (by kernel_rfl) ?_
                  apply RelyL.val
                  · intro ν w' hL hF K hK'
                    have c1 := (hL.cell (p := ⟨b, off + j * 15, none⟩) hbw).trans hcj
                    have c2 := (hL.cell (p := ⟨b, off + q1 * 15, none⟩) hbw).trans hcq
                    have c3 := (hL.cell (p := ⟨b', off' + k * 2, none⟩) hbb).trans hro
                    go_simp
                    exact hK'.out _ _ rfl (Lat.refl _)
                  simp only [Act.put, List.setIfInBounds_toArray, List.set_cons_zero, List.set_cons_succ, Nat.reduceAdd]
                  apply RelyL.val
                  · intro ν w' hL hF K hK'
                    have c1 := (hL.cell (p := ⟨b, off + j * 15, none⟩) hbw).trans hcj
                    have c2 := (hL.cell (p := ⟨b, off + q1 * 15, none⟩) hbw).trans hcq
                    have c3 := (hL.cell (p := ⟨b', off' + k * 2, none⟩) hbb).trans hro
                    go_simp
                    exact hK'.out _ _ rfl (Lat.refl _)
                  simp only [Act.put, List.setIfInBounds_toArray, List.set_cons_zero, List.set_cons_succ, Nat.reduceAdd]
                  apply RelyL.val
                  · intro ν w' hL hF K hK'
                    have c1 := (hL.cell (p := ⟨b, off + j * 15, none⟩) hbw).trans hcj
                    have c2 := (hL.cell (p := ⟨b, off + q1 * 15, none⟩) hbw).trans hcq
                    have c3 := (hL.cell (p := ⟨b', off' + k * 2, none⟩) hbb).trans hro
                    go_simp
                    exact hK'.out _ _ rfl (Lat.refl _)
                  simp only [Act.put, List.setIfInBounds_toArray, List.set_cons_zero, List.set_cons_succ, Nat.reduceAdd]
                  apply RelyL.val
                  · intro ν w' hL hF K hK'
                    have c1 := (hL.cell (p := ⟨b, off + j * 15, none⟩) hbw).trans hcj
                    have c2 := (hL.cell (p := ⟨b, off + q1 * 15, none⟩) hbw).trans hcq
                    have c3 := (hL.cell (p := ⟨b', off' + k * 2, none⟩) hbb).trans hro
                    go_simp
                    exact hK'.out _ _ rfl (Lat.refl _)
                  simp only [Act.put, List.setIfInBounds_toArray, List.set_cons_zero, List.set_cons_succ, Nat.reduceAdd]
                  apply RelyL.val
                  · intro ν w' hL hF K hK'
                    have c1 := (hL.cell (p := ⟨b, off + j * 15, none⟩) hbw).trans hcj
                    have c2 := (hL.cell (p := ⟨b, off + q1 * 15, none⟩) hbw).trans hcq
                    have c3 := (hL.cell (p := ⟨b', off' + k * 2, none⟩) hbb).trans hro
                    go_simp
                    exact hK'.out _ _ rfl (Lat.refl _)
                  simp only [Act.put, List.setIfInBounds_toArray, List.set_cons_zero, List.set_cons_succ, Nat.reduceAdd]
                  apply RelyL.val
                  · intro ν w' hL hF K hK'
                    have c1 := (hL.cell (p := ⟨b, off + j * 15, none⟩) hbw).trans hcj
                    have c2 := (hL.cell (p := ⟨b, off + q1 * 15, none⟩) hbw).trans hcq
                    have c3 := (hL.cell (p := ⟨b', off' + k * 2, none⟩) hbb).trans hro
                    go_simp
                    exact hK'.out _ _ rfl (Lat.refl _)
                  simp only [Act.put, List.setIfInBounds_toArray, List.set_cons_zero, List.set_cons_succ, Nat.reduceAdd]
                  apply RelyL.val
                  · intro ν w' hL hF K hK'
                    have c1 := (hL.cell (p := ⟨b, off + j * 15, none⟩) hbw).trans hcj
                    have c2 := (hL.cell (p := ⟨b, off + q1 * 15, none⟩) hbw).trans hcq
                    have c3 := (hL.cell (p := ⟨b', off' + k * 2, none⟩) hbb).trans hro
                    go_simp
                    exact hK'.out _ _ rfl (Lat.refl _)
                  simp only [Act.put, List.setIfInBounds_toArray, List.set_cons_zero, List.set_cons_succ, Nat.reduceAdd]
                  apply RelyL.val
                  · intro ν w' hL hF K hK'
                    have c1 := (hL.cell (p := ⟨b, off + j * 15, none⟩) hbw).trans hcj
                    have c2 := (hL.cell (p := ⟨b, off + q1 * 15, none⟩) hbw).trans hcq
                    have c3 := (hL.cell (p := ⟨b', off' + k * 2, none⟩) hbb).trans hro
                    go_simp
                    exact hK'.out _ _ rfl (Lat.refl _)
                  simp only [Act.put, List.setIfInBounds_toArray, List.set_cons_zero, List.set_cons_succ, Nat.reduceAdd]
                  apply RelyL.val
                  · intro ν w' hL hF K hK'
                    have c1 := (hL.cell (p := ⟨b, off + j * 15, none⟩) hbw).trans hcj
                    have c2 := (hL.cell (p := ⟨b, off + q1 * 15, none⟩) hbw).trans hcq
                    have c3 := (hL.cell (p := ⟨b', off' + k * 2, none⟩) hbb).trans hro
                    go_simp
                    exact hK'.out _ _ rfl (Lat.refl _)
                  simp only [Act.put, List.setIfInBounds_toArray, List.set_cons_zero, List.set_cons_succ, Nat.reduceAdd]
                  apply RelyL.val
                  · intro ν w' hL hF K hK'
                    have c1 := (hL.cell (p := ⟨b, off + j * 15, none⟩) hbw).trans hcj
                    have c2 := (hL.cell (p := ⟨b, off + q1 * 15, none⟩) hbw).trans hcq
                    have c3 := (hL.cell (p := ⟨b', off' + k * 2, none⟩) hbb).trans hro
                    go_simp
                    exact hK'.out _ _ rfl (Lat.refl _)
                  simp only [Act.put, List.setIfInBounds_toArray, List.set_cons_zero, List.set_cons_succ, Nat.reduceAdd]
                  apply RelyL.val
                  · intro ν w' hL hF K hK'
                    have c1 := (hL.cell (p := ⟨b, off + j * 15, none⟩) hbw).trans hcj
                    have c2 := (hL.cell (p := ⟨b, off + q1 * 15, none⟩) hbw).trans hcq
                    have c3 := (hL.cell (p := ⟨b', off' + k * 2, none⟩) hbb).trans hro
                    go_simp
                    exact hK'.out _ _ rfl (Lat.refl _)
                  simp only [Act.put, List.setIfInBounds_toArray, List.set_cons_zero, List.set_cons_succ, Nat.reduceAdd]
                  apply RelyL.val
                  · intro ν w' hL hF K hK'
                    have c1 := (hL.cell (p := ⟨b, off + j * 15, none⟩) hbw).trans hcj
                    have c2 := (hL.cell (p := ⟨b, off + q1 * 15, none⟩) hbw).trans hcq
                    have c3 := (hL.cell (p := ⟨b', off' + k * 2, none⟩) hbb).trans hro
                    go_simp
                    exact hK'.out _ _ rfl (Lat.refl _)
                  simp only [Act.put, List.setIfInBounds_toArray, List.set_cons_zero, List.set_cons_succ, Nat.reduceAdd]
                  apply RelyL.val
                  · intro ν w' hL hF K hK'
                    have c1 := (hL.cell (p := ⟨b, off + j * 15, none⟩) hbw).trans hcj
                    have c2 := (hL.cell (p := ⟨b, off + q1 * 15, none⟩) hbw).trans hcq
                    have c3 := (hL.cell (p := ⟨b', off' + k * 2, none⟩) hbb).trans hro
                    go_simp
                    exact hK'.out _ _ rfl (Lat.refl _)
                  simp only [Act.put, List.setIfInBounds_toArray, List.set_cons_zero, List.set_cons_succ, Nat.reduceAdd]
                  apply RelyL.val
                  · intro ν w' hL hF K hK'
                    have c1 := (hL.cell (p := ⟨b, off + j * 15, none⟩) hbw).trans hcj
                    have c2 := (hL.cell (p := ⟨b, off + q1 * 15, none⟩) hbw).trans hcq
                    have c3 := (hL.cell (p := ⟨b', off' + k * 2, none⟩) hbb).trans hro
                    go_simp
                    exact hK'.out _ _ rfl (Lat.refl _)
                  simp only [Act.put, List.setIfInBounds_toArray, List.set_cons_zero, List.set_cons_succ, Nat.reduceAdd]
                  apply RelyL.val
                  · intro ν w' hL hF K hK'
                    have c1 := (hL.cell (p := ⟨b, off + j * 15, none⟩) hbw).trans hcj
                    have c2 := (hL.cell (p := ⟨b, off + q1 * 15, none⟩) hbw).trans hcq
                    have c3 := (hL.cell (p := ⟨b', off' + k * 2, none⟩) hbb).trans hro
                    go_simp
                    exact hK'.out _ _ rfl (Lat.refl _)
                  simp only [Act.put, List.setIfInBounds_toArray, List.set_cons_zero, List.set_cons_succ, Nat.reduceAdd]
                  apply RelyL.val
                  · intro ν w' hL hF K hK'
                    have c1 := (hL.cell (p := ⟨b, off + j * 15, none⟩) hbw).trans hcj
                    have c2 := (hL.cell (p := ⟨b, off + q1 * 15, none⟩) hbw).trans hcq
                    have c3 := (hL.cell (p := ⟨b', off' + k * 2, none⟩) hbb).trans hro
                    go_simp
                    exact hK'.out _ _ rfl (Lat.refl _)
                  simp only [Act.put, List.setIfInBounds_toArray, List.set_cons_zero, List.set_cons_succ, Nat.reduceAdd]
                  apply RelyL.val
                  · intro ν w' hL hF K hK'
                    have c1 := (hL.cell (p := ⟨b, off + j * 15, none⟩) hbw).trans hcj
                    have c2 := (hL.cell (p := ⟨b, off + q1 * 15, none⟩) hbw).trans hcq
                    have c3 := (hL.cell (p := ⟨b', off' + k * 2, none⟩) hbb).trans hro
                    go_simp
                    exact hK'.out _ _ rfl (Lat.refl _)
                  simp only [Act.put, List.setIfInBounds_toArray, List.set_cons_zero, List.set_cons_succ, Nat.reduceAdd]
                  apply RelyL.val
                  · intro ν w' hL hF K hK'
                    have c1 := (hL.cell (p := ⟨b, off + j * 15, none⟩) hbw).trans hcj
                    have c2 := (hL.cell (p := ⟨b, off + q1 * 15, none⟩) hbw).trans hcq
                    have c3 := (hL.cell (p := ⟨b', off' + k * 2, none⟩) hbb).trans hro
                    go_simp
                    exact hK'.out _ _ rfl (Lat.refl _)
                  simp only [Act.put, List.setIfInBounds_toArray, List.set_cons_zero, List.set_cons_succ, Nat.reduceAdd]
                  apply RelyL.val
                  · intro ν w' hL hF K hK'
                    have c1 := (hL.cell (p := ⟨b, off + j * 15, none⟩) hbw).trans hcj
                    have c2 := (hL.cell (p := ⟨b, off + q1 * 15, none⟩) hbw).trans hcq
                    have c3 := (hL.cell (p := ⟨b', off' + k * 2, none⟩) hbb).trans hro
                    go_simp
                    exact hK'.out _ _ rfl (Lat.refl _)
                  simp only [Act.put, List.setIfInBounds_toArray, List.set_cons_zero, List.set_cons_succ, Nat.reduceAdd]
                  refine RelyL.done fun ν w5 hL hF => ?_
                  have hLQ5 := hLQ.trans hL
                  have hacc5 := hacc.lat hL
                  have hro5 : RowAt w5 b' (off' + k * 2) [.int .i64 q1, .int .i64 q2] := hrow.below hL hbb
                  have hb5 := Nat.lt_of_lt_of_le hbb hL.size
                  clear hF hL hacc hLQ hro hrow hcj hcq hbw hbb
                  have hL6 : Lat w5 (w5.alloc (.cells #[.int .i64 q1, .int .i64 q2] 68)) := Lat.al _ _
                  have hbn : Blk (w5.alloc (.cells #[.int .i64 q1, .int .i64 q2] 68)) w5.heap.size 68 (EA.f (q1, q2)).toArray := Blk.new _ _ _
                  have hown9 := hacc5.lat hL6
                  have HL := Lib.hid (hLQ5.trans hL6)
                  have hLs := HL.out.size
                  clear hacc5 hLQ5 hL6
                  go_wp2_with (first | (with_reducible refine wpList_load_at rfl 68 _ rfl b' (off' + k * 2) rfl _ _ hro5 Tryz.underlying68 rfl (by kernel_rfl) ?_) | (at_builtin; refine EA.append rfl _ _ rfl w2.heap.size _ _ rfl hown9 w5.heap.size 1 (q1, q2) rfl 68 hbn hmax hby hLs ?_; intro va wa howna hga hwa; go_must (have hLa : Lat w2 wa := HL.out.grown hga hLs (fun k hk => (hown9.lt k hk).1); clear hown9 hga hwa hbn)))
                  go_roundw
                  case rel => exact ⟨k + 1, acc ++ [(q1, q2)], false, by omega, by go_num, rfl, howna, HS1, hLa⟩
                  case measure => simp [intOf]; omega
                · have hb1 : Op.bytesLess NJ.toList NQ.toList = true := hb
                  rw [hb] at HS1
                  clear hb
                  refine wp_rely (by kernel_rfl) (by kernel_rfl) ?_
                  apply RelyL.val
                  · intro ν w' hL hF K hK'
                    have c1 := (hL.cell (p := ⟨b, off + j * 15, none⟩) hbw).trans hcj
                    have c2 := (hL.cell (p := ⟨b, off + q1 * 15, none⟩) hbw).trans hcq
                    have c3 := (hL.cell (p := ⟨b', off' + k * 2, none⟩) hbb).trans hro
                    go_simp
                    exact hK'.out _ _ rfl (Lat.refl _)
                  simp only [Act.put, List.setIfInBounds_toArray, List.set_cons_zero, List.set_cons_succ, Nat.reduceAdd]
                  apply RelyL.val
                  · intro ν w' hL hF K hK'
                    have c1 := (hL.cell (p := ⟨b, off + j * 15, none⟩) hbw).trans hcj
                    have c2 := (hL.cell (p := ⟨b, off + q1 * 15, none⟩) hbw).trans hcq
                    have c3 := (hL.cell (p := ⟨b', off' + k * 2, none⟩) hbb).trans hro
                    go_simp
                    exact hK'.out _ _ rfl (Lat.refl _)
                  simp only [Act.put, List.setIfInBounds_toArray, List.set_cons_zero, List.set_cons_succ, Nat.reduceAdd]
                  apply RelyL.val
                  · intro ν w' hL hF K hK'
                    have c1 := (hL.cell (p := ⟨b, off + j * 15, none⟩) hbw).trans hcj
                    have c2 := (hL.cell (p := ⟨b, off + q1 * 15, none⟩) hbw).trans hcq
                    have c3 := (hL.cell (p := ⟨b', off' + k * 2, none⟩) hbb).trans hro
                    go_simp
                    exact hK'.out _ _ rfl (Lat.refl _)
                  simp only [Act.put, List.setIfInBounds_toArray, List.set_cons_zero, List.set_cons_succ, Nat.reduceAdd]
                  apply RelyL.val
                  · intro ν w' hL hF K hK'
                    have c1 := (hL.cell (p := ⟨b, off + j * 15, none⟩) hbw).trans hcj
                    have c2 := (hL.cell (p := ⟨b, off + q1 * 15, none⟩) hbw).trans hcq
                    have c3 := (hL.cell (p := ⟨b', off' + k * 2, none⟩) hbb).trans hro
                    go_simp
                    exact hK'.out _ _ rfl (Lat.refl _)
                  simp only [Act.put, List.setIfInBounds_toArray, List.set_cons_zero, List.set_cons_succ, Nat.reduceAdd]
                  apply RelyL.val
                  · intro ν w' hL hF K hK'
                    have c1 := (hL.cell (p := ⟨b, off + j * 15, none⟩) hbw).trans hcj
                    have c2 := (hL.cell (p := ⟨b, off + q1 * 15, none⟩) hbw).trans hcq
                    have c3 := (hL.cell (p := ⟨b', off' + k * 2, none⟩) hbb).trans hro
                    go_simp
                    exact hK'.out _ _ rfl (Lat.refl _)
                  simp only [Act.put, List.setIfInBounds_toArray, List.set_cons_zero, List.set_cons_succ, Nat.reduceAdd]
                  apply RelyL.val
                  · intro ν w' hL hF K hK'
                    have c1 := (hL.cell (p := ⟨b, off + j * 15, none⟩) hbw).trans hcj
                    have c2 := (hL.cell (p := ⟨b, off + q1 * 15, none⟩) hbw).trans hcq
                    have c3 := (hL.cell (p := ⟨b', off' + k * 2, none⟩) hbb).trans hro
                    go_simp
                    exact hK'.out _ _ rfl (Lat.refl _)
                  simp only [Act.put, List.setIfInBounds_toArray, List.set_cons_zero, List.set_cons_succ, Nat.reduceAdd]
                  apply RelyL.val
                  · intro ν w' hL hF K hK'
                    have c1 := (hL.cell (p := ⟨b, off + j * 15, none⟩) hbw).trans hcj
                    have c2 := (hL.cell (p := ⟨b, off + q1 * 15, none⟩) hbw).trans hcq
                    have c3 := (hL.cell (p := ⟨b', off' + k * 2, none⟩) hbb).trans hro
                    go_simp
                    exact hK'.out _ _ rfl (Lat.refl _)
                  simp only [Act.put, List.setIfInBounds_toArray, List.set_cons_zero, List.set_cons_succ, Nat.reduceAdd]
                  apply RelyL.val
                  · intro ν w' hL hF K hK'
                    have c1 := (hL.cell (p := ⟨b, off + j * 15, none⟩) hbw).trans hcj
                    have c2 := (hL.cell (p := ⟨b, off + q1 * 15, none⟩) hbw).trans hcq
                    have c3 := (hL.cell (p := ⟨b', off' + k * 2, none⟩) hbb).trans hro
                    go_simp
                    exact hK'.out _ _ rfl (Lat.refl _)
                  simp only [Act.put, List.setIfInBounds_toArray, List.set_cons_zero, List.set_cons_succ, Nat.reduceAdd]
                  apply RelyL.val
                  · intro ν w' hL hF K hK'
                    have c1 := (hL.cell (p := ⟨b, off + j * 15, none⟩) hbw).trans hcj
                    have c2 := (hL.cell (p := ⟨b, off + q1 * 15, none⟩) hbw).trans hcq
                    have c3 := (hL.cell (p := ⟨b', off' + k * 2, none⟩) hbb).trans hro
                    go_simp
                    exact hK'.out _ _ rfl (Lat.refl _)
                  simp only [Act.put, List.setIfInBounds_toArray, List.set_cons_zero, List.set_cons_succ, Nat.reduceAdd]
                  apply RelyL.val
                  · intro ν w' hL hF K hK'
                    have c1 := (hL.cell (p := ⟨b, off + j * 15, none⟩) hbw).trans hcj
                    have c2 := (hL.cell (p := ⟨b, off + q1 * 15, none⟩) hbw).trans hcq
                    have c3 := (hL.cell (p := ⟨b', off' + k * 2, none⟩) hbb).trans hro
                    go_simp
                    exact hK'.out _ _ rfl (Lat.refl _)
                  simp only [Act.put, List.setIfInBounds_toArray, List.set_cons_zero, List.set_cons_succ, Nat.reduceAdd]
                  apply RelyL.val
                  · intro ν w' hL hF K hK'
                    have c1 := (hL.cell (p := ⟨b, off + j * 15, none⟩) hbw).trans hcj
                    have c2 := (hL.cell (p := ⟨b, off + q1 * 15, none⟩) hbw).trans hcq
                    have c3 := (hL.cell (p := ⟨b', off' + k * 2, none⟩) hbb).trans hro
                    go_simp
                    exact hK'.out _ _ rfl (Lat.refl _)
                  simp only [Act.put, List.setIfInBounds_toArray, List.set_cons_zero, List.set_cons_succ, Nat.reduceAdd]
                  apply RelyL.val
                  · intro ν w' hL hF K hK'
                    have c1 := (hL.cell (p := ⟨b, off + j * 15, none⟩) hbw).trans hcj
                    have c2 := (hL.cell (p := ⟨b, off + q1 * 15, none⟩) hbw).trans hcq
                    have c3 := (hL.cell (p := ⟨b', off' + k * 2, none⟩) hbb).trans hro
                    go_simp
                    exact hK'.out _ _ rfl (Lat.refl _)
                  simp only [Act.put, List.setIfInBounds_toArray, List.set_cons_zero, List.set_cons_succ, Nat.reduceAdd]
                  apply RelyL.val
                  · intro ν w' hL hF K hK'
                    have c1 := (hL.cell (p := ⟨b, off + j * 15, none⟩) hbw).trans hcj
                    have c2 := (hL.cell (p := ⟨b, off + q1 * 15, none⟩) hbw).trans hcq
                    have c3 := (hL.cell (p := ⟨b', off' + k * 2, none⟩) hbb).trans hro
                    go_simp
                    exact hK'.out _ _ rfl (Lat.refl _)
                  simp only [Act.put, List.setIfInBounds_toArray, List.set_cons_zero, List.set_cons_succ, Nat.reduceAdd]
                  apply RelyL.val
                  · intro ν w' hL hF K hK'
                    have c1 := (hL.cell (p := ⟨b, off + j * 15, none⟩) hbw).trans hcj
                    have c2 := (hL.cell (p := ⟨b, off + q1 * 15, none⟩) hbw).trans hcq
                    have c3 := (hL.cell (p := ⟨b', off' + k * 2, none⟩) hbb).trans hro
                    go_simp
                    exact hK'.out _ _ rfl (Lat.refl _)
                  simp only [Act.put, List.setIfInBounds_toArray, List.set_cons_zero, List.set_cons_succ, Nat.reduceAdd]
                  apply RelyL.val
                  · intro ν w' hL hF K hK'
                    have c1 := (hL.cell (p := ⟨b, off + j * 15, none⟩) hbw).trans hcj
                    have c2 := (hL.cell (p := ⟨b, off + q1 * 15, none⟩) hbw).trans hcq
                    have c3 := (hL.cell (p := ⟨b', off' + k * 2, none⟩) hbb).trans hro
                    go_simp
                    exact hK'.out _ _ rfl (Lat.refl _)
                  simp only [Act.put, List.setIfInBounds_toArray, List.set_cons_zero, List.set_cons_succ, Nat.reduceAdd]
                  apply RelyL.val
                  · intro ν w' hL hF K hK'
                    have c1 := (hL.cell (p := ⟨b, off + j * 15, none⟩) hbw).trans hcj
                    have c2 := (hL.cell (p := ⟨b, off + q1 * 15, none⟩) hbw).trans hcq
                    have c3 := (hL.cell (p := ⟨b', off' + k * 2, none⟩) hbb).trans hro
                    go_simp
                    exact hK'.out _ _ rfl (Lat.refl _)
                  simp only [Act.put, List.setIfInBounds_toArray, List.set_cons_zero, List.set_cons_succ, Nat.reduceAdd]
                  apply RelyL.val
                  · intro ν w' hL hF K hK'
                    have c1 := (hL.cell (p := ⟨b, off + j * 15, none⟩) hbw).trans hcj
                    have c2 := (hL.cell (p := ⟨b, off + q1 * 15, none⟩) hbw).trans hcq
                    have c3 := (hL.cell (p := ⟨b', off' + k * 2, none⟩) hbb).trans hro
                    go_simp
                    exact hK'.out _ _ rfl (Lat.refl _)
                  simp only [Act.put, List.setIfInBounds_toArray, List.set_cons_zero, List.set_cons_succ, Nat.reduceAdd]
                  apply RelyL.val
                  · intro ν w' hL hF K hK'
                    have c1 := (hL.cell (p := ⟨b, off + j * 15, none⟩) hbw).trans hcj
                    have c2 := (hL.cell (p := ⟨b, off + q1 * 15, none⟩) hbw).trans hcq
                    have c3 := (hL.cell (p := ⟨b', off' + k * 2, none⟩) hbb).trans hro
                    go_simp
                    exact hK'.out _ _ rfl (Lat.refl _)
                  simp only [Act.put, List.setIfInBounds_toArray, List.set_cons_zero, List.set_cons_succ, Nat.reduceAdd]
                  apply RelyL.val
                  · intro ν w' hL hF K hK'
                    have c1 := (hL.cell (p := ⟨b, off + j * 15, none⟩) hbw).trans hcj
                    have c2 := (hL.cell (p := ⟨b, off + q1 * 15, none⟩) hbw).trans hcq
                    have c3 := (hL.cell (p := ⟨b', off' + k * 2, none⟩) hbb).trans hro
                    go_simp
                    exact hK'.out _ _ rfl (Lat.refl _)
                  simp only [Act.put, List.setIfInBounds_toArray, List.set_cons_zero, List.set_cons_succ, Nat.reduceAdd]
                  refine RelyL.done fun ν w5 hL hF => ?_
                  have hLQ5 := hLQ.trans hL
                  have hacc5 := hacc.lat hL
                  have hro5 : RowAt w5 b' (off' + k * 2) [.int .i64 q1, .int .i64 q2] := hrow.below hL hbb
                  have hb5 := Nat.lt_of_lt_of_le hbb hL.size
                  clear hF hL hacc hLQ hro hrow hcj hcq hbw hbb
                  have hL6 : Lat w5 (w5.alloc (.cells #[.int .i64 j, .int .i64 t] 68)) := Lat.al _ _
                  have hbn : Blk (w5.alloc (.cells #[.int .i64 j, .int .i64 t] 68)) w5.heap.size 68 (EA.f (j, t)).toArray := Blk.new _ _ _
                  have hown9 := hacc5.lat hL6
                  have HL := Lib.hid (hLQ5.trans hL6)
                  have hLs := HL.out.size
                  have hmax2 : (acc ++ [(j, t)]).length + 1 ≤ maxLen := by rw [List.length_append, List.length_singleton]; unfold maxLen; omega
                  have hby2 : ((acc ++ [(j, t)]).length + 1) * EA.bytes ≤ 140737488355328 := Nat.le_trans (Nat.mul_le_mul_right EA.bytes (by rw [List.length_append, List.length_singleton]; omega : _ ≤ 1000000)) (by decide)
                  clear hacc5 hLQ5 hL6
                  go_wp2_with (first | (with_reducible refine wpList_load_at rfl 68 _ rfl b' (off' + k * 2) rfl _ _ hroa Tryz.underlying68 rfl (by kernel_rfl) ?_) | (at_builtin; refine EA.append rfl _ _ rfl w2.heap.size _ _ rfl hown9 w5.heap.size 1 (j, t) rfl 68 hbn hmax hby hLs ?_; intro va wa howna hga hwa; go_must (have hLa : Lat w2 wa := HL.out.grown hga hLs (fun k hk => (hown9.lt k hk).1); have hroa : RowAt wa b' (off' + k * 2) [.int .i64 q1, .int .i64 q2] := HRW.out.below hLa hbb2; have hbn2 : Blk (wa.alloc (.cells #[.int .i64 q1, .int .i64 q2] 68)) wa.heap.size 68 (EA.f (q1, q2)).toArray := Blk.new _ _ _; have hownA := howna.lat (Lat.al wa (.cells #[.int .i64 q1, .int .i64 q2] 68)); have HLA := Lib.hid (hLa.trans (Lat.al wa (.cells #[.int .i64 q1, .int .i64 q2] 68))); have hLsA := HLA.out.size; clear hown9 hga hwa hbn howna hLa)) | (at_builtin; refine EA.append rfl _ _ rfl w2.heap.size _ _ rfl hownA wa.heap.size 1 (q1, q2) rfl 68 hbn2 hmax2 hby2 hLsA ?_; intro vb wb hownb hgb hwb; go_must (have hLb : Lat w2 wb := HLA.out.grown hgb hLsA (fun k hk => (hownA.lt k hk).1); clear hownA hgb hwb hbn2)))
                  go_roundw
                  case rel => exact ⟨k + 1, acc ++ [(j, t)] ++ [(q1, q2)], true, by omega, by go_num, rfl, hownb, HS1, hLb⟩
                  case measure => simp [intOf]; omega
              · have e : (!true && ltB NJ NQ) = false := rfl
                rw [e] at HS1
                clear e
                refine wp_rely (by kernel_rfl) (by kernel_rfl) ?_
                apply RelyL.val
                · intro ν w' hL hF K hK'
                  have c1 := (hL.cell (p := ⟨b, off + j * 15, none⟩) hbw).trans hcj
                  have c2 := (hL.cell (p := ⟨b, off + q1 * 15, none⟩) hbw).trans hcq
                  have c3 := (hL.cell (p := ⟨b', off' + k * 2, none⟩) hbb).trans hro
                  go_simp
                  exact hK'.out _ _ rfl (Lat.refl _)
                simp only [Act.put, List.setIfInBounds_toArray, List.set_cons_zero, List.set_cons_succ, Nat.reduceAdd]
                apply RelyL.val
                · intro ν w' hL hF K hK'
                  have c1 := (hL.cell (p := ⟨b, off + j * 15, none⟩) hbw).trans hcj
                  have c2 := (hL.cell (p := ⟨b, off + q1 * 15, none⟩) hbw).trans hcq
                  have c3 := (hL.cell (p := ⟨b', off' + k * 2, none⟩) hbb).trans hro
                  go_simp
                  exact hK'.out _ _ rfl (Lat.refl _)
                simp only [Act.put, List.setIfInBounds_toArray, List.set_cons_zero, List.set_cons_succ, Nat.reduceAdd]
                apply RelyL.val
                · intro ν w' hL hF K hK'
                  have c1 := (hL.cell (p := ⟨b, off + j * 15, none⟩) hbw).trans hcj
                  have c2 := (hL.cell (p := ⟨b, off + q1 * 15, none⟩) hbw).trans hcq
                  have c3 := (hL.cell (p := ⟨b', off' + k * 2, none⟩) hbb).trans hro
                  go_simp
                  exact hK'.out _ _ rfl (Lat.refl _)
                simp only [Act.put, List.setIfInBounds_toArray, List.set_cons_zero, List.set_cons_succ, Nat.reduceAdd]
                apply RelyL.val
                · intro ν w' hL hF K hK'
                  refine skip_op rfl ?_
                  exact hK'.out _ _ rfl (Lat.refl _)
                simp only [Act.put, List.setIfInBounds_toArray, List.set_cons_zero, List.set_cons_succ, Nat.reduceAdd]
                apply RelyL.val
                · intro ν w' hL hF K hK'
                  refine skip_op rfl ?_
                  exact hK'.out _ _ rfl (Lat.refl _)
                simp only [Act.put, List.setIfInBounds_toArray, List.set_cons_zero, List.set_cons_succ, Nat.reduceAdd]
                apply RelyL.val
                · intro ν w' hL hF K hK'
                  refine skip_op rfl ?_
                  exact hK'.out _ _ rfl (Lat.refl _)
                simp only [Act.put, List.setIfInBounds_toArray, List.set_cons_zero, List.set_cons_succ, Nat.reduceAdd]
                apply RelyL.val
                · intro ν w' hL hF K hK'
                  refine skip_op rfl ?_
                  exact hK'.out _ _ rfl (Lat.refl _)
                simp only [Act.put, List.setIfInBounds_toArray, List.set_cons_zero, List.set_cons_succ, Nat.reduceAdd]
                apply RelyL.val
                · intro ν w' hL hF K hK'
                  refine skip_op rfl ?_
                  exact hK'.out _ _ rfl (Lat.refl _)
                simp only [Act.put, List.setIfInBounds_toArray, List.set_cons_zero, List.set_cons_succ, Nat.reduceAdd]
                apply RelyL.val
                · intro ν w' hL hF K hK'
                  refine skip_op rfl ?_
                  exact hK'.out _ _ rfl (Lat.refl _)
                simp only [Act.put, List.setIfInBounds_toArray, List.set_cons_zero, List.set_cons_succ, Nat.reduceAdd]
                apply RelyL.val
                · intro ν w' hL hF K hK'
                  refine skip_op rfl ?_
                  exact hK'.out _ _ rfl (Lat.refl _)
                simp only [Act.put, List.setIfInBounds_toArray, List.set_cons_zero, List.set_cons_succ, Nat.reduceAdd]
                apply RelyL.val
                · intro ν w' hL hF K hK'
                  refine skip_op rfl ?_
                  exact hK'.out _ _ rfl (Lat.refl _)
                simp only [Act.put, List.setIfInBounds_toArray, List.set_cons_zero, List.set_cons_succ, Nat.reduceAdd]
                apply RelyL.val
                · intro ν w' hL hF K hK'
                  refine skip_op rfl ?_
                  exact hK'.out _ _ rfl (Lat.refl _)
                simp only [Act.put, List.setIfInBounds_toArray, List.set_cons_zero, List.set_cons_succ, Nat.reduceAdd]
                apply RelyL.val
                · intro ν w' hL hF K hK'
                  refine skip_op rfl ?_
                  exact hK'.out _ _ rfl (Lat.refl _)
                simp only [Act.put, List.setIfInBounds_toArray, List.set_cons_zero, List.set_cons_succ, Nat.reduceAdd]
                apply RelyL.val
                · intro ν w' hL hF K hK'
                  refine skip_op rfl ?_
                  exact hK'.out _ _ rfl (Lat.refl _)
                simp only [Act.put, List.setIfInBounds_toArray, List.set_cons_zero, List.set_cons_succ, Nat.reduceAdd]
                apply RelyL.val
                · intro ν w' hL hF K hK'
                  refine skip_op rfl ?_
                  exact hK'.out _ _ rfl (Lat.refl _)
                simp only [Act.put, List.setIfInBounds_toArray, List.set_cons_zero, List.set_cons_succ, Nat.reduceAdd]
                apply RelyL.val
                · intro ν w' hL hF K hK'
                  refine skip_op rfl ?_
                  exact hK'.out _ _ rfl (Lat.refl _)
                simp only [Act.put, List.setIfInBounds_toArray, List.set_cons_zero, List.set_cons_succ, Nat.reduceAdd]
                apply RelyL.val
                · intro ν w' hL hF K hK'
                  refine skip_op rfl ?_
                  exact hK'.out _ _ rfl (Lat.refl _)
                simp only [Act.put, List.setIfInBounds_toArray, List.set_cons_zero, List.set_cons_succ, Nat.reduceAdd]
                apply RelyL.val
                · intro ν w' hL hF K hK'
                  refine skip_op rfl ?_
                  exact hK'.out _ _ rfl (Lat.refl _)
                simp only [Act.put, List.setIfInBounds_toArray, List.set_cons_zero, List.set_cons_succ, Nat.reduceAdd]
                apply RelyL.val
                · intro ν w' hL hF K hK'
                  have c1 := (hL.cell (p := ⟨b, off + j * 15, none⟩) hbw).trans hcj
                  have c2 := (hL.cell (p := ⟨b, off + q1 * 15, none⟩) hbw).trans hcq
                  have c3 := (hL.cell (p := ⟨b', off' + k * 2, none⟩) hbb).trans hro
                  go_simp
                  exact hK'.out _ _ rfl (Lat.refl _)
                simp only [Act.put, List.setIfInBounds_toArray, List.set_cons_zero, List.set_cons_succ, Nat.reduceAdd]
                refine RelyL.done fun ν w5 hL hF => ?_
                have hLQ5 := hLQ.trans hL
                have hacc5 := hacc.lat hL
                have hro5 : RowAt w5 b' (off' + k * 2) [.int .i64 q1, .int .i64 q2] := hrow.below hL hbb
                have hb5 := Nat.lt_of_lt_of_le hbb hL.size
                clear hF hL hacc hLQ hro hrow hcj hcq hbw hbb
                have hL6 : Lat w5 (w5.alloc (.cells #[.int .i64 q1, .int .i64 q2] 68)) := Lat.al _ _
                have hbn : Blk (w5.alloc (.cells #[.int .i64 q1, .int .i64 q2] 68)) w5.heap.size 68 (EA.f (q1, q2)).toArray := Blk.new _ _ _
                have hown9 := hacc5.lat hL6
                have HL := Lib.hid (hLQ5.trans hL6)
                have hLs := HL.out.size
                clear hacc5 hLQ5 hL6
                go_wp2_with (first | (with_reducible refine wpList_load_at rfl 68 _ rfl b' (off' + k * 2) rfl _ _ hro5 Tryz.underlying68 rfl (by kernel_rfl) ?_) | (at_builtin; refine EA.append rfl _ _ rfl w2.heap.size _ _ rfl hown9 w5.heap.size 1 (q1, q2) rfl 68 hbn hmax hby hLs ?_; intro va wa howna hga hwa; go_must (have hLa : Lat w2 wa := HL.out.grown hga hLs (fun k hk => (hown9.lt k hk).1); clear hown9 hga hwa hbn)))
                go_roundw
                case rel => exact ⟨k + 1, acc ++ [(q1, q2)], true, by omega, by go_num, rfl, howna, HS1, hLa⟩
                case measure => simp [intOf]; omega
            · have hk : k = out.length := by omega
              subst hk
              have H2 : Hid (Held ps (j + 1) (endR (j, t) (acc, pl))) := Lib.hid (by rw [← HS.out, ← HALL.out]; exact H1.out)
              have hLQ2 := hL2.trans hLQ
              clear H1 HS HST HLQ HSL HALL hrd2 HLT HNM2
              cases pl
              · have H3 : Hid (Held ps (j + 1) (acc ++ [(j, t)])) := Lib.hid H2.out
                have hmax : acc.length + 1 ≤ maxLen := by unfold maxLen; omega
                have hby : (acc.length + 1) * EA.bytes ≤ 140737488355328 := Nat.le_trans (Nat.mul_le_mul_right EA.bytes (by omega : _ ≤ 1000000)) (by decide)
                have hL6 : Lat wr (wr.alloc (.cells #[.int .i64 j, .int .i64 t] 68)) := Lat.al _ _
                have hbn : Blk (wr.alloc (.cells #[.int .i64 j, .int .i64 t] 68)) wr.heap.size 68 (EA.f (j, t)).toArray := Blk.new _ _ _
                have hown9 := hacc.lat hL6
                have HL := Lib.hid (hLQ.trans hL6)
                have hLs := HL.out.size
                clear hacc hLQ hLQ2 hL6 H2
                go_wp2_with (at_builtin; refine EA.append rfl _ _ rfl w2.heap.size _ _ rfl hown9 wr.heap.size 1 (j, t) rfl 68 hbn hmax hby hLs ?_; intro va wa howna hga hwa; go_must (have hLa : Lat w2 wa := HL.out.grown hga hLs (fun k hk => (hown9.lt k hk).1); clear hown9 hga hwa hbn))
                go_roundw
                case rel => exact ⟨j + 1, acc ++ [(j, t)], by omega, by go_num, howna.mono hbs2, H3, hL2.trans hLa⟩
                case measure => simp [intOf]; omega
              · have H3 : Hid (Held ps (j + 1) acc) := Lib.hid H2.out
                clear H2
                go_wp2_with fail
                go_roundw
                case rel => exact ⟨j + 1, acc, by omega, by go_num, hacc.mono hbs2, H3, hLQ2⟩
                case measure => simp [intOf]; omega
        · have H1 := HSK (.inr rfl)
          clear HSK HPT
          go_wp2_with fail
          go_roundw
          case rel => exact ⟨j + 1, out, by omega, by go_num, hown2, H1, hL2⟩
          case measure => simp [intOf]; omega
    · have hj : j = ps.length := by omega
      subst hj
      have HA := Lib.hid HH.out.all
      have HLT := Lib.hid HH.out.lt
      have hol := HH.out.len
      obtain ⟨A3, c3, rfl⟩ := hown.slice
      have hcap := hown.cap
      have hrd := hown.rd
      clear HH hown HTG HFI hy hon
      by_cases h40 : 40 < out.length
      · have hsl := run_toX EA hrd hcap 40 (by omega)
        have hrd5 := hrd.take 40 (by omega)
        have hsl2 : ∀ w, (Instr.slice 65 (.slice A3 out.length c3) none (some (.int .i64 40)) none).run Tryz.prog w = .ok (.slice A3 40 c3) w := hsl
        have h40' : (40 : Int) < out.length := by omega
        clear hrd hcap hsl
        go_wp2_with fail
        go_ret
        exact ⟨⟨out.take 40, _, rfl, hrd5, HA.out, fun q hq => HLT.out q (List.mem_of_mem_take hq)⟩, hLW⟩
      · have h40' : ¬ ((40 : Int) < out.length) := by omega
        have HA2 : Hid (out.map (atP ps) = holdsP ps) := Lib.hid (by rw [← HA.out, List.take_of_length_le (by omega)])
        clear hcap HA
        go_wp2_with fail
        go_ret
        exact ⟨⟨out, _, rfl, hrd, HA2.out, HLT.out⟩, hLW⟩
end Go.Proofs.YtafodibbcfoclaaGreat
