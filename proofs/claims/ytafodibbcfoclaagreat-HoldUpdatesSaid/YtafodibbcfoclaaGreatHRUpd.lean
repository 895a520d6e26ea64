/- Hold: the reference's Update. -/
import Derived.Test.YtafodibbcfoclaaGreatHRHolds
import Derived.Test.YtafodibbcfoclaaGreatHRFind
import Derived.Test.YtafodibbcfoclaaGreatHRMark
import Derived.Test.YtafodibbcfoclaaGreatHUpd
import Derived.Test.YtafodibbcfoclaaGreatEvREvE
set_option linter.unusedSimpArgs false
set_option linter.unusedVariables false
namespace Go.Proofs.YtafodibbcfoclaaGreat
open Go.RowKit

set_option maxRecDepth 100000 in
set_option maxHeartbeats 4000000 in
theorem rupdate_any (l : List LTim) (A : Option Addr) (c : Nat) (ps : List RP) (B : Option Addr) (m : Nat) (V : Ev.LView) (vc : List Value) (now : Int) (w : World) (hx : RdT w l (.slice A l.length c)) (hy : RdR w ps (.slice B ps.length m)) (hv : Ev.IsView w.heap.size w V vc) (hl : ps.length ≤ 1000) (hon : ∀ p ∈ ps, p.2.on.length ≤ 1000000) :
    Calls Tryz.prog 9 #[.slice A l.length c, .slice B ps.length m, .agg vc.toArray, .int .i64 now] w fun r w' => (∃ v, r = .returned v ∧ ET.Rd w' (updP V (holdsP ps) (validP l) now) v) ∧ Lat w w' := by
  have hL0 : Lat w (w.alloc (.cells vc.toArray 27)) := Lat.al _ _
  have HV := Lib.hid (rsane_any l A c _ (hx.1.lat hL0))
  have HHO := fun (w' : World) (h : Lat w w') => Lib.hid (rholds_any ps B m w' (hy.lat h) hl hon)
  have HTK := fun (w' : World) => Lib.hid (tick_any now w')
  have HFI := fun (A1 : Option Addr) (c1 : Nat) (s : ByteArray) (w' : World) (h : ET.Rd w' (validP l) (.slice A1 (validP l).length c1)) => Lib.hid (rfind_any (validP l) A1 c1 s w' h (by have := validP_len l; omega))
  have HTRU : ∀ (j : Nat) (h : j < (holdsP ps).length) (w' : World), Lat w w' → Hid (Calls Tryz.prog 23 #[.agg vc.toArray, .agg (holdsP ps)[j].1.1.ex.toArray] w' fun r w'' => r = .returned (.bool (trueB V (holdsP ps)[j])) ∧ Lat w' w'') := fun j h w' hl' => Lib.hid (by
    have he := (hy.2 _ (holdsP_mem (List.getElem_mem h)).1).ife.carry hl'
    have ht := Ev.rtrue_any' V (holdsP ps)[j].1.2.ife vc _ w.heap.size w' hl'.size (hv.carry hl') he
    unfold trueB
    exact ht)
  have HDT := fun j h => Lib.hid (updP_take V (holdsP ps) (validP l) now j h)
  have HDL : Hid (∀ j, (updP V ((holdsP ps).take j) (validP l) now).length ≤ 40) := Lib.hid (fun j => Nat.le_trans (updP_len _ _ _ _) (by rw [List.length_take]; have := holdsP_len ps; omega))
  have HFU : Hid (updP V (holdsP ps) (validP l) now = updP V ((holdsP ps).take (holdsP ps).length) (validP l) now) := Lib.hid (by rw [List.take_length])
  have HHL : Hid ((holdsP ps).length ≤ 40) := Lib.hid (holdsP_len ps)
  have hbv := Blk.new w 27 vc.toArray
  obtain ⟨IA, ic, MA, mc, rfl, -⟩ := hv
  generalize hVS : validP l = vs at *
  generalize hHP : holdsP ps = hp at *
  clear hVS hx
  go_enter Tryz.func9, Tryz.ntmps9
  go_wp2_with fail
  refine HV.out.mono ?_
  rintro r w1 ⟨⟨v1, rfl, hrd1⟩, hl1⟩
  obtain ⟨A1, c1, rfl⟩ := rd_slice hrd1
  have hL1 := hL0.trans hl1
  have hbv1 := hbv.lat hl1
  have HHO1 := HHO w1 hL1
  clear HV HHO hL0 hl1 hbv
  go_wp2_with fail
  refine HHO1.out.mono ?_
  rintro r w2 ⟨⟨hs, v2, rfl, hrd2, hat, hlt2⟩, hl2⟩
  obtain ⟨A2, c2, rfl⟩ := rd_slice hrd2
  have hL2 := hL1.trans hl2
  have hbv2 := hbv1.lat hl2
  have hrd1' := hrd1.lat hl2
  have hln : hp.length = hs.length := by rw [← hHP, ← hat, List.length_map]
  have HX : Hid (∀ (j : Nat) (h : j < hs.length) (h' : j < hp.length) (hq : hs[j].1 < ps.length), hp[j] = (ps[hs[j].1], hs[j].2)) := Lib.hid (fun j h h' hq => by
    have e : hp = hs.map (atP ps) := by rw [← hHP, ← hat]
    subst e
    rw [List.getElem_map, atP_is hq])
  have HL2 := Lib.hid hlt2
  have hhl := HHL.out
  rw [hln] at hhl HFU
  clear HHO1 hrd1 hL1 hl2 hat hlt2 hHP HHL hbv1
  go_wp2_with fail
  go_loopw [10, 21] (fun v i wr => ∃ j : Nat, j ≤ hs.length ∧ i = .int .i64 j ∧ ET.Own wr w2.heap.size (updP V (hp.take j) vs now) v ∧ Lat w2 wr) (fun _ i _ => hs.length - (intOf i).toNat)
  case atStart => exact ⟨0, Nat.zero_le _, rfl, Elt.Own.nil _ _, Lat.refl _⟩
  case round =>
    obtain ⟨j, hjl, rfl, hown, hLW⟩ := hrel
    by_cases hlt : j < hs.length
    · have hjp : j < hp.length := by omega
      have hql := HL2.out _ (List.getElem_mem hlt)
      have HXJ := Lib.hid (HX.out j hlt hjp hql)
      have HD1 := HDT j hjp
      have HTR0 := HTRU j hjp
      rw [HXJ.out] at HD1 HTR0
      obtain ⟨b', off', hA2, hbb, hrow'⟩ := (hrd2.lat hLW).row j hlt
      subst hA2
      have hrow : RowAt wr b' (off' + j * 2) [.int .i64 (hs[j].1 : Int), .int .i64 hs[j].2] := hrow'
      have hro : wr.cell? ⟨b', off' + j * 2, none⟩ = some (.int .i64 (hs[j].1 : Int)) := hrow 0 _ rfl
      obtain ⟨b, off, hB, hb0, hr1, -⟩ := (hy.lat (hL2.trans hLW)).row hs[j].1 hql
      subst hB
      have HDE : Hid (upd1 V vs now (ps[hs[j].1]'hql, hs[j].2) = if trueB V (ps[hs[j].1]'hql, hs[j].2) then [(findT vs (ps[hs[j].1]'hql).1.name).getD ⟨(ps[hs[j].1]'hql).1.name, lim now, false⟩] else []) := Lib.hid rfl
      have hqi : (hs[j].1 : Int) < ps.length := by omega
      have hji : (j : Int) < hs.length := by omega
      have hdl := HDL.out j
      have hrd1w := hrd1'.lat hLW
      have hbvr := hbv2.lat hLW
      clear hrow hrow' HX HXJ HDT HL2 HDL hrd1' hrd2 hy hon HFU HTRU
      rw [HDE.out] at HD1
      clear HDE
      generalize trueB V (ps[hs[j].1]'hql, hs[j].2) = TB at *
      generalize ps[hs[j].1]'hql = P at *
      generalize hs[j] = q at *
      obtain ⟨q1, q2⟩ := q
      obtain ⟨⟨x1, x2, x3, x4, x5, ⟨y1, y2, y3, y4, y5, y6, y7, y8, y9, y10⟩, x6, x7, x8, x9, x10, x11⟩, rl⟩ := P
      simp only [rC, RlR.ex, Ev.Hd.cells, List.cons_append, List.nil_append] at hr1 HTR0
      dsimp only at hro HD1 hqi
      have hBL : Lat wr (wr.alloc (.cells #[.string x1, .int .i64 x2, .slice x3 x4 x5, .int .i64 y1, .int .i64 y2, .int .i64 y3, .string y4, .int .i64 y5, .int .i64 y6, .string y7, .int .i64 y8, .string y9, .string y10, .slice x6 x7 x8, .slice x9 x10 x11] 44)) := Lat.al _ _
      have HTR := HTR0 _ (hL2.trans (hLW.trans hBL))
      have hhx := Blk.new wr 44 #[.string x1, .int .i64 x2, .slice x3 x4 x5, .int .i64 y1, .int .i64 y2, .int .i64 y3, .string y4, .int .i64 y5, .int .i64 y6, .string y7, .int .i64 y8, .string y9, .string y10, .slice x6 x7 x8, .slice x9 x10 x11]
      have hrv : RowAt (wr.alloc (.cells #[.string x1, .int .i64 x2, .slice x3 x4 x5, .int .i64 y1, .int .i64 y2, .int .i64 y3, .string y4, .int .i64 y5, .int .i64 y6, .string y7, .int .i64 y8, .string y9, .string y10, .slice x6 x7 x8, .slice x9 x10 x11] 44)) w.heap.size 0 [.slice IA V.items.length ic, .string V.mode, .int .i64 V.minute, .slice MA V.members.length mc] := (hbvr.lat hBL).row
      have hre : RowAt (wr.alloc (.cells #[.string x1, .int .i64 x2, .slice x3 x4 x5, .int .i64 y1, .int .i64 y2, .int .i64 y3, .string y4, .int .i64 y5, .int .i64 y6, .string y7, .int .i64 y8, .string y9, .string y10, .slice x6 x7 x8, .slice x9 x10 x11] 44)) wr.heap.size 3 [.int .i64 y1, .int .i64 y2, .int .i64 y3, .string y4, .int .i64 y5, .int .i64 y6, .string y7, .int .i64 y8, .string y9, .string y10, .slice x6 x7 x8] := row_of_blk (l := (#[.string x1, .int .i64 x2, .slice x3 x4 x5, .int .i64 y1, .int .i64 y2, .int .i64 y3, .string y4, .int .i64 y5, .int .i64 y6, .string y7, .int .i64 y8, .string y9, .string y10, .slice x6 x7 x8, .slice x9 x10 x11]).toList) hhx 3 _ (fun i v hi => by
        match i, hi with
        | 0, hi => exact hi
        | 1, hi => exact hi
        | 2, hi => exact hi
        | 3, hi => exact hi
        | 4, hi => exact hi
        | 5, hi => exact hi
        | 6, hi => exact hi
        | 7, hi => exact hi
        | 8, hi => exact hi
        | 9, hi => exact hi
        | 10, hi => exact hi
        | i + 11, hi => simp at hi)
      have HRD := Lib.hid (hrd1w.lat hBL)
      have HO := Lib.hid (hown.lat hBL)
      have HLW := Lib.hid (hLW.trans hBL)
      have HBX := Lib.hid hhx
      clear hown hLW hBL hhx hbvr hrd1w HTR0
      generalize hD : updP V (hp.take j) vs now = D at *
      clear hD
      go_wp2_with (first | (with_reducible refine wpList_load_at rfl 44 _ rfl b (off + q1 * 15) rfl _ _ hr1 Tryz.underlying44 rfl (by kernel_rfl) ?_) | (with_reducible refine wpList_load_at rfl 27 _ rfl w.heap.size 0 rfl _ _ hrv Tryz.underlying27 rfl (by kernel_rfl) ?_) | (with_reducible refine wpList_load_at rfl 41 _ rfl wr.heap.size 3 rfl _ _ hre Tryz.underlying41 rfl (by kernel_rfl) ?_))
      refine HTR.out.mono ?_
      rintro r w6 ⟨rfl, hl6⟩
      have hl6' : Lat (wr.alloc (.cells #[.string x1, .int .i64 x2, .slice x3 x4 x5, .int .i64 y1, .int .i64 y2, .int .i64 y3, .string y4, .int .i64 y5, .int .i64 y6, .string y7, .int .i64 y8, .string y9, .string y10, .slice x6 x7 x8, .slice x9 x10 x11] 44)) w6 := hl6
      have hrd6 := HRD.out.lat hl6'
      have hown6 := HO.out.lat hl6'
      have hL6 := HLW.out.trans hl6'
      have hbx6 := HBX.out.lat hl6'
      clear HTR hrv hre hr1 HRD HO HLW HBX hl6 hl6' hro
      generalize wr.heap.size = gx at *
      cases TB
      · have HD2 : Hid (updP V (hp.take (j + 1)) vs now = D) := Lib.hid (HD1.out.trans (by simp))
        clear HD1 hbx6 hrd6
        go_wp2_with fail
        go_roundw
        case rel => exact ⟨j + 1, by omega, by go_num, by rw [HD2.out]; exact hown6, hL6⟩
        case measure => simp [intOf]; omega
      · have HFI1 := HFI A1 c1 x1 w6 hrd6
        have c0 := hbx6.cell 0
        unfold tmOf at HFI1
        cases hF : findT vs x1 with
        | none =>
          rw [hF] at HD1 HFI1
          simp only [Option.getD_none, Option.isSome_none, zT, tC] at HFI1
          have HD2 : Hid (updP V (hp.take (j + 1)) vs now = D ++ [⟨x1, lim now, false⟩]) := Lib.hid (HD1.out.trans (by simp))
          clear hF HD1 HFI hrd6
          generalize lim now = L at *
          go_wp2_with fail
          refine HFI1.out.mono ?_
          rintro r w7 ⟨rfl, hl7⟩
          have hl8 : Lat w7 (w7.alloc (.cells #[.string { data := #[] }, .int .i64 0, .bool false] 50)) := Lat.al _ _
          have hb8 := Blk.new w7 50 #[.string { data := #[] }, .int .i64 0, .bool false]
          have hbx := hbx6.lat (hl7.trans hl8)
          have hown8 := hown6.lat (hl7.trans hl8)
          have hL8 := hL6.trans (hl7.trans hl8)
          have hs7 : w2.heap.size ≤ w7.heap.size := (hL6.trans hl7).size
          have hot : ∀ k, u10.ownBlock = some k → k < w7.heap.size := fun k hk => ((hown6.lat hl7).lt k hk).2
          clear HFI1 hl7 hl8 hown6 hL6 hbx6 c0
          go_upto_region 11 with fail
          generalize w7.alloc (.cells #[.string { data := #[] }, .int .i64 0, .bool false] 50) = w8 at *
          generalize w7.heap.size = g at *
          refine wp_rely_last (n := 5) (by kernel_rfl) (by kernel_rfl) rfl (by kernel_rfl) ?_
          simp only [List.take_succ_cons, List.take_zero]
          apply RelyL.val
          · intro ν w' hL hF K hK'
            have ct := (hbx.lat hL).cell
            go_simp
            exact hK'.out _ _ rfl (Lat.refl _)
          simp only [Act.put, List.setIfInBounds_toArray, List.set_cons_zero, List.set_cons_succ, Nat.reduceAdd]
          apply RelyL.val
          · intro ν w' hL hF K hK'
            have ct := (hbx.lat hL).cell
            go_simp
            exact hK'.out _ _ rfl (Lat.refl _)
          simp only [Act.put, List.setIfInBounds_toArray, List.set_cons_zero, List.set_cons_succ, Nat.reduceAdd]
          apply RelyL.val
          · intro ν w' hL hF K hK'
            have ct := (hbx.lat hL).cell
            go_simp
            exact hK'.out _ _ rfl (Lat.refl _)
          simp only [Act.put, List.setIfInBounds_toArray, List.set_cons_zero, List.set_cons_succ, Nat.reduceAdd]
          apply RelyL.val
          · intro ν w' hL hF K hK'
            have H := HTK w'
            go_simp
            go_at_call 25
            refine H.out.mono ?_
            rintro r w'' ⟨rfl, rfl⟩
            exact hK'.out _ _ rfl (Lat.refl _)
          simp only [Act.put, List.setIfInBounds_toArray, List.set_cons_zero, List.set_cons_succ, Nat.reduceAdd]
          apply RelyL.val
          · intro ν w' hL hF K hK'
            have ct := (hbx.lat hL).cell
            go_simp
            exact hK'.out _ _ rfl (Lat.refl _)
          simp only [Act.put, List.setIfInBounds_toArray, List.set_cons_zero, List.set_cons_succ, Nat.reduceAdd]
          refine RelyL.done fun ν w5 hL hF => ?_
          have hown5 := hown8.lat hL
          have hL5 := hL8.trans hL
          have hb5 := hb8.lat hL
          clear hF hL hown8 hL8 hb8 hbx
          refine wpOp_step rfl (fun K hK => ?_)
          refine take_op rfl ?_
          refine wp_store_row 50 _ _ rfl g _ rfl rfl 50 _ hb5 (by kernel_rfl : (Tryz.prog.info? 50).map (·.size) = some 3) rfl (by kernel_rfl) ?_
          refine hK _ _ ?_
          have hb9 := hb5.setRow #[.string x1, .int .i64 L, .bool false]
          have hLs : Below w2.heap.size w5 (w5.setRow g #[.string x1, .int .i64 L, .bool false]) := lat_setRow _ hs7
          have hown9 : ET.Own (w5.setRow g #[.string x1, .int .i64 L, .bool false]) w2.heap.size D u10 := hown5.carry (fun k hk => (lat_setRow (B := g) #[.string x1, .int .i64 L, .bool false] (Nat.le_refl _)).block k (hot k hk))
          have hL9 : Lat w2 (w5.setRow g #[.string x1, .int .i64 L, .bool false]) := Below.trans hL5 hLs
          clear hb5 hLs hown5 hL5 hot
          simp only [Act.put]
          generalize w5.setRow g #[.string x1, .int .i64 L, .bool false] = w9 at *
          have hrt : RowAt w9 g 0 [.string x1, .int .i64 L, .bool false] := hb9.row
          have hla : Lat w9 (w9.alloc (.cells #[.string x1, .int .i64 L, .bool false] 50)) := Lat.al _ _
          have hbn : Blk (w9.alloc (.cells #[.string x1, .int .i64 L, .bool false] 50)) w9.heap.size 50 (ET.f ⟨x1, L, false⟩).toArray := Blk.new _ _ _
          have hownA := hown9.lat hla
          have HL := Lib.hid (hL9.trans hla)
          have hmax : D.length + 1 ≤ maxLen := by unfold maxLen; omega
          have hby : (D.length + 1) * ET.bytes ≤ 140737488355328 := Nat.le_trans (Nat.mul_le_mul_right ET.bytes (by omega : _ ≤ 1000000)) (by decide)
          have hLs := HL.out.size
          clear hown9 hL9 hla hb9
          go_wp2_with (first | (with_reducible refine wpList_load_at rfl 50 _ rfl g 0 rfl _ _ hrt Tryz.underlying50 rfl (by kernel_rfl) ?_) | (at_builtin; refine ET.append rfl _ _ rfl w2.heap.size _ _ rfl hownA w9.heap.size 1 ⟨x1, L, false⟩ rfl 50 hbn hmax hby hLs ?_; intro va wa howna hga hwa; go_must (have hLa : Lat w2 wa := HL.out.grown hga hLs (fun k hk => (hownA.lt k hk).1); clear hownA hga hwa hbn hrt)))
          go_roundw
          case rel => exact ⟨j + 1, by omega, by go_num, by rw [HD2.out]; exact howna, hLa⟩
          case measure => simp [intOf]; omega
        | some T =>
          obtain ⟨t1, t2, t3⟩ := T
          rw [hF] at HD1 HFI1
          simp only [Option.getD_some, Option.isSome_some, tC] at HFI1
          have HD2 : Hid (updP V (hp.take (j + 1)) vs now = D ++ [⟨t1, t2, t3⟩]) := Lib.hid (HD1.out.trans (by simp))
          clear hF HD1 HFI hrd6 HTK
          go_wp2_with fail
          refine HFI1.out.mono ?_
          rintro r w7 ⟨rfl, hl7⟩
          have hl9 : Lat w7 ((w7.alloc (.cells #[.string t1, .int .i64 t2, .bool t3] 50)).alloc (.cells #[.string t1, .int .i64 t2, .bool t3] 50)) := (Lat.al _ _).trans (Lat.al _ _)
          have hrt : RowAt (w7.alloc (.cells #[.string t1, .int .i64 t2, .bool t3] 50)) w7.heap.size 0 [.string t1, .int .i64 t2, .bool t3] := (Blk.new w7 50 #[.string t1, .int .i64 t2, .bool t3]).row
          have hbn : Blk ((w7.alloc (.cells #[.string t1, .int .i64 t2, .bool t3] 50)).alloc (.cells #[.string t1, .int .i64 t2, .bool t3] 50)) (w7.heap.size + 1) 50 (ET.f ⟨t1, t2, t3⟩).toArray := Blk.at1 _ _ _ _
          have hown9 := hown6.lat (hl7.trans hl9)
          have HL := Lib.hid (hL6.trans (hl7.trans hl9))
          have hmax : D.length + 1 ≤ maxLen := by unfold maxLen; omega
          have hby : (D.length + 1) * ET.bytes ≤ 140737488355328 := Nat.le_trans (Nat.mul_le_mul_right ET.bytes (by omega : _ ≤ 1000000)) (by decide)
          have hLs := HL.out.size
          clear HFI1 hl7 hl9 hown6 hL6 hbx6 c0
          go_wp2_with (first | (with_reducible refine wpList_load_at rfl 50 _ rfl w7.heap.size 0 rfl _ _ hrt Tryz.underlying50 rfl (by kernel_rfl) ?_) | (at_builtin; refine ET.append rfl _ _ rfl w2.heap.size _ _ rfl hown9 (w7.heap.size + 1) 1 ⟨t1, t2, t3⟩ rfl 50 hbn hmax hby hLs ?_; intro va wa howna hga hwa; go_must (have hLa : Lat w2 wa := HL.out.grown hga hLs (fun k hk => (hown9.lt k hk).1); clear hown9 hga hwa hbn hrt)))
          go_roundw
          case rel => exact ⟨j + 1, by omega, by go_num, by rw [HD2.out]; exact howna, hLa⟩
          case measure => simp [intOf]; omega
    · have hj : j = hs.length := by omega
      subst hj
      rw [← HFU.out] at hown
      have hL := hL2.trans hLW
      clear HTK HFI HTRU HDT HDL HFU HX HL2
      go_wp2_with fail
      go_ret
      exact ⟨⟨_, rfl, hown.rd⟩, hL⟩
end Go.Proofs.YtafodibbcfoclaaGreat
