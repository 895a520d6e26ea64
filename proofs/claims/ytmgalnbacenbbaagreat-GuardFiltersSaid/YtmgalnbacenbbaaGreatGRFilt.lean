/- Guard: Filter of the reference. -/
import Derived.Test.YtmgalnbacenbbaaGreatGFilt
import Derived.Test.YtmgalnbacenbbaaGreatVMrg
import Derived.Test.YtmgalnbacenbbaaGreatGRForW
set_option linter.unusedSimpArgs false
set_option linter.unusedVariables false
namespace Go.Proofs.YtmgalnbacenbbaaGreat
open Go.RowKit

theorem wC_k {w : World} {b off : Nat} {x : LW} (h : RowAt w b off (wC x)) : RowAt w b off (kC x.key) := fun q v hq => h q v (by
  match q, hq with
  | 0, hq => exact hq
  | 1, hq => exact hq
  | 2, hq => exact hq
  | q + 3, hq => simp [kC] at hq)
theorem wC_v {w : World} {b off : Nat} {x : LW} (h : RowAt w b off (wC x)) : RowAt w b (off + 3) (vC x.val) := h.part 3 _ fun q v hq => by
  match q, hq with
  | 0, hq => exact hq
  | 1, hq => exact hq
  | 2, hq => exact hq
  | q + 3, hq => simp [vC] at hq
/-- What the reference's Filter hands back. -/
def RFiOut (ps : List (LkR × LLock)) (acts : List ByteArray) (xs : List LD) (w : World) (r : Ending) : Prop := ∃ ks ds v, r = .returned v ∧ Good (fun x => x ∈ allW xs ∨ x ∈ frc (strg ps acts) ks) ds ∧
  ks.Pairwise (fun a b => kless a b = true) ∧ (∀ k, k ∈ ks ↔ HasF (strg ps acts) k) ∧ RdD w (ds.map (fixE ps acts)) v
set_option maxRecDepth 100000 in
set_option maxHeartbeats 4000000 in
theorem rfilter_any (ps : List (LkR × LLock)) (A : Option Addr) (c : Nat) (acts : List ByteArray) (B : Option Addr) (m : Nat) (xs : List LD) (D : Option Addr) (q : Nat) (w : World) (hx : RdL w ps (.slice A ps.length c)) (hy : ES.Rd w acts (.slice B acts.length m)) (hd : RdD w xs (.slice D xs.length q)) (hl : ps.length < 40) (hbig : acts.length ≤ 1000000) (hfi : FewI ps) (hfew : ∀ p ∈ ps, p.2.force.length ≤ 30) (hits : ∀ p ∈ ps, (itsOf p).length ≤ 60) (hxl : xs.length ≤ 30) (hxs : ∀ d ∈ xs, d.los.length ≤ 30) :
    Calls Tryz.prog 9 #[.slice A ps.length c, .slice B acts.length m, .slice D xs.length q] w fun r w' => RFiOut ps acts xs w' r ∧ Lat w w' := by
  have HFO := Lib.hid (rforcedW_any ps A c acts B m w hx hy hl hbig hfew)
  have HAL := fun (k : LKey) (v : LVal) (w' : World) (h : Lat w w') => Lib.hid (rallowed_any ps A c acts B m k v w' (hx.lat h) (hy.lat h) hl hbig hfi)
  have HKL : Hid (∀ ks : List LKey, ks.Pairwise (fun a b => kless a b = true) → (∀ k, k ∈ ks ↔ HasF (strg ps acts) k) → (frc (strg ps acts) ks).length ≤ 3000) := Lib.hid (fun ks h1 h2 => by
    have e1 := frc_len (strg ps acts) ks
    have e2 : ks.length ≤ (keysOf (strg ps acts)).length := nodup_len _ _ (h1.imp (fun hb => sto_kless.ne hb)) (fun k hk => mem_keysOf.2 (by
      obtain ⟨p, hp, it, hit, e⟩ := (h2 k).1 hk
      exact ⟨p, hp, it, by unfold itsOf; exact List.mem_append_left _ hit, e⟩))
    have e3 := keysOf_len (strg ps acts) (fun p hp => hits p (strg_mem hp))
    have e4 := strg_len ps acts
    omega)
  have hal := allW_few xs 30 hxs
  clear hx hy hfi hfew hxs hits
  go_enter Tryz.func9, Tryz.ntmps9
  go_wp2_with fail
  refine HFO.out.mono ?_
  rintro r w2 ⟨ks, v2, rfl, hown2, hks, hkm, hl2⟩
  obtain ⟨A2, c2, rfl⟩ := hown2.slice
  have hfl := HKL.out ks hks hkm
  have hrd2 := hown2.rd
  have HK := Lib.hid (And.intro hks hkm)
  clear HFO hown2 hks hkm HKL
  have HDE := Lib.hid (rdecide_any (frc (strg ps acts) ks) A2 c2 w2 hrd2 (by omega))
  clear hrd2
  go_wp2_with fail
  refine HDE.out.mono ?_
  rintro r w3 ⟨⟨v3, rfl, hox⟩, hl3⟩
  have hry := hox.rd
  have hgy := decR_good (frc (strg ps acts) ks)
  generalize decR (frc (strg ps acts) ks) = ys at *
  obtain ⟨A3, c3, rfl⟩ := hry.slice
  have hya := hgy.allW_len
  have hyl := len_allW ys
  have HME := Lib.hid (rmerge_any xs ys D A3 q c3 w3 (hd.lat (hl2.trans hl3)) hry (by omega) (by rw [allW_app, List.length_append]; omega))
  clear HDE hry hd hox
  go_wp2_with fail
  refine HME.out.mono ?_
  rintro r w4 ⟨⟨v4, base, rfl, hbase, hown4⟩, hl4⟩
  have hg4 := decR_good (allW (xs ++ ys))
  generalize decR (allW (xs ++ ys)) = ds at *
  have hdl := hg4.allW_len
  have hdl2 := len_allW ds
  rw [allW_app, List.length_append] at hdl
  have hdsl : ds.length ≤ 100000 := by omega
  have HG := Lib.hid (hg4.through hgy)
  have hL4 : Lat w w4 := hl2.trans (hl3.trans hl4)
  have hb1 : w.heap.size ≤ base := Nat.le_trans (hl2.trans hl3).size hbase
  clear HME hg4 hgy hdl hdl2 hya hyl hal hbase hl2 hl3 hl4 hfl hxl
  obtain ⟨A4, c4, rfl⟩ := hown4.slice
  go_wp2_with fail
  go_loopw [8] (fun i wr => ∃ j : Nat, j ≤ ds.length ∧ i = .int .i64 j ∧ OwnX wr base (fixed ps acts ds j) (.slice A4 ds.length c4) ∧ Lat w wr) (fun i _ => ds.length - (intOf i).toNat)
  case atStart => exact ⟨0, Nat.zero_le _, rfl, by simpa [fixed] using hown4, hL4⟩
  case round =>
    clear hown4 hL4
    obtain ⟨j, hjl, rfl, hown, hLW⟩ := hrel
    by_cases hlt : j < ds.length
    · have hjf : j < (fixed ps acts ds j).length := by rw [fixed_len _ _ _ _ hjl]; exact hlt
      have hfg : (fixed ps acts ds j)[j] = ds[j] := fixed_get ps acts ds j hlt
      have hfs := fun y h => Lib.hid (fixed_set ps acts ds j hlt y h)
      have HFE : Hid (fixE ps acts ds[j] = ⟨ds[j].key, ds[j].win, ds[j].los, if (blkAll ps acts ds[j].win.key ds[j].win.val).size = 0 then 0 else 19⟩) := Lib.hid rfl
      have HB0 := fun (w' : World) (h : Lat w w') => HAL ds[j].win.key ds[j].win.val w' h
      clear HAL
      generalize hY1 : fixed ps acts ds (j + 1) = Y1 at *
      have HY1 := Lib.hid hY1
      clear hY1
      generalize fixE ps acts ds[j] = FE at *
      generalize fixed ps acts ds j = Y at *
      obtain ⟨g, rfl, hbg, hgl, ⟨A1', n1, m1, hr1⟩, hfr, hset⟩ := hown.place j hjf
      have hwg : w.heap.size ≤ g := by omega
      have c14w := hr1 14 _ rfl
      have hown6 := hset 0
      have hLW6 : Lat w (wr.setCell ⟨g, j * 15 + 14, none⟩ (.int .i64 0)) := hLW.setCell (p := ⟨g, j * 15 + 14, none⟩) hwg (.int .i64 0)
      have hjf6 : j < (Y.set j ⟨Y[j].key, Y[j].win, Y[j].los, 0⟩).length := by rw [List.length_set]; exact hjf
      obtain ⟨g', eg, -, hgl6, ⟨A2', n2, m2, hr2⟩, -, -⟩ := hown6.place j hjf6
      injection eg with eg
      injection eg with eg
      subst eg
      simp only [List.getElem_set_self] at hr2
      rw [hfg] at hr2
      have hw6 := dec_win hr2
      have hb6 := hgl6
      have HFG := Lib.hid hfg
      generalize blkAll ps acts ds[j].win.key ds[j].win.val = R at *
      generalize hX : ds[j] = X at *
      have HO6 := Lib.hid hown6
      have HLW6 := Lib.hid hLW6
      have HW6 := Lib.hid hw6
      have HB6 := Lib.hid hb6
      clear hown hLW hset hr1 hr2 hfg hX hown6 hLW6 hw6 hb6 hgl6
      go_upto_region 6 with fail
      have hown6 := HO6.out
      have hLW6 := HLW6.out
      have hw6 := HW6.out
      have hb6 := HB6.out
      clear HO6 HLW6 HW6 HB6 c14w hfr
      generalize wr.setCell ⟨g, j * 15 + 14, none⟩ (.int .i64 0) = w6 at *
      by_cases hz : R.size = 0
      · have HQ : Hid (Y.set j ⟨Y[j].key, Y[j].win, Y[j].los, 0⟩ = Y1) := Lib.hid ((hfs _ (by rw [HFE.out, if_pos hz]; rw [HFG.out])).out)
        have HA := fun (w' : World) (h : Lat w w') => Lib.hid (show Calls Tryz.prog 22 #[.slice A ps.length c, .slice B acts.length m, .agg (kC X.win.key).toArray, .agg (vC X.win.val).toArray] w' fun r w'' => r = .returned (.bool true) ∧ Lat w' w'' from by
          have := (HB0 w' h).out
          rwa [decide_eq_true hz] at this)
        clear hfs HFE hz HB0
        have hk1 : RowAt w6 g (j * 15 + 3) (kC X.win.key) := wC_k hw6
        have hv1 : RowAt w6 g (j * 15 + 6) (vC X.win.val) := wC_v hw6
        go_wp2_with fail
        refine wp_rely (by kernel_rfl) (by kernel_rfl) ?_
        apply RelyL.val
        · intro ν w' hL hF K hK'
          go_simp
          exact hK'.out _ _ rfl (Lat.refl _)
        simp only [Act.put, List.setIfInBounds_toArray, List.set_cons_zero, List.set_cons_succ, Nat.reduceAdd]
        apply RelyL.val
        · intro ν w' hL hF K hK'
          go_simp
          exact hK'.out _ _ rfl (Lat.refl _)
        simp only [Act.put, List.setIfInBounds_toArray, List.set_cons_zero, List.set_cons_succ, Nat.reduceAdd]
        apply RelyL.val
        · intro ν w' hL hF K hK'
          go_simp
          exact hK'.out _ _ rfl (Lat.refl _)
        simp only [Act.put, List.setIfInBounds_toArray, List.set_cons_zero, List.set_cons_succ, Nat.reduceAdd]
        apply RelyL.val
        · intro ν w' hL hF K hK'
          go_simp
          exact hK'.out _ _ rfl (Lat.refl _)
        simp only [Act.put, List.setIfInBounds_toArray, List.set_cons_zero, List.set_cons_succ, Nat.reduceAdd]
        apply RelyL.val
        · intro ν w' hL hF K hK'
          go_simp
          exact hK'.out _ _ rfl (Lat.refl _)
        simp only [Act.put, List.setIfInBounds_toArray, List.set_cons_zero, List.set_cons_succ, Nat.reduceAdd]
        apply RelyL.val
        · intro ν w' hL hF K hK'
          go_simp
          exact hK'.out _ _ rfl (Lat.refl _)
        simp only [Act.put, List.setIfInBounds_toArray, List.set_cons_zero, List.set_cons_succ, Nat.reduceAdd]
        apply RelyL.val
        · intro ν w' hL hF K hK'
          go_simp
          exact hK'.out _ _ rfl (Lat.refl _)
        simp only [Act.put, List.setIfInBounds_toArray, List.set_cons_zero, List.set_cons_succ, Nat.reduceAdd]
        apply RelyL.val
        · intro ν w' hL hF K hK'
          refine take_op rfl ?_
          refine wp_load_at 34 _ rfl g ((j * 15 + 3)) rfl _ _ (hk1.below hL hb6) Tryz.underlying34 rfl (by kernel_rfl) ?_
          exact hK'.out _ _ rfl (Lat.refl _)
        simp only [Act.put, List.setIfInBounds_toArray, List.set_cons_zero, List.set_cons_succ, Nat.reduceAdd]
        apply RelyL.val
        · intro ν w' hL hF K hK'
          go_simp
          exact hK'.out _ _ rfl (Lat.refl _)
        simp only [Act.put, List.setIfInBounds_toArray, List.set_cons_zero, List.set_cons_succ, Nat.reduceAdd]
        apply RelyL.val
        · intro ν w' hL hF K hK'
          go_simp
          exact hK'.out _ _ rfl (Lat.refl _)
        simp only [Act.put, List.setIfInBounds_toArray, List.set_cons_zero, List.set_cons_succ, Nat.reduceAdd]
        apply RelyL.val
        · intro ν w' hL hF K hK'
          go_simp
          exact hK'.out _ _ rfl (Lat.refl _)
        simp only [Act.put, List.setIfInBounds_toArray, List.set_cons_zero, List.set_cons_succ, Nat.reduceAdd]
        apply RelyL.val
        · intro ν w' hL hF K hK'
          go_simp
          exact hK'.out _ _ rfl (Lat.refl _)
        simp only [Act.put, List.setIfInBounds_toArray, List.set_cons_zero, List.set_cons_succ, Nat.reduceAdd]
        apply RelyL.val
        · intro ν w' hL hF K hK'
          go_simp
          exact hK'.out _ _ rfl (Lat.refl _)
        simp only [Act.put, List.setIfInBounds_toArray, List.set_cons_zero, List.set_cons_succ, Nat.reduceAdd]
        apply RelyL.val
        · intro ν w' hL hF K hK'
          refine take_op rfl ?_
          refine wp_load_at 32 _ rfl g ((j * 15 + 6)) rfl _ _ (hv1.below hL hb6) Tryz.underlying32 rfl (by kernel_rfl) ?_
          exact hK'.out _ _ rfl (Lat.refl _)
        simp only [Act.put, List.setIfInBounds_toArray, List.set_cons_zero, List.set_cons_succ, Nat.reduceAdd]
        apply RelyL.val
        · intro ν w' hL hF K hK'
          have H := (HA w' (hLW6.trans hL))
          go_simp
          go_at_call 22
          refine H.out.mono ?_
          rintro r w'' ⟨rfl, hbp⟩
          exact hK'.out _ _ rfl hbp
        simp only [Act.put, List.setIfInBounds_toArray, List.set_cons_zero, List.set_cons_succ, Nat.reduceAdd]
        apply RelyL.val
        · intro ν w' hL hF K hK'
          go_simp
          exact hK'.out _ _ rfl (Lat.refl _)
        simp only [Act.put, List.setIfInBounds_toArray, List.set_cons_zero, List.set_cons_succ, Nat.reduceAdd]
        refine RelyL.done fun ν w7 hL hF => ?_
        have hown7 := hown6.lat hL
        have hLW7 := hLW6.trans hL
        clear hF hL HA hk1 hv1 hw6 hown6 hLW6
        go_wp2_with fail
        go_roundw
        case rel => exact ⟨j + 1, by omega, by go_num, by rw [HY1.out, ← HQ.out]; exact hown7, hLW7⟩
        case measure => simp [intOf]; omega
      · have HQ : Hid (Y.set j ⟨Y[j].key, Y[j].win, Y[j].los, 19⟩ = Y1) := Lib.hid ((hfs _ (by rw [HFE.out, if_neg hz]; rw [HFG.out])).out)
        have HA := fun (w' : World) (h : Lat w w') => Lib.hid (show Calls Tryz.prog 22 #[.slice A ps.length c, .slice B acts.length m, .agg (kC X.win.key).toArray, .agg (vC X.win.val).toArray] w' fun r w'' => r = .returned (.bool false) ∧ Lat w' w'' from by
          have := (HB0 w' h).out
          rwa [decide_eq_false hz] at this)
        clear hfs HFE hz HB0
        have hk1 : RowAt w6 g (j * 15 + 3) (kC X.win.key) := wC_k hw6
        have hv1 : RowAt w6 g (j * 15 + 6) (vC X.win.val) := wC_v hw6
        go_wp2_with fail
        refine wp_rely (by kernel_rfl) (by kernel_rfl) ?_
        apply RelyL.val
        · intro ν w' hL hF K hK'
          go_simp
          exact hK'.out _ _ rfl (Lat.refl _)
        simp only [Act.put, List.setIfInBounds_toArray, List.set_cons_zero, List.set_cons_succ, Nat.reduceAdd]
        apply RelyL.val
        · intro ν w' hL hF K hK'
          go_simp
          exact hK'.out _ _ rfl (Lat.refl _)
        simp only [Act.put, List.setIfInBounds_toArray, List.set_cons_zero, List.set_cons_succ, Nat.reduceAdd]
        apply RelyL.val
        · intro ν w' hL hF K hK'
          go_simp
          exact hK'.out _ _ rfl (Lat.refl _)
        simp only [Act.put, List.setIfInBounds_toArray, List.set_cons_zero, List.set_cons_succ, Nat.reduceAdd]
        apply RelyL.val
        · intro ν w' hL hF K hK'
          go_simp
          exact hK'.out _ _ rfl (Lat.refl _)
        simp only [Act.put, List.setIfInBounds_toArray, List.set_cons_zero, List.set_cons_succ, Nat.reduceAdd]
        apply RelyL.val
        · intro ν w' hL hF K hK'
          go_simp
          exact hK'.out _ _ rfl (Lat.refl _)
        simp only [Act.put, List.setIfInBounds_toArray, List.set_cons_zero, List.set_cons_succ, Nat.reduceAdd]
        apply RelyL.val
        · intro ν w' hL hF K hK'
          go_simp
          exact hK'.out _ _ rfl (Lat.refl _)
        simp only [Act.put, List.setIfInBounds_toArray, List.set_cons_zero, List.set_cons_succ, Nat.reduceAdd]
        apply RelyL.val
        · intro ν w' hL hF K hK'
          go_simp
          exact hK'.out _ _ rfl (Lat.refl _)
        simp only [Act.put, List.setIfInBounds_toArray, List.set_cons_zero, List.set_cons_succ, Nat.reduceAdd]
        apply RelyL.val
        · intro ν w' hL hF K hK'
          refine take_op rfl ?_
          refine wp_load_at 34 _ rfl g ((j * 15 + 3)) rfl _ _ (hk1.below hL hb6) Tryz.underlying34 rfl (by kernel_rfl) ?_
          exact hK'.out _ _ rfl (Lat.refl _)
        simp only [Act.put, List.setIfInBounds_toArray, List.set_cons_zero, List.set_cons_succ, Nat.reduceAdd]
        apply RelyL.val
        · intro ν w' hL hF K hK'
          go_simp
          exact hK'.out _ _ rfl (Lat.refl _)
        simp only [Act.put, List.setIfInBounds_toArray, List.set_cons_zero, List.set_cons_succ, Nat.reduceAdd]
        apply RelyL.val
        · intro ν w' hL hF K hK'
          go_simp
          exact hK'.out _ _ rfl (Lat.refl _)
        simp only [Act.put, List.setIfInBounds_toArray, List.set_cons_zero, List.set_cons_succ, Nat.reduceAdd]
        apply RelyL.val
        · intro ν w' hL hF K hK'
          go_simp
          exact hK'.out _ _ rfl (Lat.refl _)
        simp only [Act.put, List.setIfInBounds_toArray, List.set_cons_zero, List.set_cons_succ, Nat.reduceAdd]
        apply RelyL.val
        · intro ν w' hL hF K hK'
          go_simp
          exact hK'.out _ _ rfl (Lat.refl _)
        simp only [Act.put, List.setIfInBounds_toArray, List.set_cons_zero, List.set_cons_succ, Nat.reduceAdd]
        apply RelyL.val
        · intro ν w' hL hF K hK'
          go_simp
          exact hK'.out _ _ rfl (Lat.refl _)
        simp only [Act.put, List.setIfInBounds_toArray, List.set_cons_zero, List.set_cons_succ, Nat.reduceAdd]
        apply RelyL.val
        · intro ν w' hL hF K hK'
          refine take_op rfl ?_
          refine wp_load_at 32 _ rfl g ((j * 15 + 6)) rfl _ _ (hv1.below hL hb6) Tryz.underlying32 rfl (by kernel_rfl) ?_
          exact hK'.out _ _ rfl (Lat.refl _)
        simp only [Act.put, List.setIfInBounds_toArray, List.set_cons_zero, List.set_cons_succ, Nat.reduceAdd]
        apply RelyL.val
        · intro ν w' hL hF K hK'
          have H := (HA w' (hLW6.trans hL))
          go_simp
          go_at_call 22
          refine H.out.mono ?_
          rintro r w'' ⟨rfl, hbp⟩
          exact hK'.out _ _ rfl hbp
        simp only [Act.put, List.setIfInBounds_toArray, List.set_cons_zero, List.set_cons_succ, Nat.reduceAdd]
        apply RelyL.val
        · intro ν w' hL hF K hK'
          go_simp
          exact hK'.out _ _ rfl (Lat.refl _)
        simp only [Act.put, List.setIfInBounds_toArray, List.set_cons_zero, List.set_cons_succ, Nat.reduceAdd]
        refine RelyL.done fun ν w7 hL hF => ?_
        have hown7 := hown6.lat hL
        have hLW7 := hLW6.trans hL
        clear hF hL HA hk1 hv1 hw6 hown6 hLW6
        obtain ⟨g', eg, -, -, ⟨A2, n2, m2, hr2⟩, hfr2, hset2⟩ := hown7.place j hjf6
        injection eg with eg
        injection eg with eg
        subst eg
        have c14 : w7.cell? ⟨g, j * 15 + 14, none⟩ = some (.int .i64 (Y.set j ⟨Y[j].key, Y[j].win, Y[j].los, 0⟩)[j].err) := hr2 14 _ rfl
        have hown8 := hset2 19
        rw [List.set_set] at hown8
        simp only [List.getElem_set_self] at hown8
        rw [HQ.out] at hown8
        have hLW8 := hLW7.setCell (p := ⟨g, j * 15 + 14, none⟩) hwg (.int .i64 19)
        clear hr2 hset2 hown7 hLW7
        go_wp2_with fail
        go_roundw
        case rel => exact ⟨j + 1, by omega, by go_num, by rw [HY1.out]; exact hown8, hLW8⟩
        case measure => simp [intOf]; omega
    · have hj : j = ds.length := by omega
      subst hj
      have hrd4 := hown.rd
      rw [show fixed ps acts ds ds.length = ds.map (fixE ps acts) from by unfold fixed; rw [List.take_length, List.drop_length, List.append_nil]] at hrd4
      clear HAL
      go_wp2_with fail
      go_ret
      exact ⟨⟨ks, ds, _, rfl, HG.out, HK.out.1, HK.out.2, hrd4⟩, hLW⟩
end Go.Proofs.YtmgalnbacenbbaaGreat
