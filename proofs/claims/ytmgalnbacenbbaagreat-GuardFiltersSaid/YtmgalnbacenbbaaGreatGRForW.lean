/- Guard: the reference's Forced walked. -/
import Derived.Test.YtmgalnbacenbbaaGreatGRForc
import Derived.Test.YtmgalnbacenbbaaGreatGRBlk
import Derived.Deep.RegionHeld
import Derived.Deep.DeepCutAuto
set_option linter.unusedSimpArgs false
set_option linter.unusedVariables false
namespace Go.Proofs.YtmgalnbacenbbaaGreat
open Go.RowKit

theorem cell_at {w w' : World} {p : Addr} {v : Value} (h : w.cell? p = some v) (hl : Lat w w') (hb : p.block < w.heap.size) : w'.cell? p = some v := (Below.cell hl hb).trans h
set_option maxRecDepth 100000 in
set_option maxHeartbeats 4000000 in
theorem rforcedW_any (ps : List (LkR × LLock)) (A : Option Addr) (c : Nat) (acts : List ByteArray) (B : Option Addr) (m : Nat) (w : World) (hx : RdL w ps (.slice A ps.length c)) (hy : ES.Rd w acts (.slice B acts.length m)) (hl : ps.length < 40) (hbig : acts.length ≤ 1000000) (hfew : ∀ p ∈ ps, p.2.force.length ≤ 30) :
    Calls Tryz.prog 21 #[.slice A ps.length c, .slice B acts.length m] w fun r w' => ∃ ks v, r = .returned v ∧ EW.Own w' w.heap.size (frc (strg ps acts) ks) v ∧ ks.Pairwise (fun a b => kless a b = true) ∧ (∀ k, k ∈ ks ↔ HasF (strg ps acts) k) ∧ Lat w w' := by
  have HST := Lib.hid (sorted_any ps A c acts B m w hx hy hl hbig)
  have hql := strg_len ps acts
  have hqf : ∀ p ∈ strg ps acts, p.2.force.length ≤ 30 := fun p hp => hfew p (strg_mem hp)
  generalize strg ps acts = qs at *
  have HQF := Lib.hid hqf
  clear hx hy hqf hfew
  go_enter Tryz.func21, Tryz.ntmps21
  go_wp2_with fail
  refine HST.out.mono ?_
  rintro r w1 ⟨v1, rfl, hown1, hl1⟩
  obtain ⟨A1, c1, rfl⟩ := hown1.rd.slice
  have HKS := Lib.hid (rkeys_any qs A1 c1 w1 hown1.rd (by omega) HQF.out)
  have hrd1 := hown1.rd
  clear HST hown1
  go_wp2_with fail
  refine HKS.out.mono ?_
  rintro r w2 ⟨ks, v2, rfl, hown2, hn24, hasc, hmem, hl2⟩
  obtain ⟨A2, c2, rfl⟩ := hown2.slice
  have hrd2 := hown2.rd
  have hL2 := hl1.trans hl2
  have hrd1 := hrd1.lat hl2
  have HKM : Hid (ks.Pairwise (fun a b => kless a b = true) ∧ ∀ k, k ∈ ks ↔ HasF qs k) := Lib.hid ⟨hasc, hmem⟩
  clear HKS hown2 hasc hmem hl1 hl2
  go_wp2_with fail
  have HL0 := Lib.hid hL2
  go_loopw [7, 8] (fun v i wr => ∃ n : Nat, n ≤ ks.length ∧ i = .int .i64 n ∧ EW.Own wr w2.heap.size (frc qs (ks.take n)) v ∧ Lat w2 wr) (fun _ i _ => ks.length - (intOf i).toNat)
  case atStart => exact ⟨0, Nat.zero_le _, rfl, Elt.Own.nil _ _, Lat.refl _⟩
  case round =>
    clear hL2
    obtain ⟨n, hnl, rfl, hown, hLW⟩ := hrel
    by_cases hlt : n < ks.length
    · have HTK := Lib.hid (frc_take qs ks n hlt)
      have hlen : (frc qs (ks.take n)).length ≤ n := by
        have := frc_len qs (ks.take n)
        rw [List.length_take] at this
        omega
      obtain ⟨bk, ok, hA, hbk0, hrk'⟩ := hrd2.row n hlt
      subst hA
      have hrk0 : RowAt w2 bk (ok + n * 3) (kC ks[n]) := hrk'
      clear hrk'
      generalize ks[n] = k at *
      generalize frc qs (ks.take n) = Y at *
      have HFO := fun (r : LkR) (l : LLock) (w' : World) (hs : r.Says w' l) (hbig : l.force.length ≤ 1000000) => Lib.hid (forces_any r l k w' hs hbig)
      have HJ0 : Hid (frcd qs k = frcd (qs.drop 0) k) := Lib.hid rfl
      have HFD := fun j h => frcd_drop qs k j h
      have HFW : Hid (∀ p : LkR × LLock, fwr k p = ⟨k, (getI p.2.force k).val, 4, p.1.name, 100 - cl p.1.rank, 0⟩) := Lib.hid (fun p => rfl)
      generalize frcd qs k = R at *
      go_wp2_with fail
      have HLW := Lib.hid hLW
      go_loopw [7, 9] (fun v i wr => ∃ j : Nat, j ≤ qs.length ∧ i = .int .i64 j ∧ Hid (R = frcd (qs.drop j) k) ∧ EW.Own wr w2.heap.size Y v ∧ Lat w2 wr) (fun _ i _ => qs.length - (intOf i).toNat)
      case atStart => exact ⟨0, Nat.zero_le _, rfl, HJ0, hown, hLW⟩
      case round =>
        clear HJ0 hLW hown HLW
        obtain ⟨j, hjl, rfl, HJ, hown4, hLW⟩ := hrel
        by_cases hlt2 : j < qs.length
        · obtain ⟨b0, off0, hA, hb0, hr0, hsy⟩ := hrd1.row j hlt2
          subst hA
          have hfd := HFD j hlt2
          have hfw := HFW.out qs[j]
          have hfi : (qs[j]).2.force.length ≤ 1000000 := Nat.le_trans (HQF.out _ (List.getElem_mem hlt2)) (by decide)
          generalize qs[j] = P at *
          obtain ⟨X, Y2⟩ := P
          dsimp only at hfd hfw hfi hsy hr0
          have hr1 := hr0.below hLW hb0
          have hbb : b0 < wr.heap.size := Nat.lt_of_lt_of_le hb0 hLW.size
          have hrk1 := hrk0.below hLW hbk0
          have hbkk : bk < wr.heap.size := Nat.lt_of_lt_of_le hbk0 hLW.size
          have HF := fun w' (hl : Lat wr w') => HFO X Y2 w' (hsy.lat (hLW.trans hl)) hfi
          generalize hB : hasI Y2.force k = BB at *
          generalize hZ : (getI Y2.force k) = Z at *
          simp only [gotV, hB, hZ] at HF
          have HNEW := Lib.hid (HJ.out.trans hfd)
          have HFW2 := Lib.hid hfw
          clear HJ hfd hfw hB hZ
          obtain ⟨z0, zv, z4⟩ := Z
          dsimp only at HF
          go_wp2_with fail
          go_cut [10, 11] (fun s10 s11 wx => ∃ ga : Nat, s10 = .pointer (some ⟨ga, 0, none⟩) ∧ s11 = .bool BB ∧ Blk wx ga 32 (vC zv).toArray ∧ Lat wr wx)
          case first =>
            refine wp_region_held_drew (S := fun w' => Lat wr w') (by kernel_rfl) (Lat.drew wr) (fun hHeld => ?_)
            refine wpAnyH_take (i := 0) (oi := { dst := some 30, op := Op.move (Operand.tmp 5), type := 22, pos := "ref.go:71", after := #[], guard := none }) (v := .slice (some ⟨b0, off0, none⟩) qs.length c1) rfl (by kernel_rfl) (by kernel_rfl) (by kernel_rfl) (fun _ _ _ h => h) (Or.inl ⟨rfl, ?_⟩) hHeld ?_
            · intro w' hS
              go_simp
            simp only [Act.put, List.setIfInBounds_toArray, List.set_cons_zero, List.set_cons_succ]
            refine wpAnyH_take (i := 1) (oi := { dst := some 31, op := Op.move (Operand.tmp 9), type := 3, pos := "ref.go:71", after := #[], guard := none }) (v := .int .i64 (j : Int)) rfl (by kernel_rfl) (by kernel_rfl) (by kernel_rfl) (fun _ _ _ h => h) (Or.inl ⟨rfl, ?_⟩) hHeld ?_
            · intro w' hS
              go_simp
            simp only [Act.put, List.setIfInBounds_toArray, List.set_cons_zero, List.set_cons_succ]
            refine wpAnyH_take (i := 2) (oi := { dst := some 32, op := Op.indexAddr 22 (Operand.tmp 30) (Operand.tmp 31), type := 0, pos := "ref.go:71", after := #[{ on := 0, ground := Ground.data }, { on := 1, ground := Ground.data }], guard := none }) (v := .pointer (some ⟨b0, off0 + j * 16, none⟩)) rfl (by kernel_rfl) (by kernel_rfl) (by kernel_rfl) (fun _ _ _ h => h) (Or.inl ⟨rfl, ?_⟩) hHeld ?_
            · intro w' hS
              go_simp
            simp only [Act.put, List.setIfInBounds_toArray, List.set_cons_zero, List.set_cons_succ]
            refine wpAnyH_take (i := 3) (oi := { dst := some 33, op := Op.load 40 (Operand.tmp 32), type := 40, pos := "ref.go:71", after := #[{ on := 2, ground := Ground.data }], guard := none }) (v := .agg (lkC X).toArray) rfl (by kernel_rfl) (by kernel_rfl) (by kernel_rfl) (fun _ _ _ h => h) (Or.inl ⟨rfl, ?_⟩) hHeld ?_
            · intro w' hS
              (exact yields_load_at 40 _ rfl b0 (off0 + j * 16) rfl (lkC X) _ (hr1.below hS hbb) Tryz.underlying40 rfl (by kernel_rfl))
            simp only [Act.put, List.setIfInBounds_toArray, List.set_cons_zero, List.set_cons_succ]
            refine wpAnyH_take (i := 4) (oi := { dst := some 34, op := Op.move (Operand.tmp 6), type := 53, pos := "ref.go:71", after := #[], guard := none }) (v := .slice (some ⟨bk, ok, none⟩) ks.length c2) rfl (by kernel_rfl) (by kernel_rfl) (by kernel_rfl) (fun _ _ _ h => h) (Or.inl ⟨rfl, ?_⟩) hHeld ?_
            · intro w' hS
              go_simp
            simp only [Act.put, List.setIfInBounds_toArray, List.set_cons_zero, List.set_cons_succ]
            refine wpAnyH_take (i := 5) (oi := { dst := some 35, op := Op.move (Operand.tmp 8), type := 3, pos := "ref.go:71", after := #[], guard := none }) (v := .int .i64 (n : Int)) rfl (by kernel_rfl) (by kernel_rfl) (by kernel_rfl) (fun _ _ _ h => h) (Or.inl ⟨rfl, ?_⟩) hHeld ?_
            · intro w' hS
              go_simp
            simp only [Act.put, List.setIfInBounds_toArray, List.set_cons_zero, List.set_cons_succ]
            refine wpAnyH_take (i := 6) (oi := { dst := some 36, op := Op.indexAddr 53 (Operand.tmp 34) (Operand.tmp 35), type := 0, pos := "ref.go:71", after := #[{ on := 4, ground := Ground.data }, { on := 5, ground := Ground.data }], guard := none }) (v := .pointer (some ⟨bk, ok + n * 3, none⟩)) rfl (by kernel_rfl) (by kernel_rfl) (by kernel_rfl) (fun _ _ _ h => h) (Or.inl ⟨rfl, ?_⟩) hHeld ?_
            · intro w' hS
              go_simp
            simp only [Act.put, List.setIfInBounds_toArray, List.set_cons_zero, List.set_cons_succ]
            refine wpAnyH_take (i := 7) (oi := { dst := some 37, op := Op.load 34 (Operand.tmp 36), type := 34, pos := "ref.go:71", after := #[{ on := 6, ground := Ground.data }], guard := none }) (v := .agg (kC k).toArray) rfl (by kernel_rfl) (by kernel_rfl) (by kernel_rfl) (fun _ _ _ h => h) (Or.inl ⟨rfl, ?_⟩) hHeld ?_
            · intro w' hS
              (exact yields_load_at 34 _ rfl bk (ok + n * 3) rfl (kC k) _ (hrk1.below hS hbkk) Tryz.underlying34 rfl (by kernel_rfl))
            simp only [Act.put, List.setIfInBounds_toArray, List.set_cons_zero, List.set_cons_succ]
            refine wpAnyH_ready (rs := [8, 12]) (by kernel_rfl) (by simp) ?_
            refine AllReadyH.cons (o := { dst := some 38, op := Op.call { callee := Callee.value (Operand.func 45), args := #[Operand.tmp 33, Operand.tmp 37], argTypes := #[40, 34] }, type := 62, pos := "ref.go:71", after := #[{ on := 3, ground := Ground.data }, { on := 7, ground := Ground.data }], guard := none }) rfl (fun K hK => ?_) ?_
            · go_simp
              go_at_call 45
              refine (HF _ hHeld).out.mono ?_
              rintro r w5 ⟨rfl, hl5⟩
              refine hK.out _ _ (hHeld.trans hl5) (fun hHeld => ?_)
              clear hK K
              try simp only [Act.put, List.setIfInBounds_toArray, List.set_cons_zero, List.set_cons_succ]
              refine wpAnyH_take (i := 9) (oi := { dst := some 29, op := Op.move (Operand.tmp 38), type := 62, pos := "ref.go:71", after := #[{ on := 8, ground := Ground.data }], guard := none }) (v := .tuple #[.agg (vC zv).toArray, .bool BB]) rfl (by kernel_rfl) (by kernel_rfl) (by kernel_rfl) (fun _ _ _ h => h) (Or.inl ⟨rfl, ?_⟩) hHeld ?_
              · intro w' hS
                go_simp
              simp only [Act.put, List.setIfInBounds_toArray, List.set_cons_zero, List.set_cons_succ]
              refine wpAnyH_take (i := 10) (oi := { dst := some 39, op := Op.extract (Operand.tmp 29) 0, type := 32, pos := "ref.go:71", after := #[{ on := 9, ground := Ground.data }], guard := none }) (v := .agg (vC zv).toArray) rfl (by kernel_rfl) (by kernel_rfl) (by kernel_rfl) (fun _ _ _ h => h) (Or.inl ⟨rfl, ?_⟩) hHeld ?_
              · intro w' hS
                go_simp
              simp only [Act.put, List.setIfInBounds_toArray, List.set_cons_zero, List.set_cons_succ]
              refine wpAnyH_take (i := 11) (oi := { dst := some 40, op := Op.extract (Operand.tmp 29) 1, type := 4, pos := "ref.go:71", after := #[{ on := 9, ground := Ground.data }, { on := 13, ground := Ground.gcOnly Departure.lateStores }], guard := none }) (v := .bool BB) rfl (by kernel_rfl) (by kernel_rfl) (by kernel_rfl) (fun _ _ _ h => h) (Or.inl ⟨rfl, ?_⟩) hHeld ?_
              · intro w' hS
                go_simp
              simp only [Act.put, List.setIfInBounds_toArray, List.set_cons_zero, List.set_cons_succ]
              refine wpAnyH_ready (rs := [12]) (by kernel_rfl) (by simp) ?_
              refine AllReadyH.cons (o := { dst := some 10, op := Op.alloc 32, type := 0, pos := "ref.go:71", after := #[], guard := none }) rfl (fun K hK => ?_) AllReadyH.nil
              have hblk := Blk.new w5 32 #[.int .i64 0, .int .i64 0, .string { data := #[] }]
              have hgb := hHeld.size
              go_simp
              refine hK.out _ _ (hHeld.trans (Lat.al _ _)) (fun hHeld => ?_)
              clear hK K
              try simp only [Act.put, List.setIfInBounds_toArray, List.set_cons_zero, List.set_cons_succ]
              refine wpAnyH_ready (rs := [13]) (by kernel_rfl) (by simp) ?_
              refine AllReadyH.cons (o := { dst := none, op := Op.store 32 (Operand.tmp 10) (Operand.tmp 39), type := 0, pos := "ref.go:71", after := #[{ on := 12, ground := Ground.data }, { on := 10, ground := Ground.data }, { on := 8, ground := Ground.chain }, { on := 0, ground := Ground.phase }, { on := 1, ground := Ground.phase }, { on := 2, ground := Ground.phase }, { on := 3, ground := Ground.phase }, { on := 4, ground := Ground.phase }, { on := 5, ground := Ground.phase }, { on := 6, ground := Ground.phase }, { on := 7, ground := Ground.phase }, { on := 8, ground := Ground.phase }, { on := 9, ground := Ground.phase }, { on := 10, ground := Ground.phase }, { on := 11, ground := Ground.textOnly Departure.lateStores }, { on := 12, ground := Ground.phase }], guard := none }) rfl (fun K hK => ?_) AllReadyH.nil
              refine take_op rfl ?_
              refine wp_store_row 32 _ _ rfl (w5.heap.size) _ rfl rfl 32 _ hblk (by kernel_rfl : (Tryz.prog.info? 32).map (·.size) = some 3) rfl (vC_ones zv) ?_
              refine hK.out _ _ (below_setRow hHeld hgb _) (fun hHeld => ?_)
              clear hK K
              try simp only [Act.put, List.setIfInBounds_toArray, List.set_cons_zero, List.set_cons_succ]
              have hblk2 := hblk.setRow (vC zv).toArray
              refine wpAnyH_take (i := 14) (oi := { dst := some 11, op := Op.assign (Operand.tmp 40), type := 4, pos := "ref.go:71", after := #[{ on := 11, ground := Ground.data }, { on := 13, ground := Ground.chain }, { on := 0, ground := Ground.phase }, { on := 1, ground := Ground.phase }, { on := 2, ground := Ground.phase }, { on := 3, ground := Ground.phase }, { on := 4, ground := Ground.phase }, { on := 5, ground := Ground.phase }, { on := 6, ground := Ground.phase }, { on := 7, ground := Ground.phase }, { on := 8, ground := Ground.phase }, { on := 9, ground := Ground.phase }, { on := 10, ground := Ground.phase }, { on := 11, ground := Ground.phase }, { on := 12, ground := Ground.phase }, { on := 13, ground := Ground.phase }], guard := none }) (v := .bool BB) rfl (by kernel_rfl) (by kernel_rfl) (by kernel_rfl) (fun _ _ _ h => h) (Or.inl ⟨rfl, ?_⟩) hHeld ?_
              · intro w' hS
                go_simp
              simp only [Act.put, List.setIfInBounds_toArray, List.set_cons_zero, List.set_cons_succ]
              refine wpAnyH_done (by kernel_rfl) ?_ _
              go_wp2_with fail
              go_meet
              exact ⟨_, rfl, rfl, hblk2, hHeld⟩
            refine AllReadyH.cons (o := { dst := some 10, op := Op.alloc 32, type := 0, pos := "ref.go:71", after := #[], guard := none }) rfl (fun K hK => ?_) AllReadyH.nil
            · have hblk0 := Blk.new wr.drew 32 #[.int .i64 0, .int .i64 0, .string { data := #[] }]
              have hgb := hHeld.size
              go_simp
              refine hK.out _ _ (hHeld.trans (Lat.al _ _)) (fun hHeld => ?_)
              clear hK K
              try simp only [Act.put, List.setIfInBounds_toArray, List.set_cons_zero, List.set_cons_succ]
              refine wpAnyH_ready (rs := [8]) (by kernel_rfl) (by simp) ?_
              refine AllReadyH.cons (o := { dst := some 38, op := Op.call { callee := Callee.value (Operand.func 45), args := #[Operand.tmp 33, Operand.tmp 37], argTypes := #[40, 34] }, type := 62, pos := "ref.go:71", after := #[{ on := 3, ground := Ground.data }, { on := 7, ground := Ground.data }], guard := none }) rfl (fun K hK => ?_) AllReadyH.nil
              go_simp
              go_at_call 45
              refine (HF _ hHeld).out.mono ?_
              rintro r w5 ⟨rfl, hl5⟩
              refine hK.out _ _ (hHeld.trans hl5) (fun hHeld => ?_)
              clear hK K
              try simp only [Act.put, List.setIfInBounds_toArray, List.set_cons_zero, List.set_cons_succ]
              have hblk := hblk0.lat hl5
              refine wpAnyH_take (i := 9) (oi := { dst := some 29, op := Op.move (Operand.tmp 38), type := 62, pos := "ref.go:71", after := #[{ on := 8, ground := Ground.data }], guard := none }) (v := .tuple #[.agg (vC zv).toArray, .bool BB]) rfl (by kernel_rfl) (by kernel_rfl) (by kernel_rfl) (fun _ _ _ h => h) (Or.inl ⟨rfl, ?_⟩) hHeld ?_
              · intro w' hS
                go_simp
              simp only [Act.put, List.setIfInBounds_toArray, List.set_cons_zero, List.set_cons_succ]
              refine wpAnyH_take (i := 10) (oi := { dst := some 39, op := Op.extract (Operand.tmp 29) 0, type := 32, pos := "ref.go:71", after := #[{ on := 9, ground := Ground.data }], guard := none }) (v := .agg (vC zv).toArray) rfl (by kernel_rfl) (by kernel_rfl) (by kernel_rfl) (fun _ _ _ h => h) (Or.inl ⟨rfl, ?_⟩) hHeld ?_
              · intro w' hS
                go_simp
              simp only [Act.put, List.setIfInBounds_toArray, List.set_cons_zero, List.set_cons_succ]
              refine wpAnyH_take (i := 11) (oi := { dst := some 40, op := Op.extract (Operand.tmp 29) 1, type := 4, pos := "ref.go:71", after := #[{ on := 9, ground := Ground.data }, { on := 13, ground := Ground.gcOnly Departure.lateStores }], guard := none }) (v := .bool BB) rfl (by kernel_rfl) (by kernel_rfl) (by kernel_rfl) (fun _ _ _ h => h) (Or.inl ⟨rfl, ?_⟩) hHeld ?_
              · intro w' hS
                go_simp
              simp only [Act.put, List.setIfInBounds_toArray, List.set_cons_zero, List.set_cons_succ]
              refine wpAnyH_ready (rs := [13]) (by kernel_rfl) (by simp) ?_
              refine AllReadyH.cons (o := { dst := none, op := Op.store 32 (Operand.tmp 10) (Operand.tmp 39), type := 0, pos := "ref.go:71", after := #[{ on := 12, ground := Ground.data }, { on := 10, ground := Ground.data }, { on := 8, ground := Ground.chain }, { on := 0, ground := Ground.phase }, { on := 1, ground := Ground.phase }, { on := 2, ground := Ground.phase }, { on := 3, ground := Ground.phase }, { on := 4, ground := Ground.phase }, { on := 5, ground := Ground.phase }, { on := 6, ground := Ground.phase }, { on := 7, ground := Ground.phase }, { on := 8, ground := Ground.phase }, { on := 9, ground := Ground.phase }, { on := 10, ground := Ground.phase }, { on := 11, ground := Ground.textOnly Departure.lateStores }, { on := 12, ground := Ground.phase }], guard := none }) rfl (fun K hK => ?_) AllReadyH.nil
              refine take_op rfl ?_
              refine wp_store_row 32 _ _ rfl (wr.drew.heap.size) _ rfl rfl 32 _ hblk (by kernel_rfl : (Tryz.prog.info? 32).map (·.size) = some 3) rfl (vC_ones zv) ?_
              refine hK.out _ _ (below_setRow hHeld hgb _) (fun hHeld => ?_)
              clear hK K
              try simp only [Act.put, List.setIfInBounds_toArray, List.set_cons_zero, List.set_cons_succ]
              have hblk2 := hblk.setRow (vC zv).toArray
              refine wpAnyH_take (i := 14) (oi := { dst := some 11, op := Op.assign (Operand.tmp 40), type := 4, pos := "ref.go:71", after := #[{ on := 11, ground := Ground.data }, { on := 13, ground := Ground.chain }, { on := 0, ground := Ground.phase }, { on := 1, ground := Ground.phase }, { on := 2, ground := Ground.phase }, { on := 3, ground := Ground.phase }, { on := 4, ground := Ground.phase }, { on := 5, ground := Ground.phase }, { on := 6, ground := Ground.phase }, { on := 7, ground := Ground.phase }, { on := 8, ground := Ground.phase }, { on := 9, ground := Ground.phase }, { on := 10, ground := Ground.phase }, { on := 11, ground := Ground.phase }, { on := 12, ground := Ground.phase }, { on := 13, ground := Ground.phase }], guard := none }) (v := .bool BB) rfl (by kernel_rfl) (by kernel_rfl) (by kernel_rfl) (fun _ _ _ h => h) (Or.inl ⟨rfl, ?_⟩) hHeld ?_
              · intro w' hS
                go_simp
              simp only [Act.put, List.setIfInBounds_toArray, List.set_cons_zero, List.set_cons_succ]
              refine wpAnyH_done (by kernel_rfl) ?_ _
              go_wp2_with fail
              go_meet
              exact ⟨_, rfl, rfl, hblk2, hHeld⟩
          case rest =>
            obtain ⟨ga, rfl, rfl, hga, hlc⟩ := hcut
            have hLc := hLW.trans hlc
            have hown5 := hown4.lat hlc
            clear HF HFO
            cases BB
            · have HN2 := Lib.hid (HNEW.out.trans (by rw [if_neg (by decide)]))
              clear HNEW HFW2
              go_wp2_with fail
              go_roundw
              case rel => exact ⟨j + 1, by omega, by go_num, HN2, hown5, hLc⟩
              case measure => simp [intOf]; omega
            · have HN2 := Lib.hid (HNEW.out.trans (by rw [if_pos rfl]))
              clear HNEW
              have hrke : RowAt wc bk (ok + n * 3) [.int .i64 k.dev, .string k.cl, .string k.at_] := hrk1.below hlc hbkk
              have hbkc : bk < wc.heap.size := Nat.lt_of_lt_of_le hbkk hlc.size
              have hgae : RowAt wc ga 0 [.int .i64 zv.k, .int .i64 zv.n, .string zv.s] := hga.row
              have hgac := hga.lt
              have hbbc : b0 < wc.heap.size := Nat.lt_of_lt_of_le hbb hlc.size
              have cnm : wc.cell? ⟨b0, off0 + j * 16, none⟩ = some (.string X.name) := by have := (hr1.below hlc hbb) 0 _ rfl; rwa [Nat.add_zero] at this
              have crk : wc.cell? ⟨b0, off0 + j * 16 + 1, none⟩ = some (.int .i64 X.rank) := (hr1.below hlc hbb) 1 _ rfl
              have HCL := fun w' => clamp_any X.rank w'
              have hge := cl_ge X.rank
              have hle := cl_le X.rank
              generalize X.rank = RK at *
              generalize X.name = NM at *
              generalize cl RK = N at *
              have hwr : IntKind.i64.wrap (100 - N) = 100 - N := by rw [IntKind.wrap_i64]; omega
              clear hge hle hr1 hrk1 hga hbb hbkk hown4
              go_wp2_with fail
              refine wp_rely_tail 21 (by kernel_rfl) (by kernel_rfl) (by decide) (by kernel_rfl) ?_
              simp only [List.take_succ_cons, List.take_zero, List.drop_succ_cons, List.drop_zero]
              apply RelyL.val
              · intro ν w' hL hF K hK'
                go_simp
                exact hK'.out _ _ rfl (Lat.refl _)
              simp only [Act.put, List.setIfInBounds_toArray, List.set_cons_zero, List.set_cons_succ, Nat.reduceAdd]
              apply RelyL.val
              · intro ν w' hL hF K hK'
                go_simp
                exact hK'.out _ _ rfl (Lat.refl _)
              simp only [Act.put, List.setIfInBounds_toArray, List.set_cons_zero, List.set_cons_succ, Nat.reduceAdd]
              apply RelyL.val
              · intro ν w' hL hF K hK'
                go_simp
                exact hK'.out _ _ rfl (Lat.refl _)
              simp only [Act.put, List.setIfInBounds_toArray, List.set_cons_zero, List.set_cons_succ, Nat.reduceAdd]
              apply RelyL.val
              · intro ν w' hL hF K hK'
                go_simp
                exact hK'.out _ _ rfl (Lat.refl _)
              simp only [Act.put, List.setIfInBounds_toArray, List.set_cons_zero, List.set_cons_succ, Nat.reduceAdd]
              apply RelyL.val
              · intro ν w' hL hF K hK'
                refine take_op rfl ?_
                refine wp_load_at 34 _ rfl bk ((ok + n * 3)) rfl _ _ (hrke.below hL hbkc) Tryz.underlying34 rfl (by kernel_rfl) ?_
                exact hK'.out _ _ rfl (Lat.refl _)
              simp only [Act.put, List.setIfInBounds_toArray, List.set_cons_zero, List.set_cons_succ, Nat.reduceAdd]
              apply RelyL.val
              · intro ν w' hL hF K hK'
                refine take_op rfl ?_
                refine wp_load_at 32 _ rfl ga (0) rfl _ _ (hgae.below hL hgac) Tryz.underlying32 rfl (by kernel_rfl) ?_
                exact hK'.out _ _ rfl (Lat.refl _)
              simp only [Act.put, List.setIfInBounds_toArray, List.set_cons_zero, List.set_cons_succ, Nat.reduceAdd]
              apply RelyL.val
              · intro ν w' hL hF K hK'
                go_simp
                exact hK'.out _ _ rfl (Lat.refl _)
              simp only [Act.put, List.setIfInBounds_toArray, List.set_cons_zero, List.set_cons_succ, Nat.reduceAdd]
              apply RelyL.val
              · intro ν w' hL hF K hK'
                go_simp
                exact hK'.out _ _ rfl (Lat.refl _)
              simp only [Act.put, List.setIfInBounds_toArray, List.set_cons_zero, List.set_cons_succ, Nat.reduceAdd]
              apply RelyL.val
              · intro ν w' hL hF K hK'
                go_simp
                exact hK'.out _ _ rfl (Lat.refl _)
              simp only [Act.put, List.setIfInBounds_toArray, List.set_cons_zero, List.set_cons_succ, Nat.reduceAdd]
              apply RelyL.val
              · intro ν w' hL hF K hK'
                go_simp
                exact hK'.out _ _ rfl (Lat.refl _)
              simp only [Act.put, List.setIfInBounds_toArray, List.set_cons_zero, List.set_cons_succ, Nat.reduceAdd]
              apply RelyL.val
              · intro ν w' hL hF K hK'
                have cx := cell_at cnm hL hbbc
                go_simp
                exact hK'.out _ _ rfl (Lat.refl _)
              simp only [Act.put, List.setIfInBounds_toArray, List.set_cons_zero, List.set_cons_succ, Nat.reduceAdd]
              apply RelyL.val
              · intro ν w' hL hF K hK'
                go_simp
                exact hK'.out _ _ rfl (Lat.refl _)
              simp only [Act.put, List.setIfInBounds_toArray, List.set_cons_zero, List.set_cons_succ, Nat.reduceAdd]
              apply RelyL.val
              · intro ν w' hL hF K hK'
                go_simp
                exact hK'.out _ _ rfl (Lat.refl _)
              simp only [Act.put, List.setIfInBounds_toArray, List.set_cons_zero, List.set_cons_succ, Nat.reduceAdd]
              apply RelyL.val
              · intro ν w' hL hF K hK'
                go_simp
                exact hK'.out _ _ rfl (Lat.refl _)
              simp only [Act.put, List.setIfInBounds_toArray, List.set_cons_zero, List.set_cons_succ, Nat.reduceAdd]
              apply RelyL.val
              · intro ν w' hL hF K hK'
                go_simp
                exact hK'.out _ _ rfl (Lat.refl _)
              simp only [Act.put, List.setIfInBounds_toArray, List.set_cons_zero, List.set_cons_succ, Nat.reduceAdd]
              apply RelyL.val
              · intro ν w' hL hF K hK'
                have cx := cell_at crk hL hbbc
                go_simp
                exact hK'.out _ _ rfl (Lat.refl _)
              simp only [Act.put, List.setIfInBounds_toArray, List.set_cons_zero, List.set_cons_succ, Nat.reduceAdd]
              apply RelyL.val
              · intro ν w' hL hF K hK'
                have H := Lib.hid (HCL w')
                go_simp
                go_at_call 46
                refine H.out.mono ?_
                rintro r w'' ⟨rfl, hbp⟩
                exact hK'.out _ _ rfl hbp
              simp only [Act.put, List.setIfInBounds_toArray, List.set_cons_zero, List.set_cons_succ, Nat.reduceAdd]
              apply RelyL.val
              · intro ν w' hL hF K hK'
                go_simp
                exact hK'.out _ _ rfl (Lat.refl _)
              simp only [Act.put, List.setIfInBounds_toArray, List.set_cons_zero, List.set_cons_succ, Nat.reduceAdd]
              apply RelyL.val
              · intro ν w' hL hF K hK'
                go_simp
                exact hK'.out _ _ rfl (Lat.refl _)
              simp only [Act.put, List.setIfInBounds_toArray, List.set_cons_zero, List.set_cons_succ, Nat.reduceAdd]
              apply RelyL.val
              · intro ν w' hL hF K hK'
                go_simp
                exact hK'.out _ _ rfl (Lat.refl _)
              simp only [Act.put, List.setIfInBounds_toArray, List.set_cons_zero, List.set_cons_succ, Nat.reduceAdd]
              refine RelyL.law (fun v w => ∃ g1, v = .slice (some ⟨g1, 0, none⟩) 1 1 ∧ Blk w g1 44 #[.int .i64 k.dev, .string k.cl, .string k.at_, .int .i64 zv.k, .int .i64 zv.n, .string zv.s, .int .i64 4, .string NM, .int .i64 (100 - N), .int .i64 0]) (fun v w1 w2 hl h => by obtain ⟨g1, h1, h2⟩ := h; exact ⟨g1, h1, h2.lat hl⟩) (fun ν w' hL hF K hK => ?_) ?_
              · go_simp
                exact hK.out _ _ _ rfl ⟨_, rfl, Blk.new _ _ _⟩ (Lat.al _ _)
              simp only [Act.put, List.setIfInBounds_toArray, List.set_cons_zero, List.set_cons_succ, Nat.reduceAdd]
              refine RelyL.done fun ν w6 hL6 hF => ?_
              have h4 := hF.get 0 rfl
              dsimp only at h4
              clear hF
              generalize ν 20 = y20 at *
              obtain ⟨gw, rfl, hnew⟩ := h4
              have hown7 := hown5.lat hL6
              have hL7 : Lat w2 w6 := hLc.trans hL6
              have hbse := hL7.size
              have hmax : Y.length + 1 ≤ maxLen := by unfold maxLen; omega
              have hby : (Y.length + 1) * EW.bytes ≤ 140737488355328 := Nat.le_trans (Nat.mul_le_mul_right EW.bytes (by omega : Y.length + 1 ≤ 1000000)) (by decide)
              have HT2 := Lib.hid (fun k (hk : u7.ownBlock = some k) => (hown7.lt k hk).1)
              clear hown5 hL6 HCL
              go_wp2_with (at_builtin; refine EW.append rfl _ _ rfl w2.heap.size Y _ rfl hown7 gw 1 (⟨k, zv, 4, NM, 100 - N, 0⟩ : LW) rfl 44 hnew hmax hby hbse ?_; intro v8 w8 hown8 hg8 hw8; go_must (have hLW8 : Lat w2 w8 := hL7.grown hg8 hbse HT2.out; clear hnew hg8 hw8))
              go_roundw
              case rel => exact ⟨n + 1, by omega, by go_num, by rw [HTK.out, HN2.out, HFW2.out]; exact hown8, hLW8⟩
              case measure => simp [intOf]; omega
        · have HN2 : Hid (R = none) := Lib.hid (HJ.out.trans (by rw [List.drop_of_length_le (by omega)]; rfl))
          clear HJ
          go_wp2_with fail
          go_roundw
          case rel => exact ⟨n + 1, by omega, by go_num, by rw [HTK.out, HN2.out]; simpa using hown4, hLW⟩
          case measure => simp [intOf]; omega
    · have hj : n = ks.length := by omega
      subst hj
      rw [List.take_length] at hown
      go_wp2_with fail
      go_ret
      exact ⟨ks, _, rfl, hown.mono HL0.out.size, HKM.out.1, HKM.out.2, HL0.out.trans hLW⟩
end Go.Proofs.YtmgalnbacenbbaaGreat
