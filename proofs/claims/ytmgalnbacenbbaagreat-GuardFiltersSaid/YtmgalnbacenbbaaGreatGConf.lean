/- Guard: Conflicts: the keys that locks force to unlike values. -/
import Derived.WalkMore
import Derived.Test.YtmgalnbacenbbaaGreatGForced
import Derived.Test.YtmgalnbacenbbaaGreatGRSort
set_option linter.unusedSimpArgs false
set_option linter.unusedVariables false
namespace Go.Proofs.YtmgalnbacenbbaaGreat
open Go.RowKit

/-- Whether the locks from here on force a key to unlike values, the last one so far given. -/
def cflF (k : LKey) : Option LVal → List (LkR × LLock) → Bool
  | _, [] => false
  | last, p :: r => if hasI p.2.force k then (match last with | some x => if x = (getI p.2.force k).val then cflF k (some (getI p.2.force k).val) r else true | none => cflF k (some (getI p.2.force k).val) r) else cflF k last r
def con (ps : List (LkR × LLock)) (ks : List LKey) : List LKey := ks.filter (fun k => cflF k none ps)
theorem con_take (ps : List (LkR × LLock)) (ks : List LKey) (n : Nat) (h : n < ks.length) : con ps (ks.take (n + 1)) = con ps (ks.take n) ++ (if cflF ks[n] none ps then [ks[n]] else []) := by
  unfold con
  rw [List.take_succ_eq_append_getElem h, List.filter_append]
  congr 1
  by_cases q : cflF ks[n] none ps = true
  · rw [if_pos q]; simp [q]
  · rw [if_neg q]; simp [q]
theorem con_len (ps : List (LkR × LLock)) (ks : List LKey) : (con ps ks).length ≤ ks.length := List.length_filter_le _ _
theorem cflF_drop (k : LKey) (last : Option LVal) (ps : List (LkR × LLock)) (j : Nat) (h : j < ps.length) : cflF k last (ps.drop j) = if hasI ps[j].2.force k then (match last with | some x => if x = (getI ps[j].2.force k).val then cflF k (some (getI ps[j].2.force k).val) (ps.drop (j + 1)) else true | none => cflF k (some (getI ps[j].2.force k).val) (ps.drop (j + 1))) else cflF k last (ps.drop (j + 1)) := by
  rw [List.drop_eq_getElem_cons h]
  cases last <;> rfl
/-- What the pointer shows. -/
def FirstAt (w : World) (last : Option LVal) (v : Value) : Prop := match last with
  | none => v = .pointer none
  | some x => ∃ g, v = .pointer (some ⟨g, 0, none⟩) ∧ Blk w g 32 (vC x).toArray
theorem FirstAt.lat {w w' : World} {last : Option LVal} {v : Value} (h : FirstAt w last v) (hl : Lat w w') : FirstAt w' last v := by
  cases last with
  | none => exact h
  | some x => obtain ⟨g, e, hb⟩ := h; exact ⟨g, e, hb.lat hl⟩
set_option maxRecDepth 100000 in
set_option maxHeartbeats 4000000 in
theorem conflicts_any (ps : List (LkR × LLock)) (A : Option Addr) (c : Nat) (acts : List ByteArray) (B : Option Addr) (m : Nat) (w : World) (hx : RdL w ps (.slice A ps.length c)) (hy : ES.Rd w acts (.slice B acts.length m)) (hl : ps.length < 40) (hbig : acts.length ≤ 1000000) (hfew : ∀ p ∈ ps, (itsOf p).length ≤ 60) :
    Calls Tryz.prog 12 #[.slice A ps.length c, .slice B acts.length m] w fun r w' => ∃ ks v, r = .returned v ∧ EK.Own w' w.heap.size (con (strg ps acts) ks) v ∧ ks.Pairwise (fun a b => kless a b = true) ∧ (∀ k, k ∈ ks ↔ HasKey (strg ps acts) k) ∧ Lat w w' := by
  have HST := Lib.hid (strongest_any ps A c acts B m w hx hy hl hbig)
  have hql := strg_len ps acts
  have hqf : ∀ p ∈ strg ps acts, (itsOf p).length ≤ 60 := fun p hp => hfew p (strg_mem hp)
  generalize strg ps acts = qs at *
  have HQF := Lib.hid hqf
  clear hx hy hqf hfew
  go_enter Tryz.func12, Tryz.ntmps12
  go_wp2_with fail
  go_step3
  go_wp2_with fail
  refine HST.out.mono ?_
  rintro r w1 ⟨v1, rfl, hown1, hl1⟩
  obtain ⟨A1, c1, rfl⟩ := hown1.rd.slice
  have HKS := Lib.hid (keys_any qs A1 c1 w1 hown1.rd (by omega) HQF.out)
  have hrd1 := hown1.rd
  clear HST hown1
  go_wp2_with fail
  all_goals (try go_step3)
  go_wp2_with fail
  refine HKS.out.mono ?_
  rintro r w2 ⟨ks, v2, rfl, hown2, hn24, hasc, hmem, hl2⟩
  obtain ⟨A2, c2, rfl⟩ := hown2.slice
  have hrd2 := hown2.rd
  have hL2 := hl1.trans hl2
  have hrd1 := hrd1.lat hl2
  have HKM : Hid (ks.Pairwise (fun a b => kless a b = true) ∧ ∀ k, k ∈ ks ↔ HasKey qs k) := Lib.hid ⟨hasc, hmem⟩
  clear HKS hown2 hasc hmem hl1 hl2
  go_wp2_with fail
  have HL0 := Lib.hid hL2
  go_loopw [6, 20] (fun v i wr => ∃ n : Nat, n ≤ ks.length ∧ i = .int .i64 n ∧ EK.Own wr w2.heap.size (con qs (ks.take n)) v ∧ Lat w2 wr) (fun _ i _ => ks.length - (intOf i).toNat)
  case atStart => exact ⟨0, Nat.zero_le _, rfl, Elt.Own.nil _ _, Lat.refl _⟩
  case round =>
    clear hL2
    obtain ⟨n, hnl, rfl, hown, hLW⟩ := hrel
    by_cases hlt : n < ks.length
    · obtain ⟨b, off, hA, hb1, hr1'⟩ := (hrd2.lat hLW).row n hlt
      subst hA
      have hr1 : RowAt wr b (off + n * 3) (kC ks[n]) := hr1'
      have HTK := Lib.hid (con_take qs ks n hlt)
      have hlen : (con qs (ks.take n)).length ≤ n := by
        have := con_len qs (ks.take n)
        rw [List.length_take] at this
        omega
      clear hr1'
      generalize ks[n] = k at *
      generalize con qs (ks.take n) = Y at *
      have hL3 : Lat wr (wr.alloc (.cells (kC k).toArray 34)) := Lat.al _ _
      have hbk := Blk.new wr 34 (kC k).toArray
      have HFO := fun (r : LkR) (l : LLock) (w' : World) (hs : r.Says w' l) (hbig : l.force.length ≤ 1000000) => Lib.hid (forced_any r l k w' hs hbig)
      have HJ0 : Hid (cflF k none qs = cflF k none (qs.drop 0)) := Lib.hid rfl
      have HFD := fun last j h => cflF_drop k last qs j h
      generalize cflF k none qs = R at *
      obtain ⟨k1, k2, k3⟩ := k
      simp only [kC] at hr1 hL3 hbk HFO
      go_wp2_with (with_reducible refine wpList_load_at rfl 34 _ rfl b (off + n * 3) rfl _ _ hr1 Tryz.underlying34 rfl (by kernel_rfl) ?_)
      clear hr1
      generalize hw3 : wr.alloc (.cells #[.int .i64 k1, .string k2, .string k3] 34) = w3 at *
      generalize hgg : wr.heap.size = g at *
      have hLW3 : Lat w2 w3 := hLW.trans hL3
      have hown3 := hown.lat hL3
      clear hown hLW
      have HL3 := Lib.hid hLW3
      go_loopw [6, 9, 26] (fun v pv i wr => ∃ (j : Nat) (last : Option LVal), j ≤ qs.length ∧ i = .int .i64 j ∧ Hid (R = cflF ⟨k1, k2, k3⟩ last (qs.drop j)) ∧ FirstAt wr last pv ∧ EK.Own wr w2.heap.size Y v ∧ Lat w3 wr) (fun _ _ i _ => qs.length - (intOf i).toNat)
      case atStart => exact ⟨0, none, Nat.zero_le _, rfl, HJ0, rfl, hown3, Lat.refl _⟩
      case round =>
        clear HJ0 hLW3 hown3
        obtain ⟨j, last, hjl, rfl, HJ, hfp, hown4, hLi⟩ := hrel
        have hLW := HL3.out.trans hLi
        by_cases hlt2 : j < qs.length
        · obtain ⟨b0, off0, hA, hb0, hr0, hsy⟩ := (hrd1.lat hLW).row j hlt2
          subst hA
          have hfd := HFD last j hlt2
          have hfi : (qs[j]).2.force.length ≤ 1000000 := by
            have := HQF.out _ (List.getElem_mem hlt2)
            unfold itsOf at this
            rw [List.length_append] at this
            omega
          generalize qs[j] = P at *
          obtain ⟨X, Y2⟩ := P
          dsimp only at hfd hfi hsy hr0
          have hLB := Lat.al wr (.cells (lkC X).toArray 40)
          have HF := HFO X Y2 (wr.alloc (.cells (lkC X).toArray 40)) (hsy.lat hLB) hfi
          have hck := (hbk.lat (hLi.trans hLB)).cell
          have hbx := Blk.new wr 40 (lkC X).toArray
          generalize hB : hasI Y2.force ⟨k1, k2, k3⟩ = BB at *
          generalize hZ : (getI Y2.force ⟨k1, k2, k3⟩) = Z at *
          simp only [gotV, hB, hZ] at HF
          have HNEW := Lib.hid (HJ.out.trans hfd)
          clear HJ hfd hB hZ
          obtain ⟨z0, ⟨z1, z2, z3⟩, z4⟩ := Z
          obtain ⟨a1, a2, ⟨b1, b2, b3, b4, ⟨b5, b6, b7⟩, ⟨b8, b9, b10⟩, b11, b12, b13⟩, a3, a4, a5, a6, a7, a8, a9⟩ := X
          simp only [lkC, whC, kC, vC, List.cons_append, List.nil_append] at hr0 HF hLB hck hbx
          have hrb : RowAt (wr.alloc (.cells #[.string a1, .int .i64 a2, .int .i64 b1, .int .i64 b2, .int .i64 b3, .string b4, .int .i64 b5, .int .i64 b6, .string b7, .int .i64 b8, .string b9, .string b10, .slice b11 b12 b13, .bool a3, .slice a4 a5 a6, .slice a7 a8 a9] 40)) wr.heap.size 0 [.string a1, .int .i64 a2, .int .i64 b1, .int .i64 b2, .int .i64 b3, .string b4, .int .i64 b5, .int .i64 b6, .string b7, .int .i64 b8, .string b9, .string b10, .slice b11 b12 b13, .bool a3, .slice a4 a5 a6, .slice a7 a8 a9] := hbx.row
          go_wp2_with (first | (with_reducible refine wpList_load_at rfl 40 _ rfl b0 (off0 + j * 16) rfl _ _ hr0 Tryz.underlying40 rfl (by kernel_rfl) ?_) | (with_reducible refine wpList_load_at rfl 40 _ rfl wr.heap.size 0 rfl _ _ hrb Tryz.underlying40 rfl (by kernel_rfl) ?_))
          refine HF.out.mono ?_
          rintro e w5 ⟨rfl, hl5⟩
          have hL5 := (hLi.trans hLB).trans hl5
          have hbx2 := hbx.lat hl5
          have hLv := hL5.trans (Lat.al w5 (.cells #[.int .i64 z1, .int .i64 z2, .string z3] 32))
          clear HF hrb hr0 hck
          cases BB
          · have HN2 := Lib.hid (HNEW.out.trans (by rw [if_neg (by decide)]))
            clear HNEW
            go_wp2_with fail
            go_roundw
            case rel => exact ⟨j + 1, last, by omega, by go_num, HN2, (hfp.lat hLB).lat (hl5.trans (Lat.al _ _)), (hown4.lat hLB).lat (hl5.trans (Lat.al _ _)), hLv⟩
            case measure => simp [intOf]; omega
          · have HN2 := Lib.hid (HNEW.out.trans (if_pos rfl))
            clear HNEW
            have hfp5 := hfp.lat (hLB.trans (hl5.trans (Lat.al w5 (.cells #[.int .i64 z1, .int .i64 z2, .string z3] 32))))
            have hnv := Blk.new w5 32 #[.int .i64 z1, .int .i64 z2, .string z3]
            have hown5 := (hown4.lat hLB).lat (hl5.trans (Lat.al w5 (.cells #[.int .i64 z1, .int .i64 z2, .string z3] 32)))
            have hk5 := hbk.lat hLv
            clear hown4 hbx hbx2 hLB hl5 hL5 hfp
            cases last with
            | none =>
              have hpv : u9 = .pointer none := hfp5
              subst hpv
              clear hfp5
              go_wp2_with fail
              generalize w5.alloc (.cells #[.int .i64 z1, .int .i64 z2, .string z3] 32) = w6 at *
              generalize w5.heap.size = gv at *
              refine wp_rely (by kernel_rfl) (by kernel_rfl) ?_
              apply RelyL.val
              · intro ν w' hL hF K hK'
                go_simp
                exact hK'.out _ _ rfl (Lat.refl _)
              simp only [Act.put, List.setIfInBounds_toArray, List.set_cons_zero, List.set_cons_succ, Nat.reduceAdd]
              apply RelyL.val
              · intro ν w' hL hF K hK'
                go_simp
                exact hK'.out _ _ rfl (Lat.refl _)
              simp only [Act.put, List.setIfInBounds_toArray, List.set_cons_zero, List.set_cons_succ, Nat.reduceAdd]
              apply RelyL.val
              · intro ν w' hL hF K hK'
                go_simp
                exact hK'.out _ _ rfl (Lat.refl _)
              simp only [Act.put, List.setIfInBounds_toArray, List.set_cons_zero, List.set_cons_succ, Nat.reduceAdd]
              apply RelyL.val
              · intro ν w' hL hF K hK'
                refine skip_op rfl ?_
                exact hK'.out _ _ rfl (Lat.refl _)
              simp only [Act.put, List.setIfInBounds_toArray, List.set_cons_zero, List.set_cons_succ, Nat.reduceAdd]
              apply RelyL.val
              · intro ν w' hL hF K hK'
                refine skip_op rfl ?_
                exact hK'.out _ _ rfl (Lat.refl _)
              simp only [Act.put, List.setIfInBounds_toArray, List.set_cons_zero, List.set_cons_succ, Nat.reduceAdd]
              apply RelyL.val
              · intro ν w' hL hF K hK'
                refine skip_op rfl ?_
                exact hK'.out _ _ rfl (Lat.refl _)
              simp only [Act.put, List.setIfInBounds_toArray, List.set_cons_zero, List.set_cons_succ, Nat.reduceAdd]
              apply RelyL.val
              · intro ν w' hL hF K hK'
                refine skip_op rfl ?_
                exact hK'.out _ _ rfl (Lat.refl _)
              simp only [Act.put, List.setIfInBounds_toArray, List.set_cons_zero, List.set_cons_succ, Nat.reduceAdd]
              apply RelyL.val
              · intro ν w' hL hF K hK'
                refine skip_op rfl ?_
                exact hK'.out _ _ rfl (Lat.refl _)
              simp only [Act.put, List.setIfInBounds_toArray, List.set_cons_zero, List.set_cons_succ, Nat.reduceAdd]
              apply RelyL.val
              · intro ν w' hL hF K hK'
                go_simp
                exact hK'.out _ _ rfl (Lat.refl _)
              simp only [Act.put, List.setIfInBounds_toArray, List.set_cons_zero, List.set_cons_succ, Nat.reduceAdd]
              refine RelyL.done fun ν w9 hL9 hF => ?_
              clear hF
              have hLv9 := hLv.trans hL9
              have hnv9 := hnv.lat hL9
              have hown9 := hown5.lat hL9
              clear hLv hnv hown5 hL9 hk5
              go_wp2_with fail
              go_roundw
              case rel => exact ⟨j + 1, some ⟨z1, z2, z3⟩, by omega, by go_num, HN2, ⟨gv, rfl, hnv9⟩, hown9, hLv9⟩
              case measure => simp [intOf]; omega
            | some x =>
              obtain ⟨gx, hpv, hbx5⟩ := hfp5
              subst hpv
              dsimp only at HN2
              have hrx : RowAt (w5.alloc (.cells #[.int .i64 z1, .int .i64 z2, .string z3] 32)) gx 0 (vC x) := hbx5.row
              have hrv : RowAt (w5.alloc (.cells #[.int .i64 z1, .int .i64 z2, .string z3] 32)) w5.heap.size 0 (vC ⟨z1, z2, z3⟩) := hnv.row
              have hgx := hbx5.lt
              have hgv := hnv.lt
              clear hbx5
              by_cases he : x = ⟨z1, z2, z3⟩
              · have HE := Lib.hid (decide_eq_true he)
                have HN3 := Lib.hid (HN2.out.trans (if_pos he))
                clear he HN2
                go_wp2_with fail
                generalize w5.alloc (.cells #[.int .i64 z1, .int .i64 z2, .string z3] 32) = w6 at *
                generalize w5.heap.size = gv at *
                refine wp_rely (by kernel_rfl) (by kernel_rfl) ?_
                apply RelyL.val
                · intro ν w' hL hF K hK'
                  go_simp
                  exact hK'.out _ _ rfl (Lat.refl _)
                simp only [Act.put, List.setIfInBounds_toArray, List.set_cons_zero, List.set_cons_succ, Nat.reduceAdd]
                apply RelyL.val
                · intro ν w' hL hF K hK'
                  go_simp
                  exact hK'.out _ _ rfl (Lat.refl _)
                simp only [Act.put, List.setIfInBounds_toArray, List.set_cons_zero, List.set_cons_succ, Nat.reduceAdd]
                apply RelyL.val
                · intro ν w' hL hF K hK'
                  go_simp
                  exact hK'.out _ _ rfl (Lat.refl _)
                simp only [Act.put, List.setIfInBounds_toArray, List.set_cons_zero, List.set_cons_succ, Nat.reduceAdd]
                apply RelyL.val
                · intro ν w' hL hF K hK'
                  go_simp
                  exact hK'.out _ _ rfl (Lat.refl _)
                simp only [Act.put, List.setIfInBounds_toArray, List.set_cons_zero, List.set_cons_succ, Nat.reduceAdd]
                apply RelyL.val
                · intro ν w' hL hF K hK'
                  go_simp
                  exact hK'.out _ _ rfl (Lat.refl _)
                simp only [Act.put, List.setIfInBounds_toArray, List.set_cons_zero, List.set_cons_succ, Nat.reduceAdd]
                apply RelyL.val
                · intro ν w' hL hF K hK'
                  refine take_op rfl ?_
                  refine wp_load_at 32 _ rfl gx (0) rfl _ _ (hrx.below hL hgx) Tryz.underlying32 rfl (by kernel_rfl) ?_
                  exact hK'.out _ _ rfl (Lat.refl _)
                simp only [Act.put, List.setIfInBounds_toArray, List.set_cons_zero, List.set_cons_succ, Nat.reduceAdd]
                apply RelyL.val
                · intro ν w' hL hF K hK'
                  refine take_op rfl ?_
                  refine wp_load_at 32 _ rfl gv (0) rfl _ _ (hrv.below hL hgv) Tryz.underlying32 rfl (by kernel_rfl) ?_
                  exact hK'.out _ _ rfl (Lat.refl _)
                simp only [Act.put, List.setIfInBounds_toArray, List.set_cons_zero, List.set_cons_succ, Nat.reduceAdd]
                apply RelyL.val
                · intro ν w' hL hF K hK'
                  refine take_op rfl ?_
                  refine wp_neq_v _ _ _ rfl x ⟨z1, z2, z3⟩ rfl rfl HE.out ?_
                  exact hK'.out _ _ rfl (Lat.refl _)
                simp only [Act.put, List.setIfInBounds_toArray, List.set_cons_zero, List.set_cons_succ, Nat.reduceAdd]
                apply RelyL.val
                · intro ν w' hL hF K hK'
                  go_simp
                  exact hK'.out _ _ rfl (Lat.refl _)
                simp only [Act.put, List.setIfInBounds_toArray, List.set_cons_zero, List.set_cons_succ, Nat.reduceAdd]
                refine RelyL.done fun ν w9 hL9 hF => ?_
                clear hF
                have hLv9 := hLv.trans hL9
                have hnv9 := hnv.lat hL9
                have hown9 := hown5.lat hL9
                clear hLv hnv hown5 hL9 hk5 hrx hrv
                go_wp2_with fail
                go_roundw
                case rel => exact ⟨j + 1, some ⟨z1, z2, z3⟩, by omega, by go_num, HN3, ⟨gv, rfl, hnv9⟩, hown9, hLv9⟩
                case measure => simp [intOf]; omega
              · have HE := Lib.hid (decide_eq_false he)
                have HN3 : Hid (R = true) := Lib.hid (HN2.out.trans (if_neg he))
                clear he HN2
                go_wp2_with fail
                generalize w5.alloc (.cells #[.int .i64 z1, .int .i64 z2, .string z3] 32) = w6 at *
                generalize w5.heap.size = gv at *
                refine wp_rely (by kernel_rfl) (by kernel_rfl) ?_
                apply RelyL.val
                · intro ν w' hL hF K hK'
                  go_simp
                  exact hK'.out _ _ rfl (Lat.refl _)
                simp only [Act.put, List.setIfInBounds_toArray, List.set_cons_zero, List.set_cons_succ, Nat.reduceAdd]
                apply RelyL.val
                · intro ν w' hL hF K hK'
                  go_simp
                  exact hK'.out _ _ rfl (Lat.refl _)
                simp only [Act.put, List.setIfInBounds_toArray, List.set_cons_zero, List.set_cons_succ, Nat.reduceAdd]
                apply RelyL.val
                · intro ν w' hL hF K hK'
                  go_simp
                  exact hK'.out _ _ rfl (Lat.refl _)
                simp only [Act.put, List.setIfInBounds_toArray, List.set_cons_zero, List.set_cons_succ, Nat.reduceAdd]
                apply RelyL.val
                · intro ν w' hL hF K hK'
                  go_simp
                  exact hK'.out _ _ rfl (Lat.refl _)
                simp only [Act.put, List.setIfInBounds_toArray, List.set_cons_zero, List.set_cons_succ, Nat.reduceAdd]
                apply RelyL.val
                · intro ν w' hL hF K hK'
                  go_simp
                  exact hK'.out _ _ rfl (Lat.refl _)
                simp only [Act.put, List.setIfInBounds_toArray, List.set_cons_zero, List.set_cons_succ, Nat.reduceAdd]
                apply RelyL.val
                · intro ν w' hL hF K hK'
                  refine take_op rfl ?_
                  refine wp_load_at 32 _ rfl gx (0) rfl _ _ (hrx.below hL hgx) Tryz.underlying32 rfl (by kernel_rfl) ?_
                  exact hK'.out _ _ rfl (Lat.refl _)
                simp only [Act.put, List.setIfInBounds_toArray, List.set_cons_zero, List.set_cons_succ, Nat.reduceAdd]
                apply RelyL.val
                · intro ν w' hL hF K hK'
                  refine take_op rfl ?_
                  refine wp_load_at 32 _ rfl gv (0) rfl _ _ (hrv.below hL hgv) Tryz.underlying32 rfl (by kernel_rfl) ?_
                  exact hK'.out _ _ rfl (Lat.refl _)
                simp only [Act.put, List.setIfInBounds_toArray, List.set_cons_zero, List.set_cons_succ, Nat.reduceAdd]
                apply RelyL.val
                · intro ν w' hL hF K hK'
                  refine take_op rfl ?_
                  refine wp_neq_v _ _ _ rfl x ⟨z1, z2, z3⟩ rfl rfl HE.out ?_
                  exact hK'.out _ _ rfl (Lat.refl _)
                simp only [Act.put, List.setIfInBounds_toArray, List.set_cons_zero, List.set_cons_succ, Nat.reduceAdd]
                apply RelyL.val
                · intro ν w' hL hF K hK'
                  go_simp
                  exact hK'.out _ _ rfl (Lat.refl _)
                simp only [Act.put, List.setIfInBounds_toArray, List.set_cons_zero, List.set_cons_succ, Nat.reduceAdd]
                refine RelyL.done fun ν w9 hL9 hF => ?_
                clear hF
                have hLv9 := hLv.trans hL9
                have hnv9 := hnv.lat hL9
                have hown9 := hown5.lat hL9
                have hkc := (hk5.lat hL9).cell
                have hnew := Blk.new w9 34 #[.int .i64 k1, .string k2, .string k3]
                have hown6 := hown9.al (.cells #[.int .i64 k1, .string k2, .string k3] 34)
                have hL6 : Lat w2 (w9.alloc (.cells #[.int .i64 k1, .string k2, .string k3] 34)) := (HL3.out.trans hLv9).trans (Lat.al _ _)
                have hbse := hL6.size
                have hmax : Y.length + 1 ≤ maxLen := by unfold maxLen; omega
                have hby : (Y.length + 1) * EK.bytes ≤ 140737488355328 := Nat.le_trans (Nat.mul_le_mul_right EK.bytes (by omega : Y.length + 1 ≤ 1000000)) (by decide)
                have HT2 := Lib.hid (fun k (hk : u6.ownBlock = some k) => (hown9.lt k hk).1)
                clear hLv hnv hown5 hL9 hk5 hrx hrv hown9 hLv9 hnv9
                go_wp2_with (at_builtin; refine EK.append rfl _ _ rfl w2.heap.size Y _ rfl hown6 w9.heap.size 1 (⟨k1, k2, k3⟩ : LKey) rfl 34 hnew hmax hby hbse ?_; intro v7 w7 hown7 hg7 hw7; go_must (have hLW8 : Lat w2 w7 := hL6.grown hg7 hbse HT2.out; clear hnew hg7 hw7 hkc))
                go_roundw
                case rel => exact ⟨n + 1, by omega, by go_num, by rw [HTK.out, HN3.out]; exact hown7, hLW8⟩
                case measure => simp [intOf]; omega
        · have HN2 : Hid (R = false) := Lib.hid (HJ.out.trans (by rw [List.drop_of_length_le (by omega)]; rfl))
          clear HJ
          go_wp2_with fail
          go_roundw
          case rel => exact ⟨n + 1, by omega, by go_num, by rw [HTK.out, HN2.out]; simpa using hown4, hLW⟩
          case measure => simp [intOf]; omega
    · have hj : n = ks.length := by omega
      subst hj
      rw [List.take_length] at hown
      go_wp2_with fail
      simp only [Exit.noGoto_ret]
      go_ret
      exact ⟨ks, _, rfl, hown.mono HL0.out.size, HKM.out.1, HKM.out.2, HL0.out.trans hLW⟩
end Go.Proofs.YtmgalnbacenbbaaGreat
