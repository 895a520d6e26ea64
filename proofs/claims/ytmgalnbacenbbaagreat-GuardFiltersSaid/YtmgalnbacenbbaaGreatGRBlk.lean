/- Guard: which lock blocks a value: the reference's; Blocked, Allowed, Safe of both. -/
import Derived.Test.YtmgalnbacenbbaaGreatGBlk
import Derived.Test.YtmgalnbacenbbaaGreatGRSort
import Derived.Deep.RegionHeld
import Derived.Deep.DeepCutAuto
set_option linter.unusedSimpArgs false
set_option linter.unusedVariables false
namespace Go.Proofs.YtmgalnbacenbbaaGreat
open Go.RowKit

set_option maxRecDepth 100000 in
set_option maxHeartbeats 2000000 in
theorem forbids_any (r : LkR) (l0 : LLock) (k : LKey) (v : LVal) (w : World) (hs : r.Says w l0) (hbig : l0.forbid.length ≤ 1000000) :
    Calls Tryz.prog 70 #[.agg (lkC r).toArray, .agg (kC k).toArray, .agg (vC v).toArray] w fun e w' => e = .returned (.bool (l0.forbid.any (isKV k v))) ∧ Lat w w' := by
  have hgn := Says.gn hs
  have hx := hs.forbid
  generalize l0.forbid = l at *
  generalize hR : l.any (isKV k v) = R at *
  have HRR := Lib.hid hR
  clear hR hs
  obtain ⟨a1, a2, ⟨b1, b2, b3, b4, ⟨b5, b6, b7⟩, ⟨b8, b9, b10⟩, b11, b12, b13⟩, a3, a4, a5, a6, a7, a8, a9⟩ := r
  dsimp only at hgn hx
  subst hgn
  show Calls Tryz.prog 70 #[.agg #[.string a1, .int .i64 a2, .int .i64 b1, .int .i64 b2, .int .i64 b3, .string b4, .int .i64 b5, .int .i64 b6, .string b7, .int .i64 b8, .string b9, .string b10, .slice b11 b12 b13, .bool a3, .slice a4 a5 a6, .slice a7 l.length a9], .agg (kC k).toArray, .agg (vC v).toArray] w _
  have hbx0 := Blk.alloc (Blk.alloc (Blk.new w 40 #[.string a1, .int .i64 a2, .int .i64 b1, .int .i64 b2, .int .i64 b3, .string b4, .int .i64 b5, .int .i64 b6, .string b7, .int .i64 b8, .string b9, .string b10, .slice b11 b12 b13, .bool a3, .slice a4 a5 a6, .slice a7 l.length a9]) (.cells (kC k).toArray 34)) (.cells (vC v).toArray 32)
  have hk0 := Blk.alloc (Blk.at1 w (.cells #[.string a1, .int .i64 a2, .int .i64 b1, .int .i64 b2, .int .i64 b3, .string b4, .int .i64 b5, .int .i64 b6, .string b7, .int .i64 b8, .string b9, .string b10, .slice b11 b12 b13, .bool a3, .slice a4 a5 a6, .slice a7 l.length a9] 40) 34 (kC k).toArray) (.cells (vC v).toArray 32)
  have hv0 := Blk.at2 w (.cells #[.string a1, .int .i64 a2, .int .i64 b1, .int .i64 b2, .int .i64 b3, .string b4, .int .i64 b5, .int .i64 b6, .string b7, .int .i64 b8, .string b9, .string b10, .slice b11 b12 b13, .bool a3, .slice a4 a5 a6, .slice a7 l.length a9] 40) (.cells (kC k).toArray 34) 32 (vC v).toArray
  have hL0 : Lat w (((w.alloc (.cells #[.string a1, .int .i64 a2, .int .i64 b1, .int .i64 b2, .int .i64 b3, .string b4, .int .i64 b5, .int .i64 b6, .string b7, .int .i64 b8, .string b9, .string b10, .slice b11 b12 b13, .bool a3, .slice a4 a5 a6, .slice a7 l.length a9] 40)).alloc (.cells (kC k).toArray 34)).alloc (.cells (vC v).toArray 32)) := ((Lat.al _ _).trans (Lat.al _ _)).trans (Lat.al _ _)
  have H0 := Lib.hid (NoneTo.zero (isKV k v) l)
  go_enter Tryz.func70, Tryz.ntmps70
  go_wp2_with fail
  generalize (((w.alloc (.cells #[.string a1, .int .i64 a2, .int .i64 b1, .int .i64 b2, .int .i64 b3, .string b4, .int .i64 b5, .int .i64 b6, .string b7, .int .i64 b8, .string b9, .string b10, .slice b11 b12 b13, .bool a3, .slice a4 a5 a6, .slice a7 l.length a9] 40)).alloc (.cells (kC k).toArray 34)).alloc (.cells (vC v).toArray 32)) = w1 at *
  generalize hgg : w.heap.size = g at *
  have HGG := Lib.hid hgg
  clear hgg
  go_loopw [7] (fun i wr => ∃ j : Nat, j ≤ l.length ∧ i = .int .i64 j ∧ Hid (NoneTo (isKV k v) l j) ∧ Lat w1 wr) (fun i _ => l.length - (intOf i).toNat)
  case atStart => exact ⟨0, Nat.zero_le _, rfl, H0, Lat.refl _⟩
  case round =>
    clear H0
    obtain ⟨j, hjl, rfl, HN, hLW⟩ := hrel
    have hLL := hL0.trans hLW
    have hbx := hbx0.lat hLW
    have hkk : RowAt wr (g + 1) 0 (kC k) := (hk0.lat hLW).row
    have hvv : RowAt wr (g + 1 + 1) 0 (vC v) := (hv0.lat hLW).row
    have hgk := (hk0.lat hLW).lt
    have hgv := (hv0.lat hLW).lt
    have cc := hbx.cell
    by_cases hlt : j < l.length
    · obtain ⟨b, off, hA, hbb, hr1'⟩ := (hx.lat hLL).row j hlt
      subst hA
      have hr1 : RowAt wr b (off + j * 7) (iC l[j]) := hr1'
      have hrk := iC_key hr1
      have hrv := iC_val hr1
      clear hr1' hr1
      by_cases h1 : l[j].key = k
      · have HE := Lib.hid (decide_eq_true h1)
        by_cases h2 : l[j].val = v
        · have HE2 := Lib.hid (decide_eq_true h2)
          have HF := Lib.hid (HN.out.found hlt (show isKV k v l[j] = true by unfold isKV; rw [decide_eq_true h1, decide_eq_true h2]; rfl))
          clear h1 h2 HN
          go_wp2_with fail
          refine wp_rely (by kernel_rfl) (by kernel_rfl) ?_
          apply RelyL.val
          · intro ν w' hL hF K hK'
            have cx := (hbx.lat hL).cell
            go_simp
            exact hK'.out _ _ rfl (Lat.refl _)
          simp only [Act.put, List.setIfInBounds_toArray, List.set_cons_zero, List.set_cons_succ, Nat.reduceAdd]
          apply RelyL.val
          · intro ν w' hL hF K hK'
            have cx := (hbx.lat hL).cell
            go_simp
            exact hK'.out _ _ rfl (Lat.refl _)
          simp only [Act.put, List.setIfInBounds_toArray, List.set_cons_zero, List.set_cons_succ, Nat.reduceAdd]
          apply RelyL.val
          · intro ν w' hL hF K hK'
            go_simp
            exact hK'.out _ _ rfl (Lat.refl _)
          simp only [Act.put, List.setIfInBounds_toArray, List.set_cons_zero, List.set_cons_succ, Nat.reduceAdd]
          apply RelyL.val
          · intro ν w' hL hF K hK'
            go_simp
            exact hK'.out _ _ rfl (Lat.refl _)
          simp only [Act.put, List.setIfInBounds_toArray, List.set_cons_zero, List.set_cons_succ, Nat.reduceAdd]
          apply RelyL.val
          · intro ν w' hL hF K hK'
            go_simp
            exact hK'.out _ _ rfl (Lat.refl _)
          simp only [Act.put, List.setIfInBounds_toArray, List.set_cons_zero, List.set_cons_succ, Nat.reduceAdd]
          apply RelyL.val
          · intro ν w' hL hF K hK'
            refine take_op rfl ?_
            refine wp_load_at 34 _ rfl b ((off + j * 7)) rfl _ _ (hrk.below hL hbb) Tryz.underlying34 rfl (by kernel_rfl) ?_
            exact hK'.out _ _ rfl (Lat.refl _)
          simp only [Act.put, List.setIfInBounds_toArray, List.set_cons_zero, List.set_cons_succ, Nat.reduceAdd]
          apply RelyL.val
          · intro ν w' hL hF K hK'
            refine take_op rfl ?_
            refine wp_load_at 34 _ rfl (g + 1) (0) rfl _ _ (hkk.below hL hgk) Tryz.underlying34 rfl (by kernel_rfl) ?_
            exact hK'.out _ _ rfl (Lat.refl _)
          simp only [Act.put, List.setIfInBounds_toArray, List.set_cons_zero, List.set_cons_succ, Nat.reduceAdd]
          apply RelyL.val
          · intro ν w' hL hF K hK'
            refine take_op rfl ?_
            refine wp_eql_k _ _ _ rfl l[j].key k rfl rfl (HE).out ?_
            exact hK'.out _ _ rfl (Lat.refl _)
          simp only [Act.put, List.setIfInBounds_toArray, List.set_cons_zero, List.set_cons_succ, Nat.reduceAdd]
          apply RelyL.val
          · intro ν w' hL hF K hK'
            go_simp
            exact hK'.out _ _ rfl (Lat.refl _)
          simp only [Act.put, List.setIfInBounds_toArray, List.set_cons_zero, List.set_cons_succ, Nat.reduceAdd]
          apply RelyL.val
          · intro ν w' hL hF K hK'
            have cx := (hbx.lat hL).cell
            go_simp
            exact hK'.out _ _ rfl (Lat.refl _)
          simp only [Act.put, List.setIfInBounds_toArray, List.set_cons_zero, List.set_cons_succ, Nat.reduceAdd]
          apply RelyL.val
          · intro ν w' hL hF K hK'
            have cx := (hbx.lat hL).cell
            go_simp
            exact hK'.out _ _ rfl (Lat.refl _)
          simp only [Act.put, List.setIfInBounds_toArray, List.set_cons_zero, List.set_cons_succ, Nat.reduceAdd]
          apply RelyL.val
          · intro ν w' hL hF K hK'
            go_simp
            exact hK'.out _ _ rfl (Lat.refl _)
          simp only [Act.put, List.setIfInBounds_toArray, List.set_cons_zero, List.set_cons_succ, Nat.reduceAdd]
          apply RelyL.val
          · intro ν w' hL hF K hK'
            go_simp
            exact hK'.out _ _ rfl (Lat.refl _)
          simp only [Act.put, List.setIfInBounds_toArray, List.set_cons_zero, List.set_cons_succ, Nat.reduceAdd]
          apply RelyL.val
          · intro ν w' hL hF K hK'
            go_simp
            exact hK'.out _ _ rfl (Lat.refl _)
          simp only [Act.put, List.setIfInBounds_toArray, List.set_cons_zero, List.set_cons_succ, Nat.reduceAdd]
          apply RelyL.val
          · intro ν w' hL hF K hK'
            refine take_op rfl ?_
            refine wp_load_at 32 _ rfl b ((off + j * 7 + 3)) rfl _ _ (hrv.below hL hbb) Tryz.underlying32 rfl (by kernel_rfl) ?_
            exact hK'.out _ _ rfl (Lat.refl _)
          simp only [Act.put, List.setIfInBounds_toArray, List.set_cons_zero, List.set_cons_succ, Nat.reduceAdd]
          apply RelyL.val
          · intro ν w' hL hF K hK'
            refine take_op rfl ?_
            refine wp_load_at 32 _ rfl (g + 1 + 1) (0) rfl _ _ (hvv.below hL hgv) Tryz.underlying32 rfl (by kernel_rfl) ?_
            exact hK'.out _ _ rfl (Lat.refl _)
          simp only [Act.put, List.setIfInBounds_toArray, List.set_cons_zero, List.set_cons_succ, Nat.reduceAdd]
          apply RelyL.val
          · intro ν w' hL hF K hK'
            refine take_op rfl ?_
            refine wp_eql_v _ _ _ rfl l[j].val v rfl rfl (HE2).out ?_
            exact hK'.out _ _ rfl (Lat.refl _)
          simp only [Act.put, List.setIfInBounds_toArray, List.set_cons_zero, List.set_cons_succ, Nat.reduceAdd]
          apply RelyL.val
          · intro ν w' hL hF K hK'
            go_simp
            exact hK'.out _ _ rfl (Lat.refl _)
          simp only [Act.put, List.setIfInBounds_toArray, List.set_cons_zero, List.set_cons_succ, Nat.reduceAdd]
          refine RelyL.done fun ν w4 hL4 hF => ?_
          clear hF
          have hLW4 := hLW.trans hL4
          have hfin : R = true := by have := HF.out.any; rw [decide_eq_true (by omega)] at this; exact HRR.out.symm.trans this.symm
          subst hfin
          go_wp2_with fail
          go_ret
          exact ⟨rfl, hL0.trans hLW4⟩
        · have HE2 := Lib.hid (decide_eq_false h2)
          have HF := Lib.hid (HN.out.step hlt (show isKV k v l[j] = false by unfold isKV; rw [decide_eq_true h1, decide_eq_false h2]; rfl))
          clear h1 h2 HN
          go_wp2_with fail
          refine wp_rely (by kernel_rfl) (by kernel_rfl) ?_
          apply RelyL.val
          · intro ν w' hL hF K hK'
            have cx := (hbx.lat hL).cell
            go_simp
            exact hK'.out _ _ rfl (Lat.refl _)
          simp only [Act.put, List.setIfInBounds_toArray, List.set_cons_zero, List.set_cons_succ, Nat.reduceAdd]
          apply RelyL.val
          · intro ν w' hL hF K hK'
            have cx := (hbx.lat hL).cell
            go_simp
            exact hK'.out _ _ rfl (Lat.refl _)
          simp only [Act.put, List.setIfInBounds_toArray, List.set_cons_zero, List.set_cons_succ, Nat.reduceAdd]
          apply RelyL.val
          · intro ν w' hL hF K hK'
            go_simp
            exact hK'.out _ _ rfl (Lat.refl _)
          simp only [Act.put, List.setIfInBounds_toArray, List.set_cons_zero, List.set_cons_succ, Nat.reduceAdd]
          apply RelyL.val
          · intro ν w' hL hF K hK'
            go_simp
            exact hK'.out _ _ rfl (Lat.refl _)
          simp only [Act.put, List.setIfInBounds_toArray, List.set_cons_zero, List.set_cons_succ, Nat.reduceAdd]
          apply RelyL.val
          · intro ν w' hL hF K hK'
            go_simp
            exact hK'.out _ _ rfl (Lat.refl _)
          simp only [Act.put, List.setIfInBounds_toArray, List.set_cons_zero, List.set_cons_succ, Nat.reduceAdd]
          apply RelyL.val
          · intro ν w' hL hF K hK'
            refine take_op rfl ?_
            refine wp_load_at 34 _ rfl b ((off + j * 7)) rfl _ _ (hrk.below hL hbb) Tryz.underlying34 rfl (by kernel_rfl) ?_
            exact hK'.out _ _ rfl (Lat.refl _)
          simp only [Act.put, List.setIfInBounds_toArray, List.set_cons_zero, List.set_cons_succ, Nat.reduceAdd]
          apply RelyL.val
          · intro ν w' hL hF K hK'
            refine take_op rfl ?_
            refine wp_load_at 34 _ rfl (g + 1) (0) rfl _ _ (hkk.below hL hgk) Tryz.underlying34 rfl (by kernel_rfl) ?_
            exact hK'.out _ _ rfl (Lat.refl _)
          simp only [Act.put, List.setIfInBounds_toArray, List.set_cons_zero, List.set_cons_succ, Nat.reduceAdd]
          apply RelyL.val
          · intro ν w' hL hF K hK'
            refine take_op rfl ?_
            refine wp_eql_k _ _ _ rfl l[j].key k rfl rfl (HE).out ?_
            exact hK'.out _ _ rfl (Lat.refl _)
          simp only [Act.put, List.setIfInBounds_toArray, List.set_cons_zero, List.set_cons_succ, Nat.reduceAdd]
          apply RelyL.val
          · intro ν w' hL hF K hK'
            go_simp
            exact hK'.out _ _ rfl (Lat.refl _)
          simp only [Act.put, List.setIfInBounds_toArray, List.set_cons_zero, List.set_cons_succ, Nat.reduceAdd]
          apply RelyL.val
          · intro ν w' hL hF K hK'
            have cx := (hbx.lat hL).cell
            go_simp
            exact hK'.out _ _ rfl (Lat.refl _)
          simp only [Act.put, List.setIfInBounds_toArray, List.set_cons_zero, List.set_cons_succ, Nat.reduceAdd]
          apply RelyL.val
          · intro ν w' hL hF K hK'
            have cx := (hbx.lat hL).cell
            go_simp
            exact hK'.out _ _ rfl (Lat.refl _)
          simp only [Act.put, List.setIfInBounds_toArray, List.set_cons_zero, List.set_cons_succ, Nat.reduceAdd]
          apply RelyL.val
          · intro ν w' hL hF K hK'
            go_simp
            exact hK'.out _ _ rfl (Lat.refl _)
          simp only [Act.put, List.setIfInBounds_toArray, List.set_cons_zero, List.set_cons_succ, Nat.reduceAdd]
          apply RelyL.val
          · intro ν w' hL hF K hK'
            go_simp
            exact hK'.out _ _ rfl (Lat.refl _)
          simp only [Act.put, List.setIfInBounds_toArray, List.set_cons_zero, List.set_cons_succ, Nat.reduceAdd]
          apply RelyL.val
          · intro ν w' hL hF K hK'
            go_simp
            exact hK'.out _ _ rfl (Lat.refl _)
          simp only [Act.put, List.setIfInBounds_toArray, List.set_cons_zero, List.set_cons_succ, Nat.reduceAdd]
          apply RelyL.val
          · intro ν w' hL hF K hK'
            refine take_op rfl ?_
            refine wp_load_at 32 _ rfl b ((off + j * 7 + 3)) rfl _ _ (hrv.below hL hbb) Tryz.underlying32 rfl (by kernel_rfl) ?_
            exact hK'.out _ _ rfl (Lat.refl _)
          simp only [Act.put, List.setIfInBounds_toArray, List.set_cons_zero, List.set_cons_succ, Nat.reduceAdd]
          apply RelyL.val
          · intro ν w' hL hF K hK'
            refine take_op rfl ?_
            refine wp_load_at 32 _ rfl (g + 1 + 1) (0) rfl _ _ (hvv.below hL hgv) Tryz.underlying32 rfl (by kernel_rfl) ?_
            exact hK'.out _ _ rfl (Lat.refl _)
          simp only [Act.put, List.setIfInBounds_toArray, List.set_cons_zero, List.set_cons_succ, Nat.reduceAdd]
          apply RelyL.val
          · intro ν w' hL hF K hK'
            refine take_op rfl ?_
            refine wp_eql_v _ _ _ rfl l[j].val v rfl rfl (HE2).out ?_
            exact hK'.out _ _ rfl (Lat.refl _)
          simp only [Act.put, List.setIfInBounds_toArray, List.set_cons_zero, List.set_cons_succ, Nat.reduceAdd]
          apply RelyL.val
          · intro ν w' hL hF K hK'
            go_simp
            exact hK'.out _ _ rfl (Lat.refl _)
          simp only [Act.put, List.setIfInBounds_toArray, List.set_cons_zero, List.set_cons_succ, Nat.reduceAdd]
          refine RelyL.done fun ν w4 hL4 hF => ?_
          clear hF
          have hLW4 := hLW.trans hL4
          go_wp2_with fail
          go_roundw
          case rel => exact ⟨j + 1, by omega, by go_num, HF, hLW4⟩
          case measure => simp [intOf]; omega
      · have HE := Lib.hid (decide_eq_false h1)
        have HF := Lib.hid (HN.out.step hlt (show isKV k v l[j] = false by unfold isKV; rw [decide_eq_false h1]; rfl))
        clear h1 HN
        go_wp2_with fail
        refine wp_rely (by kernel_rfl) (by kernel_rfl) ?_
        apply RelyL.val
        · intro ν w' hL hF K hK'
          have cx := (hbx.lat hL).cell
          go_simp
          exact hK'.out _ _ rfl (Lat.refl _)
        simp only [Act.put, List.setIfInBounds_toArray, List.set_cons_zero, List.set_cons_succ, Nat.reduceAdd]
        apply RelyL.val
        · intro ν w' hL hF K hK'
          have cx := (hbx.lat hL).cell
          go_simp
          exact hK'.out _ _ rfl (Lat.refl _)
        simp only [Act.put, List.setIfInBounds_toArray, List.set_cons_zero, List.set_cons_succ, Nat.reduceAdd]
        apply RelyL.val
        · intro ν w' hL hF K hK'
          go_simp
          exact hK'.out _ _ rfl (Lat.refl _)
        simp only [Act.put, List.setIfInBounds_toArray, List.set_cons_zero, List.set_cons_succ, Nat.reduceAdd]
        apply RelyL.val
        · intro ν w' hL hF K hK'
          go_simp
          exact hK'.out _ _ rfl (Lat.refl _)
        simp only [Act.put, List.setIfInBounds_toArray, List.set_cons_zero, List.set_cons_succ, Nat.reduceAdd]
        apply RelyL.val
        · intro ν w' hL hF K hK'
          go_simp
          exact hK'.out _ _ rfl (Lat.refl _)
        simp only [Act.put, List.setIfInBounds_toArray, List.set_cons_zero, List.set_cons_succ, Nat.reduceAdd]
        apply RelyL.val
        · intro ν w' hL hF K hK'
          refine take_op rfl ?_
          refine wp_load_at 34 _ rfl b ((off + j * 7)) rfl _ _ (hrk.below hL hbb) Tryz.underlying34 rfl (by kernel_rfl) ?_
          exact hK'.out _ _ rfl (Lat.refl _)
        simp only [Act.put, List.setIfInBounds_toArray, List.set_cons_zero, List.set_cons_succ, Nat.reduceAdd]
        apply RelyL.val
        · intro ν w' hL hF K hK'
          refine take_op rfl ?_
          refine wp_load_at 34 _ rfl (g + 1) (0) rfl _ _ (hkk.below hL hgk) Tryz.underlying34 rfl (by kernel_rfl) ?_
          exact hK'.out _ _ rfl (Lat.refl _)
        simp only [Act.put, List.setIfInBounds_toArray, List.set_cons_zero, List.set_cons_succ, Nat.reduceAdd]
        apply RelyL.val
        · intro ν w' hL hF K hK'
          refine take_op rfl ?_
          refine wp_eql_k _ _ _ rfl l[j].key k rfl rfl (HE).out ?_
          exact hK'.out _ _ rfl (Lat.refl _)
        simp only [Act.put, List.setIfInBounds_toArray, List.set_cons_zero, List.set_cons_succ, Nat.reduceAdd]
        apply RelyL.val
        · intro ν w' hL hF K hK'
          go_simp
          exact hK'.out _ _ rfl (Lat.refl _)
        simp only [Act.put, List.setIfInBounds_toArray, List.set_cons_zero, List.set_cons_succ, Nat.reduceAdd]
        apply RelyL.val
        · intro ν w' hL hF K hK'
          refine skip_op rfl ?_
          exact hK'.out _ _ rfl (Lat.refl _)
        simp only [Act.put, List.setIfInBounds_toArray, List.set_cons_zero, List.set_cons_succ, Nat.reduceAdd]
        apply RelyL.val
        · intro ν w' hL hF K hK'
          refine skip_op rfl ?_
          exact hK'.out _ _ rfl (Lat.refl _)
        simp only [Act.put, List.setIfInBounds_toArray, List.set_cons_zero, List.set_cons_succ, Nat.reduceAdd]
        apply RelyL.val
        · intro ν w' hL hF K hK'
          refine skip_op rfl ?_
          exact hK'.out _ _ rfl (Lat.refl _)
        simp only [Act.put, List.setIfInBounds_toArray, List.set_cons_zero, List.set_cons_succ, Nat.reduceAdd]
        apply RelyL.val
        · intro ν w' hL hF K hK'
          refine skip_op rfl ?_
          exact hK'.out _ _ rfl (Lat.refl _)
        simp only [Act.put, List.setIfInBounds_toArray, List.set_cons_zero, List.set_cons_succ, Nat.reduceAdd]
        apply RelyL.val
        · intro ν w' hL hF K hK'
          refine skip_op rfl ?_
          exact hK'.out _ _ rfl (Lat.refl _)
        simp only [Act.put, List.setIfInBounds_toArray, List.set_cons_zero, List.set_cons_succ, Nat.reduceAdd]
        apply RelyL.val
        · intro ν w' hL hF K hK'
          refine skip_op rfl ?_
          exact hK'.out _ _ rfl (Lat.refl _)
        simp only [Act.put, List.setIfInBounds_toArray, List.set_cons_zero, List.set_cons_succ, Nat.reduceAdd]
        apply RelyL.val
        · intro ν w' hL hF K hK'
          refine skip_op rfl ?_
          exact hK'.out _ _ rfl (Lat.refl _)
        simp only [Act.put, List.setIfInBounds_toArray, List.set_cons_zero, List.set_cons_succ, Nat.reduceAdd]
        apply RelyL.val
        · intro ν w' hL hF K hK'
          refine skip_op rfl ?_
          exact hK'.out _ _ rfl (Lat.refl _)
        simp only [Act.put, List.setIfInBounds_toArray, List.set_cons_zero, List.set_cons_succ, Nat.reduceAdd]
        apply RelyL.val
        · intro ν w' hL hF K hK'
          go_simp
          exact hK'.out _ _ rfl (Lat.refl _)
        simp only [Act.put, List.setIfInBounds_toArray, List.set_cons_zero, List.set_cons_succ, Nat.reduceAdd]
        refine RelyL.done fun ν w4 hL4 hF => ?_
        clear hF
        have hLW4 := hLW.trans hL4
        go_wp2_with fail
        go_roundw
        case rel => exact ⟨j + 1, by omega, by go_num, HF, hLW4⟩
        case measure => simp [intOf]; omega
    · have HF := Lib.hid (HN.out.none (by omega : l.length ≤ j))
      have hfin : R = false := by have := HF.out.any; rw [decide_eq_false (by omega)] at this; exact HRR.out.symm.trans this.symm
      subst hfin
      clear HN
      go_wp2_with fail
      go_ret
      exact ⟨rfl, hLL⟩
theorem yields_load_at {P : Program} {o : Oper} {a : Act} {w : World} (ty : TypeId) (x : Operand) (ho : o.op = .load ty x) (b off : Nat) (hx : a.eval x = .pointer (some ⟨b, off, none⟩)) (cs : List Value) (d : TypeDesc) (h : RowAt w b off cs)
    (hu : P.underlying ty = some d) (hd : (match d with | .struct _ | .array _ _ => true | _ => false) = true) (hi : (P.info? ty).map (·.size) = some cs.length) : (execOp a.eval o).run P w = .ok (.value (.agg cs.toArray)) w := by
  unfold execOp
  simp only [ho, hx, Instr.loadAt, Instr.sureAddr, Sem.run_bind, Sem.run_pure, Result.andThen_ok, run_loadVar_at w b off ty cs d h hu hd hi]
theorem vC_ones (v : LVal) : (vC v).toArray.all (·.oneCell') = true := by simp [vC, Value.oneCell']
theorem lkC_name {w : World} {b off : Nat} {x : LkR} (h : RowAt w b off (lkC x)) : w.cell? ⟨b, off, none⟩ = some (.string x.name) := h 0 _ rfl
set_option maxRecDepth 100000 in
set_option maxHeartbeats 4000000 in
theorem rblocked_any (ps : List (LkR × LLock)) (A : Option Addr) (c : Nat) (acts : List ByteArray) (B : Option Addr) (m : Nat) (k : LKey) (v : LVal) (w : World) (hx : RdL w ps (.slice A ps.length c)) (hy : ES.Rd w acts (.slice B acts.length m)) (hl : ps.length < 40) (hbig : acts.length ≤ 1000000) (hfi : FewI ps) :
    Calls Tryz.prog 47 #[.slice A ps.length c, .slice B acts.length m, .agg (kC k).toArray, .agg (vC v).toArray] w fun r w' => r = .returned (.string (blkN k v ((strg ps acts).map Prod.snd))) ∧ Lat w w' := by
  have H0 : Hid (blkN k v ((strg ps acts).map Prod.snd) = blkN k v (((strg ps acts).map Prod.snd).drop 0)) := Lib.hid rfl
  generalize blkN k v ((strg ps acts).map Prod.snd) = R at *
  have HFI : Hid (FewI (strg ps acts)) := Lib.hid (fun p hp => hfi p (strg_mem hp))
  have hsl := Nat.lt_of_le_of_lt (strg_len ps acts) hl
  have hk0 := Blk.alloc (Blk.new w 34 (kC k).toArray) (.cells (vC v).toArray 32)
  have hv0 := Blk.at1 w (.cells (kC k).toArray 34) 32 (vC v).toArray
  have hL0 : Lat w ((w.alloc (.cells (kC k).toArray 34)).alloc (.cells (vC v).toArray 32)) := (Lat.al _ _).trans (Lat.al _ _)
  have HS := Lib.hid (sorted_any ps A c acts B m _ (hx.lat hL0) (hy.lat hL0) hl hbig)
  have HFO := fun (r : LkR) (l : LLock) (w' : World) (hs : r.Says w' l) (hbig : l.force.length ≤ 1000000) => Lib.hid (forces_any r l k w' hs hbig)
  have HBD := fun (r : LkR) (l : LLock) (w' : World) (hs : r.Says w' l) (hbig : l.forbid.length ≤ 1000000) => Lib.hid (forbids_any r l k v w' hs hbig)
  clear hx hy hfi
  go_enter Tryz.func47, Tryz.ntmps47
  go_wp2_with fail
  refine HS.out.mono ?_
  rintro r w2 ⟨v2, rfl, hown2, hl2⟩
  have hL2 := hL0.trans hl2
  have hk2 := hk0.lat hl2
  have hv2 := hv0.lat hl2
  have hrd2 := hown2.rd
  obtain ⟨A2, c2, rfl⟩ := hrd2.slice
  generalize strg ps acts = qs at *
  clear hk0 hv0 hown2 HS hL0 hl2
  generalize hgg : w.heap.size = g at *
  have HGG := Lib.hid hgg
  clear hgg
  go_wp2_with fail
  go_loopw [10] (fun i wr => ∃ j : Nat, j ≤ qs.length ∧ i = .int .i64 j ∧ Hid (R = blkN k v ((qs.map Prod.snd).drop j)) ∧ Lat w2 wr) (fun i _ => qs.length - (intOf i).toNat)
  case atStart => exact ⟨0, Nat.zero_le _, rfl, H0, Lat.refl _⟩
  case round =>
    clear H0
    obtain ⟨j, hjl, rfl, HJ, hLW⟩ := hrel
    have hLL := hL2.trans hLW
    by_cases hlt : j < qs.length
    · obtain ⟨b, off, hA, hbb, hr1, hsy⟩ := (hrd2.lat hLW).row j hlt
      subst hA
      have hkk : RowAt wr g 0 (kC k) := (hk2.lat hLW).row
      have hvv : RowAt wr (g + 1) 0 (vC v) := (hv2.lat hLW).row
      have hgk := (hk2.lat hLW).lt
      have hgv := (hv2.lat hLW).lt
      have hbl := blkN_drop k v (qs.map Prod.snd) j (by simpa using hlt)
      rw [List.getElem_map] at hbl
      have hfi := HFI.out qs[j] (List.getElem_mem hlt)
      generalize qs[j].2 = Y at *
      have HNM := Lib.hid hsy.name
      generalize qs[j].1 = X at *
      have HNEW := Lib.hid (HJ.out.trans hbl)
      clear HJ hbl
      have HF := fun w' (hl : Lat wr w') => HFO X Y w' (hsy.lat hl) hfi.1
      have HB := fun w' (hl : Lat wr w') => HBD X Y w' (hsy.lat hl) hfi.2
      generalize hBB : hasI Y.force k = BB at *
      generalize hZ : (getI Y.force k) = Z at *
      simp only [gotV, hBB, hZ] at HF
      clear hBB hZ
      obtain ⟨z0, zv, z4⟩ := Z
      dsimp only at HF HNEW
      go_wp2_with fail
      go_cut [11, 12] (fun s11 s12 wx => ∃ ga : Nat, s11 = .pointer (some ⟨ga, 0, none⟩) ∧ s12 = .bool BB ∧ Blk wx ga 32 (vC zv).toArray ∧ Lat wr wx)
      case first =>
        refine wp_region_held_drew (S := fun w' => Lat wr w') (by kernel_rfl) (Lat.drew wr) (fun hHeld => ?_)
        refine wpAnyH_take (i := 0) (oi := { dst := some 23, op := Op.move (Operand.tmp 9), type := 22, pos := "ref.go:84", after := #[], guard := none }) (v := .slice (some ⟨b, off, none⟩) qs.length c2) rfl (by kernel_rfl) (by kernel_rfl) (by kernel_rfl) (fun _ _ _ h => h) (Or.inl ⟨rfl, ?_⟩) hHeld ?_
        · intro w' hS
          go_simp
        simp only [Act.put, List.setIfInBounds_toArray, List.set_cons_zero, List.set_cons_succ]
        refine wpAnyH_take (i := 1) (oi := { dst := some 24, op := Op.move (Operand.tmp 10), type := 3, pos := "ref.go:84", after := #[], guard := none }) (v := .int .i64 (j : Int)) rfl (by kernel_rfl) (by kernel_rfl) (by kernel_rfl) (fun _ _ _ h => h) (Or.inl ⟨rfl, ?_⟩) hHeld ?_
        · intro w' hS
          go_simp
        simp only [Act.put, List.setIfInBounds_toArray, List.set_cons_zero, List.set_cons_succ]
        refine wpAnyH_take (i := 2) (oi := { dst := some 25, op := Op.indexAddr 22 (Operand.tmp 23) (Operand.tmp 24), type := 0, pos := "ref.go:84", after := #[{ on := 0, ground := Ground.data }, { on := 1, ground := Ground.data }], guard := none }) (v := .pointer (some ⟨b, off + j * 16, none⟩)) rfl (by kernel_rfl) (by kernel_rfl) (by kernel_rfl) (fun _ _ _ h => h) (Or.inl ⟨rfl, ?_⟩) hHeld ?_
        · intro w' hS
          go_simp
        simp only [Act.put, List.setIfInBounds_toArray, List.set_cons_zero, List.set_cons_succ]
        refine wpAnyH_take (i := 3) (oi := { dst := some 26, op := Op.load 40 (Operand.tmp 25), type := 40, pos := "ref.go:84", after := #[{ on := 2, ground := Ground.data }], guard := none }) (v := .agg (lkC X).toArray) rfl (by kernel_rfl) (by kernel_rfl) (by kernel_rfl) (fun _ _ _ h => h) (Or.inl ⟨rfl, ?_⟩) hHeld ?_
        · intro w' hS
          (exact yields_load_at 40 _ rfl b (off + j * 16) rfl (lkC X) _ (hr1.below hS hbb) Tryz.underlying40 rfl (by kernel_rfl))
        simp only [Act.put, List.setIfInBounds_toArray, List.set_cons_zero, List.set_cons_succ]
        refine wpAnyH_take (i := 4) (oi := { dst := some 27, op := Op.load 34 (Operand.tmp 6), type := 34, pos := "ref.go:84", after := #[], guard := none }) (v := .agg (kC k).toArray) rfl (by kernel_rfl) (by kernel_rfl) (by kernel_rfl) (fun _ _ _ h => h) (Or.inl ⟨rfl, ?_⟩) hHeld ?_
        · intro w' hS
          (exact yields_load_at 34 _ rfl g 0 rfl (kC k) _ (hkk.below hS hgk) Tryz.underlying34 rfl (by kernel_rfl))
        simp only [Act.put, List.setIfInBounds_toArray, List.set_cons_zero, List.set_cons_succ]
        refine wpAnyH_ready (rs := [5, 9]) (by kernel_rfl) (by simp) ?_
        refine AllReadyH.cons (o := { dst := some 28, op := Op.call { callee := Callee.value (Operand.func 45), args := #[Operand.tmp 26, Operand.tmp 27], argTypes := #[40, 34] }, type := 62, pos := "ref.go:84", after := #[{ on := 3, ground := Ground.data }, { on := 4, ground := Ground.data }], guard := none }) rfl (fun K hK => ?_) ?_
        · go_simp
          go_at_call 45
          refine (HF _ hHeld).out.mono ?_
          rintro r w5 ⟨rfl, hl5⟩
          refine hK.out _ _ (hHeld.trans hl5) (fun hHeld => ?_)
          clear hK K
          try simp only [Act.put, List.setIfInBounds_toArray, List.set_cons_zero, List.set_cons_succ]
          refine wpAnyH_take (i := 6) (oi := { dst := some 22, op := Op.move (Operand.tmp 28), type := 62, pos := "ref.go:84", after := #[{ on := 5, ground := Ground.data }], guard := none }) (v := .tuple #[.agg (vC zv).toArray, .bool BB]) rfl (by kernel_rfl) (by kernel_rfl) (by kernel_rfl) (fun _ _ _ h => h) (Or.inl ⟨rfl, ?_⟩) hHeld ?_
          · intro w' hS
            go_simp
          simp only [Act.put, List.setIfInBounds_toArray, List.set_cons_zero, List.set_cons_succ]
          refine wpAnyH_take (i := 7) (oi := { dst := some 29, op := Op.extract (Operand.tmp 22) 0, type := 32, pos := "ref.go:84", after := #[{ on := 6, ground := Ground.data }], guard := none }) (v := .agg (vC zv).toArray) rfl (by kernel_rfl) (by kernel_rfl) (by kernel_rfl) (fun _ _ _ h => h) (Or.inl ⟨rfl, ?_⟩) hHeld ?_
          · intro w' hS
            go_simp
          simp only [Act.put, List.setIfInBounds_toArray, List.set_cons_zero, List.set_cons_succ]
          refine wpAnyH_take (i := 8) (oi := { dst := some 30, op := Op.extract (Operand.tmp 22) 1, type := 4, pos := "ref.go:84", after := #[{ on := 6, ground := Ground.data }, { on := 10, ground := Ground.gcOnly Departure.lateStores }], guard := none }) (v := .bool BB) rfl (by kernel_rfl) (by kernel_rfl) (by kernel_rfl) (fun _ _ _ h => h) (Or.inl ⟨rfl, ?_⟩) hHeld ?_
          · intro w' hS
            go_simp
          simp only [Act.put, List.setIfInBounds_toArray, List.set_cons_zero, List.set_cons_succ]
          refine wpAnyH_ready (rs := [9]) (by kernel_rfl) (by simp) ?_
          refine AllReadyH.cons (o := { dst := some 11, op := Op.alloc 32, type := 0, pos := "ref.go:84", after := #[], guard := none }) rfl (fun K hK => ?_) AllReadyH.nil
          have hblk := Blk.new w5 32 #[.int .i64 0, .int .i64 0, .string { data := #[] }]
          have hgb := hHeld.size
          go_simp
          refine hK.out _ _ (hHeld.trans (Lat.al _ _)) (fun hHeld => ?_)
          clear hK K
          try simp only [Act.put, List.setIfInBounds_toArray, List.set_cons_zero, List.set_cons_succ]
          refine wpAnyH_ready (rs := [10]) (by kernel_rfl) (by simp) ?_
          refine AllReadyH.cons (o := { dst := none, op := Op.store 32 (Operand.tmp 11) (Operand.tmp 29), type := 0, pos := "ref.go:84", after := #[{ on := 9, ground := Ground.data }, { on := 7, ground := Ground.data }, { on := 5, ground := Ground.chain }, { on := 0, ground := Ground.phase }, { on := 1, ground := Ground.phase }, { on := 2, ground := Ground.phase }, { on := 3, ground := Ground.phase }, { on := 4, ground := Ground.phase }, { on := 5, ground := Ground.phase }, { on := 6, ground := Ground.phase }, { on := 7, ground := Ground.phase }, { on := 8, ground := Ground.textOnly Departure.lateStores }, { on := 9, ground := Ground.phase }], guard := none }) rfl (fun K hK => ?_) AllReadyH.nil
          refine take_op rfl ?_
          refine wp_store_row 32 _ _ rfl (w5.heap.size) _ rfl rfl 32 _ hblk (by kernel_rfl : (Tryz.prog.info? 32).map (·.size) = some 3) rfl (vC_ones zv) ?_
          refine hK.out _ _ (below_setRow hHeld hgb _) (fun hHeld => ?_)
          clear hK K
          try simp only [Act.put, List.setIfInBounds_toArray, List.set_cons_zero, List.set_cons_succ]
          have hblk2 := hblk.setRow (vC zv).toArray
          refine wpAnyH_take (i := 11) (oi := { dst := some 12, op := Op.assign (Operand.tmp 30), type := 4, pos := "ref.go:84", after := #[{ on := 8, ground := Ground.data }, { on := 10, ground := Ground.chain }, { on := 0, ground := Ground.phase }, { on := 1, ground := Ground.phase }, { on := 2, ground := Ground.phase }, { on := 3, ground := Ground.phase }, { on := 4, ground := Ground.phase }, { on := 5, ground := Ground.phase }, { on := 6, ground := Ground.phase }, { on := 7, ground := Ground.phase }, { on := 8, ground := Ground.phase }, { on := 9, ground := Ground.phase }, { on := 10, ground := Ground.phase }], guard := none }) (v := .bool BB) rfl (by kernel_rfl) (by kernel_rfl) (by kernel_rfl) (fun _ _ _ h => h) (Or.inl ⟨rfl, ?_⟩) hHeld ?_
          · intro w' hS
            go_simp
          simp only [Act.put, List.setIfInBounds_toArray, List.set_cons_zero, List.set_cons_succ]
          refine wpAnyH_done (by kernel_rfl) ?_ _
          go_wp2_with fail
          go_meet
          exact ⟨_, rfl, rfl, hblk2, hHeld⟩
        refine AllReadyH.cons (o := { dst := some 11, op := Op.alloc 32, type := 0, pos := "ref.go:84", after := #[], guard := none }) rfl (fun K hK => ?_) AllReadyH.nil
        · have hblk0 := Blk.new wr.drew 32 #[.int .i64 0, .int .i64 0, .string { data := #[] }]
          have hgb := hHeld.size
          go_simp
          refine hK.out _ _ (hHeld.trans (Lat.al _ _)) (fun hHeld => ?_)
          clear hK K
          try simp only [Act.put, List.setIfInBounds_toArray, List.set_cons_zero, List.set_cons_succ]
          refine wpAnyH_ready (rs := [5]) (by kernel_rfl) (by simp) ?_
          refine AllReadyH.cons (o := { dst := some 28, op := Op.call { callee := Callee.value (Operand.func 45), args := #[Operand.tmp 26, Operand.tmp 27], argTypes := #[40, 34] }, type := 62, pos := "ref.go:84", after := #[{ on := 3, ground := Ground.data }, { on := 4, ground := Ground.data }], guard := none }) rfl (fun K hK => ?_) AllReadyH.nil
          go_simp
          go_at_call 45
          refine (HF _ hHeld).out.mono ?_
          rintro r w5 ⟨rfl, hl5⟩
          refine hK.out _ _ (hHeld.trans hl5) (fun hHeld => ?_)
          clear hK K
          try simp only [Act.put, List.setIfInBounds_toArray, List.set_cons_zero, List.set_cons_succ]
          have hblk := hblk0.lat hl5
          refine wpAnyH_take (i := 6) (oi := { dst := some 22, op := Op.move (Operand.tmp 28), type := 62, pos := "ref.go:84", after := #[{ on := 5, ground := Ground.data }], guard := none }) (v := .tuple #[.agg (vC zv).toArray, .bool BB]) rfl (by kernel_rfl) (by kernel_rfl) (by kernel_rfl) (fun _ _ _ h => h) (Or.inl ⟨rfl, ?_⟩) hHeld ?_
          · intro w' hS
            go_simp
          simp only [Act.put, List.setIfInBounds_toArray, List.set_cons_zero, List.set_cons_succ]
          refine wpAnyH_take (i := 7) (oi := { dst := some 29, op := Op.extract (Operand.tmp 22) 0, type := 32, pos := "ref.go:84", after := #[{ on := 6, ground := Ground.data }], guard := none }) (v := .agg (vC zv).toArray) rfl (by kernel_rfl) (by kernel_rfl) (by kernel_rfl) (fun _ _ _ h => h) (Or.inl ⟨rfl, ?_⟩) hHeld ?_
          · intro w' hS
            go_simp
          simp only [Act.put, List.setIfInBounds_toArray, List.set_cons_zero, List.set_cons_succ]
          refine wpAnyH_take (i := 8) (oi := { dst := some 30, op := Op.extract (Operand.tmp 22) 1, type := 4, pos := "ref.go:84", after := #[{ on := 6, ground := Ground.data }, { on := 10, ground := Ground.gcOnly Departure.lateStores }], guard := none }) (v := .bool BB) rfl (by kernel_rfl) (by kernel_rfl) (by kernel_rfl) (fun _ _ _ h => h) (Or.inl ⟨rfl, ?_⟩) hHeld ?_
          · intro w' hS
            go_simp
          simp only [Act.put, List.setIfInBounds_toArray, List.set_cons_zero, List.set_cons_succ]
          refine wpAnyH_ready (rs := [10]) (by kernel_rfl) (by simp) ?_
          refine AllReadyH.cons (o := { dst := none, op := Op.store 32 (Operand.tmp 11) (Operand.tmp 29), type := 0, pos := "ref.go:84", after := #[{ on := 9, ground := Ground.data }, { on := 7, ground := Ground.data }, { on := 5, ground := Ground.chain }, { on := 0, ground := Ground.phase }, { on := 1, ground := Ground.phase }, { on := 2, ground := Ground.phase }, { on := 3, ground := Ground.phase }, { on := 4, ground := Ground.phase }, { on := 5, ground := Ground.phase }, { on := 6, ground := Ground.phase }, { on := 7, ground := Ground.phase }, { on := 8, ground := Ground.textOnly Departure.lateStores }, { on := 9, ground := Ground.phase }], guard := none }) rfl (fun K hK => ?_) AllReadyH.nil
          refine take_op rfl ?_
          refine wp_store_row 32 _ _ rfl (wr.drew.heap.size) _ rfl rfl 32 _ hblk (by kernel_rfl : (Tryz.prog.info? 32).map (·.size) = some 3) rfl (vC_ones zv) ?_
          refine hK.out _ _ (below_setRow hHeld hgb _) (fun hHeld => ?_)
          clear hK K
          try simp only [Act.put, List.setIfInBounds_toArray, List.set_cons_zero, List.set_cons_succ]
          have hblk2 := hblk.setRow (vC zv).toArray
          refine wpAnyH_take (i := 11) (oi := { dst := some 12, op := Op.assign (Operand.tmp 30), type := 4, pos := "ref.go:84", after := #[{ on := 8, ground := Ground.data }, { on := 10, ground := Ground.chain }, { on := 0, ground := Ground.phase }, { on := 1, ground := Ground.phase }, { on := 2, ground := Ground.phase }, { on := 3, ground := Ground.phase }, { on := 4, ground := Ground.phase }, { on := 5, ground := Ground.phase }, { on := 6, ground := Ground.phase }, { on := 7, ground := Ground.phase }, { on := 8, ground := Ground.phase }, { on := 9, ground := Ground.phase }, { on := 10, ground := Ground.phase }], guard := none }) (v := .bool BB) rfl (by kernel_rfl) (by kernel_rfl) (by kernel_rfl) (fun _ _ _ h => h) (Or.inl ⟨rfl, ?_⟩) hHeld ?_
          · intro w' hS
            go_simp
          simp only [Act.put, List.setIfInBounds_toArray, List.set_cons_zero, List.set_cons_succ]
          refine wpAnyH_done (by kernel_rfl) ?_ _
          go_wp2_with fail
          go_meet
          exact ⟨_, rfl, rfl, hblk2, hHeld⟩
      case rest =>
        obtain ⟨ga, rfl, rfl, hga, hlc⟩ := hcut
        have hLc := hLW.trans hlc
        have hkc := hkk.below hlc hgk
        have hvc := hvv.below hlc hgv
        have hrc := hr1.below hlc hbb
        have hbc := Nat.lt_of_lt_of_le hbb hlc.size
        have hgkc := Nat.lt_of_lt_of_le hgk hlc.size
        have hgvc := Nat.lt_of_lt_of_le hgv hlc.size
        have hgar : RowAt wc ga 0 (vC zv) := hga.row
        have hB2 := HB wc hlc
        have cn := lkC_name hrc
        clear HF HFO HBD hga hkk hvv hr1 hbb hgk hgv
        cases BB
        · generalize hQ : Y.forbid.any (isKV k v) = Q at *
          have HB3 := fun w' (hl : Lat wc w') => HB w' (hlc.trans hl)
          clear hQ HB hB2 hgar
          go_wp2_with fail
          refine wp_rely (by kernel_rfl) (by kernel_rfl) ?_
          apply RelyL.val
          · intro ν w' hL hF K hK'
            go_simp
            exact hK'.out _ _ rfl (Lat.refl _)
          simp only [Act.put, List.setIfInBounds_toArray, List.set_cons_zero, List.set_cons_succ, Nat.reduceAdd]
          apply RelyL.val
          · intro ν w' hL hF K hK'
            go_simp
            exact hK'.out _ _ rfl (Lat.refl _)
          simp only [Act.put, List.setIfInBounds_toArray, List.set_cons_zero, List.set_cons_succ, Nat.reduceAdd]
          apply RelyL.val
          · intro ν w' hL hF K hK'
            go_simp
            exact hK'.out _ _ rfl (Lat.refl _)
          simp only [Act.put, List.setIfInBounds_toArray, List.set_cons_zero, List.set_cons_succ, Nat.reduceAdd]
          apply RelyL.val
          · intro ν w' hL hF K hK'
            refine take_op rfl ?_
            refine wp_load_at 40 _ rfl b ((off + j * 16)) rfl _ _ (hrc.below hL hbc) Tryz.underlying40 rfl (by kernel_rfl) ?_
            exact hK'.out _ _ rfl (Lat.refl _)
          simp only [Act.put, List.setIfInBounds_toArray, List.set_cons_zero, List.set_cons_succ, Nat.reduceAdd]
          apply RelyL.val
          · intro ν w' hL hF K hK'
            refine take_op rfl ?_
            refine wp_load_at 34 _ rfl g (0) rfl _ _ (hkc.below hL hgkc) Tryz.underlying34 rfl (by kernel_rfl) ?_
            exact hK'.out _ _ rfl (Lat.refl _)
          simp only [Act.put, List.setIfInBounds_toArray, List.set_cons_zero, List.set_cons_succ, Nat.reduceAdd]
          apply RelyL.val
          · intro ν w' hL hF K hK'
            refine take_op rfl ?_
            refine wp_load_at 32 _ rfl (g + 1) (0) rfl _ _ (hvc.below hL hgvc) Tryz.underlying32 rfl (by kernel_rfl) ?_
            exact hK'.out _ _ rfl (Lat.refl _)
          simp only [Act.put, List.setIfInBounds_toArray, List.set_cons_zero, List.set_cons_succ, Nat.reduceAdd]
          apply RelyL.val
          · intro ν w' hL hF K hK'
            have H := Lib.hid ((HB3 w' hL).out)
            go_simp
            go_at_call 70
            refine H.out.mono ?_
            rintro r w'' ⟨rfl, hbp⟩
            exact hK'.out _ _ rfl hbp
          simp only [Act.put, List.setIfInBounds_toArray, List.set_cons_zero, List.set_cons_succ, Nat.reduceAdd]
          refine RelyL.done fun ν w6 hL6 hF => ?_
          clear hF HB3
          have hL7 := hLc.trans hL6
          have cn6 := lkC_name (hrc.below hL6 hbc)
          cases Q
          · have HN2 := Lib.hid (HNEW.out.trans (by rw [if_neg (by decide), if_neg (by decide)]))
            clear HNEW
            go_wp2_with fail
            go_roundw
            case rel => exact ⟨j + 1, by omega, by go_num, HN2, hL7⟩
            case measure => simp [intOf]; omega
          · have HN2 : Hid (R = X.name) := Lib.hid (HNEW.out.trans (by rw [if_neg (by decide), if_pos rfl]; exact HNM.out.symm))
            clear HNEW
            go_wp2_with fail
            go_ret
            rw [HN2.out]
            exact ⟨rfl, hL2.trans hL7⟩
        · clear HB hB2
          by_cases he : zv = v
          · have HE := Lib.hid (decide_eq_true he)
            have HN2 : Hid (R = ⟨#[]⟩) := Lib.hid (HNEW.out.trans (by rw [if_pos rfl, if_pos he]))
            clear he HNEW
            go_wp2_with (first | (with_reducible refine wpList_load_at rfl 32 _ rfl ga 0 rfl _ _ hgar Tryz.underlying32 rfl (by kernel_rfl) ?_) | (with_reducible refine wpList_load_at rfl 32 _ rfl (g + 1) 0 rfl _ _ hvc Tryz.underlying32 rfl (by kernel_rfl) ?_) | (refine wpl_neq_v rfl _ _ _ rfl zv v rfl rfl HE.out ?_))
            go_ret
            rw [HN2.out]
            exact ⟨rfl, hL2.trans hLc⟩
          · have HE := Lib.hid (decide_eq_false he)
            have HN2 : Hid (R = X.name) := Lib.hid (HNEW.out.trans (by rw [if_pos rfl, if_neg he]; exact HNM.out.symm))
            clear he HNEW
            go_wp2_with (first | (with_reducible refine wpList_load_at rfl 32 _ rfl ga 0 rfl _ _ hgar Tryz.underlying32 rfl (by kernel_rfl) ?_) | (with_reducible refine wpList_load_at rfl 32 _ rfl (g + 1) 0 rfl _ _ hvc Tryz.underlying32 rfl (by kernel_rfl) ?_) | (refine wpl_neq_v rfl _ _ _ rfl zv v rfl rfl HE.out ?_))
            go_ret
            rw [HN2.out]
            exact ⟨rfl, hL2.trans hLc⟩
    · have hj : (qs.map Prod.snd).drop j = [] := List.drop_of_length_le (by rw [List.length_map]; omega)
      have HN2 : Hid (R = ⟨#[]⟩) := Lib.hid (HJ.out.trans (by rw [hj]; rfl))
      clear hj HJ
      go_wp2_with fail
      go_ret
      rw [HN2.out]
      exact ⟨rfl, hLL⟩
end Go.Proofs.YtmgalnbacenbbaaGreat
