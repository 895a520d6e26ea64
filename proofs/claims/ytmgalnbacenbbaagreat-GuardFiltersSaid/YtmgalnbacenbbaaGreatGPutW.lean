/- Guard: the reference's Put walked. -/
import Derived.Test.YtmgalnbacenbbaaGreatGPut
import Derived.Test.YtmgalnbacenbbaaGreatGOps
set_option linter.unusedSimpArgs false
set_option linter.unusedVariables false
namespace Go.Proofs.YtmgalnbacenbbaaGreat
open Go.RowKit

set_option maxRecDepth 100000 in
set_option maxHeartbeats 4000000 in
theorem put_any (l : List LKey) (A : Option Addr) (c : Nat) (kk : LKey) (w : World) (hx : EK.Rd w l (.slice A l.length c)) (hl : l.length ≤ 100000) :
    Calls Tryz.prog 68 #[.slice A l.length c, .agg (kC kk).toArray] w fun r w' => ∃ v, r = .returned v ∧ EK.Own w' w.heap.size (putS kk false l) v ∧ Lat w w' := by
  have hL0 : Lat w (w.alloc (.cells (kC kk).toArray 34)) := Lat.al _ _
  have hb0 := Blk.new w 34 (kC kk).toArray
  have HJ0 : Hid ([] ++ putS kk false (l.drop 0) = putS kk false l) := Lib.hid rfl
  generalize putS kk false l = R at *
  go_enter Tryz.func68, Tryz.ntmps68
  go_wp2_with fail
  generalize w.alloc (.cells (kC kk).toArray 34) = w1 at *
  generalize hgg : w.heap.size = g at *
  have HGG := Lib.hid hgg
  clear hgg
  go_loopw [5, 6, 7] (fun v dv i wr => ∃ (j : Nat) (d : Bool) (acc : List LKey), j ≤ l.length ∧ i = .int .i64 j ∧ dv = .bool d ∧ Hid (acc ++ putS kk d (l.drop j) = R) ∧ acc.length ≤ j + (if d then 1 else 0) ∧ EK.Own wr w1.heap.size acc v ∧ Lat w1 wr) (fun _ _ i _ => l.length - (intOf i).toNat)
  case atStart => exact ⟨0, false, [], Nat.zero_le _, rfl, rfl, HJ0, by simp, Elt.Own.nil _ _, Lat.refl _⟩
  case round =>
    clear HJ0
    obtain ⟨j, d, acc, hjl, rfl, rfl, HJ, hal, hown, hLW⟩ := hrel
    by_cases hlt : j < l.length
    · obtain ⟨b, off, hA, hbb0, hrx'⟩ := hx.row j hlt
      subst hA
      have hrx0 : RowAt w b (off + j * 3) (kC l[j]) := hrx'
      have HRX := Lib.hid hrx0
      have hrx := hrx0.below (hL0.trans hLW) hbb0
      have hbb : b < wr.heap.size := Nat.lt_of_lt_of_le hbb0 (hL0.trans hLW).size
      have hbk := hb0.lat hLW
      have hrb : RowAt wr g 0 (kC kk) := hbk.row
      have hgl := hbk.lt
      rw [putS_drop kk d l j hlt] at HJ
      have HLS := fun w' => Dr.rless_any l[j] kk w'
      clear hrx' hrx0
      generalize l[j] = X at *
      generalize kless X kk = KL at *
      cases d
      · have hal : acc.length ≤ j := by simpa using hal
        cases KL
        · simp only [Bool.not_false, Bool.and_true, if_true, Bool.or_true, Bool.false_or] at HJ
          go_wp2_with fail
          refine wp_rely (by kernel_rfl) (by kernel_rfl) ?_
          apply RelyL.val
          · intro ν w' hL hF K hK'
            go_simp
            exact hK'.out _ _ rfl (Lat.refl _)
          simp only [Act.put, List.setIfInBounds_toArray, List.set_cons_zero, List.set_cons_succ, Nat.reduceAdd]
          apply RelyL.val
          · intro ν w' hL hF K hK'
            go_simp
            exact hK'.out _ _ rfl (Lat.refl _)
          simp only [Act.put, List.setIfInBounds_toArray, List.set_cons_zero, List.set_cons_succ, Nat.reduceAdd]
          apply RelyL.val
          · intro ν w' hL hF K hK'
            go_simp
            exact hK'.out _ _ rfl (Lat.refl _)
          simp only [Act.put, List.setIfInBounds_toArray, List.set_cons_zero, List.set_cons_succ, Nat.reduceAdd]
          apply RelyL.val
          · intro ν w' hL hF K hK'
            go_simp
            exact hK'.out _ _ rfl (Lat.refl _)
          simp only [Act.put, List.setIfInBounds_toArray, List.set_cons_zero, List.set_cons_succ, Nat.reduceAdd]
          apply RelyL.val
          · intro ν w' hL hF K hK'
            go_simp
            exact hK'.out _ _ rfl (Lat.refl _)
          simp only [Act.put, List.setIfInBounds_toArray, List.set_cons_zero, List.set_cons_succ, Nat.reduceAdd]
          apply RelyL.val
          · intro ν w' hL hF K hK'
            go_simp
            exact hK'.out _ _ rfl (Lat.refl _)
          simp only [Act.put, List.setIfInBounds_toArray, List.set_cons_zero, List.set_cons_succ, Nat.reduceAdd]
          apply RelyL.val
          · intro ν w' hL hF K hK'
            refine take_op rfl ?_
            refine wp_load_at 34 _ rfl b ((off + j * 3)) rfl _ _ (hrx.below hL hbb) Tryz.underlying34 rfl (by kernel_rfl) ?_
            exact hK'.out _ _ rfl (Lat.refl _)
          simp only [Act.put, List.setIfInBounds_toArray, List.set_cons_zero, List.set_cons_succ, Nat.reduceAdd]
          apply RelyL.val
          · intro ν w' hL hF K hK'
            refine take_op rfl ?_
            refine wp_load_at 34 _ rfl g (0) rfl _ _ (hrb.below hL hgl) Tryz.underlying34 rfl (by kernel_rfl) ?_
            exact hK'.out _ _ rfl (Lat.refl _)
          simp only [Act.put, List.setIfInBounds_toArray, List.set_cons_zero, List.set_cons_succ, Nat.reduceAdd]
          apply RelyL.val
          · intro ν w' hL hF K hK'
            have H := Lib.hid (HLS w')
            go_simp
            go_at_call 64
            refine H.out.mono ?_
            rintro r w'' ⟨rfl, hbp⟩
            exact hK'.out _ _ rfl (drLat hbp)
          simp only [Act.put, List.setIfInBounds_toArray, List.set_cons_zero, List.set_cons_succ, Nat.reduceAdd]
          apply RelyL.val
          · intro ν w' hL hF K hK'
            go_simp
            exact hK'.out _ _ rfl (Lat.refl _)
          simp only [Act.put, List.setIfInBounds_toArray, List.set_cons_zero, List.set_cons_succ, Nat.reduceAdd]
          apply RelyL.val
          · intro ν w' hL hF K hK'
            go_simp
            exact hK'.out _ _ rfl (Lat.refl _)
          simp only [Act.put, List.setIfInBounds_toArray, List.set_cons_zero, List.set_cons_succ, Nat.reduceAdd]
          refine RelyL.done fun ν w5 hL5 hF => ?_
          clear hF
          have hbk5 := hbk.lat hL5
          have hrb5 : RowAt w5 g 0 [.int .i64 kk.dev, .string kk.cl, .string kk.at_] := (hbk5).row
          have hnewk := Blk.new w5 34 #[.int .i64 kk.dev, .string kk.cl, .string kk.at_]
          have hownk := ((hown.lat hL5)).al (.cells #[.int .i64 kk.dev, .string kk.cl, .string kk.at_] 34)
          have hLk : Lat w1 ((w5).alloc (.cells #[.int .i64 kk.dev, .string kk.cl, .string kk.at_] 34)) := ((hLW.trans hL5)).trans (Lat.al _ _)
          have hbsek := hLk.size
          have hmaxk : acc.length + 1 ≤ maxLen := by unfold maxLen; omega
          have hbyk : (acc.length + 1) * EK.bytes ≤ 140737488355328 := Nat.le_trans (Nat.mul_le_mul_right EK.bytes (by omega : acc.length + 1 ≤ 1000000)) (by decide)
          have HTk := Lib.hid (fun k (hk : (u5).ownBlock = some k) => (hown.lt k hk).1)
          go_wp2_with (first | (with_reducible refine wpList_load_at rfl 34 _ rfl g 0 rfl _ _ hrb5 Tryz.underlying34 rfl (by kernel_rfl) ?_) | (at_builtin; refine EK.append rfl _ _ rfl w1.heap.size acc _ rfl hownk (w5).heap.size 1 kk rfl 34 hnewk hmaxk hbyk hbsek ?_; intro v6 w6 hown6 hg6 hw6; go_must (have hLW6 : Lat w1 w6 := hLk.grown hg6 hbsek HTk.out; clear hnewk hw6)))
          have hown := hown6
          have hLW := hLW6
          have hrx := HRX.out.below (hL0.trans hLW6) hbb0
          have hbb : b < w6.heap.size := Nat.lt_of_lt_of_le hbb0 (hL0.trans hLW6).size
          have hrb : RowAt w6 g 0 (kC kk) := (hb0.lat hLW6).row
          have hgl := (hb0.lat hLW6).lt
          have HJ : Hid (acc ++ [kk] ++ ((if X = kk then [] else [X]) ++ putS kk true (l.drop (j + 1))) = R) := Lib.hid (by simpa using HJ.out)
          clear HLS hbk5 hbk hrb5
          by_cases he : X = kk
          · have HE := Lib.hid (decide_eq_true he)
            have HJ2 := Lib.hid (HJ.out)
            rw [if_pos he] at HJ2
            clear HJ he
            go_wp2_with fail
            refine wp_rely (by kernel_rfl) (by kernel_rfl) ?_
            apply RelyL.val
            · intro ν w' hL hF K hK'
              go_simp
              exact hK'.out _ _ rfl (Lat.refl _)
            simp only [Act.put, List.setIfInBounds_toArray, List.set_cons_zero, List.set_cons_succ, Nat.reduceAdd]
            apply RelyL.val
            · intro ν w' hL hF K hK'
              go_simp
              exact hK'.out _ _ rfl (Lat.refl _)
            simp only [Act.put, List.setIfInBounds_toArray, List.set_cons_zero, List.set_cons_succ, Nat.reduceAdd]
            apply RelyL.val
            · intro ν w' hL hF K hK'
              go_simp
              exact hK'.out _ _ rfl (Lat.refl _)
            simp only [Act.put, List.setIfInBounds_toArray, List.set_cons_zero, List.set_cons_succ, Nat.reduceAdd]
            apply RelyL.val
            · intro ν w' hL hF K hK'
              refine take_op rfl ?_
              refine wp_load_at 34 _ rfl b ((off + j * 3)) rfl _ _ (hrx.below hL hbb) Tryz.underlying34 rfl (by kernel_rfl) ?_
              exact hK'.out _ _ rfl (Lat.refl _)
            simp only [Act.put, List.setIfInBounds_toArray, List.set_cons_zero, List.set_cons_succ, Nat.reduceAdd]
            apply RelyL.val
            · intro ν w' hL hF K hK'
              refine take_op rfl ?_
              refine wp_load_at 34 _ rfl g (0) rfl _ _ (hrb.below hL hgl) Tryz.underlying34 rfl (by kernel_rfl) ?_
              exact hK'.out _ _ rfl (Lat.refl _)
            simp only [Act.put, List.setIfInBounds_toArray, List.set_cons_zero, List.set_cons_succ, Nat.reduceAdd]
            apply RelyL.val
            · intro ν w' hL hF K hK'
              refine take_op rfl ?_
              refine wp_neq_k _ _ _ rfl X kk rfl rfl HE.out ?_
              exact hK'.out _ _ rfl (Lat.refl _)
            simp only [Act.put, List.setIfInBounds_toArray, List.set_cons_zero, List.set_cons_succ, Nat.reduceAdd]
            refine RelyL.done fun ν w9 hL9 hF => ?_
            clear hF
            have hown9 := hown.lat hL9
            have hLW9 := hLW.trans hL9
            have hrx9 := hrx.below hL9 hbb
            clear hown hLW hL9 hrx
            go_wp2_with fail
            go_roundw
            case rel => exact ⟨j + 1, true, (acc ++ [kk]), by omega, by go_num, rfl, Lib.hid (by simpa using HJ2.out), by (try simp) <;> omega, hown9, hLW9⟩
            case measure => simp [intOf]; omega
          · have HE := Lib.hid (decide_eq_false he)
            have HJ2 := Lib.hid (HJ.out)
            rw [if_neg he] at HJ2
            clear HJ he
            go_wp2_with fail
            refine wp_rely (by kernel_rfl) (by kernel_rfl) ?_
            apply RelyL.val
            · intro ν w' hL hF K hK'
              go_simp
              exact hK'.out _ _ rfl (Lat.refl _)
            simp only [Act.put, List.setIfInBounds_toArray, List.set_cons_zero, List.set_cons_succ, Nat.reduceAdd]
            apply RelyL.val
            · intro ν w' hL hF K hK'
              go_simp
              exact hK'.out _ _ rfl (Lat.refl _)
            simp only [Act.put, List.setIfInBounds_toArray, List.set_cons_zero, List.set_cons_succ, Nat.reduceAdd]
            apply RelyL.val
            · intro ν w' hL hF K hK'
              go_simp
              exact hK'.out _ _ rfl (Lat.refl _)
            simp only [Act.put, List.setIfInBounds_toArray, List.set_cons_zero, List.set_cons_succ, Nat.reduceAdd]
            apply RelyL.val
            · intro ν w' hL hF K hK'
              refine take_op rfl ?_
              refine wp_load_at 34 _ rfl b ((off + j * 3)) rfl _ _ (hrx.below hL hbb) Tryz.underlying34 rfl (by kernel_rfl) ?_
              exact hK'.out _ _ rfl (Lat.refl _)
            simp only [Act.put, List.setIfInBounds_toArray, List.set_cons_zero, List.set_cons_succ, Nat.reduceAdd]
            apply RelyL.val
            · intro ν w' hL hF K hK'
              refine take_op rfl ?_
              refine wp_load_at 34 _ rfl g (0) rfl _ _ (hrb.below hL hgl) Tryz.underlying34 rfl (by kernel_rfl) ?_
              exact hK'.out _ _ rfl (Lat.refl _)
            simp only [Act.put, List.setIfInBounds_toArray, List.set_cons_zero, List.set_cons_succ, Nat.reduceAdd]
            apply RelyL.val
            · intro ν w' hL hF K hK'
              refine take_op rfl ?_
              refine wp_neq_k _ _ _ rfl X kk rfl rfl HE.out ?_
              exact hK'.out _ _ rfl (Lat.refl _)
            simp only [Act.put, List.setIfInBounds_toArray, List.set_cons_zero, List.set_cons_succ, Nat.reduceAdd]
            refine RelyL.done fun ν w9 hL9 hF => ?_
            clear hF
            have hown9 := hown.lat hL9
            have hLW9 := hLW.trans hL9
            have hrx9 := hrx.below hL9 hbb
            obtain ⟨x1, x2, x3⟩ := X
            have hrx9e : RowAt w9 b (off + j * 3) [.int .i64 x1, .string x2, .string x3] := hrx9
            have hnewx := Blk.new w9 34 #[.int .i64 x1, .string x2, .string x3]
            have hownx := hown9.al (.cells #[.int .i64 x1, .string x2, .string x3] 34)
            have hLx : Lat w1 (w9.alloc (.cells #[.int .i64 x1, .string x2, .string x3] 34)) := hLW9.trans (Lat.al _ _)
            have hbsex := hLx.size
            have hmaxx : ((acc ++ [kk])).length + 1 ≤ maxLen := by unfold maxLen; simp; omega
            have hbyx : (((acc ++ [kk])).length + 1) * EK.bytes ≤ 140737488355328 := Nat.le_trans (Nat.mul_le_mul_right EK.bytes (by simp; omega : ((acc ++ [kk])).length + 1 ≤ 1000000)) (by decide)
            have HTx := Lib.hid (fun k (hk : (v6).ownBlock = some k) => (hown9.lt k hk).1)
            clear hown hLW hL9 hrx hown9 hLW9 hrx9
            go_wp2_with (first | (with_reducible refine wpList_load_at rfl 34 _ rfl b (off + j * 3) rfl _ _ hrx9e Tryz.underlying34 rfl (by kernel_rfl) ?_) | (at_builtin; refine EK.append rfl _ _ rfl w1.heap.size ((acc ++ [kk])) _ rfl hownx w9.heap.size 1 (⟨x1, x2, x3⟩ : LKey) rfl 34 hnewx hmaxx hbyx hbsex ?_; intro v8 w8 hown8 hg8 hw8; go_must (have hLW8 : Lat w1 w8 := hLx.grown hg8 hbsex HTx.out; clear hnewx hg8 hw8 hrx9e)))
            go_roundw
            case rel => exact ⟨j + 1, true, (acc ++ [kk]) ++ [⟨x1, x2, x3⟩], by omega, by go_num, rfl, Lib.hid (by simpa using HJ2.out), by (try simp) <;> omega, hown8, hLW8⟩
            case measure => simp [intOf]; omega
        · simp only [Bool.not_false, Bool.not_true, Bool.and_false, Bool.false_eq_true, if_false, List.nil_append, Bool.or_false] at HJ
          go_wp2_with fail
          refine wp_rely (by kernel_rfl) (by kernel_rfl) ?_
          apply RelyL.val
          · intro ν w' hL hF K hK'
            go_simp
            exact hK'.out _ _ rfl (Lat.refl _)
          simp only [Act.put, List.setIfInBounds_toArray, List.set_cons_zero, List.set_cons_succ, Nat.reduceAdd]
          apply RelyL.val
          · intro ν w' hL hF K hK'
            go_simp
            exact hK'.out _ _ rfl (Lat.refl _)
          simp only [Act.put, List.setIfInBounds_toArray, List.set_cons_zero, List.set_cons_succ, Nat.reduceAdd]
          apply RelyL.val
          · intro ν w' hL hF K hK'
            go_simp
            exact hK'.out _ _ rfl (Lat.refl _)
          simp only [Act.put, List.setIfInBounds_toArray, List.set_cons_zero, List.set_cons_succ, Nat.reduceAdd]
          apply RelyL.val
          · intro ν w' hL hF K hK'
            go_simp
            exact hK'.out _ _ rfl (Lat.refl _)
          simp only [Act.put, List.setIfInBounds_toArray, List.set_cons_zero, List.set_cons_succ, Nat.reduceAdd]
          apply RelyL.val
          · intro ν w' hL hF K hK'
            go_simp
            exact hK'.out _ _ rfl (Lat.refl _)
          simp only [Act.put, List.setIfInBounds_toArray, List.set_cons_zero, List.set_cons_succ, Nat.reduceAdd]
          apply RelyL.val
          · intro ν w' hL hF K hK'
            go_simp
            exact hK'.out _ _ rfl (Lat.refl _)
          simp only [Act.put, List.setIfInBounds_toArray, List.set_cons_zero, List.set_cons_succ, Nat.reduceAdd]
          apply RelyL.val
          · intro ν w' hL hF K hK'
            refine take_op rfl ?_
            refine wp_load_at 34 _ rfl b ((off + j * 3)) rfl _ _ (hrx.below hL hbb) Tryz.underlying34 rfl (by kernel_rfl) ?_
            exact hK'.out _ _ rfl (Lat.refl _)
          simp only [Act.put, List.setIfInBounds_toArray, List.set_cons_zero, List.set_cons_succ, Nat.reduceAdd]
          apply RelyL.val
          · intro ν w' hL hF K hK'
            refine take_op rfl ?_
            refine wp_load_at 34 _ rfl g (0) rfl _ _ (hrb.below hL hgl) Tryz.underlying34 rfl (by kernel_rfl) ?_
            exact hK'.out _ _ rfl (Lat.refl _)
          simp only [Act.put, List.setIfInBounds_toArray, List.set_cons_zero, List.set_cons_succ, Nat.reduceAdd]
          apply RelyL.val
          · intro ν w' hL hF K hK'
            have H := Lib.hid (HLS w')
            go_simp
            go_at_call 64
            refine H.out.mono ?_
            rintro r w'' ⟨rfl, hbp⟩
            exact hK'.out _ _ rfl (drLat hbp)
          simp only [Act.put, List.setIfInBounds_toArray, List.set_cons_zero, List.set_cons_succ, Nat.reduceAdd]
          apply RelyL.val
          · intro ν w' hL hF K hK'
            go_simp
            exact hK'.out _ _ rfl (Lat.refl _)
          simp only [Act.put, List.setIfInBounds_toArray, List.set_cons_zero, List.set_cons_succ, Nat.reduceAdd]
          apply RelyL.val
          · intro ν w' hL hF K hK'
            go_simp
            exact hK'.out _ _ rfl (Lat.refl _)
          simp only [Act.put, List.setIfInBounds_toArray, List.set_cons_zero, List.set_cons_succ, Nat.reduceAdd]
          refine RelyL.done fun ν w5 hL5 hF => ?_
          clear hF
          have hown := hown.lat hL5
          have hLW := hLW.trans hL5
          have hrx := hrx.below hL5 hbb
          have hrb := hrb.below hL5 hgl
          have hbb := Nat.lt_of_lt_of_le hbb hL5.size
          have hgl := Nat.lt_of_lt_of_le hgl hL5.size
          clear HLS
          by_cases he : X = kk
          · have HE := Lib.hid (decide_eq_true he)
            have HJ2 := Lib.hid (HJ.out)
            rw [if_pos he] at HJ2
            clear HJ he
            go_wp2_with fail
            refine wp_rely (by kernel_rfl) (by kernel_rfl) ?_
            apply RelyL.val
            · intro ν w' hL hF K hK'
              go_simp
              exact hK'.out _ _ rfl (Lat.refl _)
            simp only [Act.put, List.setIfInBounds_toArray, List.set_cons_zero, List.set_cons_succ, Nat.reduceAdd]
            apply RelyL.val
            · intro ν w' hL hF K hK'
              go_simp
              exact hK'.out _ _ rfl (Lat.refl _)
            simp only [Act.put, List.setIfInBounds_toArray, List.set_cons_zero, List.set_cons_succ, Nat.reduceAdd]
            apply RelyL.val
            · intro ν w' hL hF K hK'
              go_simp
              exact hK'.out _ _ rfl (Lat.refl _)
            simp only [Act.put, List.setIfInBounds_toArray, List.set_cons_zero, List.set_cons_succ, Nat.reduceAdd]
            apply RelyL.val
            · intro ν w' hL hF K hK'
              refine take_op rfl ?_
              refine wp_load_at 34 _ rfl b ((off + j * 3)) rfl _ _ (hrx.below hL hbb) Tryz.underlying34 rfl (by kernel_rfl) ?_
              exact hK'.out _ _ rfl (Lat.refl _)
            simp only [Act.put, List.setIfInBounds_toArray, List.set_cons_zero, List.set_cons_succ, Nat.reduceAdd]
            apply RelyL.val
            · intro ν w' hL hF K hK'
              refine take_op rfl ?_
              refine wp_load_at 34 _ rfl g (0) rfl _ _ (hrb.below hL hgl) Tryz.underlying34 rfl (by kernel_rfl) ?_
              exact hK'.out _ _ rfl (Lat.refl _)
            simp only [Act.put, List.setIfInBounds_toArray, List.set_cons_zero, List.set_cons_succ, Nat.reduceAdd]
            apply RelyL.val
            · intro ν w' hL hF K hK'
              refine take_op rfl ?_
              refine wp_neq_k _ _ _ rfl X kk rfl rfl HE.out ?_
              exact hK'.out _ _ rfl (Lat.refl _)
            simp only [Act.put, List.setIfInBounds_toArray, List.set_cons_zero, List.set_cons_succ, Nat.reduceAdd]
            refine RelyL.done fun ν w9 hL9 hF => ?_
            clear hF
            have hown9 := hown.lat hL9
            have hLW9 := hLW.trans hL9
            have hrx9 := hrx.below hL9 hbb
            clear hown hLW hL9 hrx
            go_wp2_with fail
            go_roundw
            case rel => exact ⟨j + 1, false, acc, by omega, by go_num, rfl, Lib.hid (by simpa using HJ2.out), by (try simp) <;> omega, hown9, hLW9⟩
            case measure => simp [intOf]; omega
          · have HE := Lib.hid (decide_eq_false he)
            have HJ2 := Lib.hid (HJ.out)
            rw [if_neg he] at HJ2
            clear HJ he
            go_wp2_with fail
            refine wp_rely (by kernel_rfl) (by kernel_rfl) ?_
            apply RelyL.val
            · intro ν w' hL hF K hK'
              go_simp
              exact hK'.out _ _ rfl (Lat.refl _)
            simp only [Act.put, List.setIfInBounds_toArray, List.set_cons_zero, List.set_cons_succ, Nat.reduceAdd]
            apply RelyL.val
            · intro ν w' hL hF K hK'
              go_simp
              exact hK'.out _ _ rfl (Lat.refl _)
            simp only [Act.put, List.setIfInBounds_toArray, List.set_cons_zero, List.set_cons_succ, Nat.reduceAdd]
            apply RelyL.val
            · intro ν w' hL hF K hK'
              go_simp
              exact hK'.out _ _ rfl (Lat.refl _)
            simp only [Act.put, List.setIfInBounds_toArray, List.set_cons_zero, List.set_cons_succ, Nat.reduceAdd]
            apply RelyL.val
            · intro ν w' hL hF K hK'
              refine take_op rfl ?_
              refine wp_load_at 34 _ rfl b ((off + j * 3)) rfl _ _ (hrx.below hL hbb) Tryz.underlying34 rfl (by kernel_rfl) ?_
              exact hK'.out _ _ rfl (Lat.refl _)
            simp only [Act.put, List.setIfInBounds_toArray, List.set_cons_zero, List.set_cons_succ, Nat.reduceAdd]
            apply RelyL.val
            · intro ν w' hL hF K hK'
              refine take_op rfl ?_
              refine wp_load_at 34 _ rfl g (0) rfl _ _ (hrb.below hL hgl) Tryz.underlying34 rfl (by kernel_rfl) ?_
              exact hK'.out _ _ rfl (Lat.refl _)
            simp only [Act.put, List.setIfInBounds_toArray, List.set_cons_zero, List.set_cons_succ, Nat.reduceAdd]
            apply RelyL.val
            · intro ν w' hL hF K hK'
              refine take_op rfl ?_
              refine wp_neq_k _ _ _ rfl X kk rfl rfl HE.out ?_
              exact hK'.out _ _ rfl (Lat.refl _)
            simp only [Act.put, List.setIfInBounds_toArray, List.set_cons_zero, List.set_cons_succ, Nat.reduceAdd]
            refine RelyL.done fun ν w9 hL9 hF => ?_
            clear hF
            have hown9 := hown.lat hL9
            have hLW9 := hLW.trans hL9
            have hrx9 := hrx.below hL9 hbb
            obtain ⟨x1, x2, x3⟩ := X
            have hrx9e : RowAt w9 b (off + j * 3) [.int .i64 x1, .string x2, .string x3] := hrx9
            have hnewx := Blk.new w9 34 #[.int .i64 x1, .string x2, .string x3]
            have hownx := hown9.al (.cells #[.int .i64 x1, .string x2, .string x3] 34)
            have hLx : Lat w1 (w9.alloc (.cells #[.int .i64 x1, .string x2, .string x3] 34)) := hLW9.trans (Lat.al _ _)
            have hbsex := hLx.size
            have hmaxx : (acc).length + 1 ≤ maxLen := by unfold maxLen; simp; omega
            have hbyx : ((acc).length + 1) * EK.bytes ≤ 140737488355328 := Nat.le_trans (Nat.mul_le_mul_right EK.bytes (by simp; omega : (acc).length + 1 ≤ 1000000)) (by decide)
            have HTx := Lib.hid (fun k (hk : (u5).ownBlock = some k) => (hown9.lt k hk).1)
            clear hown hLW hL9 hrx hown9 hLW9 hrx9
            go_wp2_with (first | (with_reducible refine wpList_load_at rfl 34 _ rfl b (off + j * 3) rfl _ _ hrx9e Tryz.underlying34 rfl (by kernel_rfl) ?_) | (at_builtin; refine EK.append rfl _ _ rfl w1.heap.size (acc) _ rfl hownx w9.heap.size 1 (⟨x1, x2, x3⟩ : LKey) rfl 34 hnewx hmaxx hbyx hbsex ?_; intro v8 w8 hown8 hg8 hw8; go_must (have hLW8 : Lat w1 w8 := hLx.grown hg8 hbsex HTx.out; clear hnewx hg8 hw8 hrx9e)))
            go_roundw
            case rel => exact ⟨j + 1, false, acc ++ [⟨x1, x2, x3⟩], by omega, by go_num, rfl, Lib.hid (by simpa using HJ2.out), by (try simp) <;> omega, hown8, hLW8⟩
            case measure => simp [intOf]; omega
      · have hal : acc.length ≤ j + 1 := by simpa using hal
        simp only [Bool.not_true, Bool.false_and, Bool.false_eq_true, if_false, List.nil_append, Bool.true_or] at HJ
        go_wp2_with fail
        refine wp_rely (by kernel_rfl) (by kernel_rfl) ?_
        apply RelyL.val
        · intro ν w' hL hF K hK'
          go_simp
          exact hK'.out _ _ rfl (Lat.refl _)
        simp only [Act.put, List.setIfInBounds_toArray, List.set_cons_zero, List.set_cons_succ, Nat.reduceAdd]
        apply RelyL.val
        · intro ν w' hL hF K hK'
          go_simp
          exact hK'.out _ _ rfl (Lat.refl _)
        simp only [Act.put, List.setIfInBounds_toArray, List.set_cons_zero, List.set_cons_succ, Nat.reduceAdd]
        apply RelyL.val
        · intro ν w' hL hF K hK'
          go_simp
          exact hK'.out _ _ rfl (Lat.refl _)
        simp only [Act.put, List.setIfInBounds_toArray, List.set_cons_zero, List.set_cons_succ, Nat.reduceAdd]
        apply RelyL.val
        · intro ν w' hL hF K hK'
          refine skip_op rfl ?_
          exact hK'.out _ _ rfl (Lat.refl _)
        simp only [Act.put, List.setIfInBounds_toArray, List.set_cons_zero, List.set_cons_succ, Nat.reduceAdd]
        apply RelyL.val
        · intro ν w' hL hF K hK'
          refine skip_op rfl ?_
          exact hK'.out _ _ rfl (Lat.refl _)
        simp only [Act.put, List.setIfInBounds_toArray, List.set_cons_zero, List.set_cons_succ, Nat.reduceAdd]
        apply RelyL.val
        · intro ν w' hL hF K hK'
          refine skip_op rfl ?_
          exact hK'.out _ _ rfl (Lat.refl _)
        simp only [Act.put, List.setIfInBounds_toArray, List.set_cons_zero, List.set_cons_succ, Nat.reduceAdd]
        apply RelyL.val
        · intro ν w' hL hF K hK'
          refine skip_op rfl ?_
          exact hK'.out _ _ rfl (Lat.refl _)
        simp only [Act.put, List.setIfInBounds_toArray, List.set_cons_zero, List.set_cons_succ, Nat.reduceAdd]
        apply RelyL.val
        · intro ν w' hL hF K hK'
          refine skip_op rfl ?_
          exact hK'.out _ _ rfl (Lat.refl _)
        simp only [Act.put, List.setIfInBounds_toArray, List.set_cons_zero, List.set_cons_succ, Nat.reduceAdd]
        apply RelyL.val
        · intro ν w' hL hF K hK'
          refine skip_op rfl ?_
          exact hK'.out _ _ rfl (Lat.refl _)
        simp only [Act.put, List.setIfInBounds_toArray, List.set_cons_zero, List.set_cons_succ, Nat.reduceAdd]
        apply RelyL.val
        · intro ν w' hL hF K hK'
          refine skip_op rfl ?_
          exact hK'.out _ _ rfl (Lat.refl _)
        simp only [Act.put, List.setIfInBounds_toArray, List.set_cons_zero, List.set_cons_succ, Nat.reduceAdd]
        apply RelyL.val
        · intro ν w' hL hF K hK'
          go_simp
          exact hK'.out _ _ rfl (Lat.refl _)
        simp only [Act.put, List.setIfInBounds_toArray, List.set_cons_zero, List.set_cons_succ, Nat.reduceAdd]
        refine RelyL.done fun ν w5 hL5 hF => ?_
        clear hF
        have hown := hown.lat hL5
        have hLW := hLW.trans hL5
        have hrx := hrx.below hL5 hbb
        have hrb := hrb.below hL5 hgl
        have hbb := Nat.lt_of_lt_of_le hbb hL5.size
        have hgl := Nat.lt_of_lt_of_le hgl hL5.size
        clear HLS
        by_cases he : X = kk
        · have HE := Lib.hid (decide_eq_true he)
          have HJ2 := Lib.hid (HJ.out)
          rw [if_pos he] at HJ2
          clear HJ he
          go_wp2_with fail
          refine wp_rely (by kernel_rfl) (by kernel_rfl) ?_
          apply RelyL.val
          · intro ν w' hL hF K hK'
            go_simp
            exact hK'.out _ _ rfl (Lat.refl _)
          simp only [Act.put, List.setIfInBounds_toArray, List.set_cons_zero, List.set_cons_succ, Nat.reduceAdd]
          apply RelyL.val
          · intro ν w' hL hF K hK'
            go_simp
            exact hK'.out _ _ rfl (Lat.refl _)
          simp only [Act.put, List.setIfInBounds_toArray, List.set_cons_zero, List.set_cons_succ, Nat.reduceAdd]
          apply RelyL.val
          · intro ν w' hL hF K hK'
            go_simp
            exact hK'.out _ _ rfl (Lat.refl _)
          simp only [Act.put, List.setIfInBounds_toArray, List.set_cons_zero, List.set_cons_succ, Nat.reduceAdd]
          apply RelyL.val
          · intro ν w' hL hF K hK'
            refine take_op rfl ?_
            refine wp_load_at 34 _ rfl b ((off + j * 3)) rfl _ _ (hrx.below hL hbb) Tryz.underlying34 rfl (by kernel_rfl) ?_
            exact hK'.out _ _ rfl (Lat.refl _)
          simp only [Act.put, List.setIfInBounds_toArray, List.set_cons_zero, List.set_cons_succ, Nat.reduceAdd]
          apply RelyL.val
          · intro ν w' hL hF K hK'
            refine take_op rfl ?_
            refine wp_load_at 34 _ rfl g (0) rfl _ _ (hrb.below hL hgl) Tryz.underlying34 rfl (by kernel_rfl) ?_
            exact hK'.out _ _ rfl (Lat.refl _)
          simp only [Act.put, List.setIfInBounds_toArray, List.set_cons_zero, List.set_cons_succ, Nat.reduceAdd]
          apply RelyL.val
          · intro ν w' hL hF K hK'
            refine take_op rfl ?_
            refine wp_neq_k _ _ _ rfl X kk rfl rfl HE.out ?_
            exact hK'.out _ _ rfl (Lat.refl _)
          simp only [Act.put, List.setIfInBounds_toArray, List.set_cons_zero, List.set_cons_succ, Nat.reduceAdd]
          refine RelyL.done fun ν w9 hL9 hF => ?_
          clear hF
          have hown9 := hown.lat hL9
          have hLW9 := hLW.trans hL9
          have hrx9 := hrx.below hL9 hbb
          clear hown hLW hL9 hrx
          go_wp2_with fail
          go_roundw
          case rel => exact ⟨j + 1, true, acc, by omega, by go_num, rfl, Lib.hid (by simpa using HJ2.out), by (try simp) <;> omega, hown9, hLW9⟩
          case measure => simp [intOf]; omega
        · have HE := Lib.hid (decide_eq_false he)
          have HJ2 := Lib.hid (HJ.out)
          rw [if_neg he] at HJ2
          clear HJ he
          go_wp2_with fail
          refine wp_rely (by kernel_rfl) (by kernel_rfl) ?_
          apply RelyL.val
          · intro ν w' hL hF K hK'
            go_simp
            exact hK'.out _ _ rfl (Lat.refl _)
          simp only [Act.put, List.setIfInBounds_toArray, List.set_cons_zero, List.set_cons_succ, Nat.reduceAdd]
          apply RelyL.val
          · intro ν w' hL hF K hK'
            go_simp
            exact hK'.out _ _ rfl (Lat.refl _)
          simp only [Act.put, List.setIfInBounds_toArray, List.set_cons_zero, List.set_cons_succ, Nat.reduceAdd]
          apply RelyL.val
          · intro ν w' hL hF K hK'
            go_simp
            exact hK'.out _ _ rfl (Lat.refl _)
          simp only [Act.put, List.setIfInBounds_toArray, List.set_cons_zero, List.set_cons_succ, Nat.reduceAdd]
          apply RelyL.val
          · intro ν w' hL hF K hK'
            refine take_op rfl ?_
            refine wp_load_at 34 _ rfl b ((off + j * 3)) rfl _ _ (hrx.below hL hbb) Tryz.underlying34 rfl (by kernel_rfl) ?_
            exact hK'.out _ _ rfl (Lat.refl _)
          simp only [Act.put, List.setIfInBounds_toArray, List.set_cons_zero, List.set_cons_succ, Nat.reduceAdd]
          apply RelyL.val
          · intro ν w' hL hF K hK'
            refine take_op rfl ?_
            refine wp_load_at 34 _ rfl g (0) rfl _ _ (hrb.below hL hgl) Tryz.underlying34 rfl (by kernel_rfl) ?_
            exact hK'.out _ _ rfl (Lat.refl _)
          simp only [Act.put, List.setIfInBounds_toArray, List.set_cons_zero, List.set_cons_succ, Nat.reduceAdd]
          apply RelyL.val
          · intro ν w' hL hF K hK'
            refine take_op rfl ?_
            refine wp_neq_k _ _ _ rfl X kk rfl rfl HE.out ?_
            exact hK'.out _ _ rfl (Lat.refl _)
          simp only [Act.put, List.setIfInBounds_toArray, List.set_cons_zero, List.set_cons_succ, Nat.reduceAdd]
          refine RelyL.done fun ν w9 hL9 hF => ?_
          clear hF
          have hown9 := hown.lat hL9
          have hLW9 := hLW.trans hL9
          have hrx9 := hrx.below hL9 hbb
          obtain ⟨x1, x2, x3⟩ := X
          have hrx9e : RowAt w9 b (off + j * 3) [.int .i64 x1, .string x2, .string x3] := hrx9
          have hnewx := Blk.new w9 34 #[.int .i64 x1, .string x2, .string x3]
          have hownx := hown9.al (.cells #[.int .i64 x1, .string x2, .string x3] 34)
          have hLx : Lat w1 (w9.alloc (.cells #[.int .i64 x1, .string x2, .string x3] 34)) := hLW9.trans (Lat.al _ _)
          have hbsex := hLx.size
          have hmaxx : (acc).length + 1 ≤ maxLen := by unfold maxLen; simp; omega
          have hbyx : ((acc).length + 1) * EK.bytes ≤ 140737488355328 := Nat.le_trans (Nat.mul_le_mul_right EK.bytes (by simp; omega : (acc).length + 1 ≤ 1000000)) (by decide)
          have HTx := Lib.hid (fun k (hk : (u5).ownBlock = some k) => (hown9.lt k hk).1)
          clear hown hLW hL9 hrx hown9 hLW9 hrx9
          go_wp2_with (first | (with_reducible refine wpList_load_at rfl 34 _ rfl b (off + j * 3) rfl _ _ hrx9e Tryz.underlying34 rfl (by kernel_rfl) ?_) | (at_builtin; refine EK.append rfl _ _ rfl w1.heap.size (acc) _ rfl hownx w9.heap.size 1 (⟨x1, x2, x3⟩ : LKey) rfl 34 hnewx hmaxx hbyx hbsex ?_; intro v8 w8 hown8 hg8 hw8; go_must (have hLW8 : Lat w1 w8 := hLx.grown hg8 hbsex HTx.out; clear hnewx hg8 hw8 hrx9e)))
          go_roundw
          case rel => exact ⟨j + 1, true, acc ++ [⟨x1, x2, x3⟩], by omega, by go_num, rfl, Lib.hid (by simpa using HJ2.out), by (try simp) <;> omega, hown8, hLW8⟩
          case measure => simp [intOf]; omega
    · have hj : j = l.length := by omega
      subst hj
      rw [List.drop_of_length_le (Nat.le_refl _)] at HJ
      have hbk := hb0.lat hLW
      have hal : acc.length ≤ l.length + 1 := by cases d <;> simp at hal <;> omega
      cases d
      · have HJ2 : Hid (acc ++ [kk] = R) := Lib.hid (by simpa [putS] using HJ.out)
        clear HJ
        have hrb5 : RowAt wr g 0 [.int .i64 kk.dev, .string kk.cl, .string kk.at_] := (hbk).row
        have hnewk := Blk.new wr 34 #[.int .i64 kk.dev, .string kk.cl, .string kk.at_]
        have hownk := (hown).al (.cells #[.int .i64 kk.dev, .string kk.cl, .string kk.at_] 34)
        have hLk : Lat w1 ((wr).alloc (.cells #[.int .i64 kk.dev, .string kk.cl, .string kk.at_] 34)) := (hLW).trans (Lat.al _ _)
        have hbsek := hLk.size
        have hmaxk : acc.length + 1 ≤ maxLen := by unfold maxLen; omega
        have hbyk : (acc.length + 1) * EK.bytes ≤ 140737488355328 := Nat.le_trans (Nat.mul_le_mul_right EK.bytes (by omega : acc.length + 1 ≤ 1000000)) (by decide)
        have HTk := Lib.hid (fun k (hk : (u5).ownBlock = some k) => (hown.lt k hk).1)
        go_wp2_with (first | (with_reducible refine wpList_load_at rfl 34 _ rfl g 0 rfl _ _ hrb5 Tryz.underlying34 rfl (by kernel_rfl) ?_) | (at_builtin; refine EK.append rfl _ _ rfl w1.heap.size acc _ rfl hownk (wr).heap.size 1 kk rfl 34 hnewk hmaxk hbyk hbsek ?_; intro v6 w6 hown6 hg6 hw6; go_must (have hLW6 : Lat w1 w6 := hLk.grown hg6 hbsek HTk.out; clear hnewk hw6)))
        go_ret
        rw [← HJ2.out]
        exact ⟨_, rfl, hown6.mono hL0.size, hL0.trans hLW6⟩
      · have HJ2 : Hid (acc = R) := Lib.hid (by simpa [putS] using HJ.out)
        clear HJ
        go_wp2_with fail
        go_ret
        rw [← HJ2.out]
        exact ⟨_, rfl, hown.mono hL0.size, hL0.trans hLW⟩
end Go.Proofs.YtmgalnbacenbbaaGreat
