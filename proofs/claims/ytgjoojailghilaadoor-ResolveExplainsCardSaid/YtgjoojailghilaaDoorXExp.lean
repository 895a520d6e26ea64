/- Resolve: Explain, the reference's. -/
import Derived.Test.YtgjoojailghilaaDoorXTxt
set_option linter.unusedSimpArgs false
set_option linter.unusedVariables false
namespace Go.Proofs.YtgjoojailghilaaDoor
open Go.RowKit

theorem bytes_of {S : ByteArray} {l : List UInt8} (h : S.data.toList = l) : S = ⟨l.toArray⟩ := by
  subst h; cases S; rfl
set_option maxRecDepth 100000 in
set_option maxHeartbeats 8000000 in
theorem rexplain_any (d : LD) (A : Option Addr) (c : Nat) (T : LW → ByteArray) (it : ByteArray) (w : World) (hlos : EW.Rd w d.los (.slice A d.los.length c)) (hlen : d.los.length ≤ 1000)
    (hit : it.size ≤ 1000000000) (hcl : d.key.cl.size ≤ 1000000000) (hat : d.key.at_.size ≤ 1000000000) (hT : ∀ x ∈ d.win :: d.los, (T x).size ≤ 1000000000)
    (HI : ∀ w', Lat w w' → Calls Tryd.prog 45 #[.int .i64 d.key.dev] w' fun r w'' => r = .returned (.string it) ∧ Lat w' w'')
    (HTX : ∀ x ∈ d.win :: d.los, ∀ w', Lat w w' → Calls Tryd.prog 46 #[.agg (wC x).toArray] w' fun r w'' => r = .returned (.string (T x)) ∧ Lat w' w'') :
    Calls Tryd.prog 25 #[.agg (kC d.key ++ wC d.win ++ [Value.slice A d.los.length c, Value.int .i64 d.err]).toArray] w fun r w' => r = .returned (.string ⟨(explL T it d).toArray⟩) ∧ Lat w w' := by
  obtain ⟨⟨k1, k2, k3⟩, X, los, e⟩ := d
  have hTw := hT X (by simp)
  have HW0 := Lib.hid (HTX X (by simp))
  have HL0 := Lib.hid (fun (j : Nat) (hj : j < los.length) => And.intro (hT los[j] (by simp)) (HTX los[j] (by simp)))
  have HI0 := Lib.hid HI
  have HS : Hid (explL T it ⟨⟨k1, k2, k3⟩, X, los, e⟩ = preL e ++ (it ++ ⟨#[46]⟩ ++ k2 ++ ⟨#[46]⟩ ++ k3 ++ ⟨#[32, 61, 32]⟩ ++ T X).data.toList ++ overL T los) := Lib.hid rfl
  generalize explL T it ⟨⟨k1, k2, k3⟩, X, los, e⟩ = R at *
  generalize hTX : T X = tx at *
  clear HI HTX hT hTX
  obtain ⟨⟨x1, x2, x3⟩, ⟨x4, x5, x6⟩, x7, x8, x9, x10⟩ := X
  dsimp only at *
  simp only [wC, kC, vC, List.cons_append, List.nil_append] at HW0 ⊢
  have hbox := Blk.new w 44 #[.int .i64 k1, .string k2, .string k3, .int .i64 x1, .string x2, .string x3, .int .i64 x4, .int .i64 x5, .string x6, .int .i64 x7, .string x8, .int .i64 x9, .int .i64 x10, .slice A los.length c, .int .i64 e]
  have hLW1 : Lat w (w.alloc (.cells #[.int .i64 k1, .string k2, .string k3, .int .i64 x1, .string x2, .string x3, .int .i64 x4, .int .i64 x5, .string x6, .int .i64 x7, .string x8, .int .i64 x9, .int .i64 x10, .slice A los.length c, .int .i64 e] 44)) := Lat.al _ _
  have cx0 := hbox.cell
  go_enter Tryd.func25, Tryd.ntmps25
  by_cases he : e = 0
  · subst he
    go_wp2_with fail
    clear cx0
    have HPRE : Hid (preL 0 = (⟨#[]⟩ : ByteArray).data.toList) := Lib.hid rfl
    have hpre : (⟨#[]⟩ : ByteArray).size ≤ 9 := by decide
    generalize hw1 : (w.alloc (.cells #[.int .i64 k1, .string k2, .string k3, .int .i64 x1, .string x2, .string x3, .int .i64 x4, .int .i64 x5, .string x6, .int .i64 x7, .string x8, .int .i64 x9, .int .i64 x10, .slice A los.length c, .int .i64 0] 44)) = w1 at *
    clear hw1
    generalize hgg : w.heap.size = g at *
    clear hgg
    generalize (⟨#[]⟩ : ByteArray) = pre at *
    have hrW : RowAt w1 g 3 [.int .i64 x1, .string x2, .string x3, .int .i64 x4, .int .i64 x5, .string x6, .int .i64 x7, .string x8, .int .i64 x9, .int .i64 x10] := row_of_blk (l := (#[.int .i64 k1, .string k2, .string k3, .int .i64 x1, .string x2, .string x3, .int .i64 x4, .int .i64 x5, .string x6, .int .i64 x7, .string x8, .int .i64 x9, .int .i64 x10, .slice A los.length c, .int .i64 0]).toList) hbox 3 _ (fun i v hi => by
      match i, hi with
      | 0, hi => exact hi
      | 1, hi => exact hi
      | 2, hi => exact hi
      | 3, hi => exact hi
      | 4, hi => exact hi
      | 5, hi => exact hi
      | 6, hi => exact hi
      | 7, hi => exact hi
      | 8, hi => exact hi
      | 9, hi => exact hi
      | i + 10, hi => simp at hi)
    have hgl := hbox.lt
    have HI := fun w' (h : Lat w1 w') => Lib.hid (HI0.out w' (hLW1.trans h))
    have HTW := fun w' (h : Lat w1 w') => Lib.hid (HW0.out w' (hLW1.trans h))
    have z0 : ¬ (9223372036854775807 < pre.size + it.size) := by omega
    have z1 : ¬ (9223372036854775807 < pre.size + it.size + 1) := by omega
    have z2 : ¬ (9223372036854775807 < pre.size + it.size + 1 + k2.size) := by omega
    have z3 : ¬ (9223372036854775807 < pre.size + it.size + 1 + k2.size + 1) := by omega
    have z4 : ¬ (9223372036854775807 < pre.size + it.size + 1 + k2.size + 1 + k3.size) := by omega
    have z5 : ¬ (9223372036854775807 < pre.size + it.size + 1 + k2.size + 1 + k3.size + 3) := by omega
    have z6 : ¬ (9223372036854775807 < pre.size + it.size + 1 + k2.size + 1 + k3.size + 3 + tx.size) := by omega
    refine wp_rely (by kernel_rfl) (by kernel_rfl) ?_
    apply RelyL.val
    · intro ν w' hL hF K hK'
      have cx := (hbox.lat hL).cell
      go_simp
      exact hK'.out _ _ rfl (Lat.refl _)
    simp only [Act.put, List.setIfInBounds_toArray, List.set_cons_zero, List.set_cons_succ, Nat.reduceAdd]
    apply RelyL.val
    · intro ν w' hL hF K hK'
      have cx := (hbox.lat hL).cell
      go_simp
      exact hK'.out _ _ rfl (Lat.refl _)
    simp only [Act.put, List.setIfInBounds_toArray, List.set_cons_zero, List.set_cons_succ, Nat.reduceAdd]
    apply RelyL.val
    · intro ν w' hL hF K hK'
      have cx := (hbox.lat hL).cell
      go_simp
      exact hK'.out _ _ rfl (Lat.refl _)
    simp only [Act.put, List.setIfInBounds_toArray, List.set_cons_zero, List.set_cons_succ, Nat.reduceAdd]
    apply RelyL.val
    · intro ν w' hL hF K hK'
      have cx := (hbox.lat hL).cell
      go_simp
      exact hK'.out _ _ rfl (Lat.refl _)
    simp only [Act.put, List.setIfInBounds_toArray, List.set_cons_zero, List.set_cons_succ, Nat.reduceAdd]
    apply RelyL.val
    · intro ν w' hL hF K hK'
      have H := HI w' hL
      go_simp
      go_at_call 45
      refine H.out.mono ?_
      rintro r w'' ⟨rfl, hbp⟩
      exact hK'.out _ _ rfl hbp
    simp only [Act.put, List.setIfInBounds_toArray, List.set_cons_zero, List.set_cons_succ, Nat.reduceAdd]
    apply RelyL.val
    · intro ν w' hL hF K hK'
      have cx := (hbox.lat hL).cell
      go_simp
      exact hK'.out _ _ rfl (Lat.refl _)
    simp only [Act.put, List.setIfInBounds_toArray, List.set_cons_zero, List.set_cons_succ, Nat.reduceAdd]
    apply RelyL.val
    · intro ν w' hL hF K hK'
      have cx := (hbox.lat hL).cell
      go_simp
      exact hK'.out _ _ rfl (Lat.refl _)
    simp only [Act.put, List.setIfInBounds_toArray, List.set_cons_zero, List.set_cons_succ, Nat.reduceAdd]
    apply RelyL.val
    · intro ν w' hL hF K hK'
      have cx := (hbox.lat hL).cell
      go_simp
      exact hK'.out _ _ rfl (Lat.refl _)
    simp only [Act.put, List.setIfInBounds_toArray, List.set_cons_zero, List.set_cons_succ, Nat.reduceAdd]
    apply RelyL.val
    · intro ν w' hL hF K hK'
      have cx := (hbox.lat hL).cell
      go_simp
      exact hK'.out _ _ rfl (Lat.refl _)
    simp only [Act.put, List.setIfInBounds_toArray, List.set_cons_zero, List.set_cons_succ, Nat.reduceAdd]
    apply RelyL.val
    · intro ν w' hL hF K hK'
      have cx := (hbox.lat hL).cell
      go_simp
      exact hK'.out _ _ rfl (Lat.refl _)
    simp only [Act.put, List.setIfInBounds_toArray, List.set_cons_zero, List.set_cons_succ, Nat.reduceAdd]
    apply RelyL.val
    · intro ν w' hL hF K hK'
      have cx := (hbox.lat hL).cell
      go_simp
      exact hK'.out _ _ rfl (Lat.refl _)
    simp only [Act.put, List.setIfInBounds_toArray, List.set_cons_zero, List.set_cons_succ, Nat.reduceAdd]
    apply RelyL.val
    · intro ν w' hL hF K hK'
      have cx := (hbox.lat hL).cell
      go_simp
      exact hK'.out _ _ rfl (Lat.refl _)
    simp only [Act.put, List.setIfInBounds_toArray, List.set_cons_zero, List.set_cons_succ, Nat.reduceAdd]
    apply RelyL.val
    · intro ν w' hL hF K hK'
      have cx := (hbox.lat hL).cell
      go_simp
      exact hK'.out _ _ rfl (Lat.refl _)
    simp only [Act.put, List.setIfInBounds_toArray, List.set_cons_zero, List.set_cons_succ, Nat.reduceAdd]
    apply RelyL.val
    · intro ν w' hL hF K hK'
      have cx := (hbox.lat hL).cell
      go_simp
      exact hK'.out _ _ rfl (Lat.refl _)
    simp only [Act.put, List.setIfInBounds_toArray, List.set_cons_zero, List.set_cons_succ, Nat.reduceAdd]
    apply RelyL.val
    · intro ν w' hL hF K hK'
      have cx := (hbox.lat hL).cell
      go_simp
      exact hK'.out _ _ rfl (Lat.refl _)
    simp only [Act.put, List.setIfInBounds_toArray, List.set_cons_zero, List.set_cons_succ, Nat.reduceAdd]
    apply RelyL.val
    · intro ν w' hL hF K hK'
      have cx := (hbox.lat hL).cell
      go_simp
      exact hK'.out _ _ rfl (Lat.refl _)
    simp only [Act.put, List.setIfInBounds_toArray, List.set_cons_zero, List.set_cons_succ, Nat.reduceAdd]
    apply RelyL.val
    · intro ν w' hL hF K hK'
      have cx := (hbox.lat hL).cell
      go_simp
      exact hK'.out _ _ rfl (Lat.refl _)
    simp only [Act.put, List.setIfInBounds_toArray, List.set_cons_zero, List.set_cons_succ, Nat.reduceAdd]
    apply RelyL.val
    · intro ν w' hL hF K hK'
      have cx := (hbox.lat hL).cell
      go_simp
      exact hK'.out _ _ rfl (Lat.refl _)
    simp only [Act.put, List.setIfInBounds_toArray, List.set_cons_zero, List.set_cons_succ, Nat.reduceAdd]
    apply RelyL.val
    · intro ν w' hL hF K hK'
      refine take_op rfl ?_
      refine wp_load_at 29 _ rfl g (3) rfl _ _ (hrW.below hL hgl) Tryd.underlying29 rfl (by kernel_rfl) ?_
      exact hK'.out _ _ rfl (Lat.refl _)
    simp only [Act.put, List.setIfInBounds_toArray, List.set_cons_zero, List.set_cons_succ, Nat.reduceAdd]
    apply RelyL.val
    · intro ν w' hL hF K hK'
      have H := HTW w' hL
      go_simp
      go_at_call 46
      refine H.out.mono ?_
      rintro r w'' ⟨rfl, hbp⟩
      exact hK'.out _ _ rfl hbp
    simp only [Act.put, List.setIfInBounds_toArray, List.set_cons_zero, List.set_cons_succ, Nat.reduceAdd]
    apply RelyL.val
    · intro ν w' hL hF K hK'
      have cx := (hbox.lat hL).cell
      go_simp
      exact hK'.out _ _ rfl (Lat.refl _)
    simp only [Act.put, List.setIfInBounds_toArray, List.set_cons_zero, List.set_cons_succ, Nat.reduceAdd]
    apply RelyL.val
    · intro ν w' hL hF K hK'
      have cx := (hbox.lat hL).cell
      go_simp
      exact hK'.out _ _ rfl (Lat.refl _)
    simp only [Act.put, List.setIfInBounds_toArray, List.set_cons_zero, List.set_cons_succ, Nat.reduceAdd]
    refine RelyL.done fun ν w3 hL hF => ?_
    clear hF HI HTW z0 z1 z2 z3 z4 z5 z6
    have hds : (pre ++ it ++ (⟨#[46]⟩ : ByteArray) ++ k2 ++ (⟨#[46]⟩ : ByteArray) ++ k3 ++ (⟨#[32, 61, 32]⟩ : ByteArray) ++ tx).size = pre.size + it.size + 1 + k2.size + 1 + k3.size + 3 + tx.size := by rw [ByteArray.size_append, ByteArray.size_append, ByteArray.size_append, ByteArray.size_append, ByteArray.size_append, ByteArray.size_append, ByteArray.size_append]; rfl
    have hs0 : (pre ++ it ++ (⟨#[46]⟩ : ByteArray) ++ k2 ++ (⟨#[46]⟩ : ByteArray) ++ k3 ++ (⟨#[32, 61, 32]⟩ : ByteArray) ++ tx).size ≤ 5000000000 := by rw [hds]; omega
    have hRR : R = (pre ++ it ++ (⟨#[46]⟩ : ByteArray) ++ k2 ++ (⟨#[46]⟩ : ByteArray) ++ k3 ++ (⟨#[32, 61, 32]⟩ : ByteArray) ++ tx).data.toList ++ overL T los := HS.out.trans (by rw [HPRE.out]; simp [ByteArray.data_append])
    clear hds HS hrW hgl hpre hTw hcl hat hit HPRE HI0 HW0
    generalize (pre ++ it ++ (⟨#[46]⟩ : ByteArray) ++ k2 ++ (⟨#[46]⟩ : ByteArray) ++ k3 ++ (⟨#[32, 61, 32]⟩ : ByteArray) ++ tx) = S0 at *
    have HRR := Lib.hid hRR
    clear hRR
    have hbox3 := hbox.lat hL
    have hLW3 := hLW1.trans hL
    clear hbox hL hLW1
    have cx4 := hbox3.cell
    go_wp2_with fail
    go_loopw [3, 4] (fun s i wr => ∃ (j : Nat) (S : ByteArray), j ≤ los.length ∧ s = .string S ∧ i = .int .i64 j ∧ Hid (S.data.toList = S0.data.toList ++ overL T (los.take j)) ∧ S.size ≤ 5000000000 + j * 1000000006 ∧ Lat w3 wr) (fun _ i _ => los.length - (intOf i).toNat)
    case atStart => exact ⟨0, S0, Nat.zero_le _, rfl, rfl, Lib.hid (by simp [overL]), by omega, Lat.refl _⟩
    case round =>
      clear cx4
      obtain ⟨j, S, hjl, rfl, rfl, HJ, hsz, hLr⟩ := hrel
      have hLWr : Lat w wr := hLW3.trans hLr
      have cx5 := (hbox3.lat hLr).cell
      by_cases hlt : j < los.length
      · obtain ⟨b, off, hA, hb1, hr1'⟩ := (hlos.lat hLWr).row j hlt
        subst hA
        have hr1 : RowAt wr b (off + j * 10) (wC los[j]) := hr1'
        obtain ⟨hts, htx⟩ := HL0.out j hlt
        have htk := overL_take T los j hlt
        clear hr1'
        generalize hY : los[j] = Y at *
        generalize T Y = ty at *
        have HTY := Lib.hid (htx _ hLWr)
        obtain ⟨⟨y1, y2, y3⟩, ⟨y4, y5, y6⟩, y7, y8, y9, y10⟩ := Y
        simp only [wC, kC, vC, List.cons_append, List.nil_append] at hr1 HTY
        have z1 : ¬ (9223372036854775807 < S.size + 6) := by omega
        have z2 : ¬ (9223372036854775807 < S.size + 6 + ty.size) := by omega
        have hnew : (S ++ (⟨#[32, 111, 118, 101, 114, 32]⟩ : ByteArray) ++ ty).data.toList = S0.data.toList ++ overL T (los.take (j + 1)) := by
          rw [htk, ← List.append_assoc, ← HJ.out]
          simp [overS, ByteArray.data_append]
        have HNEW := Lib.hid hnew
        have hsz2 : (S ++ (⟨#[32, 111, 118, 101, 114, 32]⟩ : ByteArray) ++ ty).size ≤ 5000000000 + (j + 1) * 1000000006 := by
          rw [ByteArray.size_append, ByteArray.size_append, show (⟨#[32, 111, 118, 101, 114, 32]⟩ : ByteArray).size = 6 from rfl]; omega
        have HSZ := Lib.hid hsz2
        clear htk htx hY hnew hsz2 HJ HL0
        go_wp2_with (with_reducible refine wpList_load_at rfl 29 _ rfl b (off + j * 10) rfl _ _ hr1 Tryd.underlying29 rfl (by kernel_rfl) ?_)
        refine HTY.out.mono ?_
        rintro r w6 ⟨rfl, hl6⟩
        go_wp2_with fail
        go_roundw
        case rel => exact ⟨j + 1, _, by omega, rfl, by go_num, HNEW, HSZ.out, hLr.trans hl6⟩
        case measure => simp [intOf]; omega
      · have hj : j = los.length := by omega
        subst hj
        have hfin := HJ.out
        rw [List.take_length, ← HRR.out] at hfin
        have hfin2 := bytes_of hfin
        subst hfin2
        clear HJ HRR hfin HL0
        go_wp2_with fail
        go_ret
        exact ⟨rfl, hLWr⟩
  · have q5 : (e != 0) = true := bne_iff_ne.2 he
    have HPRE : Hid (preL e = (⟨#[98, 108, 111, 99, 107, 101, 100, 58, 32]⟩ : ByteArray).data.toList) := Lib.hid (by rw [preL, if_neg he])
    have hpre : (⟨#[98, 108, 111, 99, 107, 101, 100, 58, 32]⟩ : ByteArray).size ≤ 9 := by decide
    go_wp2_with fail
    clear cx0 q5 he
    generalize hw1 : (w.alloc (.cells #[.int .i64 k1, .string k2, .string k3, .int .i64 x1, .string x2, .string x3, .int .i64 x4, .int .i64 x5, .string x6, .int .i64 x7, .string x8, .int .i64 x9, .int .i64 x10, .slice A los.length c, .int .i64 e] 44)) = w1 at *
    clear hw1
    generalize hgg : w.heap.size = g at *
    clear hgg
    obtain ⟨pre, hpre0⟩ : ∃ pre, pre = (⟨#[98, 108, 111, 99, 107, 101, 100, 58, 32]⟩ : ByteArray) := ⟨_, rfl⟩
    rw [← hpre0] at hpre ⊢
    have HPRE : Hid (preL e = pre.data.toList) := Lib.hid (by rw [hpre0]; exact HPRE.out)
    clear hpre0
    have hrW : RowAt w1 g 3 [.int .i64 x1, .string x2, .string x3, .int .i64 x4, .int .i64 x5, .string x6, .int .i64 x7, .string x8, .int .i64 x9, .int .i64 x10] := row_of_blk (l := (#[.int .i64 k1, .string k2, .string k3, .int .i64 x1, .string x2, .string x3, .int .i64 x4, .int .i64 x5, .string x6, .int .i64 x7, .string x8, .int .i64 x9, .int .i64 x10, .slice A los.length c, .int .i64 e]).toList) hbox 3 _ (fun i v hi => by
      match i, hi with
      | 0, hi => exact hi
      | 1, hi => exact hi
      | 2, hi => exact hi
      | 3, hi => exact hi
      | 4, hi => exact hi
      | 5, hi => exact hi
      | 6, hi => exact hi
      | 7, hi => exact hi
      | 8, hi => exact hi
      | 9, hi => exact hi
      | i + 10, hi => simp at hi)
    have hgl := hbox.lt
    have HI := fun w' (h : Lat w1 w') => Lib.hid (HI0.out w' (hLW1.trans h))
    have HTW := fun w' (h : Lat w1 w') => Lib.hid (HW0.out w' (hLW1.trans h))
    have z0 : ¬ (9223372036854775807 < pre.size + it.size) := by omega
    have z1 : ¬ (9223372036854775807 < pre.size + it.size + 1) := by omega
    have z2 : ¬ (9223372036854775807 < pre.size + it.size + 1 + k2.size) := by omega
    have z3 : ¬ (9223372036854775807 < pre.size + it.size + 1 + k2.size + 1) := by omega
    have z4 : ¬ (9223372036854775807 < pre.size + it.size + 1 + k2.size + 1 + k3.size) := by omega
    have z5 : ¬ (9223372036854775807 < pre.size + it.size + 1 + k2.size + 1 + k3.size + 3) := by omega
    have z6 : ¬ (9223372036854775807 < pre.size + it.size + 1 + k2.size + 1 + k3.size + 3 + tx.size) := by omega
    refine wp_rely (by kernel_rfl) (by kernel_rfl) ?_
    apply RelyL.val
    · intro ν w' hL hF K hK'
      have cx := (hbox.lat hL).cell
      go_simp
      exact hK'.out _ _ rfl (Lat.refl _)
    simp only [Act.put, List.setIfInBounds_toArray, List.set_cons_zero, List.set_cons_succ, Nat.reduceAdd]
    apply RelyL.val
    · intro ν w' hL hF K hK'
      have cx := (hbox.lat hL).cell
      go_simp
      exact hK'.out _ _ rfl (Lat.refl _)
    simp only [Act.put, List.setIfInBounds_toArray, List.set_cons_zero, List.set_cons_succ, Nat.reduceAdd]
    apply RelyL.val
    · intro ν w' hL hF K hK'
      have cx := (hbox.lat hL).cell
      go_simp
      exact hK'.out _ _ rfl (Lat.refl _)
    simp only [Act.put, List.setIfInBounds_toArray, List.set_cons_zero, List.set_cons_succ, Nat.reduceAdd]
    apply RelyL.val
    · intro ν w' hL hF K hK'
      have cx := (hbox.lat hL).cell
      go_simp
      exact hK'.out _ _ rfl (Lat.refl _)
    simp only [Act.put, List.setIfInBounds_toArray, List.set_cons_zero, List.set_cons_succ, Nat.reduceAdd]
    apply RelyL.val
    · intro ν w' hL hF K hK'
      have H := HI w' hL
      go_simp
      go_at_call 45
      refine H.out.mono ?_
      rintro r w'' ⟨rfl, hbp⟩
      exact hK'.out _ _ rfl hbp
    simp only [Act.put, List.setIfInBounds_toArray, List.set_cons_zero, List.set_cons_succ, Nat.reduceAdd]
    apply RelyL.val
    · intro ν w' hL hF K hK'
      have cx := (hbox.lat hL).cell
      go_simp
      exact hK'.out _ _ rfl (Lat.refl _)
    simp only [Act.put, List.setIfInBounds_toArray, List.set_cons_zero, List.set_cons_succ, Nat.reduceAdd]
    apply RelyL.val
    · intro ν w' hL hF K hK'
      have cx := (hbox.lat hL).cell
      go_simp
      exact hK'.out _ _ rfl (Lat.refl _)
    simp only [Act.put, List.setIfInBounds_toArray, List.set_cons_zero, List.set_cons_succ, Nat.reduceAdd]
    apply RelyL.val
    · intro ν w' hL hF K hK'
      have cx := (hbox.lat hL).cell
      go_simp
      exact hK'.out _ _ rfl (Lat.refl _)
    simp only [Act.put, List.setIfInBounds_toArray, List.set_cons_zero, List.set_cons_succ, Nat.reduceAdd]
    apply RelyL.val
    · intro ν w' hL hF K hK'
      have cx := (hbox.lat hL).cell
      go_simp
      exact hK'.out _ _ rfl (Lat.refl _)
    simp only [Act.put, List.setIfInBounds_toArray, List.set_cons_zero, List.set_cons_succ, Nat.reduceAdd]
    apply RelyL.val
    · intro ν w' hL hF K hK'
      have cx := (hbox.lat hL).cell
      go_simp
      exact hK'.out _ _ rfl (Lat.refl _)
    simp only [Act.put, List.setIfInBounds_toArray, List.set_cons_zero, List.set_cons_succ, Nat.reduceAdd]
    apply RelyL.val
    · intro ν w' hL hF K hK'
      have cx := (hbox.lat hL).cell
      go_simp
      exact hK'.out _ _ rfl (Lat.refl _)
    simp only [Act.put, List.setIfInBounds_toArray, List.set_cons_zero, List.set_cons_succ, Nat.reduceAdd]
    apply RelyL.val
    · intro ν w' hL hF K hK'
      have cx := (hbox.lat hL).cell
      go_simp
      exact hK'.out _ _ rfl (Lat.refl _)
    simp only [Act.put, List.setIfInBounds_toArray, List.set_cons_zero, List.set_cons_succ, Nat.reduceAdd]
    apply RelyL.val
    · intro ν w' hL hF K hK'
      have cx := (hbox.lat hL).cell
      go_simp
      exact hK'.out _ _ rfl (Lat.refl _)
    simp only [Act.put, List.setIfInBounds_toArray, List.set_cons_zero, List.set_cons_succ, Nat.reduceAdd]
    apply RelyL.val
    · intro ν w' hL hF K hK'
      have cx := (hbox.lat hL).cell
      go_simp
      exact hK'.out _ _ rfl (Lat.refl _)
    simp only [Act.put, List.setIfInBounds_toArray, List.set_cons_zero, List.set_cons_succ, Nat.reduceAdd]
    apply RelyL.val
    · intro ν w' hL hF K hK'
      have cx := (hbox.lat hL).cell
      go_simp
      exact hK'.out _ _ rfl (Lat.refl _)
    simp only [Act.put, List.setIfInBounds_toArray, List.set_cons_zero, List.set_cons_succ, Nat.reduceAdd]
    apply RelyL.val
    · intro ν w' hL hF K hK'
      have cx := (hbox.lat hL).cell
      go_simp
      exact hK'.out _ _ rfl (Lat.refl _)
    simp only [Act.put, List.setIfInBounds_toArray, List.set_cons_zero, List.set_cons_succ, Nat.reduceAdd]
    apply RelyL.val
    · intro ν w' hL hF K hK'
      have cx := (hbox.lat hL).cell
      go_simp
      exact hK'.out _ _ rfl (Lat.refl _)
    simp only [Act.put, List.setIfInBounds_toArray, List.set_cons_zero, List.set_cons_succ, Nat.reduceAdd]
    apply RelyL.val
    · intro ν w' hL hF K hK'
      have cx := (hbox.lat hL).cell
      go_simp
      exact hK'.out _ _ rfl (Lat.refl _)
    simp only [Act.put, List.setIfInBounds_toArray, List.set_cons_zero, List.set_cons_succ, Nat.reduceAdd]
    apply RelyL.val
    · intro ν w' hL hF K hK'
      refine take_op rfl ?_
      refine wp_load_at 29 _ rfl g (3) rfl _ _ (hrW.below hL hgl) Tryd.underlying29 rfl (by kernel_rfl) ?_
      exact hK'.out _ _ rfl (Lat.refl _)
    simp only [Act.put, List.setIfInBounds_toArray, List.set_cons_zero, List.set_cons_succ, Nat.reduceAdd]
    apply RelyL.val
    · intro ν w' hL hF K hK'
      have H := HTW w' hL
      go_simp
      go_at_call 46
      refine H.out.mono ?_
      rintro r w'' ⟨rfl, hbp⟩
      exact hK'.out _ _ rfl hbp
    simp only [Act.put, List.setIfInBounds_toArray, List.set_cons_zero, List.set_cons_succ, Nat.reduceAdd]
    apply RelyL.val
    · intro ν w' hL hF K hK'
      have cx := (hbox.lat hL).cell
      go_simp
      exact hK'.out _ _ rfl (Lat.refl _)
    simp only [Act.put, List.setIfInBounds_toArray, List.set_cons_zero, List.set_cons_succ, Nat.reduceAdd]
    apply RelyL.val
    · intro ν w' hL hF K hK'
      have cx := (hbox.lat hL).cell
      go_simp
      exact hK'.out _ _ rfl (Lat.refl _)
    simp only [Act.put, List.setIfInBounds_toArray, List.set_cons_zero, List.set_cons_succ, Nat.reduceAdd]
    refine RelyL.done fun ν w3 hL hF => ?_
    clear hF HI HTW z0 z1 z2 z3 z4 z5 z6
    have hds : (pre ++ it ++ (⟨#[46]⟩ : ByteArray) ++ k2 ++ (⟨#[46]⟩ : ByteArray) ++ k3 ++ (⟨#[32, 61, 32]⟩ : ByteArray) ++ tx).size = pre.size + it.size + 1 + k2.size + 1 + k3.size + 3 + tx.size := by rw [ByteArray.size_append, ByteArray.size_append, ByteArray.size_append, ByteArray.size_append, ByteArray.size_append, ByteArray.size_append, ByteArray.size_append]; rfl
    have hs0 : (pre ++ it ++ (⟨#[46]⟩ : ByteArray) ++ k2 ++ (⟨#[46]⟩ : ByteArray) ++ k3 ++ (⟨#[32, 61, 32]⟩ : ByteArray) ++ tx).size ≤ 5000000000 := by rw [hds]; omega
    have hRR : R = (pre ++ it ++ (⟨#[46]⟩ : ByteArray) ++ k2 ++ (⟨#[46]⟩ : ByteArray) ++ k3 ++ (⟨#[32, 61, 32]⟩ : ByteArray) ++ tx).data.toList ++ overL T los := HS.out.trans (by rw [HPRE.out]; simp [ByteArray.data_append])
    clear hds HS hrW hgl hpre hTw hcl hat hit HPRE HI0 HW0
    generalize (pre ++ it ++ (⟨#[46]⟩ : ByteArray) ++ k2 ++ (⟨#[46]⟩ : ByteArray) ++ k3 ++ (⟨#[32, 61, 32]⟩ : ByteArray) ++ tx) = S0 at *
    have HRR := Lib.hid hRR
    clear hRR
    have hbox3 := hbox.lat hL
    have hLW3 := hLW1.trans hL
    clear hbox hL hLW1
    have cx4 := hbox3.cell
    go_wp2_with fail
    go_loopw [3, 4] (fun s i wr => ∃ (j : Nat) (S : ByteArray), j ≤ los.length ∧ s = .string S ∧ i = .int .i64 j ∧ Hid (S.data.toList = S0.data.toList ++ overL T (los.take j)) ∧ S.size ≤ 5000000000 + j * 1000000006 ∧ Lat w3 wr) (fun _ i _ => los.length - (intOf i).toNat)
    case atStart => exact ⟨0, S0, Nat.zero_le _, rfl, rfl, Lib.hid (by simp [overL]), by omega, Lat.refl _⟩
    case round =>
      clear cx4
      obtain ⟨j, S, hjl, rfl, rfl, HJ, hsz, hLr⟩ := hrel
      have hLWr : Lat w wr := hLW3.trans hLr
      have cx5 := (hbox3.lat hLr).cell
      by_cases hlt : j < los.length
      · obtain ⟨b, off, hA, hb1, hr1'⟩ := (hlos.lat hLWr).row j hlt
        subst hA
        have hr1 : RowAt wr b (off + j * 10) (wC los[j]) := hr1'
        obtain ⟨hts, htx⟩ := HL0.out j hlt
        have htk := overL_take T los j hlt
        clear hr1'
        generalize hY : los[j] = Y at *
        generalize T Y = ty at *
        have HTY := Lib.hid (htx _ hLWr)
        obtain ⟨⟨y1, y2, y3⟩, ⟨y4, y5, y6⟩, y7, y8, y9, y10⟩ := Y
        simp only [wC, kC, vC, List.cons_append, List.nil_append] at hr1 HTY
        have z1 : ¬ (9223372036854775807 < S.size + 6) := by omega
        have z2 : ¬ (9223372036854775807 < S.size + 6 + ty.size) := by omega
        have hnew : (S ++ (⟨#[32, 111, 118, 101, 114, 32]⟩ : ByteArray) ++ ty).data.toList = S0.data.toList ++ overL T (los.take (j + 1)) := by
          rw [htk, ← List.append_assoc, ← HJ.out]
          simp [overS, ByteArray.data_append]
        have HNEW := Lib.hid hnew
        have hsz2 : (S ++ (⟨#[32, 111, 118, 101, 114, 32]⟩ : ByteArray) ++ ty).size ≤ 5000000000 + (j + 1) * 1000000006 := by
          rw [ByteArray.size_append, ByteArray.size_append, show (⟨#[32, 111, 118, 101, 114, 32]⟩ : ByteArray).size = 6 from rfl]; omega
        have HSZ := Lib.hid hsz2
        clear htk htx hY hnew hsz2 HJ HL0
        go_wp2_with (with_reducible refine wpList_load_at rfl 29 _ rfl b (off + j * 10) rfl _ _ hr1 Tryd.underlying29 rfl (by kernel_rfl) ?_)
        refine HTY.out.mono ?_
        rintro r w6 ⟨rfl, hl6⟩
        go_wp2_with fail
        go_roundw
        case rel => exact ⟨j + 1, _, by omega, rfl, by go_num, HNEW, HSZ.out, hLr.trans hl6⟩
        case measure => simp [intOf]; omega
      · have hj : j = los.length := by omega
        subst hj
        have hfin := HJ.out
        rw [List.take_length, ← HRR.out] at hfin
        have hfin2 := bytes_of hfin
        subst hfin2
        clear HJ HRR hfin HL0
        go_wp2_with fail
        go_ret
        exact ⟨rfl, hLWr⟩
end Go.Proofs.YtgjoojailghilaaDoor
