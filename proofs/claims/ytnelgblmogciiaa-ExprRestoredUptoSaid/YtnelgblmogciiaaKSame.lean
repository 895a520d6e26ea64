/- Keys in order: SameKeys. -/
import Derived.Test.YtnelgblmogciiaaKPlain
import Derived.Test.YtnelgblmogciiaaREvB
set_option linter.unusedSimpArgs false
set_option linter.unusedVariables false
namespace Go.Proofs.Ytnelgblmogciiaa
open Go.RowKit

set_option maxRecDepth 100000 in
set_option maxHeartbeats 2000000 in
theorem samekeys_any (l1 l2 : List LKey) (A1 A2 : Option Addr) (c1 c2 B : Nat) (w : World) (hB : B ≤ w.heap.size) (h1 : IsRows B w 3 (l1.map kcells) A1) (h2 : IsRows B w 3 (l2.map kcells) A2) (hm : l1.length * 40 ≤ 140737488355328) :
    Calls Try.prog 33 #[.slice A1 l1.length c1, .slice A2 l2.length c2] w fun r w' => r = .returned (.bool (decide (l1 = l2))) ∧ Lat w w' := by
  by_cases hl : l1.length = l2.length
  rotate_left
  · have hd : decide (l1 = l2) = false := by simp only [decide_eq_false_iff_not]; exact fun h => hl (by rw [h])
    rw [hd]
    have hl' : ((l1.length : Int) != (l2.length : Int)) = true := by simp only [bne_iff_ne, ne_eq]; omega
    go_enter Try.func33, Try.ntmps33
    go_wp2_with fail
    go_ret
    exact ⟨rfl, Lat.refl _⟩
  have HL := Lib.hid hl
  have HD : Hid (decide (l1 = l2) = decide (l1.drop 0 = l2.drop 0)) := rfl
  generalize decide (l1 = l2) = D at *
  rw [← hl]
  clear hl
  go_enter Try.func33, Try.ntmps33
  go_wp2_with fail
  go_loopw [5] (fun i wr => ∃ k : Nat, k ≤ l1.length ∧ i = .int .i64 k ∧ Hid (D = decide (l1.drop k = l2.drop k)) ∧ Lat w wr) (fun i _ => l1.length - (intOf i).toNat)
  case atStart => exact ⟨0, Nat.zero_le _, rfl, HD, Lat.refl _⟩
  case round =>
    obtain ⟨k, hkl, rfl, HH, hL⟩ := hrel
    by_cases hlk : k < l1.length
    · have hk2 : k < l2.length := by have := HL.out; omega
      obtain ⟨b1, o1, rfl, hb1, hr1⟩ := h1 (by simp; omega)
      obtain ⟨b2, o2, rfl, hb2, hr2⟩ := h2 (by simp; omega)
      have hs := hL.size
      have g1 := (hr1 k (by simpa using hlk)).below hL (by omega)
      have g2 := (hr2 k (by simpa using hk2)).below hL (by omega)
      have hw1 : b1 < wr.heap.size := by omega
      have hw2 : b2 < wr.heap.size := by omega
      have hst := HH.out
      rw [List.drop_eq_getElem_cons hlk, List.drop_eq_getElem_cons hk2] at hst
      simp only [List.getElem_map] at g1 g2
      clear HH hr1 hr2 HD h1 h2
      generalize l1[k] = x at *
      generalize l2[k] = y at *
      clear hk2
      obtain ⟨x1, x2, x3⟩ := x
      obtain ⟨y1, y2, y3⟩ := y
      simp only [kcells] at g1 g2
      by_cases e1 : x1 = y1
      · by_cases e2 : x2 = y2
        · by_cases e3 : x3 = y3
          · subst e1 e2 e3
            have HST : Hid (D = decide (l1.drop (k + 1) = l2.drop (k + 1))) := by rw [Hid, hst]; simp
            clear hst
            go_upto_region 6 with fail
            refine wp_rely (by kernel_rfl) (by kernel_rfl) ?_
            apply RelyL.val
            · intro ν w' hL hF K hK
              go_simp
              exact hK.out _ _ rfl (Lat.refl _)
            simp only [Act.put, List.setIfInBounds_toArray, List.set_cons_zero, List.set_cons_succ, Nat.reduceAdd]
            apply RelyL.val
            · intro ν w' hL hF K hK
              go_simp
              exact hK.out _ _ rfl (Lat.refl _)
            simp only [Act.put, List.setIfInBounds_toArray, List.set_cons_zero, List.set_cons_succ, Nat.reduceAdd]
            apply RelyL.val
            · intro ν w' hL hF K hK
              go_simp
              exact hK.out _ _ rfl (Lat.refl _)
            simp only [Act.put, List.setIfInBounds_toArray, List.set_cons_zero, List.set_cons_succ, Nat.reduceAdd]
            apply RelyL.val
            · intro ν w' hL hF K hK
              refine take_op rfl ?_
              refine wp_load_at 29 _ rfl b1 (o1 + k * 3) rfl _ _ (g1.below hL hw1) Try.underlying29 rfl (by kernel_rfl) ?_
              exact hK.out _ _ rfl (Lat.refl _)
            simp only [Act.put, List.setIfInBounds_toArray, List.set_cons_zero, List.set_cons_succ, Nat.reduceAdd]
            apply RelyL.val
            · intro ν w' hL hF K hK
              go_simp
              exact hK.out _ _ rfl (Lat.refl _)
            simp only [Act.put, List.setIfInBounds_toArray, List.set_cons_zero, List.set_cons_succ, Nat.reduceAdd]
            apply RelyL.val
            · intro ν w' hL hF K hK
              go_simp
              exact hK.out _ _ rfl (Lat.refl _)
            simp only [Act.put, List.setIfInBounds_toArray, List.set_cons_zero, List.set_cons_succ, Nat.reduceAdd]
            apply RelyL.val
            · intro ν w' hL hF K hK
              go_simp
              exact hK.out _ _ rfl (Lat.refl _)
            simp only [Act.put, List.setIfInBounds_toArray, List.set_cons_zero, List.set_cons_succ, Nat.reduceAdd]
            apply RelyL.val
            · intro ν w' hL hF K hK
              refine take_op rfl ?_
              refine wp_load_at 29 _ rfl b2 (o2 + k * 3) rfl _ _ (g2.below hL hw2) Try.underlying29 rfl (by kernel_rfl) ?_
              exact hK.out _ _ rfl (Lat.refl _)
            simp only [Act.put, List.setIfInBounds_toArray, List.set_cons_zero, List.set_cons_succ, Nat.reduceAdd]
            apply RelyL.val
            · intro ν w' hL hF K hK
              go_simp
              exact hK.out _ _ rfl (Lat.refl _)
            simp only [Act.put, List.setIfInBounds_toArray, List.set_cons_zero, List.set_cons_succ, Nat.reduceAdd]
            refine RelyL.done fun ν w1 hL1 hF => ?_
            clear hF g1 g2
            have hL2 := hL.trans hL1
            clear hL1 hL
            go_wp2_with fail
            go_roundw
            case rel => exact ⟨k + 1, by omega, by go_num, HST, hL2⟩
            case measure => simp [intOf]; omega
          · have hD : D = false := by rw [hst]; simp [e3]
            clear hst
            subst e1 e2 hD
            obtain ⟨q1, q2, q3⟩ := sne e3
            go_upto_region 6 with fail
            refine wp_rely (by kernel_rfl) (by kernel_rfl) ?_
            apply RelyL.val
            · intro ν w' hL hF K hK
              go_simp
              exact hK.out _ _ rfl (Lat.refl _)
            simp only [Act.put, List.setIfInBounds_toArray, List.set_cons_zero, List.set_cons_succ, Nat.reduceAdd]
            apply RelyL.val
            · intro ν w' hL hF K hK
              go_simp
              exact hK.out _ _ rfl (Lat.refl _)
            simp only [Act.put, List.setIfInBounds_toArray, List.set_cons_zero, List.set_cons_succ, Nat.reduceAdd]
            apply RelyL.val
            · intro ν w' hL hF K hK
              go_simp
              exact hK.out _ _ rfl (Lat.refl _)
            simp only [Act.put, List.setIfInBounds_toArray, List.set_cons_zero, List.set_cons_succ, Nat.reduceAdd]
            apply RelyL.val
            · intro ν w' hL hF K hK
              refine take_op rfl ?_
              refine wp_load_at 29 _ rfl b1 (o1 + k * 3) rfl _ _ (g1.below hL hw1) Try.underlying29 rfl (by kernel_rfl) ?_
              exact hK.out _ _ rfl (Lat.refl _)
            simp only [Act.put, List.setIfInBounds_toArray, List.set_cons_zero, List.set_cons_succ, Nat.reduceAdd]
            apply RelyL.val
            · intro ν w' hL hF K hK
              go_simp
              exact hK.out _ _ rfl (Lat.refl _)
            simp only [Act.put, List.setIfInBounds_toArray, List.set_cons_zero, List.set_cons_succ, Nat.reduceAdd]
            apply RelyL.val
            · intro ν w' hL hF K hK
              go_simp
              exact hK.out _ _ rfl (Lat.refl _)
            simp only [Act.put, List.setIfInBounds_toArray, List.set_cons_zero, List.set_cons_succ, Nat.reduceAdd]
            apply RelyL.val
            · intro ν w' hL hF K hK
              go_simp
              exact hK.out _ _ rfl (Lat.refl _)
            simp only [Act.put, List.setIfInBounds_toArray, List.set_cons_zero, List.set_cons_succ, Nat.reduceAdd]
            apply RelyL.val
            · intro ν w' hL hF K hK
              refine take_op rfl ?_
              refine wp_load_at 29 _ rfl b2 (o2 + k * 3) rfl _ _ (g2.below hL hw2) Try.underlying29 rfl (by kernel_rfl) ?_
              exact hK.out _ _ rfl (Lat.refl _)
            simp only [Act.put, List.setIfInBounds_toArray, List.set_cons_zero, List.set_cons_succ, Nat.reduceAdd]
            apply RelyL.val
            · intro ν w' hL hF K hK
              go_simp
              exact hK.out _ _ rfl (Lat.refl _)
            simp only [Act.put, List.setIfInBounds_toArray, List.set_cons_zero, List.set_cons_succ, Nat.reduceAdd]
            refine RelyL.done fun ν w1 hL1 hF => ?_
            clear hF g1 g2
            have hL2 := hL.trans hL1
            clear hL1 hL
            go_wp2_with fail
            go_ret
            exact ⟨rfl, hL2⟩
        · have hD : D = false := by rw [hst]; simp [e2]
          clear hst
          subst e1 hD
          obtain ⟨q1, q2, q3⟩ := sne e2
          go_upto_region 6 with fail
          refine wp_rely (by kernel_rfl) (by kernel_rfl) ?_
          apply RelyL.val
          · intro ν w' hL hF K hK
            go_simp
            exact hK.out _ _ rfl (Lat.refl _)
          simp only [Act.put, List.setIfInBounds_toArray, List.set_cons_zero, List.set_cons_succ, Nat.reduceAdd]
          apply RelyL.val
          · intro ν w' hL hF K hK
            go_simp
            exact hK.out _ _ rfl (Lat.refl _)
          simp only [Act.put, List.setIfInBounds_toArray, List.set_cons_zero, List.set_cons_succ, Nat.reduceAdd]
          apply RelyL.val
          · intro ν w' hL hF K hK
            go_simp
            exact hK.out _ _ rfl (Lat.refl _)
          simp only [Act.put, List.setIfInBounds_toArray, List.set_cons_zero, List.set_cons_succ, Nat.reduceAdd]
          apply RelyL.val
          · intro ν w' hL hF K hK
            refine take_op rfl ?_
            refine wp_load_at 29 _ rfl b1 (o1 + k * 3) rfl _ _ (g1.below hL hw1) Try.underlying29 rfl (by kernel_rfl) ?_
            exact hK.out _ _ rfl (Lat.refl _)
          simp only [Act.put, List.setIfInBounds_toArray, List.set_cons_zero, List.set_cons_succ, Nat.reduceAdd]
          apply RelyL.val
          · intro ν w' hL hF K hK
            go_simp
            exact hK.out _ _ rfl (Lat.refl _)
          simp only [Act.put, List.setIfInBounds_toArray, List.set_cons_zero, List.set_cons_succ, Nat.reduceAdd]
          apply RelyL.val
          · intro ν w' hL hF K hK
            go_simp
            exact hK.out _ _ rfl (Lat.refl _)
          simp only [Act.put, List.setIfInBounds_toArray, List.set_cons_zero, List.set_cons_succ, Nat.reduceAdd]
          apply RelyL.val
          · intro ν w' hL hF K hK
            go_simp
            exact hK.out _ _ rfl (Lat.refl _)
          simp only [Act.put, List.setIfInBounds_toArray, List.set_cons_zero, List.set_cons_succ, Nat.reduceAdd]
          apply RelyL.val
          · intro ν w' hL hF K hK
            refine take_op rfl ?_
            refine wp_load_at 29 _ rfl b2 (o2 + k * 3) rfl _ _ (g2.below hL hw2) Try.underlying29 rfl (by kernel_rfl) ?_
            exact hK.out _ _ rfl (Lat.refl _)
          simp only [Act.put, List.setIfInBounds_toArray, List.set_cons_zero, List.set_cons_succ, Nat.reduceAdd]
          apply RelyL.val
          · intro ν w' hL hF K hK
            go_simp
            exact hK.out _ _ rfl (Lat.refl _)
          simp only [Act.put, List.setIfInBounds_toArray, List.set_cons_zero, List.set_cons_succ, Nat.reduceAdd]
          refine RelyL.done fun ν w1 hL1 hF => ?_
          clear hF g1 g2
          have hL2 := hL.trans hL1
          clear hL1 hL
          go_wp2_with fail
          go_ret
          exact ⟨rfl, hL2⟩
      · have hD : D = false := by rw [hst]; simp [e1]
        clear hst
        subst hD
        obtain ⟨q1, q2, q3⟩ := ine e1
        go_upto_region 6 with fail
        refine wp_rely (by kernel_rfl) (by kernel_rfl) ?_
        apply RelyL.val
        · intro ν w' hL hF K hK
          go_simp
          exact hK.out _ _ rfl (Lat.refl _)
        simp only [Act.put, List.setIfInBounds_toArray, List.set_cons_zero, List.set_cons_succ, Nat.reduceAdd]
        apply RelyL.val
        · intro ν w' hL hF K hK
          go_simp
          exact hK.out _ _ rfl (Lat.refl _)
        simp only [Act.put, List.setIfInBounds_toArray, List.set_cons_zero, List.set_cons_succ, Nat.reduceAdd]
        apply RelyL.val
        · intro ν w' hL hF K hK
          go_simp
          exact hK.out _ _ rfl (Lat.refl _)
        simp only [Act.put, List.setIfInBounds_toArray, List.set_cons_zero, List.set_cons_succ, Nat.reduceAdd]
        apply RelyL.val
        · intro ν w' hL hF K hK
          refine take_op rfl ?_
          refine wp_load_at 29 _ rfl b1 (o1 + k * 3) rfl _ _ (g1.below hL hw1) Try.underlying29 rfl (by kernel_rfl) ?_
          exact hK.out _ _ rfl (Lat.refl _)
        simp only [Act.put, List.setIfInBounds_toArray, List.set_cons_zero, List.set_cons_succ, Nat.reduceAdd]
        apply RelyL.val
        · intro ν w' hL hF K hK
          go_simp
          exact hK.out _ _ rfl (Lat.refl _)
        simp only [Act.put, List.setIfInBounds_toArray, List.set_cons_zero, List.set_cons_succ, Nat.reduceAdd]
        apply RelyL.val
        · intro ν w' hL hF K hK
          go_simp
          exact hK.out _ _ rfl (Lat.refl _)
        simp only [Act.put, List.setIfInBounds_toArray, List.set_cons_zero, List.set_cons_succ, Nat.reduceAdd]
        apply RelyL.val
        · intro ν w' hL hF K hK
          go_simp
          exact hK.out _ _ rfl (Lat.refl _)
        simp only [Act.put, List.setIfInBounds_toArray, List.set_cons_zero, List.set_cons_succ, Nat.reduceAdd]
        apply RelyL.val
        · intro ν w' hL hF K hK
          refine take_op rfl ?_
          refine wp_load_at 29 _ rfl b2 (o2 + k * 3) rfl _ _ (g2.below hL hw2) Try.underlying29 rfl (by kernel_rfl) ?_
          exact hK.out _ _ rfl (Lat.refl _)
        simp only [Act.put, List.setIfInBounds_toArray, List.set_cons_zero, List.set_cons_succ, Nat.reduceAdd]
        apply RelyL.val
        · intro ν w' hL hF K hK
          go_simp
          exact hK.out _ _ rfl (Lat.refl _)
        simp only [Act.put, List.setIfInBounds_toArray, List.set_cons_zero, List.set_cons_succ, Nat.reduceAdd]
        refine RelyL.done fun ν w1 hL1 hF => ?_
        clear hF g1 g2
        have hL2 := hL.trans hL1
        clear hL1 hL
        go_wp2_with fail
        go_ret
        exact ⟨rfl, hL2⟩
    · have hD : D = true := by
        rw [HH.out, List.drop_of_length_le (by omega), List.drop_of_length_le (by have := HL.out; omega)]
        rfl
      clear HH HD
      subst hD
      go_wp2_with fail
      go_ret
      exact ⟨rfl, hL⟩
end Go.Proofs.Ytnelgblmogciiaa
