/- Guard: two lists of decisions that say the same are the same to the reference; the law of Filter walked. -/
import Derived.Test.YtmgalnbacenbbaaGreatGRFilt
import Derived.Test.YtmgalnbacenbbaaGreatGMany
import Derived.Test.YtmgalnbacenbbaaGreatGLawSafe
set_option linter.unusedSimpArgs false
set_option linter.unusedVariables false
namespace Go.Proofs.YtmgalnbacenbbaaGreat
open Go.RowKit

set_option maxRecDepth 100000 in
set_option maxHeartbeats 8000000 in
theorem dsame_same (l : List LD) (A B : Option Addr) (c m : Nat) (w : World) (hx : RdD w l (.slice A l.length c)) (hy : RdD w l (.slice B l.length m)) (hbig : l.length ≤ 100000) (HSM : ∀ (j : Nat) (h : j < l.length), l[j].los.length ≤ 9223372036854775807) :
    Calls Tryz.prog 7 #[.slice A l.length c, .slice B l.length m] w fun r w' => r = .returned (.bool true) ∧ Lat w w' := by
  go_enter Tryz.func7, Tryz.ntmps7
  go_wp2_with fail
  go_loopw [5, 6] (fun i _ wr => ∃ j : Nat, j ≤ l.length ∧ i = .int .i64 j ∧ Lat w wr) (fun i _ _ => l.length - (intOf i).toNat)
  case atStart => exact ⟨0, Nat.zero_le _, rfl, Lat.refl _⟩
  case round =>
    obtain ⟨j, hjl, rfl, hLW⟩ := hrel
    by_cases hlt : j < l.length
    · obtain ⟨b, off, A1, n1, c1, hA, hb1, hr1, hlo1⟩ := (hx.lat hLW).row j hlt
      obtain ⟨b', off', A2, n2, c2, hB, hb2, hr2, hlo2⟩ := (hy.lat hLW).row j hlt
      subst hA hB
      have hlo1' := hlo1
      have hlo2' := hlo2
      obtain ⟨_, _, hv, _⟩ := hlo1'
      injection hv with e1 e2 e3
      subst e2
      obtain ⟨_, _, hv, _⟩ := hlo2'
      injection hv with e4 e5 e6
      subst e5
      clear e1 e3 e4 e6
      have hk1 := dec_key hr1
      have hk2 := dec_key hr2
      have hw1 := dec_win hr1
      have hw2 := dec_win hr2
      obtain ⟨h13, h14⟩ := dec_los hr1
      obtain ⟨k13, k14⟩ := dec_los hr2
      have hsm := HSM j hlt
      generalize l[j] = X at *
      clear hr1 hr2
      go_wp2_with fail
      refine wp_rely (by kernel_rfl) (by kernel_rfl) ?_
      apply RelyL.val
      · intro ν w' hL hF K hK'
        go_simp
        exact hK'.out _ _ rfl (Lat.refl _)
      simp only [Act.put, List.setIfInBounds_toArray, List.set_cons_zero, List.set_cons_succ, Nat.reduceAdd]
      apply RelyL.val
      · intro ν w' hL hF K hK'
        go_simp
        exact hK'.out _ _ rfl (Lat.refl _)
      simp only [Act.put, List.setIfInBounds_toArray, List.set_cons_zero, List.set_cons_succ, Nat.reduceAdd]
      apply RelyL.val
      · intro ν w' hL hF K hK'
        go_simp
        exact hK'.out _ _ rfl (Lat.refl _)
      simp only [Act.put, List.setIfInBounds_toArray, List.set_cons_zero, List.set_cons_succ, Nat.reduceAdd]
      apply RelyL.val
      · intro ν w' hL hF K hK'
        go_simp
        exact hK'.out _ _ rfl (Lat.refl _)
      simp only [Act.put, List.setIfInBounds_toArray, List.set_cons_zero, List.set_cons_succ, Nat.reduceAdd]
      apply RelyL.val
      · intro ν w' hL hF K hK'
        refine take_op rfl ?_
        refine wp_load_at 34 _ rfl b ((off + j * 15)) rfl _ _ (hk1.below hL hb1) Tryz.underlying34 rfl (by kernel_rfl) ?_
        exact hK'.out _ _ rfl (Lat.refl _)
      simp only [Act.put, List.setIfInBounds_toArray, List.set_cons_zero, List.set_cons_succ, Nat.reduceAdd]
      apply RelyL.val
      · intro ν w' hL hF K hK'
        go_simp
        exact hK'.out _ _ rfl (Lat.refl _)
      simp only [Act.put, List.setIfInBounds_toArray, List.set_cons_zero, List.set_cons_succ, Nat.reduceAdd]
      apply RelyL.val
      · intro ν w' hL hF K hK'
        go_simp
        exact hK'.out _ _ rfl (Lat.refl _)
      simp only [Act.put, List.setIfInBounds_toArray, List.set_cons_zero, List.set_cons_succ, Nat.reduceAdd]
      apply RelyL.val
      · intro ν w' hL hF K hK'
        go_simp
        exact hK'.out _ _ rfl (Lat.refl _)
      simp only [Act.put, List.setIfInBounds_toArray, List.set_cons_zero, List.set_cons_succ, Nat.reduceAdd]
      apply RelyL.val
      · intro ν w' hL hF K hK'
        go_simp
        exact hK'.out _ _ rfl (Lat.refl _)
      simp only [Act.put, List.setIfInBounds_toArray, List.set_cons_zero, List.set_cons_succ, Nat.reduceAdd]
      apply RelyL.val
      · intro ν w' hL hF K hK'
        refine take_op rfl ?_
        refine wp_load_at 34 _ rfl b' ((off' + j * 15)) rfl _ _ (hk2.below hL hb2) Tryz.underlying34 rfl (by kernel_rfl) ?_
        exact hK'.out _ _ rfl (Lat.refl _)
      simp only [Act.put, List.setIfInBounds_toArray, List.set_cons_zero, List.set_cons_succ, Nat.reduceAdd]
      apply RelyL.val
      · intro ν w' hL hF K hK'
        refine take_op rfl ?_
        refine wp_neq_k _ _ _ rfl X.key X.key rfl rfl (decide_eq_true rfl) ?_
        exact hK'.out _ _ rfl (Lat.refl _)
      simp only [Act.put, List.setIfInBounds_toArray, List.set_cons_zero, List.set_cons_succ, Nat.reduceAdd]
      apply RelyL.val
      · intro ν w' hL hF K hK'
        go_simp
        exact hK'.out _ _ rfl (Lat.refl _)
      simp only [Act.put, List.setIfInBounds_toArray, List.set_cons_zero, List.set_cons_succ, Nat.reduceAdd]
      apply RelyL.val
      · intro ν w' hL hF K hK'
        go_simp
        exact hK'.out _ _ rfl (Lat.refl _)
      simp only [Act.put, List.setIfInBounds_toArray, List.set_cons_zero, List.set_cons_succ, Nat.reduceAdd]
      apply RelyL.val
      · intro ν w' hL hF K hK'
        go_simp
        exact hK'.out _ _ rfl (Lat.refl _)
      simp only [Act.put, List.setIfInBounds_toArray, List.set_cons_zero, List.set_cons_succ, Nat.reduceAdd]
      apply RelyL.val
      · intro ν w' hL hF K hK'
        go_simp
        exact hK'.out _ _ rfl (Lat.refl _)
      simp only [Act.put, List.setIfInBounds_toArray, List.set_cons_zero, List.set_cons_succ, Nat.reduceAdd]
      apply RelyL.val
      · intro ν w' hL hF K hK'
        go_simp
        exact hK'.out _ _ rfl (Lat.refl _)
      simp only [Act.put, List.setIfInBounds_toArray, List.set_cons_zero, List.set_cons_succ, Nat.reduceAdd]
      apply RelyL.val
      · intro ν w' hL hF K hK'
        refine take_op rfl ?_
        refine wp_load_at 44 _ rfl b ((off + j * 15 + 3)) rfl _ _ (hw1.below hL hb1) Tryz.underlying44 rfl (by kernel_rfl) ?_
        exact hK'.out _ _ rfl (Lat.refl _)
      simp only [Act.put, List.setIfInBounds_toArray, List.set_cons_zero, List.set_cons_succ, Nat.reduceAdd]
      apply RelyL.val
      · intro ν w' hL hF K hK'
        go_simp
        exact hK'.out _ _ rfl (Lat.refl _)
      simp only [Act.put, List.setIfInBounds_toArray, List.set_cons_zero, List.set_cons_succ, Nat.reduceAdd]
      apply RelyL.val
      · intro ν w' hL hF K hK'
        go_simp
        exact hK'.out _ _ rfl (Lat.refl _)
      simp only [Act.put, List.setIfInBounds_toArray, List.set_cons_zero, List.set_cons_succ, Nat.reduceAdd]
      apply RelyL.val
      · intro ν w' hL hF K hK'
        go_simp
        exact hK'.out _ _ rfl (Lat.refl _)
      simp only [Act.put, List.setIfInBounds_toArray, List.set_cons_zero, List.set_cons_succ, Nat.reduceAdd]
      apply RelyL.val
      · intro ν w' hL hF K hK'
        go_simp
        exact hK'.out _ _ rfl (Lat.refl _)
      simp only [Act.put, List.setIfInBounds_toArray, List.set_cons_zero, List.set_cons_succ, Nat.reduceAdd]
      apply RelyL.val
      · intro ν w' hL hF K hK'
        refine take_op rfl ?_
        refine wp_load_at 44 _ rfl b' ((off' + j * 15 + 3)) rfl _ _ (hw2.below hL hb2) Tryz.underlying44 rfl (by kernel_rfl) ?_
        exact hK'.out _ _ rfl (Lat.refl _)
      simp only [Act.put, List.setIfInBounds_toArray, List.set_cons_zero, List.set_cons_succ, Nat.reduceAdd]
      apply RelyL.val
      · intro ν w' hL hF K hK'
        refine take_op rfl ?_
        refine wp_neq_w _ _ _ rfl X.win X.win rfl rfl (decide_eq_true rfl) ?_
        exact hK'.out _ _ rfl (Lat.refl _)
      simp only [Act.put, List.setIfInBounds_toArray, List.set_cons_zero, List.set_cons_succ, Nat.reduceAdd]
      apply RelyL.val
      · intro ν w' hL hF K hK'
        go_simp
        exact hK'.out _ _ rfl (Lat.refl _)
      simp only [Act.put, List.setIfInBounds_toArray, List.set_cons_zero, List.set_cons_succ, Nat.reduceAdd]
      apply RelyL.val
      · intro ν w' hL hF K hK'
        go_simp
        exact hK'.out _ _ rfl (Lat.refl _)
      simp only [Act.put, List.setIfInBounds_toArray, List.set_cons_zero, List.set_cons_succ, Nat.reduceAdd]
      apply RelyL.val
      · intro ν w' hL hF K hK'
        go_simp
        exact hK'.out _ _ rfl (Lat.refl _)
      simp only [Act.put, List.setIfInBounds_toArray, List.set_cons_zero, List.set_cons_succ, Nat.reduceAdd]
      apply RelyL.val
      · intro ν w' hL hF K hK'
        go_simp
        exact hK'.out _ _ rfl (Lat.refl _)
      simp only [Act.put, List.setIfInBounds_toArray, List.set_cons_zero, List.set_cons_succ, Nat.reduceAdd]
      apply RelyL.val
      · intro ν w' hL hF K hK'
        go_simp
        exact hK'.out _ _ rfl (Lat.refl _)
      simp only [Act.put, List.setIfInBounds_toArray, List.set_cons_zero, List.set_cons_succ, Nat.reduceAdd]
      apply RelyL.val
      · intro ν w' hL hF K hK'
        go_simp
        exact hK'.out _ _ rfl (Lat.refl _)
      simp only [Act.put, List.setIfInBounds_toArray, List.set_cons_zero, List.set_cons_succ, Nat.reduceAdd]
      apply RelyL.val
      · intro ν w' hL hF K hK'
        have c14 := (hL.cell (p := ⟨b, off + j * 15 + 14, none⟩) hb1).trans h14
        have d14 := (hL.cell (p := ⟨b', off' + j * 15 + 14, none⟩) hb2).trans k14
        have c13 := (hL.cell (p := ⟨b, off + j * 15 + 13, none⟩) hb1).trans h13
        have d13 := (hL.cell (p := ⟨b', off' + j * 15 + 13, none⟩) hb2).trans k13
        go_simp
        exact hK'.out _ _ rfl (Lat.refl _)
      simp only [Act.put, List.setIfInBounds_toArray, List.set_cons_zero, List.set_cons_succ, Nat.reduceAdd]
      apply RelyL.val
      · intro ν w' hL hF K hK'
        go_simp
        exact hK'.out _ _ rfl (Lat.refl _)
      simp only [Act.put, List.setIfInBounds_toArray, List.set_cons_zero, List.set_cons_succ, Nat.reduceAdd]
      apply RelyL.val
      · intro ν w' hL hF K hK'
        go_simp
        exact hK'.out _ _ rfl (Lat.refl _)
      simp only [Act.put, List.setIfInBounds_toArray, List.set_cons_zero, List.set_cons_succ, Nat.reduceAdd]
      apply RelyL.val
      · intro ν w' hL hF K hK'
        go_simp
        exact hK'.out _ _ rfl (Lat.refl _)
      simp only [Act.put, List.setIfInBounds_toArray, List.set_cons_zero, List.set_cons_succ, Nat.reduceAdd]
      apply RelyL.val
      · intro ν w' hL hF K hK'
        go_simp
        exact hK'.out _ _ rfl (Lat.refl _)
      simp only [Act.put, List.setIfInBounds_toArray, List.set_cons_zero, List.set_cons_succ, Nat.reduceAdd]
      apply RelyL.val
      · intro ν w' hL hF K hK'
        have c14 := (hL.cell (p := ⟨b, off + j * 15 + 14, none⟩) hb1).trans h14
        have d14 := (hL.cell (p := ⟨b', off' + j * 15 + 14, none⟩) hb2).trans k14
        have c13 := (hL.cell (p := ⟨b, off + j * 15 + 13, none⟩) hb1).trans h13
        have d13 := (hL.cell (p := ⟨b', off' + j * 15 + 13, none⟩) hb2).trans k13
        go_simp
        exact hK'.out _ _ rfl (Lat.refl _)
      simp only [Act.put, List.setIfInBounds_toArray, List.set_cons_zero, List.set_cons_succ, Nat.reduceAdd]
      apply RelyL.val
      · intro ν w' hL hF K hK'
        go_simp
        exact hK'.out _ _ rfl (Lat.refl _)
      simp only [Act.put, List.setIfInBounds_toArray, List.set_cons_zero, List.set_cons_succ, Nat.reduceAdd]
      apply RelyL.val
      · intro ν w' hL hF K hK'
        go_simp
        exact hK'.out _ _ rfl (Lat.refl _)
      simp only [Act.put, List.setIfInBounds_toArray, List.set_cons_zero, List.set_cons_succ, Nat.reduceAdd]
      apply RelyL.val
      · intro ν w' hL hF K hK'
        go_simp
        exact hK'.out _ _ rfl (Lat.refl _)
      simp only [Act.put, List.setIfInBounds_toArray, List.set_cons_zero, List.set_cons_succ, Nat.reduceAdd]
      apply RelyL.val
      · intro ν w' hL hF K hK'
        go_simp
        exact hK'.out _ _ rfl (Lat.refl _)
      simp only [Act.put, List.setIfInBounds_toArray, List.set_cons_zero, List.set_cons_succ, Nat.reduceAdd]
      apply RelyL.val
      · intro ν w' hL hF K hK'
        go_simp
        exact hK'.out _ _ rfl (Lat.refl _)
      simp only [Act.put, List.setIfInBounds_toArray, List.set_cons_zero, List.set_cons_succ, Nat.reduceAdd]
      apply RelyL.val
      · intro ν w' hL hF K hK'
        go_simp
        exact hK'.out _ _ rfl (Lat.refl _)
      simp only [Act.put, List.setIfInBounds_toArray, List.set_cons_zero, List.set_cons_succ, Nat.reduceAdd]
      apply RelyL.val
      · intro ν w' hL hF K hK'
        go_simp
        exact hK'.out _ _ rfl (Lat.refl _)
      simp only [Act.put, List.setIfInBounds_toArray, List.set_cons_zero, List.set_cons_succ, Nat.reduceAdd]
      apply RelyL.val
      · intro ν w' hL hF K hK'
        have c14 := (hL.cell (p := ⟨b, off + j * 15 + 14, none⟩) hb1).trans h14
        have d14 := (hL.cell (p := ⟨b', off' + j * 15 + 14, none⟩) hb2).trans k14
        have c13 := (hL.cell (p := ⟨b, off + j * 15 + 13, none⟩) hb1).trans h13
        have d13 := (hL.cell (p := ⟨b', off' + j * 15 + 13, none⟩) hb2).trans k13
        go_simp
        exact hK'.out _ _ rfl (Lat.refl _)
      simp only [Act.put, List.setIfInBounds_toArray, List.set_cons_zero, List.set_cons_succ, Nat.reduceAdd]
      apply RelyL.val
      · intro ν w' hL hF K hK'
        go_simp
        exact hK'.out _ _ rfl (Lat.refl _)
      simp only [Act.put, List.setIfInBounds_toArray, List.set_cons_zero, List.set_cons_succ, Nat.reduceAdd]
      apply RelyL.val
      · intro ν w' hL hF K hK'
        go_simp
        exact hK'.out _ _ rfl (Lat.refl _)
      simp only [Act.put, List.setIfInBounds_toArray, List.set_cons_zero, List.set_cons_succ, Nat.reduceAdd]
      apply RelyL.val
      · intro ν w' hL hF K hK'
        go_simp
        exact hK'.out _ _ rfl (Lat.refl _)
      simp only [Act.put, List.setIfInBounds_toArray, List.set_cons_zero, List.set_cons_succ, Nat.reduceAdd]
      apply RelyL.val
      · intro ν w' hL hF K hK'
        go_simp
        exact hK'.out _ _ rfl (Lat.refl _)
      simp only [Act.put, List.setIfInBounds_toArray, List.set_cons_zero, List.set_cons_succ, Nat.reduceAdd]
      apply RelyL.val
      · intro ν w' hL hF K hK'
        go_simp
        exact hK'.out _ _ rfl (Lat.refl _)
      simp only [Act.put, List.setIfInBounds_toArray, List.set_cons_zero, List.set_cons_succ, Nat.reduceAdd]
      apply RelyL.val
      · intro ν w' hL hF K hK'
        have c14 := (hL.cell (p := ⟨b, off + j * 15 + 14, none⟩) hb1).trans h14
        have d14 := (hL.cell (p := ⟨b', off' + j * 15 + 14, none⟩) hb2).trans k14
        have c13 := (hL.cell (p := ⟨b, off + j * 15 + 13, none⟩) hb1).trans h13
        have d13 := (hL.cell (p := ⟨b', off' + j * 15 + 13, none⟩) hb2).trans k13
        go_simp
        exact hK'.out _ _ rfl (Lat.refl _)
      simp only [Act.put, List.setIfInBounds_toArray, List.set_cons_zero, List.set_cons_succ, Nat.reduceAdd]
      apply RelyL.val
      · intro ν w' hL hF K hK'
        go_simp
        exact hK'.out _ _ rfl (Lat.refl _)
      simp only [Act.put, List.setIfInBounds_toArray, List.set_cons_zero, List.set_cons_succ, Nat.reduceAdd]
      apply RelyL.val
      · intro ν w' hL hF K hK'
        go_simp
        exact hK'.out _ _ rfl (Lat.refl _)
      simp only [Act.put, List.setIfInBounds_toArray, List.set_cons_zero, List.set_cons_succ, Nat.reduceAdd]
      apply RelyL.val
      · intro ν w' hL hF K hK'
        go_simp
        exact hK'.out _ _ rfl (Lat.refl _)
      simp only [Act.put, List.setIfInBounds_toArray, List.set_cons_zero, List.set_cons_succ, Nat.reduceAdd]
      refine RelyL.done fun ν w4 hL hF => ?_
      clear hF
      have hLW4 := hLW.trans hL
      have h13' := (hL.cell (p := ⟨b, off + j * 15 + 13, none⟩) hb1).trans h13
      have k13' := (hL.cell (p := ⟨b', off' + j * 15 + 13, none⟩) hb2).trans k13
      have hlo3 := hlo1.lat hL
      have hlo4 := hlo2.lat hL
      have hb3 := Nat.lt_of_lt_of_le hb1 hL.size
      have hb4 := Nat.lt_of_lt_of_le hb2 hL.size
      clear hL hk1 hk2 hw1 hw2 h13 h14 k13 k14 hlo1 hlo2 hb1 hb2 hLW
      go_wp2_with fail
      go_loopw [6] (fun k wr2 => ∃ n : Nat, n ≤ X.los.length ∧ k = .int .i64 n ∧ Lat w4 wr2) (fun k _ => X.los.length - (intOf k).toNat)
      case atStart => exact ⟨0, Nat.zero_le _, rfl, Lat.refl _⟩
      case round =>
        obtain ⟨n, hnl, rfl, hL5⟩ := hrel
        have i13 := (hL5.cell (p := ⟨b, off + j * 15 + 13, none⟩) hb3).trans h13'
        have m13 := (hL5.cell (p := ⟨b', off' + j * 15 + 13, none⟩) hb4).trans k13'
        have hLW5 := hLW4.trans hL5
        have hb5 := Nat.lt_of_lt_of_le hb3 hL5.size
        have hb6 := Nat.lt_of_lt_of_le hb4 hL5.size
        by_cases hn : n < X.los.length
        · obtain ⟨bl, ol, hAl, hbl, hr3'⟩ := (hlo3.lat hL5).row n hn
          obtain ⟨bl', ol', hBl, hbl', hr4'⟩ := (hlo4.lat hL5).row n hn
          subst hAl hBl
          have hr3 : RowAt wr bl (ol + n * 10) (wC X.los[n]) := hr3'
          have hr4 : RowAt wr bl' (ol' + n * 10) (wC X.los[n]) := hr4'
          clear hr3' hr4' hlo3 hlo4 h13' k13'
          go_wp2_with fail
          refine wp_rely (by kernel_rfl) (by kernel_rfl) ?_
          apply RelyL.val
          · intro ν w' hL hF K hK'
            go_simp
            exact hK'.out _ _ rfl (Lat.refl _)
          simp only [Act.put, List.setIfInBounds_toArray, List.set_cons_zero, List.set_cons_succ, Nat.reduceAdd]
          apply RelyL.val
          · intro ν w' hL hF K hK'
            go_simp
            exact hK'.out _ _ rfl (Lat.refl _)
          simp only [Act.put, List.setIfInBounds_toArray, List.set_cons_zero, List.set_cons_succ, Nat.reduceAdd]
          apply RelyL.val
          · intro ν w' hL hF K hK'
            go_simp
            exact hK'.out _ _ rfl (Lat.refl _)
          simp only [Act.put, List.setIfInBounds_toArray, List.set_cons_zero, List.set_cons_succ, Nat.reduceAdd]
          apply RelyL.val
          · intro ν w' hL hF K hK'
            go_simp
            exact hK'.out _ _ rfl (Lat.refl _)
          simp only [Act.put, List.setIfInBounds_toArray, List.set_cons_zero, List.set_cons_succ, Nat.reduceAdd]
          apply RelyL.val
          · intro ν w' hL hF K hK'
            have c13 := (hL.cell (p := ⟨b, off + j * 15 + 13, none⟩) hb5).trans i13
            have d13 := (hL.cell (p := ⟨b', off' + j * 15 + 13, none⟩) hb6).trans m13
            go_simp
            exact hK'.out _ _ rfl (Lat.refl _)
          simp only [Act.put, List.setIfInBounds_toArray, List.set_cons_zero, List.set_cons_succ, Nat.reduceAdd]
          apply RelyL.val
          · intro ν w' hL hF K hK'
            go_simp
            exact hK'.out _ _ rfl (Lat.refl _)
          simp only [Act.put, List.setIfInBounds_toArray, List.set_cons_zero, List.set_cons_succ, Nat.reduceAdd]
          apply RelyL.val
          · intro ν w' hL hF K hK'
            go_simp
            exact hK'.out _ _ rfl (Lat.refl _)
          simp only [Act.put, List.setIfInBounds_toArray, List.set_cons_zero, List.set_cons_succ, Nat.reduceAdd]
          apply RelyL.val
          · intro ν w' hL hF K hK'
            refine take_op rfl ?_
            refine wp_load_at 44 _ rfl bl ((ol + n * 10)) rfl _ _ (hr3.below hL hbl) Tryz.underlying44 rfl (by kernel_rfl) ?_
            exact hK'.out _ _ rfl (Lat.refl _)
          simp only [Act.put, List.setIfInBounds_toArray, List.set_cons_zero, List.set_cons_succ, Nat.reduceAdd]
          apply RelyL.val
          · intro ν w' hL hF K hK'
            go_simp
            exact hK'.out _ _ rfl (Lat.refl _)
          simp only [Act.put, List.setIfInBounds_toArray, List.set_cons_zero, List.set_cons_succ, Nat.reduceAdd]
          apply RelyL.val
          · intro ν w' hL hF K hK'
            go_simp
            exact hK'.out _ _ rfl (Lat.refl _)
          simp only [Act.put, List.setIfInBounds_toArray, List.set_cons_zero, List.set_cons_succ, Nat.reduceAdd]
          apply RelyL.val
          · intro ν w' hL hF K hK'
            go_simp
            exact hK'.out _ _ rfl (Lat.refl _)
          simp only [Act.put, List.setIfInBounds_toArray, List.set_cons_zero, List.set_cons_succ, Nat.reduceAdd]
          apply RelyL.val
          · intro ν w' hL hF K hK'
            go_simp
            exact hK'.out _ _ rfl (Lat.refl _)
          simp only [Act.put, List.setIfInBounds_toArray, List.set_cons_zero, List.set_cons_succ, Nat.reduceAdd]
          apply RelyL.val
          · intro ν w' hL hF K hK'
            have c13 := (hL.cell (p := ⟨b, off + j * 15 + 13, none⟩) hb5).trans i13
            have d13 := (hL.cell (p := ⟨b', off' + j * 15 + 13, none⟩) hb6).trans m13
            go_simp
            exact hK'.out _ _ rfl (Lat.refl _)
          simp only [Act.put, List.setIfInBounds_toArray, List.set_cons_zero, List.set_cons_succ, Nat.reduceAdd]
          apply RelyL.val
          · intro ν w' hL hF K hK'
            go_simp
            exact hK'.out _ _ rfl (Lat.refl _)
          simp only [Act.put, List.setIfInBounds_toArray, List.set_cons_zero, List.set_cons_succ, Nat.reduceAdd]
          apply RelyL.val
          · intro ν w' hL hF K hK'
            go_simp
            exact hK'.out _ _ rfl (Lat.refl _)
          simp only [Act.put, List.setIfInBounds_toArray, List.set_cons_zero, List.set_cons_succ, Nat.reduceAdd]
          apply RelyL.val
          · intro ν w' hL hF K hK'
            refine take_op rfl ?_
            refine wp_load_at 44 _ rfl bl' ((ol' + n * 10)) rfl _ _ (hr4.below hL hbl') Tryz.underlying44 rfl (by kernel_rfl) ?_
            exact hK'.out _ _ rfl (Lat.refl _)
          simp only [Act.put, List.setIfInBounds_toArray, List.set_cons_zero, List.set_cons_succ, Nat.reduceAdd]
          apply RelyL.val
          · intro ν w' hL hF K hK'
            refine take_op rfl ?_
            refine wp_neq_w _ _ _ rfl X.los[n] X.los[n] rfl rfl (decide_eq_true rfl) ?_
            exact hK'.out _ _ rfl (Lat.refl _)
          simp only [Act.put, List.setIfInBounds_toArray, List.set_cons_zero, List.set_cons_succ, Nat.reduceAdd]
          refine RelyL.done fun ν w6 hL hF => ?_
          clear hF
          have hL6 := hL5.trans hL
          clear hL hr3 hr4 i13 m13
          go_wp2_with fail
          go_roundw
          case rel => exact ⟨n + 1, by omega, by go_num, hL6⟩
          case measure => simp [intOf]; omega
        · have hn' : n = X.los.length := by omega
          subst hn'
          clear hlo3 hlo4 h13' k13'
          go_wp2_with fail
          go_roundw
          case rel => exact ⟨j + 1, by omega, by go_num, hLW5⟩
          case measure => simp [intOf]; omega
    · have hj : j = l.length := by omega
      subst hj
      go_wp2_with fail
      go_ret
      exact ⟨rfl, hLW⟩
end Go.Proofs.YtmgalnbacenbbaaGreat
