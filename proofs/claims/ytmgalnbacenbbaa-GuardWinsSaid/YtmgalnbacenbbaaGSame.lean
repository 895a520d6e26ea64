/- Guard: SameWrites, SameKeys of equal lists. -/
import Derived.Test.YtmgalnbacenbbaaGRSort
set_option linter.unusedSimpArgs false
set_option linter.unusedVariables false
namespace Go.Proofs.Ytmgalnbacenbbaa
open Go.RowKit

theorem Elt.Own.small {α : Type} {E : Elt α} {w : World} {base : Nat} {xs : List α} {v : Value} (h : E.Own w base xs v) : xs.length ≤ 9223372036854775807 := by
  obtain ⟨hl, ⟨hv, h0⟩ | ⟨g, cap, cur, hv, hbg, hg, h1, h2, r⟩⟩ := h
  · omega
  · unfold maxLen at h2; omega
set_option maxRecDepth 100000 in
set_option maxHeartbeats 1000000 in
theorem sameW_same (l : List _) (A B : Option Addr) (c m : Nat) (w : World) (hx : EW.Rd w l (.slice A l.length c)) (hy : EW.Rd w l (.slice B l.length m)) (hbig : l.length ≤ 9223372036854775807) :
    Calls Try.prog 11 #[.slice A l.length c, .slice B l.length m] w fun r w' => r = .returned (.bool true) ∧ Lat w w' := by
  go_enter Try.func11, Try.ntmps11
  go_wp2_with fail
  go_loopw [5] (fun i wr => ∃ j : Nat, j ≤ l.length ∧ i = .int .i64 j ∧ Lat w wr) (fun i _ => l.length - (intOf i).toNat)
  case atStart => exact ⟨0, Nat.zero_le _, rfl, Lat.refl _⟩
  case round =>
    obtain ⟨j, hjl, rfl, hLW⟩ := hrel
    by_cases hlt : j < l.length
    · obtain ⟨b, off, hA, hbb, hr1'⟩ := (hx.lat hLW).row j hlt
      obtain ⟨b2, off2, hB, hbb2, hr2'⟩ := (hy.lat hLW).row j hlt
      subst hA hB
      have hr1 : RowAt wr b (off + j * 10) (wC l[j]) := hr1'
      have hr2 : RowAt wr b2 (off2 + j * 10) (wC l[j]) := hr2'
      clear hr1' hr2'
      generalize l[j] = X at *
      go_wp2_with fail
      refine wp_rely (by kernel_rfl) (by kernel_rfl) ?_
      apply RelyL.val
      · intro ν w' hL hF K hK'
        go_simp
        exact hK'.out _ _ rfl (Lat.refl _)
      simp only [Act.put, List.setIfInBounds_toArray, List.set_cons_zero, List.set_cons_succ, Nat.reduceAdd]
      apply RelyL.val
      · intro ν w' hL hF K hK'
        go_simp
        exact hK'.out _ _ rfl (Lat.refl _)
      simp only [Act.put, List.setIfInBounds_toArray, List.set_cons_zero, List.set_cons_succ, Nat.reduceAdd]
      apply RelyL.val
      · intro ν w' hL hF K hK'
        go_simp
        exact hK'.out _ _ rfl (Lat.refl _)
      simp only [Act.put, List.setIfInBounds_toArray, List.set_cons_zero, List.set_cons_succ, Nat.reduceAdd]
      apply RelyL.val
      · intro ν w' hL hF K hK'
        refine take_op rfl ?_
        refine wp_load_at 58 _ rfl b ((off + j * 10)) rfl _ _ (hr1.below hL hbb) Try.underlying58 rfl (by kernel_rfl) ?_
        exact hK'.out _ _ rfl (Lat.refl _)
      simp only [Act.put, List.setIfInBounds_toArray, List.set_cons_zero, List.set_cons_succ, Nat.reduceAdd]
      apply RelyL.val
      · intro ν w' hL hF K hK'
        go_simp
        exact hK'.out _ _ rfl (Lat.refl _)
      simp only [Act.put, List.setIfInBounds_toArray, List.set_cons_zero, List.set_cons_succ, Nat.reduceAdd]
      apply RelyL.val
      · intro ν w' hL hF K hK'
        go_simp
        exact hK'.out _ _ rfl (Lat.refl _)
      simp only [Act.put, List.setIfInBounds_toArray, List.set_cons_zero, List.set_cons_succ, Nat.reduceAdd]
      apply RelyL.val
      · intro ν w' hL hF K hK'
        go_simp
        exact hK'.out _ _ rfl (Lat.refl _)
      simp only [Act.put, List.setIfInBounds_toArray, List.set_cons_zero, List.set_cons_succ, Nat.reduceAdd]
      apply RelyL.val
      · intro ν w' hL hF K hK'
        refine take_op rfl ?_
        refine wp_load_at 58 _ rfl b2 ((off2 + j * 10)) rfl _ _ (hr2.below hL hbb2) Try.underlying58 rfl (by kernel_rfl) ?_
        exact hK'.out _ _ rfl (Lat.refl _)
      simp only [Act.put, List.setIfInBounds_toArray, List.set_cons_zero, List.set_cons_succ, Nat.reduceAdd]
      apply RelyL.val
      · intro ν w' hL hF K hK'
        refine take_op rfl ?_
        refine wp_neq_w _ _ _ rfl X X rfl rfl (decide_eq_true rfl) ?_
        exact hK'.out _ _ rfl (Lat.refl _)
      simp only [Act.put, List.setIfInBounds_toArray, List.set_cons_zero, List.set_cons_succ, Nat.reduceAdd]
      refine RelyL.done fun ν w4 hL hF => ?_
      clear hF
      have hL4 := hLW.trans hL
      go_wp2_with fail
      go_roundw
      case rel => exact ⟨j + 1, by omega, by go_num, hL4⟩
      case measure => simp [intOf]; omega
    · go_wp2_with fail
      go_ret
      exact ⟨rfl, hLW⟩
set_option maxRecDepth 100000 in
set_option maxHeartbeats 1000000 in
theorem sameK_same (l : List _) (A B : Option Addr) (c m : Nat) (w : World) (hx : EK.Rd w l (.slice A l.length c)) (hy : EK.Rd w l (.slice B l.length m)) (hbig : l.length ≤ 9223372036854775807) :
    Calls Try.prog 14 #[.slice A l.length c, .slice B l.length m] w fun r w' => r = .returned (.bool true) ∧ Lat w w' := by
  go_enter Try.func14, Try.ntmps14
  go_wp2_with fail
  go_loopw [5] (fun i wr => ∃ j : Nat, j ≤ l.length ∧ i = .int .i64 j ∧ Lat w wr) (fun i _ => l.length - (intOf i).toNat)
  case atStart => exact ⟨0, Nat.zero_le _, rfl, Lat.refl _⟩
  case round =>
    obtain ⟨j, hjl, rfl, hLW⟩ := hrel
    by_cases hlt : j < l.length
    · obtain ⟨b, off, hA, hbb, hr1'⟩ := (hx.lat hLW).row j hlt
      obtain ⟨b2, off2, hB, hbb2, hr2'⟩ := (hy.lat hLW).row j hlt
      subst hA hB
      have hr1 : RowAt wr b (off + j * 3) (kC l[j]) := hr1'
      have hr2 : RowAt wr b2 (off2 + j * 3) (kC l[j]) := hr2'
      clear hr1' hr2'
      generalize l[j] = X at *
      go_wp2_with fail
      refine wp_rely (by kernel_rfl) (by kernel_rfl) ?_
      apply RelyL.val
      · intro ν w' hL hF K hK'
        go_simp
        exact hK'.out _ _ rfl (Lat.refl _)
      simp only [Act.put, List.setIfInBounds_toArray, List.set_cons_zero, List.set_cons_succ, Nat.reduceAdd]
      apply RelyL.val
      · intro ν w' hL hF K hK'
        go_simp
        exact hK'.out _ _ rfl (Lat.refl _)
      simp only [Act.put, List.setIfInBounds_toArray, List.set_cons_zero, List.set_cons_succ, Nat.reduceAdd]
      apply RelyL.val
      · intro ν w' hL hF K hK'
        go_simp
        exact hK'.out _ _ rfl (Lat.refl _)
      simp only [Act.put, List.setIfInBounds_toArray, List.set_cons_zero, List.set_cons_succ, Nat.reduceAdd]
      apply RelyL.val
      · intro ν w' hL hF K hK'
        refine take_op rfl ?_
        refine wp_load_at 33 _ rfl b ((off + j * 3)) rfl _ _ (hr1.below hL hbb) Try.underlying33 rfl (by kernel_rfl) ?_
        exact hK'.out _ _ rfl (Lat.refl _)
      simp only [Act.put, List.setIfInBounds_toArray, List.set_cons_zero, List.set_cons_succ, Nat.reduceAdd]
      apply RelyL.val
      · intro ν w' hL hF K hK'
        go_simp
        exact hK'.out _ _ rfl (Lat.refl _)
      simp only [Act.put, List.setIfInBounds_toArray, List.set_cons_zero, List.set_cons_succ, Nat.reduceAdd]
      apply RelyL.val
      · intro ν w' hL hF K hK'
        go_simp
        exact hK'.out _ _ rfl (Lat.refl _)
      simp only [Act.put, List.setIfInBounds_toArray, List.set_cons_zero, List.set_cons_succ, Nat.reduceAdd]
      apply RelyL.val
      · intro ν w' hL hF K hK'
        go_simp
        exact hK'.out _ _ rfl (Lat.refl _)
      simp only [Act.put, List.setIfInBounds_toArray, List.set_cons_zero, List.set_cons_succ, Nat.reduceAdd]
      apply RelyL.val
      · intro ν w' hL hF K hK'
        refine take_op rfl ?_
        refine wp_load_at 33 _ rfl b2 ((off2 + j * 3)) rfl _ _ (hr2.below hL hbb2) Try.underlying33 rfl (by kernel_rfl) ?_
        exact hK'.out _ _ rfl (Lat.refl _)
      simp only [Act.put, List.setIfInBounds_toArray, List.set_cons_zero, List.set_cons_succ, Nat.reduceAdd]
      apply RelyL.val
      · intro ν w' hL hF K hK'
        refine take_op rfl ?_
        refine wp_neq_k _ _ _ rfl X X rfl rfl (decide_eq_true rfl) ?_
        exact hK'.out _ _ rfl (Lat.refl _)
      simp only [Act.put, List.setIfInBounds_toArray, List.set_cons_zero, List.set_cons_succ, Nat.reduceAdd]
      refine RelyL.done fun ν w4 hL hF => ?_
      clear hF
      have hL4 := hLW.trans hL
      go_wp2_with fail
      go_roundw
      case rel => exact ⟨j + 1, by omega, by go_num, hL4⟩
      case measure => simp [intOf]; omega
    · go_wp2_with fail
      go_ret
      exact ⟨rfl, hLW⟩
end Go.Proofs.Ytmgalnbacenbbaa
