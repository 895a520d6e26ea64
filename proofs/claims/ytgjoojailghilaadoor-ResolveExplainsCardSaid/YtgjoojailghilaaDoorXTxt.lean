/- Resolve: the text of a write, the reference's; its Explain. -/
import Derived.Test.YtgjoojailghilaaDoorVExpl
set_option linter.unusedSimpArgs false
set_option linter.unusedVariables false
namespace Go.Proofs.YtgjoojailghilaaDoor
open Go.RowKit

set_option maxRecDepth 100000 in
set_option maxHeartbeats 4000000 in
theorem rtext_any (x : LW) (p it : ByteArray) (w : World) (hp : p.size ≤ 1000000000) (hit : it.size ≤ 1000000000) (hcn : x.cn.size ≤ 1000000000) (HP0 : ∀ w', Lat w w' → Calls Tryd.prog 57 #[.agg (vC x.val).toArray] w' fun r w'' => r = .returned (.string p) ∧ Lat w' w'')
    (HI0 : ∀ w', Lat w w' → Calls Tryd.prog 45 #[.int .i64 x.cp] w' fun r w'' => r = .returned (.string it) ∧ Lat w' w'') :
    Calls Tryd.prog 46 #[.agg (wC x).toArray] w fun r w' => r = .returned (.string (textS p it x)) ∧ Lat w w' := by
  have hS : textS p it x = p ++ ⟨#[32, 98, 121, 32]⟩ ++ wordS x.ck ++ ⟨#[32]⟩ ++ x.cn ++ ⟨#[32, 40, 112, 114, 105, 111, 114, 105, 116, 121, 32]⟩ ++ it ++ ⟨#[41]⟩ := rfl
  have HS := Lib.hid hS
  clear hS
  generalize textS p it x = R at *
  obtain ⟨⟨x1, x2, x3⟩, ⟨x4, x5, x6⟩, x7, x8, x9, x10⟩ := x
  dsimp only at HP0 HI0 HS hcn
  simp only [wC, kC, vC, List.cons_append, List.nil_append] at *
  by_cases h1 : x7 = 1
  · subst h1
    have hw : wordS 1 = ⟨#[101, 110, 101, 114, 103, 121]⟩ := by rfl
    have hws : (⟨#[101, 110, 101, 114, 103, 121]⟩ : ByteArray).size ≤ 6 := by decide
    rw [hw] at HS
    clear hw
    have hx := Blk.new w 29 #[.int .i64 x1, .string x2, .string x3, .int .i64 x4, .int .i64 x5, .string x6, .int .i64 1, .string x8, .int .i64 x9, .int .i64 x10]
    have hL0 : Lat w (w.alloc (.cells #[.int .i64 x1, .string x2, .string x3, .int .i64 x4, .int .i64 x5, .string x6, .int .i64 1, .string x8, .int .i64 x9, .int .i64 x10] 29)) := Lat.al _ _
    have HP := fun w' (h : Lat (w.alloc (.cells #[.int .i64 x1, .string x2, .string x3, .int .i64 x4, .int .i64 x5, .string x6, .int .i64 1, .string x8, .int .i64 x9, .int .i64 x10] 29)) w') => Lib.hid (HP0 w' (hL0.trans h))
    have HI := fun w' (h : Lat (w.alloc (.cells #[.int .i64 x1, .string x2, .string x3, .int .i64 x4, .int .i64 x5, .string x6, .int .i64 1, .string x8, .int .i64 x9, .int .i64 x10] 29)) w') => Lib.hid (HI0 w' (hL0.trans h))
    clear HP0 HI0
    go_enter Tryd.func46, Tryd.ntmps46
    go_wp2_with fail
    have hrV : RowAt (w.alloc (.cells #[.int .i64 x1, .string x2, .string x3, .int .i64 x4, .int .i64 x5, .string x6, .int .i64 1, .string x8, .int .i64 x9, .int .i64 x10] 29)) w.heap.size 3 [.int .i64 x4, .int .i64 x5, .string x6] := row_of_blk (l := (#[.int .i64 x1, .string x2, .string x3, .int .i64 x4, .int .i64 x5, .string x6, .int .i64 1, .string x8, .int .i64 x9, .int .i64 x10] : Array Value).toList) hx 3 _ (fun i v hi => by
      match i, hi with
      | 0, hi => exact hi
      | 1, hi => exact hi
      | 2, hi => exact hi
      | i + 3, hi => simp at hi)
    have hlt := hx.lt
    generalize w.heap.size = g at *
    generalize (w.alloc (.cells #[.int .i64 x1, .string x2, .string x3, .int .i64 x4, .int .i64 x5, .string x6, .int .i64 1, .string x8, .int .i64 x9, .int .i64 x10] 29)) = w1 at *
    generalize (⟨#[101, 110, 101, 114, 103, 121]⟩ : ByteArray) = W at *
    have z1 : ¬ (9223372036854775807 < p.size + 4) := by omega
    have z2 : ¬ (9223372036854775807 < p.size + 4 + W.size) := by omega
    have z3 : ¬ (9223372036854775807 < p.size + 4 + W.size + 1) := by omega
    have z4 : ¬ (9223372036854775807 < p.size + 4 + W.size + 1 + x8.size) := by omega
    have z5 : ¬ (9223372036854775807 < p.size + 4 + W.size + 1 + x8.size + 11) := by omega
    have z6 : ¬ (9223372036854775807 < p.size + 4 + W.size + 1 + x8.size + 11 + it.size) := by omega
    have z7 : ¬ (9223372036854775807 < p.size + 4 + W.size + 1 + x8.size + 11 + it.size + 1) := by omega
    clear hp hit hcn hws
    (try clear h4)
    (try clear h3)
    (try clear h2)
    (try clear h1)
    refine wp_rely (by kernel_rfl) (by kernel_rfl) ?_
    apply RelyL.val
    · intro ν w' hL hF K hK'
      have cx := (hx.lat hL).cell
      go_simp
      exact hK'.out _ _ rfl (Lat.refl _)
    simp only [Act.put, List.setIfInBounds_toArray, List.set_cons_zero, List.set_cons_succ, Nat.reduceAdd]
    apply RelyL.val
    · intro ν w' hL hF K hK'
      refine take_op rfl ?_
      refine wp_load_at 25 _ rfl g (3) rfl _ _ (hrV.below hL hlt) Tryd.underlying25 rfl (by kernel_rfl) ?_
      exact hK'.out _ _ rfl (Lat.refl _)
    simp only [Act.put, List.setIfInBounds_toArray, List.set_cons_zero, List.set_cons_succ, Nat.reduceAdd]
    apply RelyL.val
    · intro ν w' hL hF K hK'
      have H := HP w' hL
      go_simp
      go_at_call 57
      refine H.out.mono ?_
      rintro r w'' ⟨rfl, hbp⟩
      exact hK'.out _ _ rfl hbp
    simp only [Act.put, List.setIfInBounds_toArray, List.set_cons_zero, List.set_cons_succ, Nat.reduceAdd]
    apply RelyL.val
    · intro ν w' hL hF K hK'
      have cx := (hx.lat hL).cell
      go_simp
      exact hK'.out _ _ rfl (Lat.refl _)
    simp only [Act.put, List.setIfInBounds_toArray, List.set_cons_zero, List.set_cons_succ, Nat.reduceAdd]
    apply RelyL.val
    · intro ν w' hL hF K hK'
      have cx := (hx.lat hL).cell
      go_simp
      exact hK'.out _ _ rfl (Lat.refl _)
    simp only [Act.put, List.setIfInBounds_toArray, List.set_cons_zero, List.set_cons_succ, Nat.reduceAdd]
    apply RelyL.val
    · intro ν w' hL hF K hK'
      have cx := (hx.lat hL).cell
      go_simp
      exact hK'.out _ _ rfl (Lat.refl _)
    simp only [Act.put, List.setIfInBounds_toArray, List.set_cons_zero, List.set_cons_succ, Nat.reduceAdd]
    apply RelyL.val
    · intro ν w' hL hF K hK'
      have cx := (hx.lat hL).cell
      go_simp
      exact hK'.out _ _ rfl (Lat.refl _)
    simp only [Act.put, List.setIfInBounds_toArray, List.set_cons_zero, List.set_cons_succ, Nat.reduceAdd]
    apply RelyL.val
    · intro ν w' hL hF K hK'
      have cx := (hx.lat hL).cell
      go_simp
      exact hK'.out _ _ rfl (Lat.refl _)
    simp only [Act.put, List.setIfInBounds_toArray, List.set_cons_zero, List.set_cons_succ, Nat.reduceAdd]
    apply RelyL.val
    · intro ν w' hL hF K hK'
      have cx := (hx.lat hL).cell
      go_simp
      exact hK'.out _ _ rfl (Lat.refl _)
    simp only [Act.put, List.setIfInBounds_toArray, List.set_cons_zero, List.set_cons_succ, Nat.reduceAdd]
    apply RelyL.val
    · intro ν w' hL hF K hK'
      have cx := (hx.lat hL).cell
      go_simp
      exact hK'.out _ _ rfl (Lat.refl _)
    simp only [Act.put, List.setIfInBounds_toArray, List.set_cons_zero, List.set_cons_succ, Nat.reduceAdd]
    apply RelyL.val
    · intro ν w' hL hF K hK'
      have cx := (hx.lat hL).cell
      go_simp
      exact hK'.out _ _ rfl (Lat.refl _)
    simp only [Act.put, List.setIfInBounds_toArray, List.set_cons_zero, List.set_cons_succ, Nat.reduceAdd]
    apply RelyL.val
    · intro ν w' hL hF K hK'
      have cx := (hx.lat hL).cell
      go_simp
      exact hK'.out _ _ rfl (Lat.refl _)
    simp only [Act.put, List.setIfInBounds_toArray, List.set_cons_zero, List.set_cons_succ, Nat.reduceAdd]
    apply RelyL.val
    · intro ν w' hL hF K hK'
      have cx := (hx.lat hL).cell
      go_simp
      exact hK'.out _ _ rfl (Lat.refl _)
    simp only [Act.put, List.setIfInBounds_toArray, List.set_cons_zero, List.set_cons_succ, Nat.reduceAdd]
    apply RelyL.val
    · intro ν w' hL hF K hK'
      have cx := (hx.lat hL).cell
      go_simp
      exact hK'.out _ _ rfl (Lat.refl _)
    simp only [Act.put, List.setIfInBounds_toArray, List.set_cons_zero, List.set_cons_succ, Nat.reduceAdd]
    apply RelyL.val
    · intro ν w' hL hF K hK'
      have cx := (hx.lat hL).cell
      go_simp
      exact hK'.out _ _ rfl (Lat.refl _)
    simp only [Act.put, List.setIfInBounds_toArray, List.set_cons_zero, List.set_cons_succ, Nat.reduceAdd]
    apply RelyL.val
    · intro ν w' hL hF K hK'
      have H := HI w' hL
      go_simp
      go_at_call 45
      refine H.out.mono ?_
      rintro r w'' ⟨rfl, hbp⟩
      exact hK'.out _ _ rfl hbp
    simp only [Act.put, List.setIfInBounds_toArray, List.set_cons_zero, List.set_cons_succ, Nat.reduceAdd]
    apply RelyL.val
    · intro ν w' hL hF K hK'
      have cx := (hx.lat hL).cell
      go_simp
      exact hK'.out _ _ rfl (Lat.refl _)
    simp only [Act.put, List.setIfInBounds_toArray, List.set_cons_zero, List.set_cons_succ, Nat.reduceAdd]
    apply RelyL.val
    · intro ν w' hL hF K hK'
      have cx := (hx.lat hL).cell
      go_simp
      exact hK'.out _ _ rfl (Lat.refl _)
    simp only [Act.put, List.setIfInBounds_toArray, List.set_cons_zero, List.set_cons_succ, Nat.reduceAdd]
    apply RelyL.val
    · intro ν w' hL hF K hK'
      have cx := (hx.lat hL).cell
      go_simp
      exact hK'.out _ _ rfl (Lat.refl _)
    simp only [Act.put, List.setIfInBounds_toArray, List.set_cons_zero, List.set_cons_succ, Nat.reduceAdd]
    refine RelyL.done fun ν w4 hL hF => ?_
    clear hF
    have hLW := hL0.trans hL
    go_wp2_with fail
    go_ret
    have hR := HS.out
    subst hR
    exact ⟨rfl, hLW⟩
  · by_cases h2 : x7 = 2
    · subst h2
      have hw : wordS 2 = ⟨#[114, 117, 108, 101]⟩ := by rfl
      have hws : (⟨#[114, 117, 108, 101]⟩ : ByteArray).size ≤ 6 := by decide
      rw [hw] at HS
      clear hw
      have hx := Blk.new w 29 #[.int .i64 x1, .string x2, .string x3, .int .i64 x4, .int .i64 x5, .string x6, .int .i64 2, .string x8, .int .i64 x9, .int .i64 x10]
      have hL0 : Lat w (w.alloc (.cells #[.int .i64 x1, .string x2, .string x3, .int .i64 x4, .int .i64 x5, .string x6, .int .i64 2, .string x8, .int .i64 x9, .int .i64 x10] 29)) := Lat.al _ _
      have HP := fun w' (h : Lat (w.alloc (.cells #[.int .i64 x1, .string x2, .string x3, .int .i64 x4, .int .i64 x5, .string x6, .int .i64 2, .string x8, .int .i64 x9, .int .i64 x10] 29)) w') => Lib.hid (HP0 w' (hL0.trans h))
      have HI := fun w' (h : Lat (w.alloc (.cells #[.int .i64 x1, .string x2, .string x3, .int .i64 x4, .int .i64 x5, .string x6, .int .i64 2, .string x8, .int .i64 x9, .int .i64 x10] 29)) w') => Lib.hid (HI0 w' (hL0.trans h))
      clear HP0 HI0
      go_enter Tryd.func46, Tryd.ntmps46
      go_wp2_with fail
      have hrV : RowAt (w.alloc (.cells #[.int .i64 x1, .string x2, .string x3, .int .i64 x4, .int .i64 x5, .string x6, .int .i64 2, .string x8, .int .i64 x9, .int .i64 x10] 29)) w.heap.size 3 [.int .i64 x4, .int .i64 x5, .string x6] := row_of_blk (l := (#[.int .i64 x1, .string x2, .string x3, .int .i64 x4, .int .i64 x5, .string x6, .int .i64 2, .string x8, .int .i64 x9, .int .i64 x10] : Array Value).toList) hx 3 _ (fun i v hi => by
        match i, hi with
        | 0, hi => exact hi
        | 1, hi => exact hi
        | 2, hi => exact hi
        | i + 3, hi => simp at hi)
      have hlt := hx.lt
      generalize w.heap.size = g at *
      generalize (w.alloc (.cells #[.int .i64 x1, .string x2, .string x3, .int .i64 x4, .int .i64 x5, .string x6, .int .i64 2, .string x8, .int .i64 x9, .int .i64 x10] 29)) = w1 at *
      generalize (⟨#[114, 117, 108, 101]⟩ : ByteArray) = W at *
      have z1 : ¬ (9223372036854775807 < p.size + 4) := by omega
      have z2 : ¬ (9223372036854775807 < p.size + 4 + W.size) := by omega
      have z3 : ¬ (9223372036854775807 < p.size + 4 + W.size + 1) := by omega
      have z4 : ¬ (9223372036854775807 < p.size + 4 + W.size + 1 + x8.size) := by omega
      have z5 : ¬ (9223372036854775807 < p.size + 4 + W.size + 1 + x8.size + 11) := by omega
      have z6 : ¬ (9223372036854775807 < p.size + 4 + W.size + 1 + x8.size + 11 + it.size) := by omega
      have z7 : ¬ (9223372036854775807 < p.size + 4 + W.size + 1 + x8.size + 11 + it.size + 1) := by omega
      clear hp hit hcn hws
      (try clear h4)
      (try clear h3)
      (try clear h2)
      (try clear h1)
      refine wp_rely (by kernel_rfl) (by kernel_rfl) ?_
      apply RelyL.val
      · intro ν w' hL hF K hK'
        have cx := (hx.lat hL).cell
        go_simp
        exact hK'.out _ _ rfl (Lat.refl _)
      simp only [Act.put, List.setIfInBounds_toArray, List.set_cons_zero, List.set_cons_succ, Nat.reduceAdd]
      apply RelyL.val
      · intro ν w' hL hF K hK'
        refine take_op rfl ?_
        refine wp_load_at 25 _ rfl g (3) rfl _ _ (hrV.below hL hlt) Tryd.underlying25 rfl (by kernel_rfl) ?_
        exact hK'.out _ _ rfl (Lat.refl _)
      simp only [Act.put, List.setIfInBounds_toArray, List.set_cons_zero, List.set_cons_succ, Nat.reduceAdd]
      apply RelyL.val
      · intro ν w' hL hF K hK'
        have H := HP w' hL
        go_simp
        go_at_call 57
        refine H.out.mono ?_
        rintro r w'' ⟨rfl, hbp⟩
        exact hK'.out _ _ rfl hbp
      simp only [Act.put, List.setIfInBounds_toArray, List.set_cons_zero, List.set_cons_succ, Nat.reduceAdd]
      apply RelyL.val
      · intro ν w' hL hF K hK'
        have cx := (hx.lat hL).cell
        go_simp
        exact hK'.out _ _ rfl (Lat.refl _)
      simp only [Act.put, List.setIfInBounds_toArray, List.set_cons_zero, List.set_cons_succ, Nat.reduceAdd]
      apply RelyL.val
      · intro ν w' hL hF K hK'
        have cx := (hx.lat hL).cell
        go_simp
        exact hK'.out _ _ rfl (Lat.refl _)
      simp only [Act.put, List.setIfInBounds_toArray, List.set_cons_zero, List.set_cons_succ, Nat.reduceAdd]
      apply RelyL.val
      · intro ν w' hL hF K hK'
        have cx := (hx.lat hL).cell
        go_simp
        exact hK'.out _ _ rfl (Lat.refl _)
      simp only [Act.put, List.setIfInBounds_toArray, List.set_cons_zero, List.set_cons_succ, Nat.reduceAdd]
      apply RelyL.val
      · intro ν w' hL hF K hK'
        have cx := (hx.lat hL).cell
        go_simp
        exact hK'.out _ _ rfl (Lat.refl _)
      simp only [Act.put, List.setIfInBounds_toArray, List.set_cons_zero, List.set_cons_succ, Nat.reduceAdd]
      apply RelyL.val
      · intro ν w' hL hF K hK'
        have cx := (hx.lat hL).cell
        go_simp
        exact hK'.out _ _ rfl (Lat.refl _)
      simp only [Act.put, List.setIfInBounds_toArray, List.set_cons_zero, List.set_cons_succ, Nat.reduceAdd]
      apply RelyL.val
      · intro ν w' hL hF K hK'
        have cx := (hx.lat hL).cell
        go_simp
        exact hK'.out _ _ rfl (Lat.refl _)
      simp only [Act.put, List.setIfInBounds_toArray, List.set_cons_zero, List.set_cons_succ, Nat.reduceAdd]
      apply RelyL.val
      · intro ν w' hL hF K hK'
        have cx := (hx.lat hL).cell
        go_simp
        exact hK'.out _ _ rfl (Lat.refl _)
      simp only [Act.put, List.setIfInBounds_toArray, List.set_cons_zero, List.set_cons_succ, Nat.reduceAdd]
      apply RelyL.val
      · intro ν w' hL hF K hK'
        have cx := (hx.lat hL).cell
        go_simp
        exact hK'.out _ _ rfl (Lat.refl _)
      simp only [Act.put, List.setIfInBounds_toArray, List.set_cons_zero, List.set_cons_succ, Nat.reduceAdd]
      apply RelyL.val
      · intro ν w' hL hF K hK'
        have cx := (hx.lat hL).cell
        go_simp
        exact hK'.out _ _ rfl (Lat.refl _)
      simp only [Act.put, List.setIfInBounds_toArray, List.set_cons_zero, List.set_cons_succ, Nat.reduceAdd]
      apply RelyL.val
      · intro ν w' hL hF K hK'
        have cx := (hx.lat hL).cell
        go_simp
        exact hK'.out _ _ rfl (Lat.refl _)
      simp only [Act.put, List.setIfInBounds_toArray, List.set_cons_zero, List.set_cons_succ, Nat.reduceAdd]
      apply RelyL.val
      · intro ν w' hL hF K hK'
        have cx := (hx.lat hL).cell
        go_simp
        exact hK'.out _ _ rfl (Lat.refl _)
      simp only [Act.put, List.setIfInBounds_toArray, List.set_cons_zero, List.set_cons_succ, Nat.reduceAdd]
      apply RelyL.val
      · intro ν w' hL hF K hK'
        have cx := (hx.lat hL).cell
        go_simp
        exact hK'.out _ _ rfl (Lat.refl _)
      simp only [Act.put, List.setIfInBounds_toArray, List.set_cons_zero, List.set_cons_succ, Nat.reduceAdd]
      apply RelyL.val
      · intro ν w' hL hF K hK'
        have H := HI w' hL
        go_simp
        go_at_call 45
        refine H.out.mono ?_
        rintro r w'' ⟨rfl, hbp⟩
        exact hK'.out _ _ rfl hbp
      simp only [Act.put, List.setIfInBounds_toArray, List.set_cons_zero, List.set_cons_succ, Nat.reduceAdd]
      apply RelyL.val
      · intro ν w' hL hF K hK'
        have cx := (hx.lat hL).cell
        go_simp
        exact hK'.out _ _ rfl (Lat.refl _)
      simp only [Act.put, List.setIfInBounds_toArray, List.set_cons_zero, List.set_cons_succ, Nat.reduceAdd]
      apply RelyL.val
      · intro ν w' hL hF K hK'
        have cx := (hx.lat hL).cell
        go_simp
        exact hK'.out _ _ rfl (Lat.refl _)
      simp only [Act.put, List.setIfInBounds_toArray, List.set_cons_zero, List.set_cons_succ, Nat.reduceAdd]
      apply RelyL.val
      · intro ν w' hL hF K hK'
        have cx := (hx.lat hL).cell
        go_simp
        exact hK'.out _ _ rfl (Lat.refl _)
      simp only [Act.put, List.setIfInBounds_toArray, List.set_cons_zero, List.set_cons_succ, Nat.reduceAdd]
      refine RelyL.done fun ν w4 hL hF => ?_
      clear hF
      have hLW := hL0.trans hL
      go_wp2_with fail
      go_ret
      have hR := HS.out
      subst hR
      exact ⟨rfl, hLW⟩
    · by_cases h3 : x7 = 3
      · subst h3
        have hw : wordS 3 = ⟨#[109, 101, 109, 98, 101, 114]⟩ := by rfl
        have hws : (⟨#[109, 101, 109, 98, 101, 114]⟩ : ByteArray).size ≤ 6 := by decide
        rw [hw] at HS
        clear hw
        have hx := Blk.new w 29 #[.int .i64 x1, .string x2, .string x3, .int .i64 x4, .int .i64 x5, .string x6, .int .i64 3, .string x8, .int .i64 x9, .int .i64 x10]
        have hL0 : Lat w (w.alloc (.cells #[.int .i64 x1, .string x2, .string x3, .int .i64 x4, .int .i64 x5, .string x6, .int .i64 3, .string x8, .int .i64 x9, .int .i64 x10] 29)) := Lat.al _ _
        have HP := fun w' (h : Lat (w.alloc (.cells #[.int .i64 x1, .string x2, .string x3, .int .i64 x4, .int .i64 x5, .string x6, .int .i64 3, .string x8, .int .i64 x9, .int .i64 x10] 29)) w') => Lib.hid (HP0 w' (hL0.trans h))
        have HI := fun w' (h : Lat (w.alloc (.cells #[.int .i64 x1, .string x2, .string x3, .int .i64 x4, .int .i64 x5, .string x6, .int .i64 3, .string x8, .int .i64 x9, .int .i64 x10] 29)) w') => Lib.hid (HI0 w' (hL0.trans h))
        clear HP0 HI0
        go_enter Tryd.func46, Tryd.ntmps46
        go_wp2_with fail
        have hrV : RowAt (w.alloc (.cells #[.int .i64 x1, .string x2, .string x3, .int .i64 x4, .int .i64 x5, .string x6, .int .i64 3, .string x8, .int .i64 x9, .int .i64 x10] 29)) w.heap.size 3 [.int .i64 x4, .int .i64 x5, .string x6] := row_of_blk (l := (#[.int .i64 x1, .string x2, .string x3, .int .i64 x4, .int .i64 x5, .string x6, .int .i64 3, .string x8, .int .i64 x9, .int .i64 x10] : Array Value).toList) hx 3 _ (fun i v hi => by
          match i, hi with
          | 0, hi => exact hi
          | 1, hi => exact hi
          | 2, hi => exact hi
          | i + 3, hi => simp at hi)
        have hlt := hx.lt
        generalize w.heap.size = g at *
        generalize (w.alloc (.cells #[.int .i64 x1, .string x2, .string x3, .int .i64 x4, .int .i64 x5, .string x6, .int .i64 3, .string x8, .int .i64 x9, .int .i64 x10] 29)) = w1 at *
        generalize (⟨#[109, 101, 109, 98, 101, 114]⟩ : ByteArray) = W at *
        have z1 : ¬ (9223372036854775807 < p.size + 4) := by omega
        have z2 : ¬ (9223372036854775807 < p.size + 4 + W.size) := by omega
        have z3 : ¬ (9223372036854775807 < p.size + 4 + W.size + 1) := by omega
        have z4 : ¬ (9223372036854775807 < p.size + 4 + W.size + 1 + x8.size) := by omega
        have z5 : ¬ (9223372036854775807 < p.size + 4 + W.size + 1 + x8.size + 11) := by omega
        have z6 : ¬ (9223372036854775807 < p.size + 4 + W.size + 1 + x8.size + 11 + it.size) := by omega
        have z7 : ¬ (9223372036854775807 < p.size + 4 + W.size + 1 + x8.size + 11 + it.size + 1) := by omega
        clear hp hit hcn hws
        (try clear h4)
        (try clear h3)
        (try clear h2)
        (try clear h1)
        refine wp_rely (by kernel_rfl) (by kernel_rfl) ?_
        apply RelyL.val
        · intro ν w' hL hF K hK'
          have cx := (hx.lat hL).cell
          go_simp
          exact hK'.out _ _ rfl (Lat.refl _)
        simp only [Act.put, List.setIfInBounds_toArray, List.set_cons_zero, List.set_cons_succ, Nat.reduceAdd]
        apply RelyL.val
        · intro ν w' hL hF K hK'
          refine take_op rfl ?_
          refine wp_load_at 25 _ rfl g (3) rfl _ _ (hrV.below hL hlt) Tryd.underlying25 rfl (by kernel_rfl) ?_
          exact hK'.out _ _ rfl (Lat.refl _)
        simp only [Act.put, List.setIfInBounds_toArray, List.set_cons_zero, List.set_cons_succ, Nat.reduceAdd]
        apply RelyL.val
        · intro ν w' hL hF K hK'
          have H := HP w' hL
          go_simp
          go_at_call 57
          refine H.out.mono ?_
          rintro r w'' ⟨rfl, hbp⟩
          exact hK'.out _ _ rfl hbp
        simp only [Act.put, List.setIfInBounds_toArray, List.set_cons_zero, List.set_cons_succ, Nat.reduceAdd]
        apply RelyL.val
        · intro ν w' hL hF K hK'
          have cx := (hx.lat hL).cell
          go_simp
          exact hK'.out _ _ rfl (Lat.refl _)
        simp only [Act.put, List.setIfInBounds_toArray, List.set_cons_zero, List.set_cons_succ, Nat.reduceAdd]
        apply RelyL.val
        · intro ν w' hL hF K hK'
          have cx := (hx.lat hL).cell
          go_simp
          exact hK'.out _ _ rfl (Lat.refl _)
        simp only [Act.put, List.setIfInBounds_toArray, List.set_cons_zero, List.set_cons_succ, Nat.reduceAdd]
        apply RelyL.val
        · intro ν w' hL hF K hK'
          have cx := (hx.lat hL).cell
          go_simp
          exact hK'.out _ _ rfl (Lat.refl _)
        simp only [Act.put, List.setIfInBounds_toArray, List.set_cons_zero, List.set_cons_succ, Nat.reduceAdd]
        apply RelyL.val
        · intro ν w' hL hF K hK'
          have cx := (hx.lat hL).cell
          go_simp
          exact hK'.out _ _ rfl (Lat.refl _)
        simp only [Act.put, List.setIfInBounds_toArray, List.set_cons_zero, List.set_cons_succ, Nat.reduceAdd]
        apply RelyL.val
        · intro ν w' hL hF K hK'
          have cx := (hx.lat hL).cell
          go_simp
          exact hK'.out _ _ rfl (Lat.refl _)
        simp only [Act.put, List.setIfInBounds_toArray, List.set_cons_zero, List.set_cons_succ, Nat.reduceAdd]
        apply RelyL.val
        · intro ν w' hL hF K hK'
          have cx := (hx.lat hL).cell
          go_simp
          exact hK'.out _ _ rfl (Lat.refl _)
        simp only [Act.put, List.setIfInBounds_toArray, List.set_cons_zero, List.set_cons_succ, Nat.reduceAdd]
        apply RelyL.val
        · intro ν w' hL hF K hK'
          have cx := (hx.lat hL).cell
          go_simp
          exact hK'.out _ _ rfl (Lat.refl _)
        simp only [Act.put, List.setIfInBounds_toArray, List.set_cons_zero, List.set_cons_succ, Nat.reduceAdd]
        apply RelyL.val
        · intro ν w' hL hF K hK'
          have cx := (hx.lat hL).cell
          go_simp
          exact hK'.out _ _ rfl (Lat.refl _)
        simp only [Act.put, List.setIfInBounds_toArray, List.set_cons_zero, List.set_cons_succ, Nat.reduceAdd]
        apply RelyL.val
        · intro ν w' hL hF K hK'
          have cx := (hx.lat hL).cell
          go_simp
          exact hK'.out _ _ rfl (Lat.refl _)
        simp only [Act.put, List.setIfInBounds_toArray, List.set_cons_zero, List.set_cons_succ, Nat.reduceAdd]
        apply RelyL.val
        · intro ν w' hL hF K hK'
          have cx := (hx.lat hL).cell
          go_simp
          exact hK'.out _ _ rfl (Lat.refl _)
        simp only [Act.put, List.setIfInBounds_toArray, List.set_cons_zero, List.set_cons_succ, Nat.reduceAdd]
        apply RelyL.val
        · intro ν w' hL hF K hK'
          have cx := (hx.lat hL).cell
          go_simp
          exact hK'.out _ _ rfl (Lat.refl _)
        simp only [Act.put, List.setIfInBounds_toArray, List.set_cons_zero, List.set_cons_succ, Nat.reduceAdd]
        apply RelyL.val
        · intro ν w' hL hF K hK'
          have cx := (hx.lat hL).cell
          go_simp
          exact hK'.out _ _ rfl (Lat.refl _)
        simp only [Act.put, List.setIfInBounds_toArray, List.set_cons_zero, List.set_cons_succ, Nat.reduceAdd]
        apply RelyL.val
        · intro ν w' hL hF K hK'
          have H := HI w' hL
          go_simp
          go_at_call 45
          refine H.out.mono ?_
          rintro r w'' ⟨rfl, hbp⟩
          exact hK'.out _ _ rfl hbp
        simp only [Act.put, List.setIfInBounds_toArray, List.set_cons_zero, List.set_cons_succ, Nat.reduceAdd]
        apply RelyL.val
        · intro ν w' hL hF K hK'
          have cx := (hx.lat hL).cell
          go_simp
          exact hK'.out _ _ rfl (Lat.refl _)
        simp only [Act.put, List.setIfInBounds_toArray, List.set_cons_zero, List.set_cons_succ, Nat.reduceAdd]
        apply RelyL.val
        · intro ν w' hL hF K hK'
          have cx := (hx.lat hL).cell
          go_simp
          exact hK'.out _ _ rfl (Lat.refl _)
        simp only [Act.put, List.setIfInBounds_toArray, List.set_cons_zero, List.set_cons_succ, Nat.reduceAdd]
        apply RelyL.val
        · intro ν w' hL hF K hK'
          have cx := (hx.lat hL).cell
          go_simp
          exact hK'.out _ _ rfl (Lat.refl _)
        simp only [Act.put, List.setIfInBounds_toArray, List.set_cons_zero, List.set_cons_succ, Nat.reduceAdd]
        refine RelyL.done fun ν w4 hL hF => ?_
        clear hF
        have hLW := hL0.trans hL
        go_wp2_with fail
        go_ret
        have hR := HS.out
        subst hR
        exact ⟨rfl, hLW⟩
      · by_cases h4 : x7 = 4
        · subst h4
          have hw : wordS 4 = ⟨#[115, 97, 102, 101, 116, 121]⟩ := by rfl
          have hws : (⟨#[115, 97, 102, 101, 116, 121]⟩ : ByteArray).size ≤ 6 := by decide
          rw [hw] at HS
          clear hw
          have hx := Blk.new w 29 #[.int .i64 x1, .string x2, .string x3, .int .i64 x4, .int .i64 x5, .string x6, .int .i64 4, .string x8, .int .i64 x9, .int .i64 x10]
          have hL0 : Lat w (w.alloc (.cells #[.int .i64 x1, .string x2, .string x3, .int .i64 x4, .int .i64 x5, .string x6, .int .i64 4, .string x8, .int .i64 x9, .int .i64 x10] 29)) := Lat.al _ _
          have HP := fun w' (h : Lat (w.alloc (.cells #[.int .i64 x1, .string x2, .string x3, .int .i64 x4, .int .i64 x5, .string x6, .int .i64 4, .string x8, .int .i64 x9, .int .i64 x10] 29)) w') => Lib.hid (HP0 w' (hL0.trans h))
          have HI := fun w' (h : Lat (w.alloc (.cells #[.int .i64 x1, .string x2, .string x3, .int .i64 x4, .int .i64 x5, .string x6, .int .i64 4, .string x8, .int .i64 x9, .int .i64 x10] 29)) w') => Lib.hid (HI0 w' (hL0.trans h))
          clear HP0 HI0
          go_enter Tryd.func46, Tryd.ntmps46
          go_wp2_with fail
          have hrV : RowAt (w.alloc (.cells #[.int .i64 x1, .string x2, .string x3, .int .i64 x4, .int .i64 x5, .string x6, .int .i64 4, .string x8, .int .i64 x9, .int .i64 x10] 29)) w.heap.size 3 [.int .i64 x4, .int .i64 x5, .string x6] := row_of_blk (l := (#[.int .i64 x1, .string x2, .string x3, .int .i64 x4, .int .i64 x5, .string x6, .int .i64 4, .string x8, .int .i64 x9, .int .i64 x10] : Array Value).toList) hx 3 _ (fun i v hi => by
            match i, hi with
            | 0, hi => exact hi
            | 1, hi => exact hi
            | 2, hi => exact hi
            | i + 3, hi => simp at hi)
          have hlt := hx.lt
          generalize w.heap.size = g at *
          generalize (w.alloc (.cells #[.int .i64 x1, .string x2, .string x3, .int .i64 x4, .int .i64 x5, .string x6, .int .i64 4, .string x8, .int .i64 x9, .int .i64 x10] 29)) = w1 at *
          generalize (⟨#[115, 97, 102, 101, 116, 121]⟩ : ByteArray) = W at *
          have z1 : ¬ (9223372036854775807 < p.size + 4) := by omega
          have z2 : ¬ (9223372036854775807 < p.size + 4 + W.size) := by omega
          have z3 : ¬ (9223372036854775807 < p.size + 4 + W.size + 1) := by omega
          have z4 : ¬ (9223372036854775807 < p.size + 4 + W.size + 1 + x8.size) := by omega
          have z5 : ¬ (9223372036854775807 < p.size + 4 + W.size + 1 + x8.size + 11) := by omega
          have z6 : ¬ (9223372036854775807 < p.size + 4 + W.size + 1 + x8.size + 11 + it.size) := by omega
          have z7 : ¬ (9223372036854775807 < p.size + 4 + W.size + 1 + x8.size + 11 + it.size + 1) := by omega
          clear hp hit hcn hws
          (try clear h4)
          (try clear h3)
          (try clear h2)
          (try clear h1)
          refine wp_rely (by kernel_rfl) (by kernel_rfl) ?_
          apply RelyL.val
          · intro ν w' hL hF K hK'
            have cx := (hx.lat hL).cell
            go_simp
            exact hK'.out _ _ rfl (Lat.refl _)
          simp only [Act.put, List.setIfInBounds_toArray, List.set_cons_zero, List.set_cons_succ, Nat.reduceAdd]
          apply RelyL.val
          · intro ν w' hL hF K hK'
            refine take_op rfl ?_
            refine wp_load_at 25 _ rfl g (3) rfl _ _ (hrV.below hL hlt) Tryd.underlying25 rfl (by kernel_rfl) ?_
            exact hK'.out _ _ rfl (Lat.refl _)
          simp only [Act.put, List.setIfInBounds_toArray, List.set_cons_zero, List.set_cons_succ, Nat.reduceAdd]
          apply RelyL.val
          · intro ν w' hL hF K hK'
            have H := HP w' hL
            go_simp
            go_at_call 57
            refine H.out.mono ?_
            rintro r w'' ⟨rfl, hbp⟩
            exact hK'.out _ _ rfl hbp
          simp only [Act.put, List.setIfInBounds_toArray, List.set_cons_zero, List.set_cons_succ, Nat.reduceAdd]
          apply RelyL.val
          · intro ν w' hL hF K hK'
            have cx := (hx.lat hL).cell
            go_simp
            exact hK'.out _ _ rfl (Lat.refl _)
          simp only [Act.put, List.setIfInBounds_toArray, List.set_cons_zero, List.set_cons_succ, Nat.reduceAdd]
          apply RelyL.val
          · intro ν w' hL hF K hK'
            have cx := (hx.lat hL).cell
            go_simp
            exact hK'.out _ _ rfl (Lat.refl _)
          simp only [Act.put, List.setIfInBounds_toArray, List.set_cons_zero, List.set_cons_succ, Nat.reduceAdd]
          apply RelyL.val
          · intro ν w' hL hF K hK'
            have cx := (hx.lat hL).cell
            go_simp
            exact hK'.out _ _ rfl (Lat.refl _)
          simp only [Act.put, List.setIfInBounds_toArray, List.set_cons_zero, List.set_cons_succ, Nat.reduceAdd]
          apply RelyL.val
          · intro ν w' hL hF K hK'
            have cx := (hx.lat hL).cell
            go_simp
            exact hK'.out _ _ rfl (Lat.refl _)
          simp only [Act.put, List.setIfInBounds_toArray, List.set_cons_zero, List.set_cons_succ, Nat.reduceAdd]
          apply RelyL.val
          · intro ν w' hL hF K hK'
            have cx := (hx.lat hL).cell
            go_simp
            exact hK'.out _ _ rfl (Lat.refl _)
          simp only [Act.put, List.setIfInBounds_toArray, List.set_cons_zero, List.set_cons_succ, Nat.reduceAdd]
          apply RelyL.val
          · intro ν w' hL hF K hK'
            have cx := (hx.lat hL).cell
            go_simp
            exact hK'.out _ _ rfl (Lat.refl _)
          simp only [Act.put, List.setIfInBounds_toArray, List.set_cons_zero, List.set_cons_succ, Nat.reduceAdd]
          apply RelyL.val
          · intro ν w' hL hF K hK'
            have cx := (hx.lat hL).cell
            go_simp
            exact hK'.out _ _ rfl (Lat.refl _)
          simp only [Act.put, List.setIfInBounds_toArray, List.set_cons_zero, List.set_cons_succ, Nat.reduceAdd]
          apply RelyL.val
          · intro ν w' hL hF K hK'
            have cx := (hx.lat hL).cell
            go_simp
            exact hK'.out _ _ rfl (Lat.refl _)
          simp only [Act.put, List.setIfInBounds_toArray, List.set_cons_zero, List.set_cons_succ, Nat.reduceAdd]
          apply RelyL.val
          · intro ν w' hL hF K hK'
            have cx := (hx.lat hL).cell
            go_simp
            exact hK'.out _ _ rfl (Lat.refl _)
          simp only [Act.put, List.setIfInBounds_toArray, List.set_cons_zero, List.set_cons_succ, Nat.reduceAdd]
          apply RelyL.val
          · intro ν w' hL hF K hK'
            have cx := (hx.lat hL).cell
            go_simp
            exact hK'.out _ _ rfl (Lat.refl _)
          simp only [Act.put, List.setIfInBounds_toArray, List.set_cons_zero, List.set_cons_succ, Nat.reduceAdd]
          apply RelyL.val
          · intro ν w' hL hF K hK'
            have cx := (hx.lat hL).cell
            go_simp
            exact hK'.out _ _ rfl (Lat.refl _)
          simp only [Act.put, List.setIfInBounds_toArray, List.set_cons_zero, List.set_cons_succ, Nat.reduceAdd]
          apply RelyL.val
          · intro ν w' hL hF K hK'
            have cx := (hx.lat hL).cell
            go_simp
            exact hK'.out _ _ rfl (Lat.refl _)
          simp only [Act.put, List.setIfInBounds_toArray, List.set_cons_zero, List.set_cons_succ, Nat.reduceAdd]
          apply RelyL.val
          · intro ν w' hL hF K hK'
            have H := HI w' hL
            go_simp
            go_at_call 45
            refine H.out.mono ?_
            rintro r w'' ⟨rfl, hbp⟩
            exact hK'.out _ _ rfl hbp
          simp only [Act.put, List.setIfInBounds_toArray, List.set_cons_zero, List.set_cons_succ, Nat.reduceAdd]
          apply RelyL.val
          · intro ν w' hL hF K hK'
            have cx := (hx.lat hL).cell
            go_simp
            exact hK'.out _ _ rfl (Lat.refl _)
          simp only [Act.put, List.setIfInBounds_toArray, List.set_cons_zero, List.set_cons_succ, Nat.reduceAdd]
          apply RelyL.val
          · intro ν w' hL hF K hK'
            have cx := (hx.lat hL).cell
            go_simp
            exact hK'.out _ _ rfl (Lat.refl _)
          simp only [Act.put, List.setIfInBounds_toArray, List.set_cons_zero, List.set_cons_succ, Nat.reduceAdd]
          apply RelyL.val
          · intro ν w' hL hF K hK'
            have cx := (hx.lat hL).cell
            go_simp
            exact hK'.out _ _ rfl (Lat.refl _)
          simp only [Act.put, List.setIfInBounds_toArray, List.set_cons_zero, List.set_cons_succ, Nat.reduceAdd]
          refine RelyL.done fun ν w4 hL hF => ?_
          clear hF
          have hLW := hL0.trans hL
          go_wp2_with fail
          go_ret
          have hR := HS.out
          subst hR
          exact ⟨rfl, hLW⟩
        · have q1 : (x7 == 1) = false := by simpa using h1
          have q2 : (x7 == 2) = false := by simpa using h2
          have q3 : (x7 == 3) = false := by simpa using h3
          have q4 : (x7 == 4) = false := by simpa using h4
          have hw : wordS x7 = ⟨#[111, 116, 104, 101, 114]⟩ := by (unfold wordS; rw [if_neg h1, if_neg h2, if_neg h3, if_neg h4])
          have hws : (⟨#[111, 116, 104, 101, 114]⟩ : ByteArray).size ≤ 6 := by decide
          rw [hw] at HS
          clear hw
          have hx := Blk.new w 29 #[.int .i64 x1, .string x2, .string x3, .int .i64 x4, .int .i64 x5, .string x6, .int .i64 x7, .string x8, .int .i64 x9, .int .i64 x10]
          have hL0 : Lat w (w.alloc (.cells #[.int .i64 x1, .string x2, .string x3, .int .i64 x4, .int .i64 x5, .string x6, .int .i64 x7, .string x8, .int .i64 x9, .int .i64 x10] 29)) := Lat.al _ _
          have HP := fun w' (h : Lat (w.alloc (.cells #[.int .i64 x1, .string x2, .string x3, .int .i64 x4, .int .i64 x5, .string x6, .int .i64 x7, .string x8, .int .i64 x9, .int .i64 x10] 29)) w') => Lib.hid (HP0 w' (hL0.trans h))
          have HI := fun w' (h : Lat (w.alloc (.cells #[.int .i64 x1, .string x2, .string x3, .int .i64 x4, .int .i64 x5, .string x6, .int .i64 x7, .string x8, .int .i64 x9, .int .i64 x10] 29)) w') => Lib.hid (HI0 w' (hL0.trans h))
          clear HP0 HI0
          go_enter Tryd.func46, Tryd.ntmps46
          go_wp2_with fail
          have hrV : RowAt (w.alloc (.cells #[.int .i64 x1, .string x2, .string x3, .int .i64 x4, .int .i64 x5, .string x6, .int .i64 x7, .string x8, .int .i64 x9, .int .i64 x10] 29)) w.heap.size 3 [.int .i64 x4, .int .i64 x5, .string x6] := row_of_blk (l := (#[.int .i64 x1, .string x2, .string x3, .int .i64 x4, .int .i64 x5, .string x6, .int .i64 x7, .string x8, .int .i64 x9, .int .i64 x10] : Array Value).toList) hx 3 _ (fun i v hi => by
            match i, hi with
            | 0, hi => exact hi
            | 1, hi => exact hi
            | 2, hi => exact hi
            | i + 3, hi => simp at hi)
          have hlt := hx.lt
          generalize w.heap.size = g at *
          generalize (w.alloc (.cells #[.int .i64 x1, .string x2, .string x3, .int .i64 x4, .int .i64 x5, .string x6, .int .i64 x7, .string x8, .int .i64 x9, .int .i64 x10] 29)) = w1 at *
          generalize (⟨#[111, 116, 104, 101, 114]⟩ : ByteArray) = W at *
          have z1 : ¬ (9223372036854775807 < p.size + 4) := by omega
          have z2 : ¬ (9223372036854775807 < p.size + 4 + W.size) := by omega
          have z3 : ¬ (9223372036854775807 < p.size + 4 + W.size + 1) := by omega
          have z4 : ¬ (9223372036854775807 < p.size + 4 + W.size + 1 + x8.size) := by omega
          have z5 : ¬ (9223372036854775807 < p.size + 4 + W.size + 1 + x8.size + 11) := by omega
          have z6 : ¬ (9223372036854775807 < p.size + 4 + W.size + 1 + x8.size + 11 + it.size) := by omega
          have z7 : ¬ (9223372036854775807 < p.size + 4 + W.size + 1 + x8.size + 11 + it.size + 1) := by omega
          clear hp hit hcn hws
          (try clear h4)
          (try clear h3)
          (try clear h2)
          (try clear h1)
          refine wp_rely (by kernel_rfl) (by kernel_rfl) ?_
          apply RelyL.val
          · intro ν w' hL hF K hK'
            have cx := (hx.lat hL).cell
            go_simp
            exact hK'.out _ _ rfl (Lat.refl _)
          simp only [Act.put, List.setIfInBounds_toArray, List.set_cons_zero, List.set_cons_succ, Nat.reduceAdd]
          apply RelyL.val
          · intro ν w' hL hF K hK'
            refine take_op rfl ?_
            refine wp_load_at 25 _ rfl g (3) rfl _ _ (hrV.below hL hlt) Tryd.underlying25 rfl (by kernel_rfl) ?_
            exact hK'.out _ _ rfl (Lat.refl _)
          simp only [Act.put, List.setIfInBounds_toArray, List.set_cons_zero, List.set_cons_succ, Nat.reduceAdd]
          apply RelyL.val
          · intro ν w' hL hF K hK'
            have H := HP w' hL
            go_simp
            go_at_call 57
            refine H.out.mono ?_
            rintro r w'' ⟨rfl, hbp⟩
            exact hK'.out _ _ rfl hbp
          simp only [Act.put, List.setIfInBounds_toArray, List.set_cons_zero, List.set_cons_succ, Nat.reduceAdd]
          apply RelyL.val
          · intro ν w' hL hF K hK'
            have cx := (hx.lat hL).cell
            go_simp
            exact hK'.out _ _ rfl (Lat.refl _)
          simp only [Act.put, List.setIfInBounds_toArray, List.set_cons_zero, List.set_cons_succ, Nat.reduceAdd]
          apply RelyL.val
          · intro ν w' hL hF K hK'
            have cx := (hx.lat hL).cell
            go_simp
            exact hK'.out _ _ rfl (Lat.refl _)
          simp only [Act.put, List.setIfInBounds_toArray, List.set_cons_zero, List.set_cons_succ, Nat.reduceAdd]
          apply RelyL.val
          · intro ν w' hL hF K hK'
            have cx := (hx.lat hL).cell
            go_simp
            exact hK'.out _ _ rfl (Lat.refl _)
          simp only [Act.put, List.setIfInBounds_toArray, List.set_cons_zero, List.set_cons_succ, Nat.reduceAdd]
          apply RelyL.val
          · intro ν w' hL hF K hK'
            have cx := (hx.lat hL).cell
            go_simp
            exact hK'.out _ _ rfl (Lat.refl _)
          simp only [Act.put, List.setIfInBounds_toArray, List.set_cons_zero, List.set_cons_succ, Nat.reduceAdd]
          apply RelyL.val
          · intro ν w' hL hF K hK'
            have cx := (hx.lat hL).cell
            go_simp
            exact hK'.out _ _ rfl (Lat.refl _)
          simp only [Act.put, List.setIfInBounds_toArray, List.set_cons_zero, List.set_cons_succ, Nat.reduceAdd]
          apply RelyL.val
          · intro ν w' hL hF K hK'
            have cx := (hx.lat hL).cell
            go_simp
            exact hK'.out _ _ rfl (Lat.refl _)
          simp only [Act.put, List.setIfInBounds_toArray, List.set_cons_zero, List.set_cons_succ, Nat.reduceAdd]
          apply RelyL.val
          · intro ν w' hL hF K hK'
            have cx := (hx.lat hL).cell
            go_simp
            exact hK'.out _ _ rfl (Lat.refl _)
          simp only [Act.put, List.setIfInBounds_toArray, List.set_cons_zero, List.set_cons_succ, Nat.reduceAdd]
          apply RelyL.val
          · intro ν w' hL hF K hK'
            have cx := (hx.lat hL).cell
            go_simp
            exact hK'.out _ _ rfl (Lat.refl _)
          simp only [Act.put, List.setIfInBounds_toArray, List.set_cons_zero, List.set_cons_succ, Nat.reduceAdd]
          apply RelyL.val
          · intro ν w' hL hF K hK'
            have cx := (hx.lat hL).cell
            go_simp
            exact hK'.out _ _ rfl (Lat.refl _)
          simp only [Act.put, List.setIfInBounds_toArray, List.set_cons_zero, List.set_cons_succ, Nat.reduceAdd]
          apply RelyL.val
          · intro ν w' hL hF K hK'
            have cx := (hx.lat hL).cell
            go_simp
            exact hK'.out _ _ rfl (Lat.refl _)
          simp only [Act.put, List.setIfInBounds_toArray, List.set_cons_zero, List.set_cons_succ, Nat.reduceAdd]
          apply RelyL.val
          · intro ν w' hL hF K hK'
            have cx := (hx.lat hL).cell
            go_simp
            exact hK'.out _ _ rfl (Lat.refl _)
          simp only [Act.put, List.setIfInBounds_toArray, List.set_cons_zero, List.set_cons_succ, Nat.reduceAdd]
          apply RelyL.val
          · intro ν w' hL hF K hK'
            have cx := (hx.lat hL).cell
            go_simp
            exact hK'.out _ _ rfl (Lat.refl _)
          simp only [Act.put, List.setIfInBounds_toArray, List.set_cons_zero, List.set_cons_succ, Nat.reduceAdd]
          apply RelyL.val
          · intro ν w' hL hF K hK'
            have H := HI w' hL
            go_simp
            go_at_call 45
            refine H.out.mono ?_
            rintro r w'' ⟨rfl, hbp⟩
            exact hK'.out _ _ rfl hbp
          simp only [Act.put, List.setIfInBounds_toArray, List.set_cons_zero, List.set_cons_succ, Nat.reduceAdd]
          apply RelyL.val
          · intro ν w' hL hF K hK'
            have cx := (hx.lat hL).cell
            go_simp
            exact hK'.out _ _ rfl (Lat.refl _)
          simp only [Act.put, List.setIfInBounds_toArray, List.set_cons_zero, List.set_cons_succ, Nat.reduceAdd]
          apply RelyL.val
          · intro ν w' hL hF K hK'
            have cx := (hx.lat hL).cell
            go_simp
            exact hK'.out _ _ rfl (Lat.refl _)
          simp only [Act.put, List.setIfInBounds_toArray, List.set_cons_zero, List.set_cons_succ, Nat.reduceAdd]
          apply RelyL.val
          · intro ν w' hL hF K hK'
            have cx := (hx.lat hL).cell
            go_simp
            exact hK'.out _ _ rfl (Lat.refl _)
          simp only [Act.put, List.setIfInBounds_toArray, List.set_cons_zero, List.set_cons_succ, Nat.reduceAdd]
          refine RelyL.done fun ν w4 hL hF => ?_
          clear hF
          have hLW := hL0.trans hL
          go_wp2_with fail
          go_ret
          have hR := HS.out
          subst hR
          exact ⟨rfl, hLW⟩
end Go.Proofs.YtgjoojailghilaaDoor
