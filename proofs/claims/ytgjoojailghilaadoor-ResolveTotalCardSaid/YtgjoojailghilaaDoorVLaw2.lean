/- Resolve: Before is a strict total order. -/
import Derived.Test.YtgjoojailghilaaDoorVLaw1
set_option linter.unusedSimpArgs false
set_option linter.unusedVariables false
namespace Go.Proofs.YtgjoojailghilaaDoor
open Go.RowKit


theorem wpl_neq_wG {ops : Array Oper} {rest : List Oper} {o : Oper} {a : Act} {w : World} {Q : Exit → Act → World → Prop} (hgd : Region.wanted o (yielded ops a.tmps) = true) (x y : Operand) (T : TypeId) (ho : o.op = .binOp .neq 29 x y T) (p q : LW) (hx : a.eval x = .agg (wC p).toArray) (hy : a.eval y = .agg (wC q).toArray) {E : Bool} (hE : decide (p = q) = E)
    (h : wpList Tryd.prog ops Q rest (a.put o.dst (.bool (!E))) w) : wpList Tryd.prog ops Q (o :: rest) a w :=
  wpList_step fun K hK => by rw [if_pos hgd]; exact wp_neq_w x y T ho p q hx hy hE (hK _ _ h)
set_option maxRecDepth 100000 in
set_option maxHeartbeats 8000000 in
theorem lawTotal (a b c : LW) (w : World) : Calls Tryd.prog 7 #[.agg (wC a).toArray, .agg (wC b).toArray, .agg (wC c).toArray] w fun r w' => r = .returned (.bool true) ∧ Lat w w' := by
  have HA := fun w' => Lib.hid (long_any a w')
  have HB := fun w' => Lib.hid (long_any b w')
  have HC := fun w' => Lib.hid (long_any c w')
  have hL0 : Lat w (((w.alloc (.cells (wC a).toArray 29)).alloc (.cells (wC b).toArray 29)).alloc (.cells (wC c).toArray 29)) := ((Lat.al _ _).trans (Lat.al _ _)).trans (Lat.al _ _)
  have ba := ((Blk.new w 29 (wC a).toArray).alloc (.cells (wC b).toArray 29)).alloc (.cells (wC c).toArray 29)
  have bb := (Blk.at1 w (.cells (wC a).toArray 29) 29 (wC b).toArray).alloc (.cells (wC c).toArray 29)
  have bc := Blk.at2 w (.cells (wC a).toArray 29) (.cells (wC b).toArray 29) 29 (wC c).toArray
  have hra := ba.row
  have hrb := bb.row
  have hrc := bc.row
  have la := ba.lt
  have lb := bb.lt
  have lc := bc.lt
  clear ba bb bc
  have HE0 : ∀ E, decide (a = b) = E → Hid (decide (a = b) = E) := fun E h => Lib.hid h
  go_enter Tryd.func7, Tryd.ntmps7
  go_upto_region 1 with fail
  generalize (((w.alloc (.cells (wC a).toArray 29)).alloc (.cells (wC b).toArray 29)).alloc (.cells (wC c).toArray 29)) = w1 at *
  generalize w.heap.size = g at *
  go_wp2_with (first | (with_reducible refine wpList_load_at rfl 29 _ rfl g 0 rfl _ _ hra Tryd.underlying29 rfl (by kernel_rfl) ?_) | (with_reducible refine wpList_load_at rfl 29 _ rfl (g + 1) 0 rfl _ _ hrb Tryd.underlying29 rfl (by kernel_rfl) ?_) | (with_reducible refine wpList_load_at rfl 29 _ rfl (g + 1 + 1) 0 rfl _ _ hrc Tryd.underlying29 rfl (by kernel_rfl) ?_) | (refine wpList_load_atG rfl 29 _ rfl g 0 rfl _ _ hra Tryd.underlying29 rfl (by kernel_rfl) ?_) | (refine wpList_load_atG rfl 29 _ rfl (g + 1) 0 rfl _ _ hrb Tryd.underlying29 rfl (by kernel_rfl) ?_) | (refine wpList_load_atG rfl 29 _ rfl (g + 1 + 1) 0 rfl _ _ hrc Tryd.underlying29 rfl (by kernel_rfl) ?_) | (refine wpl_eql_w rfl _ _ _ rfl a b rfl rfl HE.out ?_) | (refine wpl_neq_wG rfl _ _ _ rfl a b rfl rfl HE.out ?_))
  refine (HA _).out.mono ?_
  rintro r w2 ⟨rfl, hl2⟩
  have hL2 := hL0.trans hl2
  have hra := hra.below hl2 la
  have hrb := hrb.below hl2 lb
  have hrc := hrc.below hl2 lc
  have la : g < w2.heap.size := Nat.lt_of_lt_of_le la hl2.size
  have lb : g + 1 < w2.heap.size := Nat.lt_of_lt_of_le lb hl2.size
  have lc : g + 1 + 1 < w2.heap.size := Nat.lt_of_lt_of_le lc hl2.size
  clear HA hL0 hl2
  cases hqa : longB a
  · clear hqa
    go_wp2_with (first | (with_reducible refine wpList_load_at rfl 29 _ rfl g 0 rfl _ _ hra Tryd.underlying29 rfl (by kernel_rfl) ?_) | (with_reducible refine wpList_load_at rfl 29 _ rfl (g + 1) 0 rfl _ _ hrb Tryd.underlying29 rfl (by kernel_rfl) ?_) | (with_reducible refine wpList_load_at rfl 29 _ rfl (g + 1 + 1) 0 rfl _ _ hrc Tryd.underlying29 rfl (by kernel_rfl) ?_) | (refine wpList_load_atG rfl 29 _ rfl g 0 rfl _ _ hra Tryd.underlying29 rfl (by kernel_rfl) ?_) | (refine wpList_load_atG rfl 29 _ rfl (g + 1) 0 rfl _ _ hrb Tryd.underlying29 rfl (by kernel_rfl) ?_) | (refine wpList_load_atG rfl 29 _ rfl (g + 1 + 1) 0 rfl _ _ hrc Tryd.underlying29 rfl (by kernel_rfl) ?_) | (refine wpl_eql_w rfl _ _ _ rfl a b rfl rfl HE.out ?_) | (refine wpl_neq_wG rfl _ _ _ rfl a b rfl rfl HE.out ?_))
    refine (HB _).out.mono ?_
    rintro r w3 ⟨rfl, hl3⟩
    have hL3 := hL2.trans hl3
    have hra := hra.below hl3 la
    have hrb := hrb.below hl3 lb
    have hrc := hrc.below hl3 lc
    have la : g < w3.heap.size := Nat.lt_of_lt_of_le la hl3.size
    have lb : g + 1 < w3.heap.size := Nat.lt_of_lt_of_le lb hl3.size
    have lc : g + 1 + 1 < w3.heap.size := Nat.lt_of_lt_of_le lc hl3.size
    clear HB hL2 hl3
    cases hqb : longB b
    · clear hqb
      go_wp2_with (first | (with_reducible refine wpList_load_at rfl 29 _ rfl g 0 rfl _ _ hra Tryd.underlying29 rfl (by kernel_rfl) ?_) | (with_reducible refine wpList_load_at rfl 29 _ rfl (g + 1) 0 rfl _ _ hrb Tryd.underlying29 rfl (by kernel_rfl) ?_) | (with_reducible refine wpList_load_at rfl 29 _ rfl (g + 1 + 1) 0 rfl _ _ hrc Tryd.underlying29 rfl (by kernel_rfl) ?_) | (refine wpList_load_atG rfl 29 _ rfl g 0 rfl _ _ hra Tryd.underlying29 rfl (by kernel_rfl) ?_) | (refine wpList_load_atG rfl 29 _ rfl (g + 1) 0 rfl _ _ hrb Tryd.underlying29 rfl (by kernel_rfl) ?_) | (refine wpList_load_atG rfl 29 _ rfl (g + 1 + 1) 0 rfl _ _ hrc Tryd.underlying29 rfl (by kernel_rfl) ?_) | (refine wpl_eql_w rfl _ _ _ rfl a b rfl rfl HE.out ?_) | (refine wpl_neq_wG rfl _ _ _ rfl a b rfl rfl HE.out ?_))
      refine (HC _).out.mono ?_
      rintro r w4 ⟨rfl, hl4⟩
      have hL4 := hL3.trans hl4
      have hra := hra.below hl4 la
      have hrb := hrb.below hl4 lb
      have hrc := hrc.below hl4 lc
      have la : g < w4.heap.size := Nat.lt_of_lt_of_le la hl4.size
      have lb : g + 1 < w4.heap.size := Nat.lt_of_lt_of_le lb hl4.size
      have lc : g + 1 + 1 < w4.heap.size := Nat.lt_of_lt_of_le lc hl4.size
      clear HC hL3 hl4
      cases hqc : longB c
      · clear hqc
        go_wp2_with fail
        by_cases e : a = b
        · have HE := Lib.hid (decide_eq_true e)
          have HX := Lib.hid (show bef a b = false by subst e; exact sto_bef.irrefl a)
          have HY := Lib.hid (show bef b a = false by subst e; exact sto_bef.irrefl a)
          clear e HE0
          refine wp_rely (by kernel_rfl) (by kernel_rfl) ?_
          apply RelyL.val
          · intro ν w' hL hF K hK'
            refine take_op rfl ?_
            refine wp_load_at 29 _ rfl g (0) rfl _ _ (hra.below hL la) Tryd.underlying29 rfl (by kernel_rfl) ?_
            exact hK'.out _ _ rfl (Lat.refl _)
          simp only [Act.put, List.setIfInBounds_toArray, List.set_cons_zero, List.set_cons_succ, Nat.reduceAdd]
          apply RelyL.val
          · intro ν w' hL hF K hK'
            refine take_op rfl ?_
            refine wp_load_at 29 _ rfl (g + 1) (0) rfl _ _ (hrb.below hL lb) Tryd.underlying29 rfl (by kernel_rfl) ?_
            exact hK'.out _ _ rfl (Lat.refl _)
          simp only [Act.put, List.setIfInBounds_toArray, List.set_cons_zero, List.set_cons_succ, Nat.reduceAdd]
          apply RelyL.val
          · intro ν w' hL hF K hK'
            have H := Lib.hid (before_any' a b w' HX.out)
            go_simp
            go_at_call 12
            refine H.out.mono ?_
            rintro r w'' ⟨rfl, hbp⟩
            exact hK'.out _ _ rfl hbp
          simp only [Act.put, List.setIfInBounds_toArray, List.set_cons_zero, List.set_cons_succ, Nat.reduceAdd]
          apply RelyL.val
          · intro ν w' hL hF K hK'
            refine take_op rfl ?_
            refine wp_load_at 29 _ rfl (g + 1) (0) rfl _ _ (hrb.below hL lb) Tryd.underlying29 rfl (by kernel_rfl) ?_
            exact hK'.out _ _ rfl (Lat.refl _)
          simp only [Act.put, List.setIfInBounds_toArray, List.set_cons_zero, List.set_cons_succ, Nat.reduceAdd]
          apply RelyL.val
          · intro ν w' hL hF K hK'
            refine take_op rfl ?_
            refine wp_load_at 29 _ rfl g (0) rfl _ _ (hra.below hL la) Tryd.underlying29 rfl (by kernel_rfl) ?_
            exact hK'.out _ _ rfl (Lat.refl _)
          simp only [Act.put, List.setIfInBounds_toArray, List.set_cons_zero, List.set_cons_succ, Nat.reduceAdd]
          apply RelyL.val
          · intro ν w' hL hF K hK'
            have H := Lib.hid (before_any' b a w' HY.out)
            go_simp
            go_at_call 12
            refine H.out.mono ?_
            rintro r w'' ⟨rfl, hbp⟩
            exact hK'.out _ _ rfl hbp
          simp only [Act.put, List.setIfInBounds_toArray, List.set_cons_zero, List.set_cons_succ, Nat.reduceAdd]
          apply RelyL.val
          · intro ν w' hL hF K hK'
            go_simp
            exact hK'.out _ _ rfl (Lat.refl _)
          simp only [Act.put, List.setIfInBounds_toArray, List.set_cons_zero, List.set_cons_succ, Nat.reduceAdd]
          apply RelyL.val
          · intro ν w' hL hF K hK'
            go_simp
            exact hK'.out _ _ rfl (Lat.refl _)
          simp only [Act.put, List.setIfInBounds_toArray, List.set_cons_zero, List.set_cons_succ, Nat.reduceAdd]
          refine RelyL.done fun ν w5 hL hF => ?_
          clear hF
          have hL5 := hL4.trans hL
          have hra := hra.below hL la
          have hrb := hrb.below hL lb
          have hrc := hrc.below hL lc
          have la : g < w5.heap.size := Nat.lt_of_lt_of_le la hL.size
          have lb : g + 1 < w5.heap.size := Nat.lt_of_lt_of_le lb hL.size
          have lc : g + 1 + 1 < w5.heap.size := Nat.lt_of_lt_of_le lc hL.size
          clear hL hL4
          go_wp2_with (first | (with_reducible refine wpList_load_at rfl 29 _ rfl g 0 rfl _ _ hra Tryd.underlying29 rfl (by kernel_rfl) ?_) | (with_reducible refine wpList_load_at rfl 29 _ rfl (g + 1) 0 rfl _ _ hrb Tryd.underlying29 rfl (by kernel_rfl) ?_) | (with_reducible refine wpList_load_at rfl 29 _ rfl (g + 1 + 1) 0 rfl _ _ hrc Tryd.underlying29 rfl (by kernel_rfl) ?_) | (refine wpList_load_atG rfl 29 _ rfl g 0 rfl _ _ hra Tryd.underlying29 rfl (by kernel_rfl) ?_) | (refine wpList_load_atG rfl 29 _ rfl (g + 1) 0 rfl _ _ hrb Tryd.underlying29 rfl (by kernel_rfl) ?_) | (refine wpList_load_atG rfl 29 _ rfl (g + 1 + 1) 0 rfl _ _ hrc Tryd.underlying29 rfl (by kernel_rfl) ?_) | (refine wpl_eql_w rfl _ _ _ rfl a b rfl rfl HE.out ?_) | (refine wpl_neq_wG rfl _ _ _ rfl a b rfl rfl HE.out ?_))
          refine (awake_any _).mono ?_
          rintro r w9 ⟨rfl, hl9⟩
          go_wp2_with fail
          go_ret
          exact ⟨rfl, (hL5).trans hl9⟩
        · have HE := Lib.hid (decide_eq_false e)
          cases hx : bef a b
          · have hy : bef b a = true := sto_bef.tri _ _ hx e
            have HX := Lib.hid hx
            have HY := Lib.hid hy
            clear hx hy e HE0
            refine wp_rely (by kernel_rfl) (by kernel_rfl) ?_
            apply RelyL.val
            · intro ν w' hL hF K hK'
              refine take_op rfl ?_
              refine wp_load_at 29 _ rfl g (0) rfl _ _ (hra.below hL la) Tryd.underlying29 rfl (by kernel_rfl) ?_
              exact hK'.out _ _ rfl (Lat.refl _)
            simp only [Act.put, List.setIfInBounds_toArray, List.set_cons_zero, List.set_cons_succ, Nat.reduceAdd]
            apply RelyL.val
            · intro ν w' hL hF K hK'
              refine take_op rfl ?_
              refine wp_load_at 29 _ rfl (g + 1) (0) rfl _ _ (hrb.below hL lb) Tryd.underlying29 rfl (by kernel_rfl) ?_
              exact hK'.out _ _ rfl (Lat.refl _)
            simp only [Act.put, List.setIfInBounds_toArray, List.set_cons_zero, List.set_cons_succ, Nat.reduceAdd]
            apply RelyL.val
            · intro ν w' hL hF K hK'
              have H := Lib.hid (before_any' a b w' HX.out)
              go_simp
              go_at_call 12
              refine H.out.mono ?_
              rintro r w'' ⟨rfl, hbp⟩
              exact hK'.out _ _ rfl hbp
            simp only [Act.put, List.setIfInBounds_toArray, List.set_cons_zero, List.set_cons_succ, Nat.reduceAdd]
            apply RelyL.val
            · intro ν w' hL hF K hK'
              refine take_op rfl ?_
              refine wp_load_at 29 _ rfl (g + 1) (0) rfl _ _ (hrb.below hL lb) Tryd.underlying29 rfl (by kernel_rfl) ?_
              exact hK'.out _ _ rfl (Lat.refl _)
            simp only [Act.put, List.setIfInBounds_toArray, List.set_cons_zero, List.set_cons_succ, Nat.reduceAdd]
            apply RelyL.val
            · intro ν w' hL hF K hK'
              refine take_op rfl ?_
              refine wp_load_at 29 _ rfl g (0) rfl _ _ (hra.below hL la) Tryd.underlying29 rfl (by kernel_rfl) ?_
              exact hK'.out _ _ rfl (Lat.refl _)
            simp only [Act.put, List.setIfInBounds_toArray, List.set_cons_zero, List.set_cons_succ, Nat.reduceAdd]
            apply RelyL.val
            · intro ν w' hL hF K hK'
              have H := Lib.hid (before_any' b a w' HY.out)
              go_simp
              go_at_call 12
              refine H.out.mono ?_
              rintro r w'' ⟨rfl, hbp⟩
              exact hK'.out _ _ rfl hbp
            simp only [Act.put, List.setIfInBounds_toArray, List.set_cons_zero, List.set_cons_succ, Nat.reduceAdd]
            apply RelyL.val
            · intro ν w' hL hF K hK'
              go_simp
              exact hK'.out _ _ rfl (Lat.refl _)
            simp only [Act.put, List.setIfInBounds_toArray, List.set_cons_zero, List.set_cons_succ, Nat.reduceAdd]
            apply RelyL.val
            · intro ν w' hL hF K hK'
              go_simp
              exact hK'.out _ _ rfl (Lat.refl _)
            simp only [Act.put, List.setIfInBounds_toArray, List.set_cons_zero, List.set_cons_succ, Nat.reduceAdd]
            refine RelyL.done fun ν w5 hL hF => ?_
            clear hF
            have hL5 := hL4.trans hL
            have hra := hra.below hL la
            have hrb := hrb.below hL lb
            have hrc := hrc.below hL lc
            have la : g < w5.heap.size := Nat.lt_of_lt_of_le la hL.size
            have lb : g + 1 < w5.heap.size := Nat.lt_of_lt_of_le lb hL.size
            have lc : g + 1 + 1 < w5.heap.size := Nat.lt_of_lt_of_le lc hL.size
            clear hL hL4
            go_wp2_with (first | (with_reducible refine wpList_load_at rfl 29 _ rfl g 0 rfl _ _ hra Tryd.underlying29 rfl (by kernel_rfl) ?_) | (with_reducible refine wpList_load_at rfl 29 _ rfl (g + 1) 0 rfl _ _ hrb Tryd.underlying29 rfl (by kernel_rfl) ?_) | (with_reducible refine wpList_load_at rfl 29 _ rfl (g + 1 + 1) 0 rfl _ _ hrc Tryd.underlying29 rfl (by kernel_rfl) ?_) | (refine wpList_load_atG rfl 29 _ rfl g 0 rfl _ _ hra Tryd.underlying29 rfl (by kernel_rfl) ?_) | (refine wpList_load_atG rfl 29 _ rfl (g + 1) 0 rfl _ _ hrb Tryd.underlying29 rfl (by kernel_rfl) ?_) | (refine wpList_load_atG rfl 29 _ rfl (g + 1 + 1) 0 rfl _ _ hrc Tryd.underlying29 rfl (by kernel_rfl) ?_) | (refine wpl_eql_w rfl _ _ _ rfl a b rfl rfl HE.out ?_) | (refine wpl_neq_wG rfl _ _ _ rfl a b rfl rfl HE.out ?_))
            refine (awake_any _).mono ?_
            rintro r w9 ⟨rfl, hl9⟩
            go_wp2_with fail
            go_ret
            exact ⟨rfl, (hL5).trans hl9⟩
          · have hy : bef b a = false := by
              cases h : bef b a
              · rfl
              · have := sto_bef.trans _ _ _ hx h
                rw [sto_bef.irrefl] at this; cases this
            have HX := Lib.hid hx
            have HY := Lib.hid hy
            cases hz : bef b c
            · have HZ := Lib.hid hz
              clear hx hy hz e HE0
              refine wp_rely (by kernel_rfl) (by kernel_rfl) ?_
              apply RelyL.val
              · intro ν w' hL hF K hK'
                refine take_op rfl ?_
                refine wp_load_at 29 _ rfl g (0) rfl _ _ (hra.below hL la) Tryd.underlying29 rfl (by kernel_rfl) ?_
                exact hK'.out _ _ rfl (Lat.refl _)
              simp only [Act.put, List.setIfInBounds_toArray, List.set_cons_zero, List.set_cons_succ, Nat.reduceAdd]
              apply RelyL.val
              · intro ν w' hL hF K hK'
                refine take_op rfl ?_
                refine wp_load_at 29 _ rfl (g + 1) (0) rfl _ _ (hrb.below hL lb) Tryd.underlying29 rfl (by kernel_rfl) ?_
                exact hK'.out _ _ rfl (Lat.refl _)
              simp only [Act.put, List.setIfInBounds_toArray, List.set_cons_zero, List.set_cons_succ, Nat.reduceAdd]
              apply RelyL.val
              · intro ν w' hL hF K hK'
                have H := Lib.hid (before_any' a b w' HX.out)
                go_simp
                go_at_call 12
                refine H.out.mono ?_
                rintro r w'' ⟨rfl, hbp⟩
                exact hK'.out _ _ rfl hbp
              simp only [Act.put, List.setIfInBounds_toArray, List.set_cons_zero, List.set_cons_succ, Nat.reduceAdd]
              apply RelyL.val
              · intro ν w' hL hF K hK'
                refine take_op rfl ?_
                refine wp_load_at 29 _ rfl (g + 1) (0) rfl _ _ (hrb.below hL lb) Tryd.underlying29 rfl (by kernel_rfl) ?_
                exact hK'.out _ _ rfl (Lat.refl _)
              simp only [Act.put, List.setIfInBounds_toArray, List.set_cons_zero, List.set_cons_succ, Nat.reduceAdd]
              apply RelyL.val
              · intro ν w' hL hF K hK'
                refine take_op rfl ?_
                refine wp_load_at 29 _ rfl g (0) rfl _ _ (hra.below hL la) Tryd.underlying29 rfl (by kernel_rfl) ?_
                exact hK'.out _ _ rfl (Lat.refl _)
              simp only [Act.put, List.setIfInBounds_toArray, List.set_cons_zero, List.set_cons_succ, Nat.reduceAdd]
              apply RelyL.val
              · intro ν w' hL hF K hK'
                have H := Lib.hid (before_any' b a w' HY.out)
                go_simp
                go_at_call 12
                refine H.out.mono ?_
                rintro r w'' ⟨rfl, hbp⟩
                exact hK'.out _ _ rfl hbp
              simp only [Act.put, List.setIfInBounds_toArray, List.set_cons_zero, List.set_cons_succ, Nat.reduceAdd]
              apply RelyL.val
              · intro ν w' hL hF K hK'
                go_simp
                exact hK'.out _ _ rfl (Lat.refl _)
              simp only [Act.put, List.setIfInBounds_toArray, List.set_cons_zero, List.set_cons_succ, Nat.reduceAdd]
              apply RelyL.val
              · intro ν w' hL hF K hK'
                go_simp
                exact hK'.out _ _ rfl (Lat.refl _)
              simp only [Act.put, List.setIfInBounds_toArray, List.set_cons_zero, List.set_cons_succ, Nat.reduceAdd]
              refine RelyL.done fun ν w5 hL hF => ?_
              clear hF
              have hL5 := hL4.trans hL
              have hra := hra.below hL la
              have hrb := hrb.below hL lb
              have hrc := hrc.below hL lc
              have la : g < w5.heap.size := Nat.lt_of_lt_of_le la hL.size
              have lb : g + 1 < w5.heap.size := Nat.lt_of_lt_of_le lb hL.size
              have lc : g + 1 + 1 < w5.heap.size := Nat.lt_of_lt_of_le lc hL.size
              clear hL hL4
              go_wp2_with (first | (with_reducible refine wpList_load_at rfl 29 _ rfl g 0 rfl _ _ hra Tryd.underlying29 rfl (by kernel_rfl) ?_) | (with_reducible refine wpList_load_at rfl 29 _ rfl (g + 1) 0 rfl _ _ hrb Tryd.underlying29 rfl (by kernel_rfl) ?_) | (with_reducible refine wpList_load_at rfl 29 _ rfl (g + 1 + 1) 0 rfl _ _ hrc Tryd.underlying29 rfl (by kernel_rfl) ?_) | (refine wpList_load_atG rfl 29 _ rfl g 0 rfl _ _ hra Tryd.underlying29 rfl (by kernel_rfl) ?_) | (refine wpList_load_atG rfl 29 _ rfl (g + 1) 0 rfl _ _ hrb Tryd.underlying29 rfl (by kernel_rfl) ?_) | (refine wpList_load_atG rfl 29 _ rfl (g + 1 + 1) 0 rfl _ _ hrc Tryd.underlying29 rfl (by kernel_rfl) ?_) | (refine wpl_eql_w rfl _ _ _ rfl a b rfl rfl HE.out ?_) | (refine wpl_neq_wG rfl _ _ _ rfl a b rfl rfl HE.out ?_))
              refine (before_any' b c _ HZ.out).mono ?_
              rintro r w6 ⟨rfl, hl6⟩
              have hL6 := hL5.trans hl6
              go_wp2_with fail
              refine (awake_any _).mono ?_
              rintro r w9 ⟨rfl, hl9⟩
              go_wp2_with fail
              go_ret
              exact ⟨rfl, (hL6).trans hl9⟩
            · have HZ := Lib.hid hz
              have HT := Lib.hid (sto_bef.trans _ _ _ hx hz)
              clear hx hy hz e HE0
              refine wp_rely (by kernel_rfl) (by kernel_rfl) ?_
              apply RelyL.val
              · intro ν w' hL hF K hK'
                refine take_op rfl ?_
                refine wp_load_at 29 _ rfl g (0) rfl _ _ (hra.below hL la) Tryd.underlying29 rfl (by kernel_rfl) ?_
                exact hK'.out _ _ rfl (Lat.refl _)
              simp only [Act.put, List.setIfInBounds_toArray, List.set_cons_zero, List.set_cons_succ, Nat.reduceAdd]
              apply RelyL.val
              · intro ν w' hL hF K hK'
                refine take_op rfl ?_
                refine wp_load_at 29 _ rfl (g + 1) (0) rfl _ _ (hrb.below hL lb) Tryd.underlying29 rfl (by kernel_rfl) ?_
                exact hK'.out _ _ rfl (Lat.refl _)
              simp only [Act.put, List.setIfInBounds_toArray, List.set_cons_zero, List.set_cons_succ, Nat.reduceAdd]
              apply RelyL.val
              · intro ν w' hL hF K hK'
                have H := Lib.hid (before_any' a b w' HX.out)
                go_simp
                go_at_call 12
                refine H.out.mono ?_
                rintro r w'' ⟨rfl, hbp⟩
                exact hK'.out _ _ rfl hbp
              simp only [Act.put, List.setIfInBounds_toArray, List.set_cons_zero, List.set_cons_succ, Nat.reduceAdd]
              apply RelyL.val
              · intro ν w' hL hF K hK'
                refine take_op rfl ?_
                refine wp_load_at 29 _ rfl (g + 1) (0) rfl _ _ (hrb.below hL lb) Tryd.underlying29 rfl (by kernel_rfl) ?_
                exact hK'.out _ _ rfl (Lat.refl _)
              simp only [Act.put, List.setIfInBounds_toArray, List.set_cons_zero, List.set_cons_succ, Nat.reduceAdd]
              apply RelyL.val
              · intro ν w' hL hF K hK'
                refine take_op rfl ?_
                refine wp_load_at 29 _ rfl g (0) rfl _ _ (hra.below hL la) Tryd.underlying29 rfl (by kernel_rfl) ?_
                exact hK'.out _ _ rfl (Lat.refl _)
              simp only [Act.put, List.setIfInBounds_toArray, List.set_cons_zero, List.set_cons_succ, Nat.reduceAdd]
              apply RelyL.val
              · intro ν w' hL hF K hK'
                have H := Lib.hid (before_any' b a w' HY.out)
                go_simp
                go_at_call 12
                refine H.out.mono ?_
                rintro r w'' ⟨rfl, hbp⟩
                exact hK'.out _ _ rfl hbp
              simp only [Act.put, List.setIfInBounds_toArray, List.set_cons_zero, List.set_cons_succ, Nat.reduceAdd]
              apply RelyL.val
              · intro ν w' hL hF K hK'
                go_simp
                exact hK'.out _ _ rfl (Lat.refl _)
              simp only [Act.put, List.setIfInBounds_toArray, List.set_cons_zero, List.set_cons_succ, Nat.reduceAdd]
              apply RelyL.val
              · intro ν w' hL hF K hK'
                go_simp
                exact hK'.out _ _ rfl (Lat.refl _)
              simp only [Act.put, List.setIfInBounds_toArray, List.set_cons_zero, List.set_cons_succ, Nat.reduceAdd]
              refine RelyL.done fun ν w5 hL hF => ?_
              clear hF
              have hL5 := hL4.trans hL
              have hra := hra.below hL la
              have hrb := hrb.below hL lb
              have hrc := hrc.below hL lc
              have la : g < w5.heap.size := Nat.lt_of_lt_of_le la hL.size
              have lb : g + 1 < w5.heap.size := Nat.lt_of_lt_of_le lb hL.size
              have lc : g + 1 + 1 < w5.heap.size := Nat.lt_of_lt_of_le lc hL.size
              clear hL hL4
              go_wp2_with (first | (with_reducible refine wpList_load_at rfl 29 _ rfl g 0 rfl _ _ hra Tryd.underlying29 rfl (by kernel_rfl) ?_) | (with_reducible refine wpList_load_at rfl 29 _ rfl (g + 1) 0 rfl _ _ hrb Tryd.underlying29 rfl (by kernel_rfl) ?_) | (with_reducible refine wpList_load_at rfl 29 _ rfl (g + 1 + 1) 0 rfl _ _ hrc Tryd.underlying29 rfl (by kernel_rfl) ?_) | (refine wpList_load_atG rfl 29 _ rfl g 0 rfl _ _ hra Tryd.underlying29 rfl (by kernel_rfl) ?_) | (refine wpList_load_atG rfl 29 _ rfl (g + 1) 0 rfl _ _ hrb Tryd.underlying29 rfl (by kernel_rfl) ?_) | (refine wpList_load_atG rfl 29 _ rfl (g + 1 + 1) 0 rfl _ _ hrc Tryd.underlying29 rfl (by kernel_rfl) ?_) | (refine wpl_eql_w rfl _ _ _ rfl a b rfl rfl HE.out ?_) | (refine wpl_neq_wG rfl _ _ _ rfl a b rfl rfl HE.out ?_))
              refine (before_any' b c _ HZ.out).mono ?_
              rintro r w6 ⟨rfl, hl6⟩
              have hL6 := hL5.trans hl6
              have hra := hra.below hl6 la
              have hrb := hrb.below hl6 lb
              have hrc := hrc.below hl6 lc
              have la : g < w6.heap.size := Nat.lt_of_lt_of_le la hl6.size
              have lb : g + 1 < w6.heap.size := Nat.lt_of_lt_of_le lb hl6.size
              have lc : g + 1 + 1 < w6.heap.size := Nat.lt_of_lt_of_le lc hl6.size
              clear hl6
              go_wp2_with (first | (with_reducible refine wpList_load_at rfl 29 _ rfl g 0 rfl _ _ hra Tryd.underlying29 rfl (by kernel_rfl) ?_) | (with_reducible refine wpList_load_at rfl 29 _ rfl (g + 1) 0 rfl _ _ hrb Tryd.underlying29 rfl (by kernel_rfl) ?_) | (with_reducible refine wpList_load_at rfl 29 _ rfl (g + 1 + 1) 0 rfl _ _ hrc Tryd.underlying29 rfl (by kernel_rfl) ?_) | (refine wpList_load_atG rfl 29 _ rfl g 0 rfl _ _ hra Tryd.underlying29 rfl (by kernel_rfl) ?_) | (refine wpList_load_atG rfl 29 _ rfl (g + 1) 0 rfl _ _ hrb Tryd.underlying29 rfl (by kernel_rfl) ?_) | (refine wpList_load_atG rfl 29 _ rfl (g + 1 + 1) 0 rfl _ _ hrc Tryd.underlying29 rfl (by kernel_rfl) ?_) | (refine wpl_eql_w rfl _ _ _ rfl a b rfl rfl HE.out ?_) | (refine wpl_neq_wG rfl _ _ _ rfl a b rfl rfl HE.out ?_))
              refine (before_any' a c _ HT.out).mono ?_
              rintro r w7 ⟨rfl, hl7⟩
              have hL7 := hL6.trans hl7
              go_wp2_with fail
              refine (awake_any _).mono ?_
              rintro r w9 ⟨rfl, hl9⟩
              go_wp2_with fail
              go_ret
              exact ⟨rfl, (hL7).trans hl9⟩
      · clear hqc
        go_wp2_with fail
        refine (awake_any _).mono ?_
        rintro r w9 ⟨rfl, hl9⟩
        go_wp2_with fail
        go_ret
        exact ⟨rfl, (hL4).trans hl9⟩
    · clear hqb HC
      go_wp2_with fail
      refine (awake_any _).mono ?_
      rintro r w9 ⟨rfl, hl9⟩
      go_wp2_with fail
      go_ret
      exact ⟨rfl, (hL3).trans hl9⟩
  · clear hqa HB HC
    go_wp2_with fail
    refine (awake_any _).mono ?_
    rintro r w9 ⟨rfl, hl9⟩
    go_wp2_with fail
    go_ret
    exact ⟨rfl, (hL2).trans hl9⟩
end Go.Proofs.YtgjoojailghilaaDoor
