/- Resolve: long; the laws on Before. -/
import Derived.Test.YtgjoojailghilaaDoorVAwake
set_option linter.unusedSimpArgs false
set_option linter.unusedVariables false
namespace Go.Proofs.YtgjoojailghilaaDoor
open Go.RowKit

def longB (x : LW) : Bool := decide (100 < x.key.cl.size) || decide (100 < x.key.at_.size) || decide (100 < x.val.s.size) || decide (100 < x.cn.size)
set_option maxRecDepth 100000 in
set_option maxHeartbeats 2000000 in
theorem long_any (x : LW) (w : World) : Calls Tryd.prog 10 #[.agg (wC x).toArray] w fun r w' => r = .returned (.bool (longB x)) ∧ Lat w w' := by
  have hB : longB x = (decide (100 < x.key.cl.size) || decide (100 < x.key.at_.size) || decide (100 < x.val.s.size) || decide (100 < x.cn.size)) := rfl
  generalize longB x = R at *
  obtain ⟨⟨x1, x2, x3⟩, ⟨x4, x5, x6⟩, x7, x8, x9, x10⟩ := x
  simp only [wC, kC, vC, List.cons_append, List.nil_append] at *
  have hL0 : Lat w (w.alloc (.cells #[.int .i64 x1, .string x2, .string x3, .int .i64 x4, .int .i64 x5, .string x6, .int .i64 x7, .string x8, .int .i64 x9, .int .i64 x10] 29)) := Lat.al _ _
  by_cases h1 : 100 < x2.size
  · have e : R = true := by rw [hB, decide_eq_true h1]; simp
    subst e
    clear hB
    go_enter Tryd.func10, Tryd.ntmps10
    go_wp2_with fail
    go_ret
    exact ⟨rfl, hL0⟩
  · by_cases h2 : 100 < x3.size
    · have e : R = true := by rw [hB, decide_eq_true h2]; simp
      subst e
      clear hB
      go_enter Tryd.func10, Tryd.ntmps10
      go_wp2_with fail
      go_ret
      exact ⟨rfl, hL0⟩
    · by_cases h3 : 100 < x6.size
      · have e : R = true := by rw [hB, decide_eq_true h3]; simp
        subst e
        clear hB
        go_enter Tryd.func10, Tryd.ntmps10
        go_wp2_with fail
        go_ret
        first | exact ⟨rfl, hL0⟩ | exact ⟨ret_bool (by simp; omega), hL0⟩
      · by_cases h4 : 100 < x8.size
        · have e : R = true := by rw [hB, decide_eq_true h4]; simp
          subst e
          clear hB
          go_enter Tryd.func10, Tryd.ntmps10
          go_wp2_with fail
          go_ret
          first | exact ⟨rfl, hL0⟩ | exact ⟨ret_bool (by simp; omega), hL0⟩
        · have e : R = false := by rw [hB, decide_eq_false h1, decide_eq_false h2, decide_eq_false h3, decide_eq_false h4]; rfl
          subst e
          clear hB
          go_enter Tryd.func10, Tryd.ntmps10
          go_wp2_with fail
          go_ret
          first | exact ⟨rfl, hL0⟩ | exact ⟨ret_bool (by simp; omega), hL0⟩

theorem wpList_load_atG {P : Program} {ops : Array Oper} {rest : List Oper} {o : Oper} {a : Act} {w : World} {Q : Exit → Act → World → Prop} (hw : Region.wanted o (yielded ops a.tmps) = true) (ty : TypeId) (x : Operand) (ho : o.op = .load ty x)
    (b off : Nat) (hx : a.eval x = .pointer (some ⟨b, off, none⟩)) (cs : List Value) (d : TypeDesc) (h : RowAt w b off cs)
    (hu : P.underlying ty = some d) (hd : (match d with | .struct _ | .array _ _ => true | _ => false) = true) (hi : (P.info? ty).map (·.size) = some cs.length)
    (hK : wpList P ops Q rest (a.put o.dst (.agg cs.toArray)) w) : wpList P ops Q (o :: rest) a w :=
  wpList_step fun K hK' => by rw [if_pos hw]; exact wp_load_at ty x ho b off hx cs d h hu hd hi (hK' _ _ hK)
theorem before_b (x y : LW) (w : World) : Calls Tryd.prog 12 #[.agg (wC x).toArray, .agg (wC y).toArray] w fun r w' => r = .returned (.bool (bef x y)) ∧ Lat w w' := (before_any x y w).mono (fun r w' h => ⟨h.1, drLat h.2⟩)
theorem rbefore_b (x y : LW) (w : World) : Calls Tryd.prog 13 #[.agg (wC x).toArray, .agg (wC y).toArray] w fun r w' => r = .returned (.bool (bef x y)) ∧ Lat w w' := (rbefore_any x y w).mono (fun r w' h => ⟨h.1, drLat h.2⟩)
set_option maxRecDepth 100000 in
set_option maxHeartbeats 4000000 in
theorem lawBefore (a b : LW) (w : World) : Calls Tryd.prog 3 #[.agg (wC a).toArray, .agg (wC b).toArray] w fun r w' => r = .returned (.bool true) ∧ Lat w w' := by
  have HA := fun w' => Lib.hid (long_any a w')
  have HB := fun w' => Lib.hid (long_any b w')
  have hL0 : Lat w ((w.alloc (.cells (wC a).toArray 29)).alloc (.cells (wC b).toArray 29)) := (Lat.al _ _).trans (Lat.al _ _)
  have ba := (Blk.new w 29 (wC a).toArray).alloc (.cells (wC b).toArray 29)
  have bb := Blk.at1 w (.cells (wC a).toArray 29) 29 (wC b).toArray
  have hra := ba.row
  have hrb := bb.row
  have la := ba.lt
  have lb := bb.lt
  clear ba bb
  go_enter Tryd.func3, Tryd.ntmps3
  go_wp2_with (with_reducible refine wpList_load_at rfl 29 _ rfl w.heap.size 0 rfl _ _ hra Tryd.underlying29 rfl (by kernel_rfl) ?_)
  refine (HA _).out.mono ?_
  rintro r w2 ⟨rfl, hl2⟩
  have hL2 := hL0.trans hl2
  have hra := hra.below hl2 la
  have hrb := hrb.below hl2 lb
  have la : w.heap.size < w2.heap.size := Nat.lt_of_lt_of_le la hl2.size
  have lb : w.heap.size + 1 < w2.heap.size := Nat.lt_of_lt_of_le lb hl2.size
  clear HA
  cases hqa : longB a
  · clear hqa
    go_wp2_with (first | (with_reducible refine wpList_load_at rfl 29 _ rfl (w.heap.size + 1) 0 rfl _ _ hrb Tryd.underlying29 rfl (by kernel_rfl) ?_) | (refine wpList_load_atG rfl 29 _ rfl (w.heap.size + 1) 0 rfl _ _ hrb Tryd.underlying29 rfl (by kernel_rfl) ?_))
    refine (HB _).out.mono ?_
    rintro r w3 ⟨rfl, hl3⟩
    have hL3 := hL2.trans hl3
    have hra := hra.below hl3 la
    have hrb := hrb.below hl3 lb
    have la : w.heap.size < w3.heap.size := Nat.lt_of_lt_of_le la hl3.size
    have lb : w.heap.size + 1 < w3.heap.size := Nat.lt_of_lt_of_le lb hl3.size
    clear HB hL2
    cases hqb : longB b
    · clear hqb
      go_wp2_with fail
      have hl2 := hL3
      refine wp_rely (by kernel_rfl) (by kernel_rfl) ?_
      apply RelyL.val
      · intro ν w' hL hF K hK'
        refine take_op rfl ?_
        refine wp_load_at 29 _ rfl w.heap.size (0) rfl _ _ (hra.below hL la) Tryd.underlying29 rfl (by kernel_rfl) ?_
        exact hK'.out _ _ rfl (Lat.refl _)
      simp only [Act.put, List.setIfInBounds_toArray, List.set_cons_zero, List.set_cons_succ, Nat.reduceAdd]
      apply RelyL.val
      · intro ν w' hL hF K hK'
        refine take_op rfl ?_
        refine wp_load_at 29 _ rfl (w.heap.size + 1) (0) rfl _ _ (hrb.below hL lb) Tryd.underlying29 rfl (by kernel_rfl) ?_
        exact hK'.out _ _ rfl (Lat.refl _)
      simp only [Act.put, List.setIfInBounds_toArray, List.set_cons_zero, List.set_cons_succ, Nat.reduceAdd]
      apply RelyL.val
      · intro ν w' hL hF K hK'
        have H := Lib.hid (before_b a b w')
        go_simp
        go_at_call 12
        refine H.out.mono ?_
        rintro r w'' ⟨rfl, hbp⟩
        exact hK'.out _ _ rfl hbp
      simp only [Act.put, List.setIfInBounds_toArray, List.set_cons_zero, List.set_cons_succ, Nat.reduceAdd]
      apply RelyL.val
      · intro ν w' hL hF K hK'
        refine take_op rfl ?_
        refine wp_load_at 29 _ rfl w.heap.size (0) rfl _ _ (hra.below hL la) Tryd.underlying29 rfl (by kernel_rfl) ?_
        exact hK'.out _ _ rfl (Lat.refl _)
      simp only [Act.put, List.setIfInBounds_toArray, List.set_cons_zero, List.set_cons_succ, Nat.reduceAdd]
      apply RelyL.val
      · intro ν w' hL hF K hK'
        refine take_op rfl ?_
        refine wp_load_at 29 _ rfl (w.heap.size + 1) (0) rfl _ _ (hrb.below hL lb) Tryd.underlying29 rfl (by kernel_rfl) ?_
        exact hK'.out _ _ rfl (Lat.refl _)
      simp only [Act.put, List.setIfInBounds_toArray, List.set_cons_zero, List.set_cons_succ, Nat.reduceAdd]
      apply RelyL.val
      · intro ν w' hL hF K hK'
        have H := Lib.hid (rbefore_b a b w')
        go_simp
        go_at_call 13
        refine H.out.mono ?_
        rintro r w'' ⟨rfl, hbp⟩
        exact hK'.out _ _ rfl hbp
      simp only [Act.put, List.setIfInBounds_toArray, List.set_cons_zero, List.set_cons_succ, Nat.reduceAdd]
      apply RelyL.val
      · intro ν w' hL hF K hK'
        go_simp
        exact hK'.out _ _ rfl (Lat.refl _)
      simp only [Act.put, List.setIfInBounds_toArray, List.set_cons_zero, List.set_cons_succ, Nat.reduceAdd]
      apply RelyL.val
      · intro ν w' hL hF K hK'
        go_simp
        exact hK'.out _ _ rfl (Lat.refl _)
      simp only [Act.put, List.setIfInBounds_toArray, List.set_cons_zero, List.set_cons_succ, Nat.reduceAdd]
      apply RelyL.val
      · intro ν w' hL hF K hK'
        have H := Lib.hid (awake_any w')
        go_simp
        go_at_call 11
        refine H.out.mono ?_
        rintro r w'' ⟨rfl, hbp⟩
        exact hK'.out _ _ rfl hbp
      simp only [Act.put, List.setIfInBounds_toArray, List.set_cons_zero, List.set_cons_succ, Nat.reduceAdd]
      apply RelyL.val
      · intro ν w' hL hF K hK'
        go_simp
        exact hK'.out _ _ rfl (Lat.refl _)
      simp only [Act.put, List.setIfInBounds_toArray, List.set_cons_zero, List.set_cons_succ, Nat.reduceAdd]
      apply RelyL.val
      · intro ν w' hL hF K hK'
        go_simp
        exact hK'.out _ _ rfl (Lat.refl _)
      simp only [Act.put, List.setIfInBounds_toArray, List.set_cons_zero, List.set_cons_succ, Nat.reduceAdd]
      refine RelyL.done fun ν w5 hL hF => ?_
      have hLW := hl2.trans hL
      go_wp2_with fail
      go_ret
      exact ⟨rfl, hLW⟩
    · clear hqb
      go_wp2_with fail
      refine (awake_any _).mono ?_
      rintro r w9 ⟨rfl, hl9⟩
      go_wp2_with fail
      go_ret
      exact ⟨rfl, (hL3).trans hl9⟩
  · clear hqa HB
    go_wp2_with fail
    refine (awake_any _).mono ?_
    rintro r w9 ⟨rfl, hl9⟩
    go_wp2_with fail
    go_ret
    exact ⟨rfl, (hL2).trans hl9⟩
end Go.Proofs.YtgjoojailghilaaDoor
