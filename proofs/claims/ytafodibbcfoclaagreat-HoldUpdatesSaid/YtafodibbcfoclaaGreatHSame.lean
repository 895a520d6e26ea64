/- Hold: timers compared; lists of timers and of names compared. -/
import Derived.Test.YtafodibbcfoclaaGreatHMem
import Derived.Laws.StructEq
set_option linter.unusedSimpArgs false
set_option linter.unusedVariables false
namespace Go.Proofs.YtafodibbcfoclaaGreat
open Go.RowKit

theorem sT : Tryz.prog.underlying 50 = some (.struct (Tryz.prog.fieldsOf 50)) := by kernel_rfl
theorem pT : Tryz.prog.stoodInHeld 50 = false := by kernel_rfl
theorem eqlT (d : Nat) (p q : LTim) (w : World) : (Op.equalIn (d + 2) 50 (.agg (tC p).toArray) (.agg (tC q).toArray)).run Tryz.prog w = .ok (decide (p = q)) w := by
  obtain ⟨p1, p2, p3⟩ := p
  obtain ⟨q1, q2, q3⟩ := q
  simp only [tC]
  rw [run_equalIn_agg w (d + 1) 50 _ _ sT pT]
  simp only [Program.fieldsOf, Tryz.underlying50]
  go_simp
  by_cases h1 : p1 = q1 <;> by_cases h2 : p2 = q2 <;> by_cases h3 : p3 = q3 <;> simp [h1, h2, h3, toList_inj]
theorem eql_t (p q : LTim) (w : World) : (binOp .eql 50 (.agg (tC p).toArray) (.agg (tC q).toArray)).run Tryz.prog w = .ok (.bool (decide (p = q))) w := by
  have h : (Op.equalIn 10000 50 (.agg (tC p).toArray) (.agg (tC q).toArray)).run Tryz.prog w = .ok (decide (p = q)) w := eqlT 9998 p q w
  rw [run_eql_struct]
  generalize (Op.equalIn 10000 50 (.agg (tC p).toArray) (.agg (tC q).toArray)).run Tryz.prog w = R at *
  rw [h]; rfl
theorem neq_t (p q : LTim) (w : World) : (binOp .neq 50 (.agg (tC p).toArray) (.agg (tC q).toArray)).run Tryz.prog w = .ok (.bool (!decide (p = q))) w := by
  have h : (Op.equalIn 10000 50 (.agg (tC p).toArray) (.agg (tC q).toArray)).run Tryz.prog w = .ok (decide (p = q)) w := eqlT 9998 p q w
  rw [run_neq_struct]
  generalize (Op.equalIn 10000 50 (.agg (tC p).toArray) (.agg (tC q).toArray)).run Tryz.prog w = R at *
  rw [h]; rfl
set_option maxRecDepth 100000 in
theorem guard_t (op : BinOp) (a b : Operand) (p q : LTim) (w : World) : (eqGuard op 50 a b (.agg (tC p).toArray) (.agg (tC q).toArray)).run Tryz.prog w = .ok () w := run_eqGuard_agg w op 50 a b _ _ (by kernel_rfl)
theorem wp_eql_t {o : Oper} {a : Act} {w : World} {K : Act → World → Prop} {Q : Exit → Act → World → Prop} (x y : Operand) (T : TypeId) (ho : o.op = .binOp .eql 50 x y T) (p q : LTim) (hx : a.eval x = .agg (tC p).toArray) (hy : a.eval y = .agg (tC q).toArray) {E : Bool} (hE : decide (p = q) = E)
    (h : K (a.put o.dst (.bool E)) w) : o.wp Tryz.prog a w K Q := by
  unfold Oper.wp execOp
  simp only [ho, hx, hy, Sem.run_bind, guard_t, eql_t, Result.andThen_ok, Sem.run_pure, hE]
  exact h
theorem wp_neq_t {o : Oper} {a : Act} {w : World} {K : Act → World → Prop} {Q : Exit → Act → World → Prop} (x y : Operand) (T : TypeId) (ho : o.op = .binOp .neq 50 x y T) (p q : LTim) (hx : a.eval x = .agg (tC p).toArray) (hy : a.eval y = .agg (tC q).toArray) {E : Bool} (hE : decide (p = q) = E)
    (h : K (a.put o.dst (.bool (!E))) w) : o.wp Tryz.prog a w K Q := by
  unfold Oper.wp execOp
  simp only [ho, hx, hy, Sem.run_bind, guard_t, neq_t, Result.andThen_ok, Sem.run_pure, hE]
  exact h
theorem wpl_eql_t {ops : Array Oper} {rest : List Oper} {o : Oper} {a : Act} {w : World} {Q : Exit → Act → World → Prop} (hgd : o.guard = none) (x y : Operand) (T : TypeId) (ho : o.op = .binOp .eql 50 x y T) (p q : LTim) (hx : a.eval x = .agg (tC p).toArray) (hy : a.eval y = .agg (tC q).toArray) {E : Bool} (hE : decide (p = q) = E)
    (h : wpList Tryz.prog ops Q rest (a.put o.dst (.bool E)) w) : wpList Tryz.prog ops Q (o :: rest) a w := wpList_plain hgd fun _ hK => wp_eql_t x y T ho p q hx hy hE (hK _ _ h)
theorem wpl_neq_t {ops : Array Oper} {rest : List Oper} {o : Oper} {a : Act} {w : World} {Q : Exit → Act → World → Prop} (hgd : o.guard = none) (x y : Operand) (T : TypeId) (ho : o.op = .binOp .neq 50 x y T) (p q : LTim) (hx : a.eval x = .agg (tC p).toArray) (hy : a.eval y = .agg (tC q).toArray) {E : Bool} (hE : decide (p = q) = E)
    (h : wpList Tryz.prog ops Q rest (a.put o.dst (.bool (!E))) w) : wpList Tryz.prog ops Q (o :: rest) a w := wpList_plain hgd fun _ hK => wp_neq_t x y T ho p q hx hy hE (hK _ _ h)
theorem wpl_eql_tG {ops : Array Oper} {rest : List Oper} {o : Oper} {a : Act} {w : World} {Q : Exit → Act → World → Prop} (hw : Region.wanted o (yielded ops a.tmps) = true) (x y : Operand) (T : TypeId) (ho : o.op = .binOp .eql 50 x y T) (p q : LTim) (hx : a.eval x = .agg (tC p).toArray) (hy : a.eval y = .agg (tC q).toArray) {E : Bool} (hE : decide (p = q) = E)
    (h : wpList Tryz.prog ops Q rest (a.put o.dst (.bool E)) w) : wpList Tryz.prog ops Q (o :: rest) a w :=
  wpList_step fun K hK' => by rw [if_pos hw]; exact wp_eql_t x y T ho p q hx hy hE (hK' _ _ h)
theorem wpl_neq_tG {ops : Array Oper} {rest : List Oper} {o : Oper} {a : Act} {w : World} {Q : Exit → Act → World → Prop} (hw : Region.wanted o (yielded ops a.tmps) = true) (x y : Operand) (T : TypeId) (ho : o.op = .binOp .neq 50 x y T) (p q : LTim) (hx : a.eval x = .agg (tC p).toArray) (hy : a.eval y = .agg (tC q).toArray) {E : Bool} (hE : decide (p = q) = E)
    (h : wpList Tryz.prog ops Q rest (a.put o.dst (.bool (!E))) w) : wpList Tryz.prog ops Q (o :: rest) a w :=
  wpList_step fun K hK' => by rw [if_pos hw]; exact wp_neq_t x y T ho p q hx hy hE (hK' _ _ h)
set_option maxRecDepth 100000 in
set_option maxHeartbeats 4000000 in
theorem rsame_any (xs ys : List LTim) (A B : Option Addr) (c c' : Nat) (w : World) (hx : ET.Rd w xs (.slice A xs.length c)) (hy : ET.Rd w ys (.slice B ys.length c')) (hbig : xs.length ≤ 1000000) :
    Calls Tryz.prog 7 #[.slice A xs.length c, .slice B ys.length c'] w fun r w' => r = .returned (.bool (decide (xs = ys))) ∧ Lat w w' := by
  have HR : Hid (decide (xs = ys) = decide (xs.drop 0 = ys.drop 0)) := Lib.hid rfl
  by_cases hl : xs.length = ys.length
  · rw [← hl] at hy ⊢
    have HLEN := Lib.hid hl
    clear hl
    generalize decide (xs = ys) = R at *
    go_enter Tryz.func7, Tryz.ntmps7
    go_wp2_with fail
    go_loopw [13] (fun i wr => ∃ j : Nat, j ≤ xs.length ∧ i = .int .i64 j ∧ Hid (R = decide (xs.drop j = ys.drop j)) ∧ Lat w wr) (fun i _ => xs.length - (intOf i).toNat)
    case atStart => exact ⟨0, Nat.zero_le _, rfl, HR, Lat.refl _⟩
    case round =>
      clear HR
      obtain ⟨j, hjl, rfl, HR, hLW⟩ := hrel
      by_cases hlt : j < xs.length
      · have hlt' : j < ys.length := by have := HLEN.out; omega
        obtain ⟨b, off, hA, hb1, hr1'⟩ := (hx.lat hLW).row j hlt
        obtain ⟨b', off', hB, hb2, hr2'⟩ := (hy.lat hLW).row j hlt'
        subst hA hB
        have hr1 : RowAt wr b (off + j * 3) (tC xs[j]) := hr1'
        have hr2 : RowAt wr b' (off' + j * 3) (tC ys[j]) := hr2'
        clear hr1' hr2'
        rw [List.drop_eq_getElem_cons hlt, List.drop_eq_getElem_cons hlt'] at HR
        clear hx hy
        have HL' := Lib.hid hlt'
        go_wp2_with fail
        by_cases he : xs[j] = ys[j]
        · have HE := Lib.hid (decide_eq_true he)
          have HQ := Lib.hid he
          clear he
          refine wp_rely (by kernel_rfl) (by kernel_rfl) ?_
          apply RelyL.val
          · intro ν w' hL hF K hK'
            go_simp
            exact hK'.out _ _ rfl (Lat.refl _)
          simp only [Act.put, List.setIfInBounds_toArray, List.set_cons_zero, List.set_cons_succ, Nat.reduceAdd]
          apply RelyL.val
          · intro ν w' hL hF K hK'
            go_simp
            exact hK'.out _ _ rfl (Lat.refl _)
          simp only [Act.put, List.setIfInBounds_toArray, List.set_cons_zero, List.set_cons_succ, Nat.reduceAdd]
          apply RelyL.val
          · intro ν w' hL hF K hK'
            go_simp
            exact hK'.out _ _ rfl (Lat.refl _)
          simp only [Act.put, List.setIfInBounds_toArray, List.set_cons_zero, List.set_cons_succ, Nat.reduceAdd]
          apply RelyL.val
          · intro ν w' hL hF K hK'
            refine take_op rfl ?_
            refine wp_load_at 50 _ rfl b ((off + j * 3)) rfl _ _ (hr1.below hL hb1) Tryz.underlying50 rfl (by kernel_rfl) ?_
            exact hK'.out _ _ rfl (Lat.refl _)
          simp only [Act.put, List.setIfInBounds_toArray, List.set_cons_zero, List.set_cons_succ, Nat.reduceAdd]
          apply RelyL.val
          · intro ν w' hL hF K hK'
            go_simp
            exact hK'.out _ _ rfl (Lat.refl _)
          simp only [Act.put, List.setIfInBounds_toArray, List.set_cons_zero, List.set_cons_succ, Nat.reduceAdd]
          apply RelyL.val
          · intro ν w' hL hF K hK'
            go_simp
            exact hK'.out _ _ rfl (Lat.refl _)
          simp only [Act.put, List.setIfInBounds_toArray, List.set_cons_zero, List.set_cons_succ, Nat.reduceAdd]
          apply RelyL.val
          · intro ν w' hL hF K hK'
            go_simp
            exact hK'.out _ _ rfl (Lat.refl _)
          simp only [Act.put, List.setIfInBounds_toArray, List.set_cons_zero, List.set_cons_succ, Nat.reduceAdd]
          apply RelyL.val
          · intro ν w' hL hF K hK'
            refine take_op rfl ?_
            refine wp_load_at 50 _ rfl b' ((off' + j * 3)) rfl _ _ (hr2.below hL hb2) Tryz.underlying50 rfl (by kernel_rfl) ?_
            exact hK'.out _ _ rfl (Lat.refl _)
          simp only [Act.put, List.setIfInBounds_toArray, List.set_cons_zero, List.set_cons_succ, Nat.reduceAdd]
          apply RelyL.val
          · intro ν w' hL hF K hK'
            refine take_op rfl ?_
            refine wp_neq_t _ _ _ rfl xs[j] ys[j] rfl rfl HE.out ?_
            exact hK'.out _ _ rfl (Lat.refl _)
          simp only [Act.put, List.setIfInBounds_toArray, List.set_cons_zero, List.set_cons_succ, Nat.reduceAdd]
          refine RelyL.done fun ν w4 hL hF => ?_
          clear hF
          have hLW2 := hLW.trans hL
          go_wp2_with fail
          go_roundw
          case rel =>
            refine ⟨j + 1, by omega, by go_num, Lib.hid (HR.out.trans ?_), hLW2⟩
            have e := HQ.out
            rw [Bool.eq_iff_iff, decide_eq_true_iff, decide_eq_true_iff, e]
            exact ⟨fun h => (List.cons.inj h).2, fun h => congrArg (List.cons _) h⟩
          case measure => simp [intOf]; omega
        · have HE := Lib.hid (decide_eq_false he)
          refine wp_rely (by kernel_rfl) (by kernel_rfl) ?_
          apply RelyL.val
          · intro ν w' hL hF K hK'
            go_simp
            exact hK'.out _ _ rfl (Lat.refl _)
          simp only [Act.put, List.setIfInBounds_toArray, List.set_cons_zero, List.set_cons_succ, Nat.reduceAdd]
          apply RelyL.val
          · intro ν w' hL hF K hK'
            go_simp
            exact hK'.out _ _ rfl (Lat.refl _)
          simp only [Act.put, List.setIfInBounds_toArray, List.set_cons_zero, List.set_cons_succ, Nat.reduceAdd]
          apply RelyL.val
          · intro ν w' hL hF K hK'
            go_simp
            exact hK'.out _ _ rfl (Lat.refl _)
          simp only [Act.put, List.setIfInBounds_toArray, List.set_cons_zero, List.set_cons_succ, Nat.reduceAdd]
          apply RelyL.val
          · intro ν w' hL hF K hK'
            refine take_op rfl ?_
            refine wp_load_at 50 _ rfl b ((off + j * 3)) rfl _ _ (hr1.below hL hb1) Tryz.underlying50 rfl (by kernel_rfl) ?_
            exact hK'.out _ _ rfl (Lat.refl _)
          simp only [Act.put, List.setIfInBounds_toArray, List.set_cons_zero, List.set_cons_succ, Nat.reduceAdd]
          apply RelyL.val
          · intro ν w' hL hF K hK'
            go_simp
            exact hK'.out _ _ rfl (Lat.refl _)
          simp only [Act.put, List.setIfInBounds_toArray, List.set_cons_zero, List.set_cons_succ, Nat.reduceAdd]
          apply RelyL.val
          · intro ν w' hL hF K hK'
            go_simp
            exact hK'.out _ _ rfl (Lat.refl _)
          simp only [Act.put, List.setIfInBounds_toArray, List.set_cons_zero, List.set_cons_succ, Nat.reduceAdd]
          apply RelyL.val
          · intro ν w' hL hF K hK'
            go_simp
            exact hK'.out _ _ rfl (Lat.refl _)
          simp only [Act.put, List.setIfInBounds_toArray, List.set_cons_zero, List.set_cons_succ, Nat.reduceAdd]
          apply RelyL.val
          · intro ν w' hL hF K hK'
            refine take_op rfl ?_
            refine wp_load_at 50 _ rfl b' ((off' + j * 3)) rfl _ _ (hr2.below hL hb2) Tryz.underlying50 rfl (by kernel_rfl) ?_
            exact hK'.out _ _ rfl (Lat.refl _)
          simp only [Act.put, List.setIfInBounds_toArray, List.set_cons_zero, List.set_cons_succ, Nat.reduceAdd]
          apply RelyL.val
          · intro ν w' hL hF K hK'
            refine take_op rfl ?_
            refine wp_neq_t _ _ _ rfl xs[j] ys[j] rfl rfl HE.out ?_
            exact hK'.out _ _ rfl (Lat.refl _)
          simp only [Act.put, List.setIfInBounds_toArray, List.set_cons_zero, List.set_cons_succ, Nat.reduceAdd]
          refine RelyL.done fun ν w4 hL hF => ?_
          clear hF
          have hLW2 := hLW.trans hL
          go_wp2_with fail
          go_ret
          have hR : R = false := HR.out.trans (decide_eq_false (fun h => he (List.cons.inj h).1))
          subst hR
          exact ⟨rfl, hLW2⟩
      · have hj : j = xs.length := by omega
        have d1 : xs.drop j = [] := List.drop_of_length_le (by omega)
        have d2 : ys.drop j = [] := List.drop_of_length_le (by have := HLEN.out; omega)
        have hR : R = true := HR.out.trans (by rw [d1, d2]; exact decide_eq_true rfl)
        clear d1 d2
        subst hj
        go_wp2_with fail
        go_ret
        subst hR
        exact ⟨rfl, hLW⟩
  · have hR : decide (xs = ys) = false := decide_eq_false (fun e => hl (by rw [e]))
    rw [hR]
    go_enter Tryz.func7, Tryz.ntmps7
    go_wp2_with fail
    go_ret
    exact ⟨rfl, Lat.refl _⟩
set_option maxRecDepth 100000 in
set_option maxHeartbeats 4000000 in
theorem nsame_any (xs ys : List ByteArray) (A B : Option Addr) (c c' : Nat) (w : World) (hx : ES.Rd w xs (.slice A xs.length c)) (hy : ES.Rd w ys (.slice B ys.length c')) (hbig : xs.length ≤ 1000000) :
    Calls Tryz.prog 14 #[.slice A xs.length c, .slice B ys.length c'] w fun r w' => r = .returned (.bool (decide (xs = ys))) ∧ Lat w w' := by
  have HR : Hid (decide (xs = ys) = decide (xs.drop 0 = ys.drop 0)) := Lib.hid rfl
  by_cases hl : xs.length = ys.length
  · rw [← hl] at hy ⊢
    have HLEN := Lib.hid hl
    clear hl
    generalize decide (xs = ys) = R at *
    go_enter Tryz.func14, Tryz.ntmps14
    go_wp2_with fail
    go_loopw [5] (fun i wr => ∃ j : Nat, j ≤ xs.length ∧ i = .int .i64 j ∧ Hid (R = decide (xs.drop j = ys.drop j)) ∧ Lat w wr) (fun i _ => xs.length - (intOf i).toNat)
    case atStart => exact ⟨0, Nat.zero_le _, rfl, HR, Lat.refl _⟩
    case round =>
      clear HR
      obtain ⟨j, hjl, rfl, HR, hLW⟩ := hrel
      by_cases hlt : j < xs.length
      · have hlt' : j < ys.length := by have := HLEN.out; omega
        obtain ⟨b, off, hA, hb1, hr1'⟩ := (hx.lat hLW).row j hlt
        obtain ⟨b', off', hB, hb2, hr2'⟩ := (hy.lat hLW).row j hlt'
        subst hA hB
        have hc1 : wr.cell? ⟨b, off + j, none⟩ = some (.string xs[j]) := by
          have h := hr1' 0 _ rfl
          rwa [show off + j * ES.n + 0 = off + j from by show off + j * 1 + 0 = _; omega] at h
        have hc2 : wr.cell? ⟨b', off' + j, none⟩ = some (.string ys[j]) := by
          have h := hr2' 0 _ rfl
          rwa [show off' + j * ES.n + 0 = off' + j from by show off' + j * 1 + 0 = _; omega] at h
        clear hr1' hr2'
        rw [List.drop_eq_getElem_cons hlt, List.drop_eq_getElem_cons hlt'] at HR
        clear hx hy
        have HL' := Lib.hid hlt'
        go_wp2_with fail
        by_cases he : xs[j] = ys[j]
        · have HE := Lib.hid (decide_eq_true he)
          have HQ := Lib.hid he
          generalize xs[j] = X at *
          generalize ys[j] = Y at *
          have hb3 : (!(X.toList == Y.toList)) = false := by rw [he]; simp
          have hb4 : (X.toList == Y.toList) = true := by rw [he]; simp
          clear he
          refine wp_rely (by kernel_rfl) (by kernel_rfl) ?_
          apply RelyL.val
          · intro ν w' hL hF K hK'
            go_simp
            exact hK'.out _ _ rfl (Lat.refl _)
          simp only [Act.put, List.setIfInBounds_toArray, List.set_cons_zero, List.set_cons_succ, Nat.reduceAdd]
          apply RelyL.val
          · intro ν w' hL hF K hK'
            go_simp
            exact hK'.out _ _ rfl (Lat.refl _)
          simp only [Act.put, List.setIfInBounds_toArray, List.set_cons_zero, List.set_cons_succ, Nat.reduceAdd]
          apply RelyL.val
          · intro ν w' hL hF K hK'
            go_simp
            exact hK'.out _ _ rfl (Lat.refl _)
          simp only [Act.put, List.setIfInBounds_toArray, List.set_cons_zero, List.set_cons_succ, Nat.reduceAdd]
          apply RelyL.val
          · intro ν w' hL hF K hK'
            have c1 := (hL.cell (p := ⟨b, off + j, none⟩) hb1).trans hc1
            have c2 := (hL.cell (p := ⟨b', off' + j, none⟩) hb2).trans hc2
            go_simp
            exact hK'.out _ _ rfl (Lat.refl _)
          simp only [Act.put, List.setIfInBounds_toArray, List.set_cons_zero, List.set_cons_succ, Nat.reduceAdd]
          apply RelyL.val
          · intro ν w' hL hF K hK'
            go_simp
            exact hK'.out _ _ rfl (Lat.refl _)
          simp only [Act.put, List.setIfInBounds_toArray, List.set_cons_zero, List.set_cons_succ, Nat.reduceAdd]
          apply RelyL.val
          · intro ν w' hL hF K hK'
            go_simp
            exact hK'.out _ _ rfl (Lat.refl _)
          simp only [Act.put, List.setIfInBounds_toArray, List.set_cons_zero, List.set_cons_succ, Nat.reduceAdd]
          apply RelyL.val
          · intro ν w' hL hF K hK'
            go_simp
            exact hK'.out _ _ rfl (Lat.refl _)
          simp only [Act.put, List.setIfInBounds_toArray, List.set_cons_zero, List.set_cons_succ, Nat.reduceAdd]
          apply RelyL.val
          · intro ν w' hL hF K hK'
            have c1 := (hL.cell (p := ⟨b, off + j, none⟩) hb1).trans hc1
            have c2 := (hL.cell (p := ⟨b', off' + j, none⟩) hb2).trans hc2
            go_simp
            exact hK'.out _ _ rfl (Lat.refl _)
          simp only [Act.put, List.setIfInBounds_toArray, List.set_cons_zero, List.set_cons_succ, Nat.reduceAdd]
          apply RelyL.val
          · intro ν w' hL hF K hK'
            go_simp
            exact hK'.out _ _ rfl (Lat.refl _)
          simp only [Act.put, List.setIfInBounds_toArray, List.set_cons_zero, List.set_cons_succ, Nat.reduceAdd]
          refine RelyL.done fun ν w4 hL hF => ?_
          clear hF
          have hLW2 := hLW.trans hL
          go_wp2_with fail
          go_roundw
          case rel =>
            refine ⟨j + 1, by omega, by go_num, Lib.hid (HR.out.trans ?_), hLW2⟩
            have e := HQ.out
            rw [Bool.eq_iff_iff, decide_eq_true_iff, decide_eq_true_iff, e]
            exact ⟨fun h => (List.cons.inj h).2, fun h => congrArg (List.cons _) h⟩
          case measure => simp [intOf]; omega
        · have HE := Lib.hid (decide_eq_false he)
          generalize xs[j] = X at *
          generalize ys[j] = Y at *
          have hb3 : (!(X.toList == Y.toList)) = true := by rw [toList_beq]; simpa using he
          have hb4 : (X.toList == Y.toList) = false := by rw [toList_beq]; simpa using he
          refine wp_rely (by kernel_rfl) (by kernel_rfl) ?_
          apply RelyL.val
          · intro ν w' hL hF K hK'
            go_simp
            exact hK'.out _ _ rfl (Lat.refl _)
          simp only [Act.put, List.setIfInBounds_toArray, List.set_cons_zero, List.set_cons_succ, Nat.reduceAdd]
          apply RelyL.val
          · intro ν w' hL hF K hK'
            go_simp
            exact hK'.out _ _ rfl (Lat.refl _)
          simp only [Act.put, List.setIfInBounds_toArray, List.set_cons_zero, List.set_cons_succ, Nat.reduceAdd]
          apply RelyL.val
          · intro ν w' hL hF K hK'
            go_simp
            exact hK'.out _ _ rfl (Lat.refl _)
          simp only [Act.put, List.setIfInBounds_toArray, List.set_cons_zero, List.set_cons_succ, Nat.reduceAdd]
          apply RelyL.val
          · intro ν w' hL hF K hK'
            have c1 := (hL.cell (p := ⟨b, off + j, none⟩) hb1).trans hc1
            have c2 := (hL.cell (p := ⟨b', off' + j, none⟩) hb2).trans hc2
            go_simp
            exact hK'.out _ _ rfl (Lat.refl _)
          simp only [Act.put, List.setIfInBounds_toArray, List.set_cons_zero, List.set_cons_succ, Nat.reduceAdd]
          apply RelyL.val
          · intro ν w' hL hF K hK'
            go_simp
            exact hK'.out _ _ rfl (Lat.refl _)
          simp only [Act.put, List.setIfInBounds_toArray, List.set_cons_zero, List.set_cons_succ, Nat.reduceAdd]
          apply RelyL.val
          · intro ν w' hL hF K hK'
            go_simp
            exact hK'.out _ _ rfl (Lat.refl _)
          simp only [Act.put, List.setIfInBounds_toArray, List.set_cons_zero, List.set_cons_succ, Nat.reduceAdd]
          apply RelyL.val
          · intro ν w' hL hF K hK'
            go_simp
            exact hK'.out _ _ rfl (Lat.refl _)
          simp only [Act.put, List.setIfInBounds_toArray, List.set_cons_zero, List.set_cons_succ, Nat.reduceAdd]
          apply RelyL.val
          · intro ν w' hL hF K hK'
            have c1 := (hL.cell (p := ⟨b, off + j, none⟩) hb1).trans hc1
            have c2 := (hL.cell (p := ⟨b', off' + j, none⟩) hb2).trans hc2
            go_simp
            exact hK'.out _ _ rfl (Lat.refl _)
          simp only [Act.put, List.setIfInBounds_toArray, List.set_cons_zero, List.set_cons_succ, Nat.reduceAdd]
          apply RelyL.val
          · intro ν w' hL hF K hK'
            go_simp
            exact hK'.out _ _ rfl (Lat.refl _)
          simp only [Act.put, List.setIfInBounds_toArray, List.set_cons_zero, List.set_cons_succ, Nat.reduceAdd]
          refine RelyL.done fun ν w4 hL hF => ?_
          clear hF
          have hLW2 := hLW.trans hL
          go_wp2_with fail
          go_ret
          have hR : R = false := HR.out.trans (decide_eq_false (fun h => he (List.cons.inj h).1))
          subst hR
          exact ⟨rfl, hLW2⟩
      · have hj : j = xs.length := by omega
        have d1 : xs.drop j = [] := List.drop_of_length_le (by omega)
        have d2 : ys.drop j = [] := List.drop_of_length_le (by have := HLEN.out; omega)
        have hR : R = true := HR.out.trans (by rw [d1, d2]; exact decide_eq_true rfl)
        clear d1 d2
        subst hj
        go_wp2_with fail
        go_ret
        subst hR
        exact ⟨rfl, hLW⟩
  · have hR : decide (xs = ys) = false := decide_eq_false (fun e => hl (by rw [e]))
    rw [hR]
    go_enter Tryz.func14, Tryz.ntmps14
    go_wp2_with fail
    go_ret
    exact ⟨rfl, Lat.refl _⟩
end Go.Proofs.YtafodibbcfoclaaGreat
