/- Guard: the comparison of two keys, of two values, of two writes as one operation. -/
import Derived.Test.YtmgalnbacenbbaaGMem
import Derived.Laws.StructEq
set_option linter.unusedSimpArgs false
set_option linter.unusedVariables false
namespace Go.Proofs.Ytmgalnbacenbbaa
open Go.RowKit

theorem sK : Try.prog.underlying 33 = some (.struct (Try.prog.fieldsOf 33)) := by kernel_rfl
theorem sV : Try.prog.underlying 35 = some (.struct (Try.prog.fieldsOf 35)) := by kernel_rfl
theorem sC : Try.prog.underlying 56 = some (.struct (Try.prog.fieldsOf 56)) := by kernel_rfl
theorem sW : Try.prog.underlying 58 = some (.struct (Try.prog.fieldsOf 58)) := by kernel_rfl
theorem pK : Try.prog.stoodInHeld 33 = false := by kernel_rfl
theorem pV : Try.prog.stoodInHeld 35 = false := by kernel_rfl
theorem pC : Try.prog.stoodInHeld 56 = false := by kernel_rfl
theorem pW : Try.prog.stoodInHeld 58 = false := by kernel_rfl
theorem eqlK (d : Nat) (p q : LKey) (w : World) : (Op.equalIn (d + 2) 33 (.agg (kC p).toArray) (.agg (kC q).toArray)).run Try.prog w = .ok (decide (p = q)) w := by
  obtain ⟨p1, p2, p3⟩ := p
  obtain ⟨q1, q2, q3⟩ := q
  simp only [kC]
  rw [run_equalIn_agg w (d + 1) 33 _ _ sK pK]
  simp only [Program.fieldsOf, Try.underlying33]
  go_simp
  by_cases h1 : p1 = q1 <;> by_cases h2 : p2 = q2 <;> by_cases h3 : p3 = q3 <;> simp [h1, h2, h3, toList_inj]
theorem eqlV (d : Nat) (p q : LVal) (w : World) : (Op.equalIn (d + 2) 35 (.agg (vC p).toArray) (.agg (vC q).toArray)).run Try.prog w = .ok (decide (p = q)) w := by
  obtain ⟨p1, p2, p3⟩ := p
  obtain ⟨q1, q2, q3⟩ := q
  simp only [vC]
  rw [run_equalIn_agg w (d + 1) 35 _ _ sV pV]
  simp only [Program.fieldsOf, Try.underlying35]
  go_simp
  by_cases h1 : p1 = q1 <;> by_cases h2 : p2 = q2 <;> by_cases h3 : p3 = q3 <;> simp [h1, h2, h3, toList_inj]
theorem eqlC (d : Nat) (p1 : Int) (p2 : ByteArray) (p3 : Int) (q1 : Int) (q2 : ByteArray) (q3 : Int) (w : World) : (Op.equalIn (d + 2) 56 (.agg #[.int .i64 p1, .string p2, .int .i64 p3]) (.agg #[.int .i64 q1, .string q2, .int .i64 q3])).run Try.prog w = .ok (decide (p1 = q1 ∧ p2 = q2 ∧ p3 = q3)) w := by
  rw [run_equalIn_agg w (d + 1) 56 _ _ sC pC]
  simp only [Program.fieldsOf, Try.underlying56]
  go_simp
  by_cases h1 : p1 = q1 <;> by_cases h2 : p2 = q2 <;> by_cases h3 : p3 = q3 <;> simp [h1, h2, h3, toList_inj]
theorem eqlW (d : Nat) (p q : LW) (w : World) : (Op.equalIn (d + 3) 58 (.agg (wC p).toArray) (.agg (wC q).toArray)).run Try.prog w = .ok (decide (p = q)) w := by
  obtain ⟨⟨p1, p2, p3⟩, ⟨p4, p5, p6⟩, p7, p8, p9, p10⟩ := p
  obtain ⟨⟨q1, q2, q3⟩, ⟨q4, q5, q6⟩, q7, q8, q9, q10⟩ := q
  simp only [wC, kC, vC] at *
  rw [run_equalIn_agg w (d + 2) 58 _ _ sW pW]
  simp only [Program.fieldsOf, Try.underlying58]
  go_simp
  simp only [toList_inj]
  (repeat' split) <;> simp [*]
theorem eql_k (p q : LKey) (w : World) : (binOp .eql 33 (.agg (kC p).toArray) (.agg (kC q).toArray)).run Try.prog w = .ok (.bool (decide (p = q))) w := by
  have h : (Op.equalIn 10000 33 (.agg (kC p).toArray) (.agg (kC q).toArray)).run Try.prog w = .ok (decide (p = q)) w := eqlK 9998 p q w
  rw [run_eql_struct]
  generalize (Op.equalIn 10000 33 (.agg (kC p).toArray) (.agg (kC q).toArray)).run Try.prog w = R at *
  rw [h]; rfl
theorem neq_k (p q : LKey) (w : World) : (binOp .neq 33 (.agg (kC p).toArray) (.agg (kC q).toArray)).run Try.prog w = .ok (.bool (!decide (p = q))) w := by
  have h : (Op.equalIn 10000 33 (.agg (kC p).toArray) (.agg (kC q).toArray)).run Try.prog w = .ok (decide (p = q)) w := eqlK 9998 p q w
  rw [run_neq_struct]
  generalize (Op.equalIn 10000 33 (.agg (kC p).toArray) (.agg (kC q).toArray)).run Try.prog w = R at *
  rw [h]; rfl
set_option maxRecDepth 100000 in
theorem guard_k (op : BinOp) (a b : Operand) (p q : LKey) (w : World) : (eqGuard op 33 a b (.agg (kC p).toArray) (.agg (kC q).toArray)).run Try.prog w = .ok () w := run_eqGuard_agg w op 33 a b _ _ (by kernel_rfl)
theorem wp_eql_k {o : Oper} {a : Act} {w : World} {K : Act → World → Prop} {Q : Exit → Act → World → Prop} (x y : Operand) (T : TypeId) (ho : o.op = .binOp .eql 33 x y T) (p q : LKey) (hx : a.eval x = .agg (kC p).toArray) (hy : a.eval y = .agg (kC q).toArray) {E : Bool} (hE : decide (p = q) = E)
    (h : K (a.put o.dst (.bool E)) w) : o.wp Try.prog a w K Q := by
  unfold Oper.wp execOp
  simp only [ho, hx, hy, Sem.run_bind, guard_k, eql_k, Result.andThen_ok, Sem.run_pure, hE]
  exact h
theorem wp_neq_k {o : Oper} {a : Act} {w : World} {K : Act → World → Prop} {Q : Exit → Act → World → Prop} (x y : Operand) (T : TypeId) (ho : o.op = .binOp .neq 33 x y T) (p q : LKey) (hx : a.eval x = .agg (kC p).toArray) (hy : a.eval y = .agg (kC q).toArray) {E : Bool} (hE : decide (p = q) = E)
    (h : K (a.put o.dst (.bool (!E))) w) : o.wp Try.prog a w K Q := by
  unfold Oper.wp execOp
  simp only [ho, hx, hy, Sem.run_bind, guard_k, neq_k, Result.andThen_ok, Sem.run_pure, hE]
  exact h
theorem wpl_eql_k {ops : Array Oper} {rest : List Oper} {o : Oper} {a : Act} {w : World} {Q : Exit → Act → World → Prop} (hgd : o.guard = none) (x y : Operand) (T : TypeId) (ho : o.op = .binOp .eql 33 x y T) (p q : LKey) (hx : a.eval x = .agg (kC p).toArray) (hy : a.eval y = .agg (kC q).toArray) {E : Bool} (hE : decide (p = q) = E)
    (h : wpList Try.prog ops Q rest (a.put o.dst (.bool E)) w) : wpList Try.prog ops Q (o :: rest) a w := wpList_plain hgd fun _ hK => wp_eql_k x y T ho p q hx hy hE (hK _ _ h)
theorem wpl_neq_k {ops : Array Oper} {rest : List Oper} {o : Oper} {a : Act} {w : World} {Q : Exit → Act → World → Prop} (hgd : o.guard = none) (x y : Operand) (T : TypeId) (ho : o.op = .binOp .neq 33 x y T) (p q : LKey) (hx : a.eval x = .agg (kC p).toArray) (hy : a.eval y = .agg (kC q).toArray) {E : Bool} (hE : decide (p = q) = E)
    (h : wpList Try.prog ops Q rest (a.put o.dst (.bool (!E))) w) : wpList Try.prog ops Q (o :: rest) a w := wpList_plain hgd fun _ hK => wp_neq_k x y T ho p q hx hy hE (hK _ _ h)
theorem wpl_eql_kG {ops : Array Oper} {rest : List Oper} {o : Oper} {a : Act} {w : World} {Q : Exit → Act → World → Prop} (hw : Region.wanted o (yielded ops a.tmps) = true) (x y : Operand) (T : TypeId) (ho : o.op = .binOp .eql 33 x y T) (p q : LKey) (hx : a.eval x = .agg (kC p).toArray) (hy : a.eval y = .agg (kC q).toArray) {E : Bool} (hE : decide (p = q) = E)
    (h : wpList Try.prog ops Q rest (a.put o.dst (.bool E)) w) : wpList Try.prog ops Q (o :: rest) a w :=
  wpList_step fun K hK' => by rw [if_pos hw]; exact wp_eql_k x y T ho p q hx hy hE (hK' _ _ h)
theorem wpl_neq_kG {ops : Array Oper} {rest : List Oper} {o : Oper} {a : Act} {w : World} {Q : Exit → Act → World → Prop} (hw : Region.wanted o (yielded ops a.tmps) = true) (x y : Operand) (T : TypeId) (ho : o.op = .binOp .neq 33 x y T) (p q : LKey) (hx : a.eval x = .agg (kC p).toArray) (hy : a.eval y = .agg (kC q).toArray) {E : Bool} (hE : decide (p = q) = E)
    (h : wpList Try.prog ops Q rest (a.put o.dst (.bool (!E))) w) : wpList Try.prog ops Q (o :: rest) a w :=
  wpList_step fun K hK' => by rw [if_pos hw]; exact wp_neq_k x y T ho p q hx hy hE (hK' _ _ h)
theorem eql_v (p q : LVal) (w : World) : (binOp .eql 35 (.agg (vC p).toArray) (.agg (vC q).toArray)).run Try.prog w = .ok (.bool (decide (p = q))) w := by
  have h : (Op.equalIn 10000 35 (.agg (vC p).toArray) (.agg (vC q).toArray)).run Try.prog w = .ok (decide (p = q)) w := eqlV 9998 p q w
  rw [run_eql_struct]
  generalize (Op.equalIn 10000 35 (.agg (vC p).toArray) (.agg (vC q).toArray)).run Try.prog w = R at *
  rw [h]; rfl
theorem neq_v (p q : LVal) (w : World) : (binOp .neq 35 (.agg (vC p).toArray) (.agg (vC q).toArray)).run Try.prog w = .ok (.bool (!decide (p = q))) w := by
  have h : (Op.equalIn 10000 35 (.agg (vC p).toArray) (.agg (vC q).toArray)).run Try.prog w = .ok (decide (p = q)) w := eqlV 9998 p q w
  rw [run_neq_struct]
  generalize (Op.equalIn 10000 35 (.agg (vC p).toArray) (.agg (vC q).toArray)).run Try.prog w = R at *
  rw [h]; rfl
set_option maxRecDepth 100000 in
theorem guard_v (op : BinOp) (a b : Operand) (p q : LVal) (w : World) : (eqGuard op 35 a b (.agg (vC p).toArray) (.agg (vC q).toArray)).run Try.prog w = .ok () w := run_eqGuard_agg w op 35 a b _ _ (by kernel_rfl)
theorem wp_eql_v {o : Oper} {a : Act} {w : World} {K : Act → World → Prop} {Q : Exit → Act → World → Prop} (x y : Operand) (T : TypeId) (ho : o.op = .binOp .eql 35 x y T) (p q : LVal) (hx : a.eval x = .agg (vC p).toArray) (hy : a.eval y = .agg (vC q).toArray) {E : Bool} (hE : decide (p = q) = E)
    (h : K (a.put o.dst (.bool E)) w) : o.wp Try.prog a w K Q := by
  unfold Oper.wp execOp
  simp only [ho, hx, hy, Sem.run_bind, guard_v, eql_v, Result.andThen_ok, Sem.run_pure, hE]
  exact h
theorem wp_neq_v {o : Oper} {a : Act} {w : World} {K : Act → World → Prop} {Q : Exit → Act → World → Prop} (x y : Operand) (T : TypeId) (ho : o.op = .binOp .neq 35 x y T) (p q : LVal) (hx : a.eval x = .agg (vC p).toArray) (hy : a.eval y = .agg (vC q).toArray) {E : Bool} (hE : decide (p = q) = E)
    (h : K (a.put o.dst (.bool (!E))) w) : o.wp Try.prog a w K Q := by
  unfold Oper.wp execOp
  simp only [ho, hx, hy, Sem.run_bind, guard_v, neq_v, Result.andThen_ok, Sem.run_pure, hE]
  exact h
theorem wpl_eql_v {ops : Array Oper} {rest : List Oper} {o : Oper} {a : Act} {w : World} {Q : Exit → Act → World → Prop} (hgd : o.guard = none) (x y : Operand) (T : TypeId) (ho : o.op = .binOp .eql 35 x y T) (p q : LVal) (hx : a.eval x = .agg (vC p).toArray) (hy : a.eval y = .agg (vC q).toArray) {E : Bool} (hE : decide (p = q) = E)
    (h : wpList Try.prog ops Q rest (a.put o.dst (.bool E)) w) : wpList Try.prog ops Q (o :: rest) a w := wpList_plain hgd fun _ hK => wp_eql_v x y T ho p q hx hy hE (hK _ _ h)
theorem wpl_neq_v {ops : Array Oper} {rest : List Oper} {o : Oper} {a : Act} {w : World} {Q : Exit → Act → World → Prop} (hgd : o.guard = none) (x y : Operand) (T : TypeId) (ho : o.op = .binOp .neq 35 x y T) (p q : LVal) (hx : a.eval x = .agg (vC p).toArray) (hy : a.eval y = .agg (vC q).toArray) {E : Bool} (hE : decide (p = q) = E)
    (h : wpList Try.prog ops Q rest (a.put o.dst (.bool (!E))) w) : wpList Try.prog ops Q (o :: rest) a w := wpList_plain hgd fun _ hK => wp_neq_v x y T ho p q hx hy hE (hK _ _ h)
theorem wpl_eql_vG {ops : Array Oper} {rest : List Oper} {o : Oper} {a : Act} {w : World} {Q : Exit → Act → World → Prop} (hw : Region.wanted o (yielded ops a.tmps) = true) (x y : Operand) (T : TypeId) (ho : o.op = .binOp .eql 35 x y T) (p q : LVal) (hx : a.eval x = .agg (vC p).toArray) (hy : a.eval y = .agg (vC q).toArray) {E : Bool} (hE : decide (p = q) = E)
    (h : wpList Try.prog ops Q rest (a.put o.dst (.bool E)) w) : wpList Try.prog ops Q (o :: rest) a w :=
  wpList_step fun K hK' => by rw [if_pos hw]; exact wp_eql_v x y T ho p q hx hy hE (hK' _ _ h)
theorem wpl_neq_vG {ops : Array Oper} {rest : List Oper} {o : Oper} {a : Act} {w : World} {Q : Exit → Act → World → Prop} (hw : Region.wanted o (yielded ops a.tmps) = true) (x y : Operand) (T : TypeId) (ho : o.op = .binOp .neq 35 x y T) (p q : LVal) (hx : a.eval x = .agg (vC p).toArray) (hy : a.eval y = .agg (vC q).toArray) {E : Bool} (hE : decide (p = q) = E)
    (h : wpList Try.prog ops Q rest (a.put o.dst (.bool (!E))) w) : wpList Try.prog ops Q (o :: rest) a w :=
  wpList_step fun K hK' => by rw [if_pos hw]; exact wp_neq_v x y T ho p q hx hy hE (hK' _ _ h)
theorem eql_w (p q : LW) (w : World) : (binOp .eql 58 (.agg (wC p).toArray) (.agg (wC q).toArray)).run Try.prog w = .ok (.bool (decide (p = q))) w := by
  have h : (Op.equalIn 10000 58 (.agg (wC p).toArray) (.agg (wC q).toArray)).run Try.prog w = .ok (decide (p = q)) w := eqlW 9997 p q w
  rw [run_eql_struct]
  generalize (Op.equalIn 10000 58 (.agg (wC p).toArray) (.agg (wC q).toArray)).run Try.prog w = R at *
  rw [h]; rfl
theorem neq_w (p q : LW) (w : World) : (binOp .neq 58 (.agg (wC p).toArray) (.agg (wC q).toArray)).run Try.prog w = .ok (.bool (!decide (p = q))) w := by
  have h : (Op.equalIn 10000 58 (.agg (wC p).toArray) (.agg (wC q).toArray)).run Try.prog w = .ok (decide (p = q)) w := eqlW 9997 p q w
  rw [run_neq_struct]
  generalize (Op.equalIn 10000 58 (.agg (wC p).toArray) (.agg (wC q).toArray)).run Try.prog w = R at *
  rw [h]; rfl
set_option maxRecDepth 100000 in
theorem guard_w (op : BinOp) (a b : Operand) (p q : LW) (w : World) : (eqGuard op 58 a b (.agg (wC p).toArray) (.agg (wC q).toArray)).run Try.prog w = .ok () w := run_eqGuard_agg w op 58 a b _ _ (by kernel_rfl)
theorem wp_eql_w {o : Oper} {a : Act} {w : World} {K : Act → World → Prop} {Q : Exit → Act → World → Prop} (x y : Operand) (T : TypeId) (ho : o.op = .binOp .eql 58 x y T) (p q : LW) (hx : a.eval x = .agg (wC p).toArray) (hy : a.eval y = .agg (wC q).toArray) {E : Bool} (hE : decide (p = q) = E)
    (h : K (a.put o.dst (.bool E)) w) : o.wp Try.prog a w K Q := by
  unfold Oper.wp execOp
  simp only [ho, hx, hy, Sem.run_bind, guard_w, eql_w, Result.andThen_ok, Sem.run_pure, hE]
  exact h
theorem wp_neq_w {o : Oper} {a : Act} {w : World} {K : Act → World → Prop} {Q : Exit → Act → World → Prop} (x y : Operand) (T : TypeId) (ho : o.op = .binOp .neq 58 x y T) (p q : LW) (hx : a.eval x = .agg (wC p).toArray) (hy : a.eval y = .agg (wC q).toArray) {E : Bool} (hE : decide (p = q) = E)
    (h : K (a.put o.dst (.bool (!E))) w) : o.wp Try.prog a w K Q := by
  unfold Oper.wp execOp
  simp only [ho, hx, hy, Sem.run_bind, guard_w, neq_w, Result.andThen_ok, Sem.run_pure, hE]
  exact h
theorem wpl_eql_w {ops : Array Oper} {rest : List Oper} {o : Oper} {a : Act} {w : World} {Q : Exit → Act → World → Prop} (hgd : o.guard = none) (x y : Operand) (T : TypeId) (ho : o.op = .binOp .eql 58 x y T) (p q : LW) (hx : a.eval x = .agg (wC p).toArray) (hy : a.eval y = .agg (wC q).toArray) {E : Bool} (hE : decide (p = q) = E)
    (h : wpList Try.prog ops Q rest (a.put o.dst (.bool E)) w) : wpList Try.prog ops Q (o :: rest) a w := wpList_plain hgd fun _ hK => wp_eql_w x y T ho p q hx hy hE (hK _ _ h)
theorem wpl_neq_w {ops : Array Oper} {rest : List Oper} {o : Oper} {a : Act} {w : World} {Q : Exit → Act → World → Prop} (hgd : o.guard = none) (x y : Operand) (T : TypeId) (ho : o.op = .binOp .neq 58 x y T) (p q : LW) (hx : a.eval x = .agg (wC p).toArray) (hy : a.eval y = .agg (wC q).toArray) {E : Bool} (hE : decide (p = q) = E)
    (h : wpList Try.prog ops Q rest (a.put o.dst (.bool (!E))) w) : wpList Try.prog ops Q (o :: rest) a w := wpList_plain hgd fun _ hK => wp_neq_w x y T ho p q hx hy hE (hK _ _ h)
theorem wpl_eql_wG {ops : Array Oper} {rest : List Oper} {o : Oper} {a : Act} {w : World} {Q : Exit → Act → World → Prop} (hw : Region.wanted o (yielded ops a.tmps) = true) (x y : Operand) (T : TypeId) (ho : o.op = .binOp .eql 58 x y T) (p q : LW) (hx : a.eval x = .agg (wC p).toArray) (hy : a.eval y = .agg (wC q).toArray) {E : Bool} (hE : decide (p = q) = E)
    (h : wpList Try.prog ops Q rest (a.put o.dst (.bool E)) w) : wpList Try.prog ops Q (o :: rest) a w :=
  wpList_step fun K hK' => by rw [if_pos hw]; exact wp_eql_w x y T ho p q hx hy hE (hK' _ _ h)
theorem wpl_neq_wG {ops : Array Oper} {rest : List Oper} {o : Oper} {a : Act} {w : World} {Q : Exit → Act → World → Prop} (hw : Region.wanted o (yielded ops a.tmps) = true) (x y : Operand) (T : TypeId) (ho : o.op = .binOp .neq 58 x y T) (p q : LW) (hx : a.eval x = .agg (wC p).toArray) (hy : a.eval y = .agg (wC q).toArray) {E : Bool} (hE : decide (p = q) = E)
    (h : wpList Try.prog ops Q rest (a.put o.dst (.bool (!E))) w) : wpList Try.prog ops Q (o :: rest) a w :=
  wpList_step fun K hK' => by rw [if_pos hw]; exact wp_neq_w x y T ho p q hx hy hE (hK' _ _ h)
end Go.Proofs.Ytmgalnbacenbbaa
