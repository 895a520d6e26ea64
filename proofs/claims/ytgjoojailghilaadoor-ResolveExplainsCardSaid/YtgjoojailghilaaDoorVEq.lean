/- Resolve: the comparison of two keys, of two values, of two writes as one operation. -/
import Derived.Test.YtgjoojailghilaaDoorVBase
import Derived.Laws.StructEq
set_option linter.unusedSimpArgs false
set_option linter.unusedVariables false
namespace Go.Proofs.YtgjoojailghilaaDoor
open Go.RowKit Dr

theorem sK : Tryd.prog.underlying 23 = some (.struct (Tryd.prog.fieldsOf 23)) := by kernel_rfl
theorem sV : Tryd.prog.underlying 25 = some (.struct (Tryd.prog.fieldsOf 25)) := by kernel_rfl
theorem sC : Tryd.prog.underlying 27 = some (.struct (Tryd.prog.fieldsOf 27)) := by kernel_rfl
theorem sW : Tryd.prog.underlying 29 = some (.struct (Tryd.prog.fieldsOf 29)) := by kernel_rfl
theorem pK : Tryd.prog.stoodInHeld 23 = false := by kernel_rfl
theorem pV : Tryd.prog.stoodInHeld 25 = false := by kernel_rfl
theorem pC : Tryd.prog.stoodInHeld 27 = false := by kernel_rfl
theorem pW : Tryd.prog.stoodInHeld 29 = false := by kernel_rfl
theorem eqlK (d : Nat) (p q : LKey) (w : World) : (Op.equalIn (d + 2) 23 (.agg (kC p).toArray) (.agg (kC q).toArray)).run Tryd.prog w = .ok (decide (p = q)) w := by
  obtain ⟨p1, p2, p3⟩ := p
  obtain ⟨q1, q2, q3⟩ := q
  simp only [kC]
  rw [run_equalIn_agg w (d + 1) 23 _ _ sK pK]
  simp only [Program.fieldsOf, Tryd.underlying23]
  go_simp
  by_cases h1 : p1 = q1 <;> by_cases h2 : p2 = q2 <;> by_cases h3 : p3 = q3 <;> simp [h1, h2, h3, toList_inj]
theorem eqlV (d : Nat) (p q : LVal) (w : World) : (Op.equalIn (d + 2) 25 (.agg (vC p).toArray) (.agg (vC q).toArray)).run Tryd.prog w = .ok (decide (p = q)) w := by
  obtain ⟨p1, p2, p3⟩ := p
  obtain ⟨q1, q2, q3⟩ := q
  simp only [vC]
  rw [run_equalIn_agg w (d + 1) 25 _ _ sV pV]
  simp only [Program.fieldsOf, Tryd.underlying25]
  go_simp
  by_cases h1 : p1 = q1 <;> by_cases h2 : p2 = q2 <;> by_cases h3 : p3 = q3 <;> simp [h1, h2, h3, toList_inj]
theorem eqlC (d : Nat) (p1 : Int) (p2 : ByteArray) (p3 : Int) (q1 : Int) (q2 : ByteArray) (q3 : Int) (w : World) : (Op.equalIn (d + 2) 27 (.agg #[.int .i64 p1, .string p2, .int .i64 p3]) (.agg #[.int .i64 q1, .string q2, .int .i64 q3])).run Tryd.prog w = .ok (decide (p1 = q1 ∧ p2 = q2 ∧ p3 = q3)) w := by
  rw [run_equalIn_agg w (d + 1) 27 _ _ sC pC]
  simp only [Program.fieldsOf, Tryd.underlying27]
  go_simp
  by_cases h1 : p1 = q1 <;> by_cases h2 : p2 = q2 <;> by_cases h3 : p3 = q3 <;> simp [h1, h2, h3, toList_inj]
theorem eqlW (d : Nat) (p q : LW) (w : World) : (Op.equalIn (d + 3) 29 (.agg (wC p).toArray) (.agg (wC q).toArray)).run Tryd.prog w = .ok (decide (p = q)) w := by
  obtain ⟨⟨p1, p2, p3⟩, ⟨p4, p5, p6⟩, p7, p8, p9, p10⟩ := p
  obtain ⟨⟨q1, q2, q3⟩, ⟨q4, q5, q6⟩, q7, q8, q9, q10⟩ := q
  simp only [wC, kC, vC] at *
  rw [run_equalIn_agg w (d + 2) 29 _ _ sW pW]
  simp only [Program.fieldsOf, Tryd.underlying29]
  go_simp
  simp only [toList_inj]
  (repeat' split) <;> simp [*]
theorem eql_k (p q : LKey) (w : World) : (binOp .eql 23 (.agg (kC p).toArray) (.agg (kC q).toArray)).run Tryd.prog w = .ok (.bool (decide (p = q))) w := by
  have h : (Op.equalIn 10000 23 (.agg (kC p).toArray) (.agg (kC q).toArray)).run Tryd.prog w = .ok (decide (p = q)) w := eqlK 9998 p q w
  rw [run_eql_struct]
  generalize (Op.equalIn 10000 23 (.agg (kC p).toArray) (.agg (kC q).toArray)).run Tryd.prog w = R at *
  rw [h]; rfl
theorem neq_k (p q : LKey) (w : World) : (binOp .neq 23 (.agg (kC p).toArray) (.agg (kC q).toArray)).run Tryd.prog w = .ok (.bool (!decide (p = q))) w := by
  have h : (Op.equalIn 10000 23 (.agg (kC p).toArray) (.agg (kC q).toArray)).run Tryd.prog w = .ok (decide (p = q)) w := eqlK 9998 p q w
  rw [run_neq_struct]
  generalize (Op.equalIn 10000 23 (.agg (kC p).toArray) (.agg (kC q).toArray)).run Tryd.prog w = R at *
  rw [h]; rfl
set_option maxRecDepth 100000 in
theorem guard_k (op : BinOp) (a b : Operand) (p q : LKey) (w : World) : (eqGuard op 23 a b (.agg (kC p).toArray) (.agg (kC q).toArray)).run Tryd.prog w = .ok () w := run_eqGuard_agg w op 23 a b _ _ (by kernel_rfl)
theorem wp_eql_k {o : Oper} {a : Act} {w : World} {K : Act → World → Prop} {Q : Exit → Act → World → Prop} (x y : Operand) (T : TypeId) (ho : o.op = .binOp .eql 23 x y T) (p q : LKey) (hx : a.eval x = .agg (kC p).toArray) (hy : a.eval y = .agg (kC q).toArray) {E : Bool} (hE : decide (p = q) = E)
    (h : K (a.put o.dst (.bool E)) w) : o.wp Tryd.prog a w K Q := by
  unfold Oper.wp execOp
  simp only [ho, hx, hy, Sem.run_bind, guard_k, eql_k, Result.andThen_ok, Sem.run_pure, hE]
  exact h
theorem wp_neq_k {o : Oper} {a : Act} {w : World} {K : Act → World → Prop} {Q : Exit → Act → World → Prop} (x y : Operand) (T : TypeId) (ho : o.op = .binOp .neq 23 x y T) (p q : LKey) (hx : a.eval x = .agg (kC p).toArray) (hy : a.eval y = .agg (kC q).toArray) {E : Bool} (hE : decide (p = q) = E)
    (h : K (a.put o.dst (.bool (!E))) w) : o.wp Tryd.prog a w K Q := by
  unfold Oper.wp execOp
  simp only [ho, hx, hy, Sem.run_bind, guard_k, neq_k, Result.andThen_ok, Sem.run_pure, hE]
  exact h
theorem wpl_eql_k {ops : Array Oper} {rest : List Oper} {o : Oper} {a : Act} {w : World} {Q : Exit → Act → World → Prop} (hgd : o.guard = none) (x y : Operand) (T : TypeId) (ho : o.op = .binOp .eql 23 x y T) (p q : LKey) (hx : a.eval x = .agg (kC p).toArray) (hy : a.eval y = .agg (kC q).toArray) {E : Bool} (hE : decide (p = q) = E)
    (h : wpList Tryd.prog ops Q rest (a.put o.dst (.bool E)) w) : wpList Tryd.prog ops Q (o :: rest) a w := wpList_plain hgd fun _ hK => wp_eql_k x y T ho p q hx hy hE (hK _ _ h)
theorem wpl_neq_k {ops : Array Oper} {rest : List Oper} {o : Oper} {a : Act} {w : World} {Q : Exit → Act → World → Prop} (hgd : o.guard = none) (x y : Operand) (T : TypeId) (ho : o.op = .binOp .neq 23 x y T) (p q : LKey) (hx : a.eval x = .agg (kC p).toArray) (hy : a.eval y = .agg (kC q).toArray) {E : Bool} (hE : decide (p = q) = E)
    (h : wpList Tryd.prog ops Q rest (a.put o.dst (.bool (!E))) w) : wpList Tryd.prog ops Q (o :: rest) a w := wpList_plain hgd fun _ hK => wp_neq_k x y T ho p q hx hy hE (hK _ _ h)
theorem eql_v (p q : LVal) (w : World) : (binOp .eql 25 (.agg (vC p).toArray) (.agg (vC q).toArray)).run Tryd.prog w = .ok (.bool (decide (p = q))) w := by
  have h : (Op.equalIn 10000 25 (.agg (vC p).toArray) (.agg (vC q).toArray)).run Tryd.prog w = .ok (decide (p = q)) w := eqlV 9998 p q w
  rw [run_eql_struct]
  generalize (Op.equalIn 10000 25 (.agg (vC p).toArray) (.agg (vC q).toArray)).run Tryd.prog w = R at *
  rw [h]; rfl
theorem neq_v (p q : LVal) (w : World) : (binOp .neq 25 (.agg (vC p).toArray) (.agg (vC q).toArray)).run Tryd.prog w = .ok (.bool (!decide (p = q))) w := by
  have h : (Op.equalIn 10000 25 (.agg (vC p).toArray) (.agg (vC q).toArray)).run Tryd.prog w = .ok (decide (p = q)) w := eqlV 9998 p q w
  rw [run_neq_struct]
  generalize (Op.equalIn 10000 25 (.agg (vC p).toArray) (.agg (vC q).toArray)).run Tryd.prog w = R at *
  rw [h]; rfl
set_option maxRecDepth 100000 in
theorem guard_v (op : BinOp) (a b : Operand) (p q : LVal) (w : World) : (eqGuard op 25 a b (.agg (vC p).toArray) (.agg (vC q).toArray)).run Tryd.prog w = .ok () w := run_eqGuard_agg w op 25 a b _ _ (by kernel_rfl)
theorem wp_eql_v {o : Oper} {a : Act} {w : World} {K : Act → World → Prop} {Q : Exit → Act → World → Prop} (x y : Operand) (T : TypeId) (ho : o.op = .binOp .eql 25 x y T) (p q : LVal) (hx : a.eval x = .agg (vC p).toArray) (hy : a.eval y = .agg (vC q).toArray) {E : Bool} (hE : decide (p = q) = E)
    (h : K (a.put o.dst (.bool E)) w) : o.wp Tryd.prog a w K Q := by
  unfold Oper.wp execOp
  simp only [ho, hx, hy, Sem.run_bind, guard_v, eql_v, Result.andThen_ok, Sem.run_pure, hE]
  exact h
theorem wp_neq_v {o : Oper} {a : Act} {w : World} {K : Act → World → Prop} {Q : Exit → Act → World → Prop} (x y : Operand) (T : TypeId) (ho : o.op = .binOp .neq 25 x y T) (p q : LVal) (hx : a.eval x = .agg (vC p).toArray) (hy : a.eval y = .agg (vC q).toArray) {E : Bool} (hE : decide (p = q) = E)
    (h : K (a.put o.dst (.bool (!E))) w) : o.wp Tryd.prog a w K Q := by
  unfold Oper.wp execOp
  simp only [ho, hx, hy, Sem.run_bind, guard_v, neq_v, Result.andThen_ok, Sem.run_pure, hE]
  exact h
theorem wpl_eql_v {ops : Array Oper} {rest : List Oper} {o : Oper} {a : Act} {w : World} {Q : Exit → Act → World → Prop} (hgd : o.guard = none) (x y : Operand) (T : TypeId) (ho : o.op = .binOp .eql 25 x y T) (p q : LVal) (hx : a.eval x = .agg (vC p).toArray) (hy : a.eval y = .agg (vC q).toArray) {E : Bool} (hE : decide (p = q) = E)
    (h : wpList Tryd.prog ops Q rest (a.put o.dst (.bool E)) w) : wpList Tryd.prog ops Q (o :: rest) a w := wpList_plain hgd fun _ hK => wp_eql_v x y T ho p q hx hy hE (hK _ _ h)
theorem wpl_neq_v {ops : Array Oper} {rest : List Oper} {o : Oper} {a : Act} {w : World} {Q : Exit → Act → World → Prop} (hgd : o.guard = none) (x y : Operand) (T : TypeId) (ho : o.op = .binOp .neq 25 x y T) (p q : LVal) (hx : a.eval x = .agg (vC p).toArray) (hy : a.eval y = .agg (vC q).toArray) {E : Bool} (hE : decide (p = q) = E)
    (h : wpList Tryd.prog ops Q rest (a.put o.dst (.bool (!E))) w) : wpList Tryd.prog ops Q (o :: rest) a w := wpList_plain hgd fun _ hK => wp_neq_v x y T ho p q hx hy hE (hK _ _ h)
theorem eql_w (p q : LW) (w : World) : (binOp .eql 29 (.agg (wC p).toArray) (.agg (wC q).toArray)).run Tryd.prog w = .ok (.bool (decide (p = q))) w := by
  have h : (Op.equalIn 10000 29 (.agg (wC p).toArray) (.agg (wC q).toArray)).run Tryd.prog w = .ok (decide (p = q)) w := eqlW 9997 p q w
  rw [run_eql_struct]
  generalize (Op.equalIn 10000 29 (.agg (wC p).toArray) (.agg (wC q).toArray)).run Tryd.prog w = R at *
  rw [h]; rfl
theorem neq_w (p q : LW) (w : World) : (binOp .neq 29 (.agg (wC p).toArray) (.agg (wC q).toArray)).run Tryd.prog w = .ok (.bool (!decide (p = q))) w := by
  have h : (Op.equalIn 10000 29 (.agg (wC p).toArray) (.agg (wC q).toArray)).run Tryd.prog w = .ok (decide (p = q)) w := eqlW 9997 p q w
  rw [run_neq_struct]
  generalize (Op.equalIn 10000 29 (.agg (wC p).toArray) (.agg (wC q).toArray)).run Tryd.prog w = R at *
  rw [h]; rfl
set_option maxRecDepth 100000 in
theorem guard_w (op : BinOp) (a b : Operand) (p q : LW) (w : World) : (eqGuard op 29 a b (.agg (wC p).toArray) (.agg (wC q).toArray)).run Tryd.prog w = .ok () w := run_eqGuard_agg w op 29 a b _ _ (by kernel_rfl)
theorem wp_eql_w {o : Oper} {a : Act} {w : World} {K : Act → World → Prop} {Q : Exit → Act → World → Prop} (x y : Operand) (T : TypeId) (ho : o.op = .binOp .eql 29 x y T) (p q : LW) (hx : a.eval x = .agg (wC p).toArray) (hy : a.eval y = .agg (wC q).toArray) {E : Bool} (hE : decide (p = q) = E)
    (h : K (a.put o.dst (.bool E)) w) : o.wp Tryd.prog a w K Q := by
  unfold Oper.wp execOp
  simp only [ho, hx, hy, Sem.run_bind, guard_w, eql_w, Result.andThen_ok, Sem.run_pure, hE]
  exact h
theorem wp_neq_w {o : Oper} {a : Act} {w : World} {K : Act → World → Prop} {Q : Exit → Act → World → Prop} (x y : Operand) (T : TypeId) (ho : o.op = .binOp .neq 29 x y T) (p q : LW) (hx : a.eval x = .agg (wC p).toArray) (hy : a.eval y = .agg (wC q).toArray) {E : Bool} (hE : decide (p = q) = E)
    (h : K (a.put o.dst (.bool (!E))) w) : o.wp Tryd.prog a w K Q := by
  unfold Oper.wp execOp
  simp only [ho, hx, hy, Sem.run_bind, guard_w, neq_w, Result.andThen_ok, Sem.run_pure, hE]
  exact h
theorem wpl_eql_w {ops : Array Oper} {rest : List Oper} {o : Oper} {a : Act} {w : World} {Q : Exit → Act → World → Prop} (hgd : o.guard = none) (x y : Operand) (T : TypeId) (ho : o.op = .binOp .eql 29 x y T) (p q : LW) (hx : a.eval x = .agg (wC p).toArray) (hy : a.eval y = .agg (wC q).toArray) {E : Bool} (hE : decide (p = q) = E)
    (h : wpList Tryd.prog ops Q rest (a.put o.dst (.bool E)) w) : wpList Tryd.prog ops Q (o :: rest) a w := wpList_plain hgd fun _ hK => wp_eql_w x y T ho p q hx hy hE (hK _ _ h)
theorem wpl_neq_w {ops : Array Oper} {rest : List Oper} {o : Oper} {a : Act} {w : World} {Q : Exit → Act → World → Prop} (hgd : o.guard = none) (x y : Operand) (T : TypeId) (ho : o.op = .binOp .neq 29 x y T) (p q : LW) (hx : a.eval x = .agg (wC p).toArray) (hy : a.eval y = .agg (wC q).toArray) {E : Bool} (hE : decide (p = q) = E)
    (h : wpList Tryd.prog ops Q rest (a.put o.dst (.bool (!E))) w) : wpList Tryd.prog ops Q (o :: rest) a w := wpList_plain hgd fun _ hK => wp_neq_w x y T ho p q hx hy hE (hK _ _ h)
end Go.Proofs.YtgjoojailghilaaDoor
