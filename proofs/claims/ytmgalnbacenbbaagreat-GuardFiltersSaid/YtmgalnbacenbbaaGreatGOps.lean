/- Guard: the comparison of two keys, of two values, of two writes as one operation. Guard: the order of keys, the program's and the reference's. Guard: items and locks, in memory and as plain data. -/
import Derived.Test.YtmgalnbacenbbaaGreatGMem
import Derived.Laws.StructEq
import Derived.Lib.Bytealg
import Derived.Lib.Strings
namespace Go.Proofs.YtmgalnbacenbbaaGreat
section
set_option linter.unusedSimpArgs false
set_option linter.unusedVariables false
open Go.RowKit

theorem sK : Tryz.prog.underlying 34 = some (.struct (Tryz.prog.fieldsOf 34)) := by kernel_rfl
theorem sV : Tryz.prog.underlying 32 = some (.struct (Tryz.prog.fieldsOf 32)) := by kernel_rfl
theorem sC : Tryz.prog.underlying 42 = some (.struct (Tryz.prog.fieldsOf 42)) := by kernel_rfl
theorem sW : Tryz.prog.underlying 44 = some (.struct (Tryz.prog.fieldsOf 44)) := by kernel_rfl
theorem pK : Tryz.prog.stoodInHeld 34 = false := by kernel_rfl
theorem pV : Tryz.prog.stoodInHeld 32 = false := by kernel_rfl
theorem pC : Tryz.prog.stoodInHeld 42 = false := by kernel_rfl
theorem pW : Tryz.prog.stoodInHeld 44 = false := by kernel_rfl
theorem eqlK (d : Nat) (p q : LKey) (w : World) : (Op.equalIn (d + 2) 34 (.agg (kC p).toArray) (.agg (kC q).toArray)).run Tryz.prog w = .ok (decide (p = q)) w := by
  obtain ⟨p1, p2, p3⟩ := p
  obtain ⟨q1, q2, q3⟩ := q
  simp only [kC]
  rw [run_equalIn_agg w (d + 1) 34 _ _ sK pK]
  simp only [Program.fieldsOf, Tryz.underlying34]
  go_simp
  by_cases h1 : p1 = q1 <;> by_cases h2 : p2 = q2 <;> by_cases h3 : p3 = q3 <;> simp [h1, h2, h3, toList_inj]
theorem eqlV (d : Nat) (p q : LVal) (w : World) : (Op.equalIn (d + 2) 32 (.agg (vC p).toArray) (.agg (vC q).toArray)).run Tryz.prog w = .ok (decide (p = q)) w := by
  obtain ⟨p1, p2, p3⟩ := p
  obtain ⟨q1, q2, q3⟩ := q
  simp only [vC]
  rw [run_equalIn_agg w (d + 1) 32 _ _ sV pV]
  simp only [Program.fieldsOf, Tryz.underlying32]
  go_simp
  by_cases h1 : p1 = q1 <;> by_cases h2 : p2 = q2 <;> by_cases h3 : p3 = q3 <;> simp [h1, h2, h3, toList_inj]
theorem eqlC (d : Nat) (p1 : Int) (p2 : ByteArray) (p3 : Int) (q1 : Int) (q2 : ByteArray) (q3 : Int) (w : World) : (Op.equalIn (d + 2) 42 (.agg #[.int .i64 p1, .string p2, .int .i64 p3]) (.agg #[.int .i64 q1, .string q2, .int .i64 q3])).run Tryz.prog w = .ok (decide (p1 = q1 ∧ p2 = q2 ∧ p3 = q3)) w := by
  rw [run_equalIn_agg w (d + 1) 42 _ _ sC pC]
  simp only [Program.fieldsOf, Tryz.underlying42]
  go_simp
  by_cases h1 : p1 = q1 <;> by_cases h2 : p2 = q2 <;> by_cases h3 : p3 = q3 <;> simp [h1, h2, h3, toList_inj]
theorem eqlW (d : Nat) (p q : LW) (w : World) : (Op.equalIn (d + 3) 44 (.agg (wC p).toArray) (.agg (wC q).toArray)).run Tryz.prog w = .ok (decide (p = q)) w := by
  obtain ⟨⟨p1, p2, p3⟩, ⟨p4, p5, p6⟩, p7, p8, p9, p10⟩ := p
  obtain ⟨⟨q1, q2, q3⟩, ⟨q4, q5, q6⟩, q7, q8, q9, q10⟩ := q
  simp only [wC, kC, vC] at *
  rw [run_equalIn_agg w (d + 2) 44 _ _ sW pW]
  simp only [Program.fieldsOf, Tryz.underlying44]
  go_simp
  simp only [toList_inj]
  (repeat' split) <;> simp [*]
theorem eql_k (p q : LKey) (w : World) : (binOp .eql 34 (.agg (kC p).toArray) (.agg (kC q).toArray)).run Tryz.prog w = .ok (.bool (decide (p = q))) w := by
  have h : (Op.equalIn 10000 34 (.agg (kC p).toArray) (.agg (kC q).toArray)).run Tryz.prog w = .ok (decide (p = q)) w := eqlK 9998 p q w
  rw [run_eql_struct]
  generalize (Op.equalIn 10000 34 (.agg (kC p).toArray) (.agg (kC q).toArray)).run Tryz.prog w = R at *
  rw [h]; rfl
theorem neq_k (p q : LKey) (w : World) : (binOp .neq 34 (.agg (kC p).toArray) (.agg (kC q).toArray)).run Tryz.prog w = .ok (.bool (!decide (p = q))) w := by
  have h : (Op.equalIn 10000 34 (.agg (kC p).toArray) (.agg (kC q).toArray)).run Tryz.prog w = .ok (decide (p = q)) w := eqlK 9998 p q w
  rw [run_neq_struct]
  generalize (Op.equalIn 10000 34 (.agg (kC p).toArray) (.agg (kC q).toArray)).run Tryz.prog w = R at *
  rw [h]; rfl
set_option maxRecDepth 100000 in
theorem guard_k (op : BinOp) (a b : Operand) (p q : LKey) (w : World) : (eqGuard op 34 a b (.agg (kC p).toArray) (.agg (kC q).toArray)).run Tryz.prog w = .ok () w := run_eqGuard_agg w op 34 a b _ _ (by kernel_rfl)
theorem wp_eql_k {o : Oper} {a : Act} {w : World} {K : Act → World → Prop} {Q : Exit → Act → World → Prop} (x y : Operand) (T : TypeId) (ho : o.op = .binOp .eql 34 x y T) (p q : LKey) (hx : a.eval x = .agg (kC p).toArray) (hy : a.eval y = .agg (kC q).toArray) {E : Bool} (hE : decide (p = q) = E)
    (h : K (a.put o.dst (.bool E)) w) : o.wp Tryz.prog a w K Q := by
  unfold Oper.wp execOp
  simp only [ho, hx, hy, Sem.run_bind, guard_k, eql_k, Result.andThen_ok, Sem.run_pure, hE]
  exact h
theorem wp_neq_k {o : Oper} {a : Act} {w : World} {K : Act → World → Prop} {Q : Exit → Act → World → Prop} (x y : Operand) (T : TypeId) (ho : o.op = .binOp .neq 34 x y T) (p q : LKey) (hx : a.eval x = .agg (kC p).toArray) (hy : a.eval y = .agg (kC q).toArray) {E : Bool} (hE : decide (p = q) = E)
    (h : K (a.put o.dst (.bool (!E))) w) : o.wp Tryz.prog a w K Q := by
  unfold Oper.wp execOp
  simp only [ho, hx, hy, Sem.run_bind, guard_k, neq_k, Result.andThen_ok, Sem.run_pure, hE]
  exact h
theorem wpl_eql_k {ops : Array Oper} {rest : List Oper} {o : Oper} {a : Act} {w : World} {Q : Exit → Act → World → Prop} (hgd : o.guard = none) (x y : Operand) (T : TypeId) (ho : o.op = .binOp .eql 34 x y T) (p q : LKey) (hx : a.eval x = .agg (kC p).toArray) (hy : a.eval y = .agg (kC q).toArray) {E : Bool} (hE : decide (p = q) = E)
    (h : wpList Tryz.prog ops Q rest (a.put o.dst (.bool E)) w) : wpList Tryz.prog ops Q (o :: rest) a w := wpList_plain hgd fun _ hK => wp_eql_k x y T ho p q hx hy hE (hK _ _ h)
theorem wpl_neq_k {ops : Array Oper} {rest : List Oper} {o : Oper} {a : Act} {w : World} {Q : Exit → Act → World → Prop} (hgd : o.guard = none) (x y : Operand) (T : TypeId) (ho : o.op = .binOp .neq 34 x y T) (p q : LKey) (hx : a.eval x = .agg (kC p).toArray) (hy : a.eval y = .agg (kC q).toArray) {E : Bool} (hE : decide (p = q) = E)
    (h : wpList Tryz.prog ops Q rest (a.put o.dst (.bool (!E))) w) : wpList Tryz.prog ops Q (o :: rest) a w := wpList_plain hgd fun _ hK => wp_neq_k x y T ho p q hx hy hE (hK _ _ h)
theorem wpl_eql_kG {ops : Array Oper} {rest : List Oper} {o : Oper} {a : Act} {w : World} {Q : Exit → Act → World → Prop} (hw : Region.wanted o (yielded ops a.tmps) = true) (x y : Operand) (T : TypeId) (ho : o.op = .binOp .eql 34 x y T) (p q : LKey) (hx : a.eval x = .agg (kC p).toArray) (hy : a.eval y = .agg (kC q).toArray) {E : Bool} (hE : decide (p = q) = E)
    (h : wpList Tryz.prog ops Q rest (a.put o.dst (.bool E)) w) : wpList Tryz.prog ops Q (o :: rest) a w :=
  wpList_step fun K hK' => by rw [if_pos hw]; exact wp_eql_k x y T ho p q hx hy hE (hK' _ _ h)
theorem wpl_neq_kG {ops : Array Oper} {rest : List Oper} {o : Oper} {a : Act} {w : World} {Q : Exit → Act → World → Prop} (hw : Region.wanted o (yielded ops a.tmps) = true) (x y : Operand) (T : TypeId) (ho : o.op = .binOp .neq 34 x y T) (p q : LKey) (hx : a.eval x = .agg (kC p).toArray) (hy : a.eval y = .agg (kC q).toArray) {E : Bool} (hE : decide (p = q) = E)
    (h : wpList Tryz.prog ops Q rest (a.put o.dst (.bool (!E))) w) : wpList Tryz.prog ops Q (o :: rest) a w :=
  wpList_step fun K hK' => by rw [if_pos hw]; exact wp_neq_k x y T ho p q hx hy hE (hK' _ _ h)
theorem eql_v (p q : LVal) (w : World) : (binOp .eql 32 (.agg (vC p).toArray) (.agg (vC q).toArray)).run Tryz.prog w = .ok (.bool (decide (p = q))) w := by
  have h : (Op.equalIn 10000 32 (.agg (vC p).toArray) (.agg (vC q).toArray)).run Tryz.prog w = .ok (decide (p = q)) w := eqlV 9998 p q w
  rw [run_eql_struct]
  generalize (Op.equalIn 10000 32 (.agg (vC p).toArray) (.agg (vC q).toArray)).run Tryz.prog w = R at *
  rw [h]; rfl
theorem neq_v (p q : LVal) (w : World) : (binOp .neq 32 (.agg (vC p).toArray) (.agg (vC q).toArray)).run Tryz.prog w = .ok (.bool (!decide (p = q))) w := by
  have h : (Op.equalIn 10000 32 (.agg (vC p).toArray) (.agg (vC q).toArray)).run Tryz.prog w = .ok (decide (p = q)) w := eqlV 9998 p q w
  rw [run_neq_struct]
  generalize (Op.equalIn 10000 32 (.agg (vC p).toArray) (.agg (vC q).toArray)).run Tryz.prog w = R at *
  rw [h]; rfl
set_option maxRecDepth 100000 in
theorem guard_v (op : BinOp) (a b : Operand) (p q : LVal) (w : World) : (eqGuard op 32 a b (.agg (vC p).toArray) (.agg (vC q).toArray)).run Tryz.prog w = .ok () w := run_eqGuard_agg w op 32 a b _ _ (by kernel_rfl)
theorem wp_eql_v {o : Oper} {a : Act} {w : World} {K : Act → World → Prop} {Q : Exit → Act → World → Prop} (x y : Operand) (T : TypeId) (ho : o.op = .binOp .eql 32 x y T) (p q : LVal) (hx : a.eval x = .agg (vC p).toArray) (hy : a.eval y = .agg (vC q).toArray) {E : Bool} (hE : decide (p = q) = E)
    (h : K (a.put o.dst (.bool E)) w) : o.wp Tryz.prog a w K Q := by
  unfold Oper.wp execOp
  simp only [ho, hx, hy, Sem.run_bind, guard_v, eql_v, Result.andThen_ok, Sem.run_pure, hE]
  exact h
theorem wp_neq_v {o : Oper} {a : Act} {w : World} {K : Act → World → Prop} {Q : Exit → Act → World → Prop} (x y : Operand) (T : TypeId) (ho : o.op = .binOp .neq 32 x y T) (p q : LVal) (hx : a.eval x = .agg (vC p).toArray) (hy : a.eval y = .agg (vC q).toArray) {E : Bool} (hE : decide (p = q) = E)
    (h : K (a.put o.dst (.bool (!E))) w) : o.wp Tryz.prog a w K Q := by
  unfold Oper.wp execOp
  simp only [ho, hx, hy, Sem.run_bind, guard_v, neq_v, Result.andThen_ok, Sem.run_pure, hE]
  exact h
theorem wpl_eql_v {ops : Array Oper} {rest : List Oper} {o : Oper} {a : Act} {w : World} {Q : Exit → Act → World → Prop} (hgd : o.guard = none) (x y : Operand) (T : TypeId) (ho : o.op = .binOp .eql 32 x y T) (p q : LVal) (hx : a.eval x = .agg (vC p).toArray) (hy : a.eval y = .agg (vC q).toArray) {E : Bool} (hE : decide (p = q) = E)
    (h : wpList Tryz.prog ops Q rest (a.put o.dst (.bool E)) w) : wpList Tryz.prog ops Q (o :: rest) a w := wpList_plain hgd fun _ hK => wp_eql_v x y T ho p q hx hy hE (hK _ _ h)
theorem wpl_neq_v {ops : Array Oper} {rest : List Oper} {o : Oper} {a : Act} {w : World} {Q : Exit → Act → World → Prop} (hgd : o.guard = none) (x y : Operand) (T : TypeId) (ho : o.op = .binOp .neq 32 x y T) (p q : LVal) (hx : a.eval x = .agg (vC p).toArray) (hy : a.eval y = .agg (vC q).toArray) {E : Bool} (hE : decide (p = q) = E)
    (h : wpList Tryz.prog ops Q rest (a.put o.dst (.bool (!E))) w) : wpList Tryz.prog ops Q (o :: rest) a w := wpList_plain hgd fun _ hK => wp_neq_v x y T ho p q hx hy hE (hK _ _ h)
theorem wpl_eql_vG {ops : Array Oper} {rest : List Oper} {o : Oper} {a : Act} {w : World} {Q : Exit → Act → World → Prop} (hw : Region.wanted o (yielded ops a.tmps) = true) (x y : Operand) (T : TypeId) (ho : o.op = .binOp .eql 32 x y T) (p q : LVal) (hx : a.eval x = .agg (vC p).toArray) (hy : a.eval y = .agg (vC q).toArray) {E : Bool} (hE : decide (p = q) = E)
    (h : wpList Tryz.prog ops Q rest (a.put o.dst (.bool E)) w) : wpList Tryz.prog ops Q (o :: rest) a w :=
  wpList_step fun K hK' => by rw [if_pos hw]; exact wp_eql_v x y T ho p q hx hy hE (hK' _ _ h)
theorem wpl_neq_vG {ops : Array Oper} {rest : List Oper} {o : Oper} {a : Act} {w : World} {Q : Exit → Act → World → Prop} (hw : Region.wanted o (yielded ops a.tmps) = true) (x y : Operand) (T : TypeId) (ho : o.op = .binOp .neq 32 x y T) (p q : LVal) (hx : a.eval x = .agg (vC p).toArray) (hy : a.eval y = .agg (vC q).toArray) {E : Bool} (hE : decide (p = q) = E)
    (h : wpList Tryz.prog ops Q rest (a.put o.dst (.bool (!E))) w) : wpList Tryz.prog ops Q (o :: rest) a w :=
  wpList_step fun K hK' => by rw [if_pos hw]; exact wp_neq_v x y T ho p q hx hy hE (hK' _ _ h)
theorem eql_w (p q : LW) (w : World) : (binOp .eql 44 (.agg (wC p).toArray) (.agg (wC q).toArray)).run Tryz.prog w = .ok (.bool (decide (p = q))) w := by
  have h : (Op.equalIn 10000 44 (.agg (wC p).toArray) (.agg (wC q).toArray)).run Tryz.prog w = .ok (decide (p = q)) w := eqlW 9997 p q w
  rw [run_eql_struct]
  generalize (Op.equalIn 10000 44 (.agg (wC p).toArray) (.agg (wC q).toArray)).run Tryz.prog w = R at *
  rw [h]; rfl
theorem neq_w (p q : LW) (w : World) : (binOp .neq 44 (.agg (wC p).toArray) (.agg (wC q).toArray)).run Tryz.prog w = .ok (.bool (!decide (p = q))) w := by
  have h : (Op.equalIn 10000 44 (.agg (wC p).toArray) (.agg (wC q).toArray)).run Tryz.prog w = .ok (decide (p = q)) w := eqlW 9997 p q w
  rw [run_neq_struct]
  generalize (Op.equalIn 10000 44 (.agg (wC p).toArray) (.agg (wC q).toArray)).run Tryz.prog w = R at *
  rw [h]; rfl
set_option maxRecDepth 100000 in
theorem guard_w (op : BinOp) (a b : Operand) (p q : LW) (w : World) : (eqGuard op 44 a b (.agg (wC p).toArray) (.agg (wC q).toArray)).run Tryz.prog w = .ok () w := run_eqGuard_agg w op 44 a b _ _ (by kernel_rfl)
theorem wp_eql_w {o : Oper} {a : Act} {w : World} {K : Act → World → Prop} {Q : Exit → Act → World → Prop} (x y : Operand) (T : TypeId) (ho : o.op = .binOp .eql 44 x y T) (p q : LW) (hx : a.eval x = .agg (wC p).toArray) (hy : a.eval y = .agg (wC q).toArray) {E : Bool} (hE : decide (p = q) = E)
    (h : K (a.put o.dst (.bool E)) w) : o.wp Tryz.prog a w K Q := by
  unfold Oper.wp execOp
  simp only [ho, hx, hy, Sem.run_bind, guard_w, eql_w, Result.andThen_ok, Sem.run_pure, hE]
  exact h
theorem wp_neq_w {o : Oper} {a : Act} {w : World} {K : Act → World → Prop} {Q : Exit → Act → World → Prop} (x y : Operand) (T : TypeId) (ho : o.op = .binOp .neq 44 x y T) (p q : LW) (hx : a.eval x = .agg (wC p).toArray) (hy : a.eval y = .agg (wC q).toArray) {E : Bool} (hE : decide (p = q) = E)
    (h : K (a.put o.dst (.bool (!E))) w) : o.wp Tryz.prog a w K Q := by
  unfold Oper.wp execOp
  simp only [ho, hx, hy, Sem.run_bind, guard_w, neq_w, Result.andThen_ok, Sem.run_pure, hE]
  exact h
theorem wpl_eql_w {ops : Array Oper} {rest : List Oper} {o : Oper} {a : Act} {w : World} {Q : Exit → Act → World → Prop} (hgd : o.guard = none) (x y : Operand) (T : TypeId) (ho : o.op = .binOp .eql 44 x y T) (p q : LW) (hx : a.eval x = .agg (wC p).toArray) (hy : a.eval y = .agg (wC q).toArray) {E : Bool} (hE : decide (p = q) = E)
    (h : wpList Tryz.prog ops Q rest (a.put o.dst (.bool E)) w) : wpList Tryz.prog ops Q (o :: rest) a w := wpList_plain hgd fun _ hK => wp_eql_w x y T ho p q hx hy hE (hK _ _ h)
theorem wpl_neq_w {ops : Array Oper} {rest : List Oper} {o : Oper} {a : Act} {w : World} {Q : Exit → Act → World → Prop} (hgd : o.guard = none) (x y : Operand) (T : TypeId) (ho : o.op = .binOp .neq 44 x y T) (p q : LW) (hx : a.eval x = .agg (wC p).toArray) (hy : a.eval y = .agg (wC q).toArray) {E : Bool} (hE : decide (p = q) = E)
    (h : wpList Tryz.prog ops Q rest (a.put o.dst (.bool (!E))) w) : wpList Tryz.prog ops Q (o :: rest) a w := wpList_plain hgd fun _ hK => wp_neq_w x y T ho p q hx hy hE (hK _ _ h)
theorem wpl_eql_wG {ops : Array Oper} {rest : List Oper} {o : Oper} {a : Act} {w : World} {Q : Exit → Act → World → Prop} (hw : Region.wanted o (yielded ops a.tmps) = true) (x y : Operand) (T : TypeId) (ho : o.op = .binOp .eql 44 x y T) (p q : LW) (hx : a.eval x = .agg (wC p).toArray) (hy : a.eval y = .agg (wC q).toArray) {E : Bool} (hE : decide (p = q) = E)
    (h : wpList Tryz.prog ops Q rest (a.put o.dst (.bool E)) w) : wpList Tryz.prog ops Q (o :: rest) a w :=
  wpList_step fun K hK' => by rw [if_pos hw]; exact wp_eql_w x y T ho p q hx hy hE (hK' _ _ h)
theorem wpl_neq_wG {ops : Array Oper} {rest : List Oper} {o : Oper} {a : Act} {w : World} {Q : Exit → Act → World → Prop} (hw : Region.wanted o (yielded ops a.tmps) = true) (x y : Operand) (T : TypeId) (ho : o.op = .binOp .neq 44 x y T) (p q : LW) (hx : a.eval x = .agg (wC p).toArray) (hy : a.eval y = .agg (wC q).toArray) {E : Bool} (hE : decide (p = q) = E)
    (h : wpList Tryz.prog ops Q rest (a.put o.dst (.bool (!E))) w) : wpList Tryz.prog ops Q (o :: rest) a w :=
  wpList_step fun K hK' => by rw [if_pos hw]; exact wp_neq_w x y T ho p q hx hy hE (hK' _ _ h)
end
end Go.Proofs.YtmgalnbacenbbaaGreat

namespace Go.Proofs.YtmgalnbacenbbaaGreat
section
set_option linter.unusedSimpArgs false
set_option linter.unusedVariables false
open Go.RowKit

namespace Dr
set_option maxHeartbeats 1000000 in
theorem less_any (a b : LKey) (w : World) : Calls Tryz.prog 36 #[.agg (kC a).toArray, .agg (kC b).toArray] w fun r w' => r = .returned (.bool (kless a b)) ∧ Lat w w' := by
  obtain ⟨a1, a2, a3⟩ := a
  obtain ⟨b1, b2, b3⟩ := b
  unfold kC
  go_enter Tryz.func36, Tryz.ntmps36
  by_cases e1 : a1 = b1
  · subst e1
    by_cases e2 : a2 = b2
    · subst e2
      have hk : kless ⟨a1, a2, a3⟩ ⟨a1, a2, b3⟩ = Op.bytesLess a3.toList b3.toList := by simp [kless, ltB]
      rw [hk]
      clear hk
      go_wp2_with fail
      go_ret
      exact ⟨rfl, ((Lat.al _ _).trans (Lat.al _ _))⟩
    · have e2' : (!(a2.toList == b2.toList)) = true := by rw [toList_beq]; simp [e2]
      have hk : kless ⟨a1, a2, a3⟩ ⟨a1, b2, b3⟩ = Op.bytesLess a2.toList b2.toList := by simp [kless, e2, ltB]
      rw [hk]
      clear hk
      go_wp2_with fail
      go_ret
      exact ⟨rfl, ((Lat.al _ _).trans (Lat.al _ _))⟩
  · have hk : kless ⟨a1, a2, a3⟩ ⟨b1, b2, b3⟩ = decide (a1 < b1) := by simp [kless, e1, ltI]
    rw [hk]
    have e1' : (a1 != b1) = true := by simp [e1]
    clear hk
    go_wp2_with fail
    go_ret
    exact ⟨rfl, ((Lat.al _ _).trans (Lat.al _ _))⟩
set_option maxHeartbeats 1000000 in
theorem rless_any (a b : LKey) (w : World) : Calls Tryz.prog 64 #[.agg (kC a).toArray, .agg (kC b).toArray] w fun r w' => r = .returned (.bool (kless a b)) ∧ Lat w w' := by
  obtain ⟨a1, a2, a3⟩ := a
  obtain ⟨b1, b2, b3⟩ := b
  unfold kC
  go_enter Tryz.func64, Tryz.ntmps64
  by_cases e1 : a1 = b1
  · subst e1
    by_cases e2 : a2 = b2
    · subst e2
      have hk : kless ⟨a1, a2, a3⟩ ⟨a1, a2, b3⟩ = Op.bytesLess a3.toList b3.toList := by simp [kless, ltB]
      rw [hk]
      clear hk
      go_wp2_with fail
      go_ret
      exact ⟨rfl, ((Lat.al _ _).trans (Lat.al _ _))⟩
    · have e2' : (!(a2.toList == b2.toList)) = true := by rw [toList_beq]; simp [e2]
      have hk : kless ⟨a1, a2, a3⟩ ⟨a1, b2, b3⟩ = Op.bytesLess a2.toList b2.toList := by simp [kless, e2, ltB]
      rw [hk]
      clear hk
      go_wp2_with fail
      go_ret
      exact ⟨rfl, ((Lat.al _ _).trans (Lat.al _ _))⟩
  · have hk : kless ⟨a1, a2, a3⟩ ⟨b1, b2, b3⟩ = decide (a1 < b1) := by simp [kless, e1, ltI]
    rw [hk]
    have e1' : (a1 != b1) = true := by simp [e1]
    clear hk
    go_wp2_with fail
    go_ret
    exact ⟨rfl, ((Lat.al _ _).trans (Lat.al _ _))⟩
end Dr
end
end Go.Proofs.YtmgalnbacenbbaaGreat

namespace Go.Proofs.YtmgalnbacenbbaaGreat
section
set_option linter.unusedSimpArgs false
set_option linter.unusedVariables false
open Go.RowKit

/-- An item. -/
structure LItem where
  key : LKey
  val : LVal
  ver : Int
  deriving DecidableEq
def iC (x : LItem) : List Value := kC x.key ++ vC x.val ++ [.int .i64 x.ver]
/-- The cells of a condition, whatever it says. -/
structure WhR where
  k : Int
  n : Int
  m : Int
  name : ByteArray
  val : LVal
  key : LKey
  A : Option Addr
  len : Nat
  cap : Nat
def whC (x : WhR) : List Value := [.int .i64 x.k, .int .i64 x.n, .int .i64 x.m, .string x.name] ++ vC x.val ++ kC x.key ++ [.slice x.A x.len x.cap]
/-- A lock's cells. -/
structure LkR where
  name : ByteArray
  rank : Int
  wh : WhR
  latch : Bool
  FA : Option Addr
  Fn : Nat
  Fc : Nat
  GA : Option Addr
  Gn : Nat
  Gc : Nat
def lkC (x : LkR) : List Value := [.string x.name, .int .i64 x.rank] ++ whC x.wh ++ [.bool x.latch, .slice x.FA x.Fn x.Fc, .slice x.GA x.Gn x.Gc]
/-- A lock, as far as the guard looks. -/
structure LLock where
  name : ByteArray
  rank : Int
  force : List LItem
  forbid : List LItem
theorem infoItem : (Tryz.prog.info? 51).map (fun i => (i.zero, i.size, i.bytes)) = some (some (.agg #[.int .i64 0, .string { data := #[] }, .string { data := #[] }, .int .i64 0, .int .i64 0, .string { data := #[] }, .int .i64 0]), 7, 80) := by kernel_rfl
theorem infoKey : (Tryz.prog.info? 34).map (fun i => (i.zero, i.size, i.bytes)) = some (some (.agg #[.int .i64 0, .string { data := #[] }, .string { data := #[] }]), 3, 40) := by kernel_rfl
theorem infoStr : (Tryz.prog.info? 9).map (fun i => (i.zero, i.size, i.bytes)) = some (some (.string { data := #[] }), 1, 16) := by kernel_rfl
theorem infoLock : (Tryz.prog.info? 40).map (fun i => (i.zero, i.size, i.bytes)) = some (some (.agg #[.string { data := #[] }, .int .i64 0, .int .i64 0, .int .i64 0, .int .i64 0, .string { data := #[] }, .int .i64 0, .int .i64 0, .string { data := #[] }, .int .i64 0, .string { data := #[] }, .string { data := #[] }, .slice none 0 0, .bool false, .slice none 0 0, .slice none 0 0]), 16, 216) := by kernel_rfl
theorem infoWr : (Tryz.prog.info? 44).map (fun i => (i.zero, i.size, i.bytes)) = some (some (.agg #[.int .i64 0, .string { data := #[] }, .string { data := #[] }, .int .i64 0, .int .i64 0, .string { data := #[] }, .int .i64 0, .string { data := #[] }, .int .i64 0, .int .i64 0]), 10, 112) := by kernel_rfl
/-- Items. -/
noncomputable def EI : Elt LItem where
  e := 51
  t := 38
  n := 7
  bytes := 80
  f := iC
  i := (info_parts infoItem).choose
  z := _
  ht := Tryz.underlying38
  hi := (info_parts infoItem).choose_spec.1
  hz := (info_parts infoItem).choose_spec.2.1
  hs := (info_parts infoItem).choose_spec.2.2.1
  hb := (info_parts infoItem).choose_spec.2.2.2
  hzs := rfl
  hn := by decide
  len := fun x => rfl
  one := fun x u hu => by
    simp only [iC, kC, vC, List.cons_append, List.nil_append, List.mem_cons, List.not_mem_nil, or_false] at hu
    rcases hu with rfl | rfl | rfl | rfl | rfl | rfl | rfl <;> rfl
/-- Keys. -/
noncomputable def EK : Elt LKey where
  e := 34
  t := 53
  n := 3
  bytes := 40
  f := kC
  i := (info_parts infoKey).choose
  z := _
  ht := Tryz.underlying53
  hi := (info_parts infoKey).choose_spec.1
  hz := (info_parts infoKey).choose_spec.2.1
  hs := (info_parts infoKey).choose_spec.2.2.1
  hb := (info_parts infoKey).choose_spec.2.2.2
  hzs := rfl
  hn := by decide
  len := fun x => rfl
  one := fun x u hu => by
    simp only [kC, List.mem_cons, List.not_mem_nil, or_false] at hu
    rcases hu with rfl | rfl | rfl <;> rfl
/-- Names. -/
noncomputable def ES : Elt ByteArray where
  e := 9
  t := 23
  n := 1
  bytes := 16
  f := fun s => [.string s]
  i := (info_parts infoStr).choose
  z := _
  ht := Tryz.underlying23
  hi := (info_parts infoStr).choose_spec.1
  hz := (info_parts infoStr).choose_spec.2.1
  hs := (info_parts infoStr).choose_spec.2.2.1
  hb := (info_parts infoStr).choose_spec.2.2.2
  hzs := rfl
  hn := by decide
  len := fun x => rfl
  one := fun x u hu => by rw [List.mem_singleton.1 hu]; rfl
/-- Writes. -/
noncomputable def EW : Elt LW where
  e := 44
  t := 45
  n := 10
  bytes := 112
  f := wC
  i := (info_parts infoWr).choose
  z := _
  ht := Tryz.underlying45
  hi := (info_parts infoWr).choose_spec.1
  hz := (info_parts infoWr).choose_spec.2.1
  hs := (info_parts infoWr).choose_spec.2.2.1
  hb := (info_parts infoWr).choose_spec.2.2.2
  hzs := rfl
  hn := by decide
  len := fun x => rfl
  one := fun x u hu => by
    simp only [wC, kC, vC, List.cons_append, List.nil_append, List.mem_cons, List.not_mem_nil, or_false] at hu
    rcases hu with rfl | rfl | rfl | rfl | rfl | rfl | rfl | rfl | rfl | rfl <;> rfl
/-- Locks. -/
noncomputable def EL : Elt LkR where
  e := 40
  t := 22
  n := 16
  bytes := 216
  f := lkC
  i := (info_parts infoLock).choose
  z := _
  ht := Tryz.underlying22
  hi := (info_parts infoLock).choose_spec.1
  hz := (info_parts infoLock).choose_spec.2.1
  hs := (info_parts infoLock).choose_spec.2.2.1
  hb := (info_parts infoLock).choose_spec.2.2.2
  hzs := rfl
  hn := by decide
  len := fun x => rfl
  one := fun x u hu => by
    simp only [lkC, whC, kC, vC, List.cons_append, List.nil_append, List.mem_cons, List.not_mem_nil, or_false] at hu
    rcases hu with rfl | rfl | rfl | rfl | rfl | rfl | rfl | rfl | rfl | rfl | rfl | rfl | rfl | rfl | rfl | rfl <;> rfl
/-- What a lock's cells say. -/
structure LkR.Says (w : World) (r : LkR) (l : LLock) : Prop where
  name : r.name = l.name
  rank : r.rank = l.rank
  force : EI.Rd w l.force (.slice r.FA r.Fn r.Fc)
  forbid : EI.Rd w l.forbid (.slice r.GA r.Gn r.Gc)
theorem LkR.Says.lat {w w' : World} {r : LkR} {l : LLock} (h : r.Says w l) (hl : Lat w w') : r.Says w' l := ⟨h.name, h.rank, h.force.lat hl, h.forbid.lat hl⟩
/-- Locks with what they say: to be read; the call's own. -/
def RdL (w : World) (ps : List (LkR × LLock)) (v : Value) : Prop := EL.Rd w (ps.map Prod.fst) v ∧ ∀ p ∈ ps, p.1.Says w p.2
def OwnL (w : World) (base : Nat) (ps : List (LkR × LLock)) (v : Value) : Prop := EL.Own w base (ps.map Prod.fst) v ∧ ∀ p ∈ ps, p.1.Says w p.2
theorem RdL.lat {w w' : World} {ps : List (LkR × LLock)} {v : Value} (h : RdL w ps v) (hl : Lat w w') : RdL w' ps v := ⟨h.1.lat hl, fun p hp => (h.2 p hp).lat hl⟩
theorem OwnL.lat {w w' : World} {base : Nat} {ps : List (LkR × LLock)} {v : Value} (h : OwnL w base ps v) (hl : Lat w w') : OwnL w' base ps v := ⟨h.1.lat hl, fun p hp => (h.2 p hp).lat hl⟩
theorem OwnL.rd {w : World} {base : Nat} {ps : List (LkR × LLock)} {v : Value} (h : OwnL w base ps v) : RdL w ps v := ⟨h.1.rd, h.2⟩
theorem RdL.slice {w : World} {ps : List (LkR × LLock)} {v : Value} (h : RdL w ps v) : ∃ A c, v = .slice A ps.length c := by
  obtain ⟨A, c, hv, _⟩ := h.1
  exact ⟨A, c, by rw [hv, List.length_map]⟩
theorem Says.fn {w : World} {r : LkR} {l : LLock} (h : r.Says w l) : r.Fn = l.force.length := by
  obtain ⟨A, c, hv, _⟩ := h.force
  injection hv
theorem Says.gn {w : World} {r : LkR} {l : LLock} (h : r.Says w l) : r.Gn = l.forbid.length := by
  obtain ⟨A, c, hv, _⟩ := h.forbid
  injection hv
/-- A lock of the list: where it lies, what it says. -/
theorem RdL.row {w : World} {ps : List (LkR × LLock)} {A : Option Addr} {n c : Nat} (h : RdL w ps (.slice A n c)) (j : Nat) (hj : j < ps.length) : ∃ b off, A = some ⟨b, off, none⟩ ∧ b < w.heap.size ∧ RowAt w b (off + j * 16) (lkC ps[j].1) ∧ ps[j].1.Says w ps[j].2 := by
  obtain ⟨b, off, hA, hb, hr⟩ := h.1.row j (by simpa using hj)
  refine ⟨b, off, hA, hb, ?_, h.2 _ (List.getElem_mem hj)⟩
  rw [List.getElem_map] at hr
  exact hr
end
end Go.Proofs.YtmgalnbacenbbaaGreat
