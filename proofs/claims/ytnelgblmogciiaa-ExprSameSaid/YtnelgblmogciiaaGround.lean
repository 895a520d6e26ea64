/- Plain data of the home hub's expressions, how memory reads as such data, and laws for loads of whole structs. Contracts of the small functions on numbers: limited sums, differences and products, minutes of the day and weekdays. Contracts of the references' small functions on numbers. Contracts of the functions that say whether a string is a name. Contracts of the functions that check a value. -/
import Derived.Test.YtnelgblmogciiaaRows
import Derived.WalkKit
import Derived.WalkSpells
import Derived.WalkLawsBesides
import Derived.BigQuiet
import Derived.Lib.Hide
import Derived.Deep.QuietTactic
namespace Go.Proofs.Ytnelgblmogciiaa
section
set_option linter.unusedSimpArgs false
set_option linter.unusedVariables false
open Go.RowKit

/-- What fits an int. -/
def I64 (n : Int) : Prop := -9223372036854775808 ≤ n ∧ n ≤ 9223372036854775807

/-- The fields of an expression but its kids. -/
structure Hd where
  kind : Int
  n : Int
  m : Int
  name : ByteArray
  vk : Int
  vn : Int
  vs : ByteArray
  dev : Int
  cl : ByteArray
  at_ : ByteArray

inductive LExpr where
  | mk (h : Hd) (kids : List LExpr)

def LExpr.hd : LExpr → Hd | .mk h _ => h
def LExpr.kids : LExpr → List LExpr | .mk _ ks => ks

theorem LExpr.ind {p : LExpr → Prop} (h : ∀ hd ks, (∀ (i : Nat) (hi : i < ks.length), p ks[i]) → p (.mk hd ks)) : ∀ e, p e
  | .mk hd ks => h hd ks (fun i hi =>
      have : SizeOf.sizeOf ks[i] < SizeOf.sizeOf ks := List.sizeOf_lt_of_mem (List.getElem_mem hi)
      LExpr.ind h ks[i])
termination_by e => SizeOf.sizeOf e
decreasing_by simp only [LExpr.mk.sizeOf_spec]; omega

structure Hd.ok (h : Hd) : Prop where
  kind : I64 h.kind
  n : I64 h.n
  m : I64 h.m
  vk : I64 h.vk
  vn : I64 h.vn
  dev : I64 h.dev

def Hd.cells (h : Hd) (s : Value) : List Value :=
  [.int .i64 h.kind, .int .i64 h.n, .int .i64 h.m, .string h.name, .int .i64 h.vk, .int .i64 h.vn, .string h.vs, .int .i64 h.dev, .string h.cl, .string h.at_, s]

/-- The cells from an offset of a block on are these. -/
def RowAt (w : World) (b off : Nat) (cs : List Value) : Prop := ∀ (j : Nat) (v : Value), cs[j]? = some v → w.cell? ⟨b, off + j, none⟩ = some v

/-- A list of cells reads as an expression, all of whose kids lie below block B. -/
inductive IsExpr (B : Nat) (w : World) : LExpr → List Value → Prop where
  | mk (h : Hd) (ks : List LExpr) (A : Option Addr) (c b off : Nat) (cs : Nat → List Value) (ok : h.ok) (hlen : ks.length * 136 ≤ 140737488351232)
      (hA : 0 < ks.length → A = some ⟨b, off, none⟩ ∧ b < B)
      (hsz : ∀ i, (cs i).length = 11) (hrow : ∀ i (hi : i < ks.length), RowAt w b (off + i * 11) (cs i)) (hk : ∀ i (hi : i < ks.length), IsExpr B w ks[i] (cs i)) :
      IsExpr B w (.mk h ks) (h.cells (.slice A ks.length c))

theorem RowAt.below {w w' : World} {b off : Nat} {cs : List Value} {B : Nat} (h : RowAt w b off cs) (hb : Below B w w') (hB : b < B) : RowAt w' b off cs :=
  fun j v hj => (hb.cell (p := ⟨b, off + j, none⟩) hB).trans (h j v hj)

theorem IsExpr.carry {B : Nat} {w w' : World} {e : LExpr} {cs : List Value} (h : IsExpr B w e cs) (hb : Below B w w') : IsExpr B w' e cs := by
  induction h with
  | mk h ks A c b off cs ok hlen hA hsz hrow _ ih =>
    exact .mk h ks A c b off cs ok hlen hA hsz (fun i hi => (hrow i hi).below hb (hA (by omega)).2) ih
theorem IsExpr.mono {B B' : Nat} {w : World} {e : LExpr} {cs : List Value} (h : IsExpr B w e cs) (hB : B ≤ B') : IsExpr B' w e cs := by
  induction h with
  | mk h ks A c b off cs ok hlen hA hsz hrow _ ih =>
    exact .mk h ks A c b off cs ok hlen (fun h0 => ⟨(hA h0).1, Nat.lt_of_lt_of_le (hA h0).2 hB⟩) hsz hrow ih
theorem IsExpr.len {B : Nat} {w : World} {e : LExpr} {cs : List Value} (h : IsExpr B w e cs) : cs.length = 11 := by
  cases h; simp [Hd.cells]

section
variable {P : Program}
theorem run_loadVar_at (w : World) (b off : Nat) (ty : TypeId) (cs : List Value) (d : TypeDesc) (h : RowAt w b off cs)
    (hu : P.underlying ty = some d) (hd : (match d with | .struct _ | .array _ _ => true | _ => false) = true) (hi : (P.info? ty).map (·.size) = some cs.length) :
    (loadVar ty ⟨b, off, none⟩).run P w = .ok (.agg cs.toArray) w := by
  have hl : (loadCells ⟨b, off, none⟩ cs.length).run P w = .ok cs.toArray w :=
    run_loadCells_list (P := P) w ⟨b, off, none⟩ cs (fun j v hv => by
      have hadd : (⟨b, off, none⟩ : Addr).add j = ⟨b, off + j, none⟩ := by unfold Addr.add; split <;> simp_all
      rw [hadd]
      exact h j v (by simpa using hv))
  cases hq : P.info? ty with
  | none => simp [hq] at hi
  | some i =>
    have hs : i.size = cs.length := by simpa [hq] using hi
    have hagg : (isAgg ty).run P w = .ok true w := by
      unfold isAgg
      rw [Sem.run_bind, run_underlying hu w]
      cases d <;> simp_all
    simp [loadVar, Sem.run_bind, hagg, sizeOf, typeInfo, hq, hs, hl]

/-- A load of a whole struct out of memory of which its cells are known. -/
theorem wp_load_at {o : Oper} {a : Act} {w : World} {K : Act → World → Prop} {Q : Exit → Act → World → Prop} (ty : TypeId) (x : Operand) (ho : o.op = .load ty x)
    (b off : Nat) (hx : a.eval x = .pointer (some ⟨b, off, none⟩)) (cs : List Value) (d : TypeDesc) (h : RowAt w b off cs)
    (hu : P.underlying ty = some d) (hd : (match d with | .struct _ | .array _ _ => true | _ => false) = true) (hi : (P.info? ty).map (·.size) = some cs.length)
    (hK : K (a.put o.dst (.agg cs.toArray)) w) : o.wp P a w K Q := by
  unfold Oper.wp execOp
  simp only [ho, hx, Instr.loadAt, Instr.sureAddr, Sem.run_bind, Sem.run_pure, Result.andThen_ok, run_loadVar_at w b off ty cs d h hu hd hi]
  exact hK

theorem wpList_load_at {ops : Array Oper} {rest : List Oper} {o : Oper} {a : Act} {w : World} {Q : Exit → Act → World → Prop} (hgd : o.guard = none) (ty : TypeId) (x : Operand) (ho : o.op = .load ty x)
    (b off : Nat) (hx : a.eval x = .pointer (some ⟨b, off, none⟩)) (cs : List Value) (d : TypeDesc) (h : RowAt w b off cs)
    (hu : P.underlying ty = some d) (hd : (match d with | .struct _ | .array _ _ => true | _ => false) = true) (hi : (P.info? ty).map (·.size) = some cs.length)
    (hK : wpList P ops Q rest (a.put o.dst (.agg cs.toArray)) w) : wpList P ops Q (o :: rest) a w :=
  wpList_plain hgd fun _ hK' => wp_load_at ty x ho b off hx cs d h hu hd hi (hK' _ _ hK)
end

theorem _root_.Go.RowKit.Below.al {a w : World} (h : Below a.heap.size a w) (o : Obj) : Below a.heap.size a (w.alloc o) := h.alloc h.size o
theorem _root_.Go.RowKit.Below.dr {a w : World} (h : Below a.heap.size a w) : Below a.heap.size a w.drew := h.drew
theorem _root_.Go.RowKit.Below.st {a w : World} (h : Below a.heap.size a w) {p : Addr} (hp : a.heap.size ≤ p.block) (v : Value) : Below a.heap.size a (w.setCell p v) := h.setCell hp v
theorem _root_.Go.RowKit.Below.th {a w w' : World} (h : Below a.heap.size a w) (h' : Below w.heap.size w w') : Below a.heap.size a w' := h.trans (h'.mono h.size)

theorem bcell {W w1 : World} (hb : Below W.heap.size W w1) : (∀ b o, b < W.heap.size → w1.cell? ⟨b, o, none⟩ = W.cell? ⟨b, o, none⟩) ∧ (∀ b o, b < W.heap.size → w1.frozen? ⟨b, o, none⟩ = W.frozen? ⟨b, o, none⟩) :=
  ⟨fun b o h => hb.cell (p := ⟨b, o, none⟩) h, fun b o h => hb.frozen (p := ⟨b, o, none⟩) h⟩

theorem bool_is {b : Bool} {P : Prop} [Decidable P] (h : (b = true) ↔ P) : b = decide P := by
  cases b with
  | true => exact (decide_eq_true (h.1 rfl)).symm
  | false => exact (decide_eq_false (fun hp => by have := h.2 hp; cases this)).symm
theorem bool_isNot {b : Bool} {P : Prop} [Decidable P] (h : (b = true) ↔ ¬ P) : b = !decide P := by
  rw [bool_is h, decide_not]

theorem toList_nil (s : ByteArray) : s.toList = [] ↔ s.size = 0 := by
  rw [ByteArray.toList_eq, ← List.length_eq_zero_iff]
  exact Iff.rfl
theorem toList_inj (a b : ByteArray) : a.toList = b.toList ↔ a = b := by
  rw [ByteArray.toList_eq, ByteArray.toList_eq]
  exact ⟨fun h => ByteArray.ext (Array.toList_inj.1 h), fun h => by rw [h]⟩
theorem toList_beq (a b : ByteArray) : (a.toList == b.toList) = decide (a = b) := by
  rw [Bool.eq_iff_iff, beq_iff_eq, decide_eq_true_iff, toList_inj]

theorem ret_int {k : IntKind} {a b : Int} (h : a = b) : Ending.returned (.int k a) = .returned (.int k b) := by rw [h]
theorem ret_bool {a b : Bool} (h : a = b) : Ending.returned (.bool a) = .returned (.bool b) := by rw [h]
end

section
set_option linter.unusedSimpArgs false
set_option linter.unusedVariables false
open Go.RowKit

def satI (n : Int) : Int := if n < -1099511627776 then -1099511627776 else if 1099511627776 < n then 1099511627776 else n
def clampI (n lo hi : Int) : Int := if hi < lo ∨ hi < n then hi else if n < lo then lo else n

/-- The greatest value with a sign. -/
def limI (b : Bool) : Int := if b then -1099511627776 else 1099511627776
theorem limI_eq (b : Bool) : (limI b = -1099511627776 ∧ b = true) ∨ (limI b = 1099511627776 ∧ b = false) := by cases b <;> simp [limI]

set_option maxHeartbeats 400000 in
theorem limit_any (b : Bool) (w : World) : Calls Try.prog 116 #[.bool b] w fun e w' => e = .returned (.int .i64 (limI b)) ∧ w = w' := by
  go_enter Try.func116, Try.ntmps116
  go_wp2
  all_goals go_ret
  all_goals simp [limI, *]

set_option maxHeartbeats 400000 in
theorem sat_any (n : Int) (w : World) : Calls Try.prog 117 #[.int .i64 n] w fun e w' => e = .returned (.int .i64 (satI n)) ∧ w = w' := by
  go_enter Try.func117, Try.ntmps117
  go_wp2
  all_goals go_ret
  all_goals exact ⟨ret_int (by unfold satI; repeat' split <;> try omega), rfl⟩

set_option maxHeartbeats 400000 in
theorem add_any (a b : Int) (w : World) (ha : I64 a) (hb : I64 b) : Calls Try.prog 96 #[.int .i64 a, .int .i64 b] w fun e w' => e = .returned (.int .i64 (satI (a + b))) ∧ w = w' := by
  unfold I64 at ha hb
  go_enter Try.func96, Try.ntmps96
  go_wp2_with (first | (go_at_call 117; refine (sat_any _ _).mono ?_; rintro e w' ⟨rfl, rfl⟩) | (go_at_call 116; refine (limit_any _ _).mono ?_; rintro e w' ⟨rfl, rfl⟩))
  all_goals go_ret
  all_goals (refine ⟨ret_int ?_, rfl⟩; have := limI_eq (decide (a < 0)); have := limI_eq (decide (b < 0)); simp only [satI, wrap64, beq_iff_eq, bne_iff_ne, Bool.not_eq_true', beq_eq_false_iff_ne, bne_eq_false_iff_eq, ne_eq, decide_eq_decide, decide_eq_true_eq, decide_eq_false_iff_not, Bool.not_eq_eq_eq_not, Bool.not_true, Bool.not_false] at *)
  all_goals first | omega | (repeat' split <;> omega)

set_option maxHeartbeats 400000 in
theorem sub_any (a b : Int) (w : World) (ha : I64 a) (hb : I64 b) : Calls Try.prog 97 #[.int .i64 a, .int .i64 b] w fun e w' => e = .returned (.int .i64 (satI (a - b))) ∧ w = w' := by
  unfold I64 at ha hb
  go_enter Try.func97, Try.ntmps97
  go_wp2_with (first | (go_at_call 117; refine (sat_any _ _).mono ?_; rintro e w' ⟨rfl, rfl⟩) | (go_at_call 116; refine (limit_any _ _).mono ?_; rintro e w' ⟨rfl, rfl⟩))
  all_goals go_ret
  all_goals (refine ⟨ret_int ?_, rfl⟩; have := limI_eq (decide (a < 0)); have := limI_eq (decide (b < 0)); simp only [satI, wrap64, beq_iff_eq, bne_iff_ne, Bool.not_eq_true', beq_eq_false_iff_ne, bne_eq_false_iff_eq, ne_eq, decide_eq_decide, decide_eq_true_eq, decide_eq_false_iff_not, Bool.not_eq_eq_eq_not, Bool.not_true, Bool.not_false] at *)
  all_goals first | omega | (repeat' split <;> omega)

/-- The absolute value. -/
def absI (n : Int) : Int := if n < 0 then -n else n

set_option maxHeartbeats 400000 in
theorem size_of_int (a : Int) (w : World) (ha : I64 a) : Calls Try.prog 120 #[.int .i64 a] w fun e w' => e = .returned (.int .u64 (absI a)) ∧ w = w' := by
  unfold I64 at ha
  go_enter Try.func120, Try.ntmps120
  go_wp2
  all_goals go_ret
  all_goals exact ⟨ret_int (by unfold absI; split <;> omega), rfl⟩

theorem times_lt {a b : Int} (h0 : 0 < b) : 1099511627776 / b < a ↔ 1099511627776 < a * b := Int.ediv_lt_iff_lt_mul h0
theorem u64_wrap (n : Int) (h : 0 ≤ n ∧ n ≤ 18446744073709551615) : IntKind.u64.wrap n = n := Go.IntWalk.u64_in n h
def timesI (a b : Int) : Int := if 1099511627776 < a * b then 1099511627777 else a * b

set_option maxHeartbeats 400000 in
theorem times_any (a b : Int) (w : World) (ha : 0 ≤ a ∧ a ≤ 9223372036854775808) (hb : 0 ≤ b ∧ b ≤ 9223372036854775808) : Calls Try.prog 119 #[.int .u64 a, .int .u64 b] w fun e w' => e = .returned (.int .u64 (timesI a b)) ∧ w = w' := by
  have hp : 0 ≤ a * b := Int.mul_nonneg ha.1 hb.1
  go_enter Try.func119, Try.ntmps119
  go_wp2
  all_goals go_ret
  · rename_i h1
    exact ⟨ret_int (by simp [timesI, h1]), rfl⟩
  · rename_i h1 h2
    refine ⟨ret_int ?_, rfl⟩
    have h3 := (times_lt (a := a) (b := b) (by omega)).1 h2.2
    simp [timesI, h3]
  · rename_i h1 h2
    refine ⟨ret_int ?_, rfl⟩
    have h3 : ¬ 1099511627776 < a * b := fun h => by
      have h4 := (times_lt (a := a) (b := b) (by omega)).2 h
      rcases h2 with h2 | h2
      · simp at h2; omega
      · omega
    rw [timesI, if_neg h3]
    exact u64_wrap _ (by omega)

def signI (a : Int) (b : Bool) : Int := if 1099511627776 < a then limI b else if b then -a else a

set_option maxHeartbeats 400000 in
theorem signed_any (a : Int) (b : Bool) (w : World) (ha : 0 ≤ a ∧ a ≤ 9223372036854775808) : Calls Try.prog 118 #[.int .u64 a, .bool b] w fun e w' => e = .returned (.int .i64 (signI a b)) ∧ w = w' := by
  go_enter Try.func118, Try.ntmps118
  go_wp2_with (go_at_call 116; refine (limit_any _ _).mono ?_; rintro e w' ⟨rfl, rfl⟩)
  all_goals go_ret
  all_goals (refine ⟨ret_int ?_, rfl⟩; unfold signI)
  · rw [if_pos ‹_›]
  all_goals (rw [if_neg (by omega)]; simp [*])

theorem mul_is (a b : Int) : signI (timesI (absI a) (absI b)) (decide (a < 0) != decide (b < 0)) = satI (a * b) := by
  unfold signI timesI absI satI limI
  by_cases ha : a < 0 <;> by_cases hb : b < 0
  · have hp : 0 < a * b := Int.mul_pos_of_neg_of_neg ha hb
    simp only [ha, hb, if_true, decide_true, bne_self_eq_false, Bool.false_eq_true, if_false, Int.neg_mul_neg]
    repeat' split
    all_goals omega
  · have hp : a * b ≤ 0 := Int.mul_nonpos_of_nonpos_of_nonneg (by omega) (by omega)
    simp only [ha, hb, if_true, decide_true, decide_false, Bool.true_bne, Bool.not_false, if_false, Int.neg_mul]
    repeat' split
    all_goals omega
  · have hp : a * b ≤ 0 := Int.mul_nonpos_of_nonneg_of_nonpos (by omega) (by omega)
    simp only [ha, hb, if_true, decide_true, decide_false, Bool.false_bne, if_false, Int.mul_neg]
    repeat' split
    all_goals omega
  · have hp : 0 ≤ a * b := Int.mul_nonneg (by omega) (by omega)
    simp only [ha, hb, decide_false, bne_self_eq_false, Bool.false_eq_true, if_false]
    repeat' split
    all_goals omega

theorem absI_bd (a : Int) (h : I64 a) : 0 ≤ absI a ∧ absI a ≤ 9223372036854775808 := by unfold I64 at h; unfold absI; split <;> omega
theorem timesI_bd (a b : Int) (ha : 0 ≤ a) (hb : 0 ≤ b) : 0 ≤ timesI a b ∧ timesI a b ≤ 9223372036854775808 := by
  have hp : 0 ≤ a * b := Int.mul_nonneg ha hb
  unfold timesI; split <;> omega

set_option maxHeartbeats 400000 in
theorem mul_any (a b : Int) (w : World) (ha : I64 a) (hb : I64 b) : Calls Try.prog 98 #[.int .i64 a, .int .i64 b] w fun e w' => e = .returned (.int .i64 (satI (a * b))) ∧ w = w' := by
  have h1 := absI_bd a ha
  have h2 := absI_bd b hb
  have h3 := timesI_bd (absI a) (absI b) h1.1 h2.1
  have hm := Lib.hid (mul_is a b)
  go_enter Try.func98, Try.ntmps98
  go_wp2_with fail
  refine (size_of_int a _ ha).mono ?_
  rintro e w' ⟨rfl, rfl⟩
  go_wp2_with fail
  refine (size_of_int b _ hb).mono ?_
  rintro e w' ⟨rfl, rfl⟩
  go_wp2_with (first | (go_at_call 119; refine (times_any _ _ _ h1 h2).mono ?_; rintro e w' ⟨rfl, rfl⟩) | (go_at_call 118; refine (signed_any _ _ _ h3).mono ?_; rintro e w' ⟨rfl, rfl⟩))
  go_ret
  exact ⟨ret_int hm.out, rfl⟩

set_option maxHeartbeats 400000 in
theorem clamp_any (n lo hi : Int) (w : World) : Calls Try.prog 121 #[.int .i64 n, .int .i64 lo, .int .i64 hi] w fun e w' => e = .returned (.int .i64 (clampI n lo hi)) ∧ w = w' := by
  go_enter Try.func121, Try.ntmps121
  go_wp2
  all_goals go_ret
  all_goals exact ⟨ret_int (by unfold clampI; (try simp only [Bool.or_eq_true, decide_eq_true_eq] at *); repeat' split <;> try omega), rfl⟩

def minI (m : Int) : Int := clampI m 0 1073741824
theorem minI_bd (m : Int) : 0 ≤ minI m ∧ minI m ≤ 1073741824 := by unfold minI clampI; repeat' split <;> omega

set_option maxHeartbeats 400000 in
theorem valid_any (n : Int) (w : World) : Calls Try.prog 102 #[.int .i64 n] w fun e w' => e = .returned (.int .i64 (minI n)) ∧ w = w' := by
  go_enter Try.func102, Try.ntmps102
  go_wp2_with (go_at_call 121; refine (clamp_any _ _ _ _).mono ?_; rintro e w' ⟨rfl, rfl⟩)
  go_ret
  exact ⟨rfl, rfl⟩

def ofDayI (m : Int) : Int := minI m % 1440
def weekdayI (m : Int) : Int := (minI m / 1440 + 5) % 7

set_option maxHeartbeats 400000 in
theorem ofDay_any (n : Int) (w : World) : Calls Try.prog 71 #[.int .i64 n] w fun e w' => e = .returned (.int .i64 (ofDayI n)) ∧ w = w' := by
  have hb := minI_bd n
  go_enter Try.func71, Try.ntmps71
  go_wp2_with (go_at_call 102; refine (valid_any _ _).mono ?_; rintro e w' ⟨rfl, rfl⟩)
  go_ret
  exact ⟨rfl, rfl⟩

set_option maxHeartbeats 400000 in
theorem weekday_any (n : Int) (w : World) : Calls Try.prog 72 #[.int .i64 n] w fun e w' => e = .returned (.int .i64 (weekdayI n)) ∧ w = w' := by
  have hb := minI_bd n
  go_enter Try.func72, Try.ntmps72
  go_wp2_with (go_at_call 102; refine (valid_any _ _).mono ?_; rintro e w' ⟨rfl, rfl⟩)
  go_ret
  exact ⟨rfl, rfl⟩
end

section
set_option linter.unusedSimpArgs false
set_option linter.unusedVariables false
open Go.RowKit

set_option maxHeartbeats 400000 in
theorem rsat_any (n : Int) (w : World) : Calls Try.prog 124 #[.int .i64 n] w fun e w' => e = .returned (.int .i64 (satI n)) ∧ w = w' := by
  go_enter Try.func124, Try.ntmps124
  go_wp2
  all_goals go_ret
  all_goals exact ⟨ret_int (by unfold satI; repeat' split <;> try omega), rfl⟩

set_option maxHeartbeats 400000 in
theorem radd_any (a b : Int) (w : World) (ha : I64 a) (hb : I64 b) : Calls Try.prog 106 #[.int .i64 a, .int .i64 b] w fun e w' => e = .returned (.int .i64 (satI (a + b))) ∧ w = w' := by
  unfold I64 at ha hb
  by_cases h1 : 0 < b <;> by_cases h2 : b < 0
  · omega
  all_goals
    go_enter Try.func106, Try.ntmps106
    go_wp2_with (go_at_call 124; refine (rsat_any _ _).mono ?_; rintro e w' ⟨rfl, rfl⟩)
  all_goals go_ret
  all_goals (refine ⟨ret_int ?_, rfl⟩; (try simp only [satI, wrap64, beq_iff_eq, bne_iff_ne, Bool.not_eq_true', beq_eq_false_iff_ne, bne_eq_false_iff_eq, ne_eq, decide_eq_decide, decide_eq_true_eq, decide_eq_false_iff_not, Bool.not_eq_eq_eq_not, Bool.not_true, Bool.not_false] at *); first | omega | (repeat' split <;> omega))

set_option maxHeartbeats 400000 in
theorem rsub_any (a b : Int) (w : World) (ha : I64 a) (hb : I64 b) : Calls Try.prog 107 #[.int .i64 a, .int .i64 b] w fun e w' => e = .returned (.int .i64 (satI (a - b))) ∧ w = w' := by
  unfold I64 at ha hb
  by_cases h1 : 0 < b <;> by_cases h2 : b < 0
  · omega
  all_goals
    go_enter Try.func107, Try.ntmps107
    go_wp2_with (go_at_call 124; refine (rsat_any _ _).mono ?_; rintro e w' ⟨rfl, rfl⟩)
  all_goals go_ret
  all_goals (refine ⟨ret_int ?_, rfl⟩; (try simp only [satI, wrap64, beq_iff_eq, bne_iff_ne, Bool.not_eq_true', beq_eq_false_iff_ne, bne_eq_false_iff_eq, ne_eq, decide_eq_decide, decide_eq_true_eq, decide_eq_false_iff_not, Bool.not_eq_eq_eq_not, Bool.not_true, Bool.not_false] at *); first | omega | (repeat' split <;> omega))

set_option maxHeartbeats 400000 in
theorem rabs_any (a : Int) (w : World) (ha : -1099511627776 ≤ a ∧ a ≤ 1099511627776) : Calls Try.prog 125 #[.int .i64 a] w fun e w' => e = .returned (.int .i64 (absI a)) ∧ w = w' := by
  go_enter Try.func125, Try.ntmps125
  go_wp2
  all_goals go_ret
  all_goals exact ⟨ret_int (by unfold absI; split <;> omega), rfl⟩

theorem satI_bd (n : Int) : -1099511627776 ≤ satI n ∧ satI n ≤ 1099511627776 := by unfold satI; repeat' split <;> omega
theorem absI_sat (n : Int) : 0 ≤ absI (satI n) ∧ absI (satI n) ≤ 1099511627776 := by unfold satI absI; repeat' split <;> omega

theorem big_left {a b : Int} (ha : 1099511627776 < a) (hb : b ≠ 0) : satI (a * b) = if b < 0 then -1099511627776 else 1099511627776 := by
  by_cases h : b < 0
  · have h1 : a * b ≤ a * (-1) := Int.mul_le_mul_of_nonneg_left (by omega) (by omega)
    simp only [satI, h, if_true]; split <;> omega
  · have h1 : a * 1 ≤ a * b := Int.mul_le_mul_of_nonneg_left (by omega) (by omega)
    simp only [satI, h, if_false]; repeat' split <;> omega
theorem small_left {a b : Int} (ha : a < -1099511627776) (hb : b ≠ 0) : satI (a * b) = if b < 0 then 1099511627776 else -1099511627776 := by
  have h := big_left (a := -a) (b := -b) (by omega) (by omega)
  rw [Int.neg_mul_neg] at h
  rw [h]
  by_cases h2 : b < 0
  · rw [if_neg (by omega), if_pos h2]
  · rw [if_pos (by omega), if_neg h2]
/-- Both factors within the range, neither 0: the product, or its limit where the quotient says so. -/
theorem mid_div {x y : Int} (hx : 0 ≤ x) (hy : 0 < y) : 1099511627776 / y < x ↔ 1099511627776 < x * y := Int.ediv_lt_iff_lt_mul hy

def mulR (a b : Int) : Int :=
  if a = 0 ∨ b = 0 then 0 else
  if (1099511627776 < a ∨ a < -1099511627776) ∨ (1099511627776 < b ∨ b < -1099511627776) ∨ 1099511627776 / absI (satI b) < absI (satI a) then (if (decide (a < 0) != decide (b < 0)) = true then -1099511627776 else 1099511627776) else
  if (decide (a < 0) != decide (b < 0)) = true then -(absI (satI a) * absI (satI b)) else absI (satI a) * absI (satI b)
theorem mulR_eq (a b : Int) : mulR a b = satI (a * b) := by
  unfold mulR
  by_cases h0 : a = 0 ∨ b = 0
  · rw [if_pos h0]; rcases h0 with rfl | rfl <;> simp [satI]
  rw [if_neg h0]
  have hs : ((decide (a < 0) != decide (b < 0)) = true) ↔ ¬ (a < 0 ↔ b < 0) := by simp
  by_cases h1 : 1099511627776 < a ∨ a < -1099511627776
  · rw [if_pos (.inl h1)]
    rcases h1 with h1 | h1
    · rw [big_left h1 (by omega)]; by_cases hb : b < 0
      · rw [if_pos hb, if_pos (hs.2 (by omega))]
      · rw [if_neg hb, if_neg (fun h => hs.1 h (by omega))]
    · rw [small_left h1 (by omega)]; by_cases hb : b < 0
      · rw [if_pos hb, if_neg (fun h => hs.1 h (by omega))]
      · rw [if_neg hb, if_pos (hs.2 (by omega))]
  by_cases h2 : 1099511627776 < b ∨ b < -1099511627776
  · rw [if_pos (.inr (.inl h2)), Int.mul_comm a b]
    rcases h2 with h2 | h2
    · rw [big_left h2 (by omega)]; by_cases ha : a < 0
      · rw [if_pos ha, if_pos (hs.2 (by omega))]
      · rw [if_neg ha, if_neg (fun h => hs.1 h (by omega))]
    · rw [small_left h2 (by omega)]; by_cases ha : a < 0
      · rw [if_pos ha, if_neg (fun h => hs.1 h (by omega))]
      · rw [if_neg ha, if_pos (hs.2 (by omega))]
  have ea : satI a = a := by unfold satI; rw [if_neg (by omega), if_neg (by omega)]
  have eb : satI b = b := by unfold satI; rw [if_neg (by omega), if_neg (by omega)]
  rw [ea, eb]
  have hy : 0 < absI b := by unfold absI; split <;> omega
  have hx : 0 ≤ absI a := by unfold absI; split <;> omega
  have hm := mul_is a b
  unfold signI timesI at hm
  rw [← hm]
  by_cases h3 : 1099511627776 < absI a * absI b
  · rw [if_pos (.inr (.inr ((mid_div hx hy).2 h3)))]
    simp only [h3, if_true, limI]; simp
  · rw [if_neg (fun h => by rcases h with h | h | h; exact h1 h; exact h2 h; exact h3 ((mid_div hx hy).1 h))]
    simp only [h3, if_false]

set_option maxHeartbeats 400000 in
theorem rmul_any (a b : Int) (w : World) (ha : I64 a) (hb : I64 b) : Calls Try.prog 108 #[.int .i64 a, .int .i64 b] w fun e w' => e = .returned (.int .i64 (satI (a * b))) ∧ w = w' := by
  have h1 := absI_sat a
  have h2 := absI_sat b
  have hp : 0 ≤ absI (satI a) * absI (satI b) := Int.mul_nonneg h1.1 h2.1
  have hp2 : absI (satI a) * absI (satI b) ≤ 1099511627776 * 1099511627776 := Int.mul_le_mul h1.2 h2.2 h2.1 (by omega)
  have hy : b ≠ 0 → 1 ≤ absI (satI b) := fun h => by unfold satI absI; repeat' split <;> omega
  have hm := Lib.hid (mulR_eq a b)
  have s1 := satI_bd a
  have s2 := satI_bd b
  by_cases ha0 : a = 0
  · subst ha0
    go_enter Try.func108, Try.ntmps108
    go_wp2_with fail
    go_ret
    exact ⟨ret_int (by rw [← hm.out]; simp [mulR]), rfl⟩
  by_cases hb0 : b = 0
  · subst hb0
    go_enter Try.func108, Try.ntmps108
    go_wp2_with fail
    go_ret
    exact ⟨ret_int (by rw [← hm.out]; simp [mulR]), rfl⟩
  have hy1 := hy hb0
  clear hy
  have ha1 : (a == 0) = false := by simpa using ha0
  have hb1 : (b == 0) = false := by simpa using hb0
  clear ha0 hb0
  go_enter Try.func108, Try.ntmps108
  go_wp2_with fail
  refine (rsat_any a _).mono ?_
  rintro e w' ⟨rfl, rfl⟩
  go_wp2_with fail
  refine (rabs_any _ _ s1).mono ?_
  rintro e w' ⟨rfl, rfl⟩
  go_wp2_with fail
  refine (rsat_any b _).mono ?_
  rintro e w' ⟨rfl, rfl⟩
  go_wp2_with fail
  refine (rabs_any _ _ s2).mono ?_
  rintro e w' ⟨rfl, rfl⟩
  go_wp2_with fail
  all_goals go_ret
  all_goals
    refine ⟨ret_int ?_, rfl⟩
    rw [← hm.out]
    clear hm
    unfold mulR
    generalize absI (satI a) = x at *
    generalize absI (satI b) = y at *
    have hn : -x * y = -(x * y) := Int.neg_mul x y
    have hd : 1099511627776 / y < x ↔ 1099511627776 < x * y := mid_div h1.1 (by omega)
    simp only [beq_iff_eq, bne_iff_ne, Bool.not_eq_true', beq_eq_false_iff_ne, bne_eq_false_iff_eq, ne_eq, decide_eq_decide, decide_eq_true_eq, decide_eq_false_iff_not, Bool.not_eq_eq_eq_not, Bool.not_true, Bool.not_false, wrap64, hn] at *
    repeat' split
    all_goals omega

set_option maxHeartbeats 400000 in
theorem rclamp_any (n lo hi : Int) (w : World) : Calls Try.prog 123 #[.int .i64 n, .int .i64 lo, .int .i64 hi] w fun e w' => e = .returned (.int .i64 (clampI n lo hi)) ∧ w = w' := by
  go_enter Try.func123, Try.ntmps123
  go_wp2
  all_goals go_ret
  all_goals exact ⟨ret_int (by unfold clampI; (try simp only [Bool.or_eq_true, decide_eq_true_eq] at *); repeat' split <;> try omega), rfl⟩

set_option maxHeartbeats 400000 in
theorem rvalid_any (n : Int) (w : World) : Calls Try.prog 105 #[.int .i64 n] w fun e w' => e = .returned (.int .i64 (minI n)) ∧ w = w' := by
  go_enter Try.func105, Try.ntmps105
  go_wp2_with (go_at_call 123; refine (rclamp_any _ _ _ _).mono ?_; rintro e w' ⟨rfl, rfl⟩)
  go_ret
  exact ⟨rfl, rfl⟩

set_option maxHeartbeats 400000 in
theorem rofDay_any (n : Int) (w : World) : Calls Try.prog 79 #[.int .i64 n] w fun e w' => e = .returned (.int .i64 (ofDayI n)) ∧ w = w' := by
  have hb := minI_bd n
  go_enter Try.func79, Try.ntmps79
  go_wp2_with (go_at_call 105; refine (rvalid_any _ _).mono ?_; rintro e w' ⟨rfl, rfl⟩)
  go_ret
  exact ⟨rfl, rfl⟩

set_option maxHeartbeats 400000 in
theorem rweekday_any (n : Int) (w : World) : Calls Try.prog 80 #[.int .i64 n] w fun e w' => e = .returned (.int .i64 (weekdayI n)) ∧ w = w' := by
  have hb := minI_bd n
  go_enter Try.func80, Try.ntmps80
  go_wp2_with (go_at_call 105; refine (rvalid_any _ _).mono ?_; rintro e w' ⟨rfl, rfl⟩)
  go_ret
  exact ⟨rfl, rfl⟩
end

section
set_option linter.unusedSimpArgs false
set_option linter.unusedVariables false
open Go.RowKit

/-- May a byte stand at a place of a name? -/
def goodC (i c : Nat) : Prop := (97 ≤ c ∧ c ≤ 122) ∨ (i ≠ 0 ∧ (c = 95 ∨ c = 45 ∨ (48 ≤ c ∧ c ≤ 57)))
instance (i c : Nat) : Decidable (goodC i c) := by unfold goodC; infer_instance

/-- Is a string a name? -/
def validName (s : ByteArray) : Bool := decide (1 ≤ s.size ∧ s.size ≤ 24 ∧ ∀ (j : Nat) (h : j < s.size), goodC j (s[j]'h).toNat)

theorem valid_short {s : ByteArray} (h : ¬ (1 ≤ s.size ∧ s.size ≤ 24)) : validName s = false := by
  unfold validName; exact decide_eq_false fun hh => h ⟨hh.1, hh.2.1⟩
theorem valid_bad {s : ByteArray} {k : Nat} (hk : k < s.size) (h : ¬ goodC k (s[k]'hk).toNat) : validName s = false := by
  unfold validName; exact decide_eq_false fun hh => h (hh.2.2 k hk)
theorem valid_good {s : ByteArray} (h1 : 1 ≤ s.size) (h2 : s.size ≤ 24) (h : ∀ (j : Nat) (h : j < s.size), goodC j (s[j]'h).toNat) : validName s = true := by
  unfold validName; exact decide_eq_true ⟨h1, h2, h⟩
theorem good_succ {s : ByteArray} {k : Nat} (hk : k < s.size) (h : ∀ (j : Nat) (h : j < s.size), j < k → goodC j (s[j]'h).toNat) (hg : goodC k (s[k]'hk).toNat) :
    ∀ (j : Nat) (h : j < s.size), j < k + 1 → goodC j (s[j]'h).toNat := fun j hj hlt => by
  by_cases e : j = k
  · subst e; exact hg
  · exact h j hj (by omega)

/-- The nine classes of a byte at a place, in the spelling of a walk. -/
theorem charClass (k c : Nat) :
    (97 ≤ (c : Int) ∧ (c : Int) ≤ 122 ∧ goodC k c) ∨
    ((c : Int) < 97 ∧ ((k : Int) == 0) = true ∧ ¬ goodC k c) ∨
    (122 < (c : Int) ∧ decide ((c : Int) ≤ 122) = false ∧ ((k : Int) == 0) = true ∧ ¬ goodC k c) ∨
    ((c : Int) < 97 ∧ ((k : Int) == 0) = false ∧ ((c : Int) != 95) = false ∧ goodC k c) ∨
    ((c : Int) < 97 ∧ ((k : Int) == 0) = false ∧ ((c : Int) != 95) = true ∧ ((c : Int) != 45) = false ∧ goodC k c) ∨
    ((c : Int) < 97 ∧ ((k : Int) == 0) = false ∧ ((c : Int) != 95) = true ∧ ((c : Int) != 45) = true ∧ 48 ≤ (c : Int) ∧ (c : Int) ≤ 57 ∧ goodC k c) ∨
    ((c : Int) < 97 ∧ ((k : Int) == 0) = false ∧ ((c : Int) != 95) = true ∧ ((c : Int) != 45) = true ∧ (c : Int) < 48 ∧ ¬ goodC k c) ∨
    ((c : Int) < 97 ∧ ((k : Int) == 0) = false ∧ ((c : Int) != 95) = true ∧ ((c : Int) != 45) = true ∧ 57 < (c : Int) ∧ ¬ goodC k c) ∨
    (122 < (c : Int) ∧ decide ((c : Int) ≤ 122) = false ∧ ((k : Int) == 0) = false ∧ ((c : Int) != 95) = true ∧ ((c : Int) != 45) = true ∧ 57 < (c : Int) ∧ ¬ goodC k c) := by
  simp only [beq_iff_eq, bne_iff_ne, beq_eq_false_iff_ne, bne_eq_false_iff_eq, decide_eq_false_iff_not]
  by_cases h1 : 97 ≤ c
  · by_cases h2 : c ≤ 122
    · exact .inl ⟨by omega, by omega, .inl ⟨h1, h2⟩⟩
    · by_cases h0 : k = 0
      · exact .inr (.inr (.inl ⟨by omega, by omega, by omega, fun h => by rcases h with h | h <;> omega⟩))
      · exact .inr (.inr (.inr (.inr (.inr (.inr (.inr (.inr ⟨by omega, by omega, by omega, by omega, by omega, by omega, fun h => by rcases h with h | ⟨_, h | h | h⟩ <;> omega⟩)))))))
  · by_cases h0 : k = 0
    · exact .inr (.inl ⟨by omega, by omega, fun h => by rcases h with h | h <;> omega⟩)
    · by_cases h3 : c = 95
      · exact .inr (.inr (.inr (.inl ⟨by omega, by omega, by omega, .inr ⟨h0, .inl h3⟩⟩)))
      · by_cases h4 : c = 45
        · exact .inr (.inr (.inr (.inr (.inl ⟨by omega, by omega, by omega, by omega, .inr ⟨h0, .inr (.inl h4)⟩⟩))))
        · by_cases h5 : 48 ≤ c
          · by_cases h6 : c ≤ 57
            · exact .inr (.inr (.inr (.inr (.inr (.inl ⟨by omega, by omega, by omega, by omega, by omega, by omega, .inr ⟨h0, .inr (.inr ⟨h5, h6⟩)⟩⟩)))))
            · exact .inr (.inr (.inr (.inr (.inr (.inr (.inr (.inl ⟨by omega, by omega, by omega, by omega, by omega, fun h => by rcases h with h | ⟨_, h | h | h⟩ <;> omega⟩)))))))
          · exact .inr (.inr (.inr (.inr (.inr (.inr (.inl ⟨by omega, by omega, by omega, by omega, by omega, fun h => by rcases h with h | ⟨_, h | h | h⟩ <;> omega⟩))))))

set_option maxHeartbeats 400000 in
theorem rvalidName_any (s : ByteArray) (w : World) : Calls Try.prog 111 #[.string s] w fun e w' => e = .returned (.bool (validName s)) ∧ w = w' := by
  go_enter Try.func111, Try.ntmps111
  by_cases hs : 1 ≤ s.size ∧ s.size ≤ 24
  · obtain ⟨hs1, hs2⟩ := hs
    go_wp2_with fail
    go_loop [3, 4, 5] (fun i _ _ => ∃ k : Nat, k ≤ s.size ∧ i = .int .i64 k ∧ ∀ (j : Nat) (h : j < s.size), j < k → goodC j (s[j]'h).toNat) (fun i _ _ => s.size - (intOf i).toNat)
    case atStart => exact ⟨0, Nat.zero_le _, rfl, fun j _ h => absurd h (by omega)⟩
    case round =>
      obtain ⟨k, hk, rfl, hg⟩ := hrel
      have HG := Lib.hid hg
      clear hg
      by_cases hlt : k < s.size
      · have hb := s[k].toNat_lt
        have hcl := charClass k s[k].toNat
        have fin0 : ¬ goodC k s[k].toNat → Hid (validName s = false) := fun h => valid_bad hlt h
        have fin1 : goodC k s[k].toNat → Hid (∀ (j : Nat) (h : j < s.size), j < k + 1 → goodC j (s[j]'h).toNat) := fun h => good_succ hlt HG.out h
        rcases hcl with ⟨a, b, g⟩ | ⟨a, z, g⟩ | ⟨a, a2, z, g⟩ | ⟨a, z, e, g⟩ | ⟨a, z, e, e2, g⟩ | ⟨a, z, e, e2, b, c, g⟩ | ⟨a, z, e, e2, b, g⟩ | ⟨a, z, e, e2, b, g⟩ | ⟨a, a2, z, e, e2, b, g⟩
        all_goals first | (have F := fin0 g; clear fin0 fin1 g; go_wp2_with fail; go_ret; exact ⟨ret_bool F.out.symm, rfl⟩) | (have F := fin1 g; clear fin0 fin1 g; go_wp2_with fail; go_round; (case rel => exact ⟨k + 1, by omega, by go_num, F.out⟩); (case measure => (simp [intOf]; omega)))
      · go_wp2_with fail
        go_ret
        exact ⟨ret_bool (valid_good hs1 hs2 fun j hj => HG.out j hj (by omega)).symm, rfl⟩
  · have hv := Lib.hid (valid_short hs)
    have h1 : s.size < 1 ∨ 24 < s.size := by omega
    clear hs
    rcases h1 with h1 | h1
    all_goals
      go_wp2_with fail
      go_ret
      exact ⟨ret_bool hv.out.symm, rfl⟩

def letB (c : Int) : Bool := decide (97 ≤ c) && decide (c ≤ 122)

set_option maxHeartbeats 400000 in
theorem letter_any (c : Int) (w : World) : Calls Try.prog 112 #[.int .i32 c] w fun e w' => e = .returned (.bool (letB c)) ∧ w = w' := by
  go_enter Try.func112, Try.ntmps112
  go_wp2
  all_goals go_ret
  all_goals (refine ⟨ret_bool ?_, rfl⟩; unfold letB; first | (simp [*]; done) | (simp [*]; omega))

/-- The classes again, in the spelling of the walk that asks 'letter'. -/
theorem runeClass (k c : Nat) :
    (letB (c : Int) = true ∧ goodC k c) ∨
    (letB (c : Int) = false ∧ ((k : Int) == 0) = true ∧ ¬ goodC k c) ∨
    (letB (c : Int) = false ∧ ((k : Int) == 0) = false ∧ ((c : Int) != 95) = false ∧ goodC k c) ∨
    (letB (c : Int) = false ∧ ((k : Int) == 0) = false ∧ ((c : Int) != 95) = true ∧ ((c : Int) != 45) = false ∧ goodC k c) ∨
    (letB (c : Int) = false ∧ ((k : Int) == 0) = false ∧ ((c : Int) != 95) = true ∧ ((c : Int) != 45) = true ∧ 48 ≤ (c : Int) ∧ (c : Int) ≤ 57 ∧ goodC k c) ∨
    (letB (c : Int) = false ∧ ((k : Int) == 0) = false ∧ ((c : Int) != 95) = true ∧ ((c : Int) != 45) = true ∧ (c : Int) < 48 ∧ ¬ goodC k c) ∨
    (letB (c : Int) = false ∧ ((k : Int) == 0) = false ∧ ((c : Int) != 95) = true ∧ ((c : Int) != 45) = true ∧ 57 < (c : Int) ∧ ¬ goodC k c) := by
  have hl : letB (c : Int) = true ↔ 97 ≤ c ∧ c ≤ 122 := by unfold letB; simp; omega
  have hl' : ¬ (97 ≤ c ∧ c ≤ 122) → letB (c : Int) = false := fun h => by
    cases hh : letB (c : Int) with
    | false => rfl
    | true => exact absurd (hl.1 hh) h
  rcases charClass k c with ⟨a, b, g⟩ | ⟨a, z, g⟩ | ⟨a, a2, z, g⟩ | ⟨a, z, e, g⟩ | ⟨a, z, e, e2, g⟩ | ⟨a, z, e, e2, b, c, g⟩ | ⟨a, z, e, e2, b, g⟩ | ⟨a, z, e, e2, b, g⟩ | ⟨a, a2, z, e, e2, b, g⟩
  · exact .inl ⟨hl.2 (by omega), g⟩
  · exact .inr (.inl ⟨hl' (by omega), z, g⟩)
  · exact .inr (.inl ⟨hl' (by omega), z, g⟩)
  · exact .inr (.inr (.inl ⟨hl' (by omega), z, e, g⟩))
  · exact .inr (.inr (.inr (.inl ⟨hl' (by omega), z, e, e2, g⟩)))
  · exact .inr (.inr (.inr (.inr (.inl ⟨hl' (by omega), z, e, e2, b, c, g⟩))))
  · exact .inr (.inr (.inr (.inr (.inr (.inl ⟨hl' (by omega), z, e, e2, b, g⟩)))))
  · exact .inr (.inr (.inr (.inr (.inr (.inr ⟨hl' (by omega), z, e, e2, b, g⟩)))))
  · exact .inr (.inr (.inr (.inr (.inr (.inr ⟨hl' (by omega), z, e, e2, b, g⟩)))))

/-- What a range over a string hands out at a byte: that byte, or a rune that is no part of a name where the byte is none either. -/
theorem rune_at (s : ByteArray) (k : Nat) (hk : k < s.size) :
    (goodC k (s[k]'hk).toNat → Utf8.decode s k = ((s[k]'hk).toNat, 1)) ∧ (¬ goodC k (s[k]'hk).toNat → ¬ goodC k (Utf8.decode s k).1) := by
  by_cases h : (s[k]'hk).toNat < 128
  · have hd := decode_ascii s k hk h
    exact ⟨fun _ => hd, fun hg => by rw [hd]; exact hg⟩
  · have hd := decode_high s k hk (by omega)
    refine ⟨fun hg => ?_, fun _ hg => ?_⟩
    · rcases hg with hg | ⟨_, hg⟩ <;> omega
    · rcases hg with hg | ⟨_, hg⟩ <;> omega

set_option maxHeartbeats 1000000 in
theorem validName_any (s : ByteArray) (w : World) : Calls Try.prog 89 #[.string s] w fun e w' => e = .returned (.bool (validName s)) ∧ Below w.heap.size w w' := by
  go_enter Try.func89, Try.ntmps89
  by_cases hs : 1 ≤ s.size ∧ s.size ≤ 24
  · obtain ⟨hs1, hs2⟩ := hs
    go_wp2_with fail
    go_loopw [3, 4] (fun _ _ w' => ∃ k : Nat, k ≤ s.size ∧ w' = w.iter s k ∧ Hid (∀ (j : Nat) (h : j < s.size), j < k → goodC j (s[j]'h).toNat)) (fun _ _ w' => s.size - w'.iterPos w.heap.size)
    case atStart => exact ⟨0, Nat.zero_le _, rfl, fun j _ h => absurd h (by omega)⟩
    case round =>
      obtain ⟨k, hk, rfl, HG⟩ := hrel
      by_cases hlt : k < s.size
      · have hnx : ∀ ty, (Instr.next (.pointer (some ⟨w.heap.size, 0, none⟩)) true ty).run Try.prog (w.iter s k) = _ := fun ty => run_next_any w s k ty hlt
        obtain ⟨hgood, hbad⟩ := rune_at s k hlt
        have fin0 : ¬ goodC k s[k].toNat → Hid (validName s = false) := fun h => valid_bad hlt h
        have fin1 : goodC k s[k].toNat → Hid (∀ (j : Nat) (h : j < s.size), j < k + 1 → goodC j (s[j]'h).toNat) := fun h => good_succ hlt HG.out h
        by_cases hgc : goodC k s[k].toNat
        · have F := fin1 hgc
          rw [hgood hgc] at hnx
          have hcl := runeClass k s[k].toNat
          clear hgood hbad fin0 fin1
          rcases hcl with ⟨a, g⟩ | ⟨a, z, g⟩ | ⟨a, z, e, g⟩ | ⟨a, z, e, e2, g⟩ | ⟨a, z, e, e2, b, c, g⟩ | ⟨a, z, e, e2, b, g⟩ | ⟨a, z, e, e2, b, g⟩
          all_goals first
            | exact absurd hgc g
            | (clear g hgc
               go_wp2_with (go_at_call 112; refine (letter_any _ _).mono ?_; rintro e w' ⟨rfl, rfl⟩)
               go_roundw
               (case rel => exact ⟨k + 1, by omega, rfl, F⟩)
               (case measure => (simp; omega)))
        · have F := fin0 hgc
          have g0 := hbad hgc
          have hcl := runeClass k (Utf8.decode s k).1
          clear hgood hbad fin0 fin1 hgc
          generalize Utf8.decode s k = rw_ at *
          rcases hcl with ⟨a, g⟩ | ⟨a, z, g⟩ | ⟨a, z, e, g⟩ | ⟨a, z, e, e2, g⟩ | ⟨a, z, e, e2, b, c, g⟩ | ⟨a, z, e, e2, b, g⟩ | ⟨a, z, e, e2, b, g⟩
          all_goals first
            | exact absurd g g0
            | (clear g g0
               go_wp2_with (go_at_call 112; refine (letter_any _ _).mono ?_; rintro e w' ⟨rfl, rfl⟩)
               go_ret
               exact ⟨ret_bool F.out.symm, (Below.refl _ _).alloc (Nat.le_refl _) _⟩)
      · have hnx : ∀ ty, (Instr.next (.pointer (some ⟨w.heap.size, 0, none⟩)) true ty).run Try.prog (w.iter s k) = _ := fun ty => run_next_end w s k ty hlt
        go_wp2_with fail
        go_ret
        exact ⟨ret_bool (valid_good hs1 hs2 fun j hj => HG.out j hj (by omega)).symm, (Below.refl _ _).alloc (Nat.le_refl _) _⟩
  · have hv := Lib.hid (valid_short hs)
    have h1 : s.size < 1 ∨ 24 < s.size := by omega
    clear hs
    rcases h1 with h1 | h1
    all_goals
      go_wp2_with fail
      go_ret
      exact ⟨ret_bool hv.out.symm, Below.refl _ _⟩
end

section
set_option linter.unusedSimpArgs false
set_option linter.unusedVariables false
open Go.RowKit

def valOk (k n : Int) : Prop := ((k = 0 ∨ k = 4) ∧ n = 0) ∨ (k = 1 ∧ (n = 0 ∨ n = 1)) ∨ (k = 2 ∧ -1099511627776 ≤ n ∧ n ≤ 1099511627776) ∨ (k = 3 ∧ 0 ≤ n ∧ n ≤ 63)
instance (k n : Int) : Decidable (valOk k n) := by unfold valOk; infer_instance

/-- What Check says of a value. -/
def valCheck (k n : Int) (s : ByteArray) : Int :=
  if k < 0 ∨ 4 < k then 7 else if ¬ valOk k n then 2 else if 60 < s.size then 3 else if s.size ≠ 0 ∧ k ≠ 4 then 4 else 0

set_option maxHeartbeats 400000 in
theorem inRange_any (n : Int) (w : World) : Calls Try.prog 113 #[.int .i64 n] w fun e w' => e = .returned (.bool (decide (-1099511627776 ≤ n) && decide (n ≤ 1099511627776))) ∧ w = w' := by
  go_enter Try.func113, Try.ntmps113
  go_wp2
  all_goals go_ret
  all_goals (refine ⟨ret_bool ?_, rfl⟩; first | (simp [*]; done) | (simp [*]; omega))

set_option maxHeartbeats 1000000 in
theorem rvalCheck_any (k n : Int) (s : ByteArray) (w : World) : Calls Try.prog 104 #[.agg #[.int .i64 k, .int .i64 n, .string s]] w fun e w' => e = .returned (.int .i64 (valCheck k n s)) ∧ Below w.heap.size w w' := by
  go_enter Try.func104, Try.ntmps104
  go_wp2_with fail
  all_goals go_ret
  all_goals refine ⟨ret_int ?_, (Below.refl _ _).alloc (Nat.le_refl _) _⟩
  all_goals (have hz := toList_nil s; unfold valCheck valOk; (try simp only [beq_iff_eq, bne_iff_ne, Bool.not_eq_true', beq_eq_false_iff_ne, bne_eq_false_iff_eq, ne_eq, decide_eq_decide, decide_eq_true_eq, decide_eq_false_iff_not, Bool.not_eq_eq_eq_not, Bool.not_true, Bool.not_false, Bool.and_eq_true, Bool.or_eq_true, Bool.and_eq_false_iff, Bool.or_eq_false_iff, List.isEmpty_iff, List.isEmpty_eq_false_iff, hz] at *); repeat' split <;> omega)

set_option maxHeartbeats 1000000 in
theorem valCheck_any (k n : Int) (s : ByteArray) (w : World) : Calls Try.prog 90 #[.agg #[.int .i64 k, .int .i64 n, .string s]] w fun e w' => e = .returned (.int .i64 (valCheck k n s)) ∧ Below w.heap.size w w' := by
  go_enter Try.func90, Try.ntmps90
  go_wp2_with (go_at_call 113; refine (inRange_any _ _).mono ?_; rintro e w' ⟨rfl, rfl⟩)
  all_goals go_ret
  all_goals refine ⟨ret_int ?_, (Below.refl _ _).alloc (Nat.le_refl _) _⟩
  all_goals (have hz := toList_nil s; unfold valCheck valOk; (try simp only [beq_iff_eq, bne_iff_ne, Bool.not_eq_true', beq_eq_false_iff_ne, bne_eq_false_iff_eq, ne_eq, decide_eq_decide, decide_eq_true_eq, decide_eq_false_iff_not, Bool.not_eq_eq_eq_not, Bool.not_true, Bool.not_false, Bool.and_eq_true, Bool.or_eq_true, Bool.and_eq_false_iff, Bool.or_eq_false_iff, List.isEmpty_iff, List.isEmpty_eq_false_iff, hz] at *); repeat' split <;> omega)
end

end Go.Proofs.Ytnelgblmogciiaa
