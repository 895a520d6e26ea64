/- Plain data of the home hub's expressions, how memory reads as such data, and laws for loads of whole structs. -/
import Derived.Test.YtnelgblmogciiaaRows
import Derived.WalkKit
import Derived.WalkSpells
import Derived.WalkLawsBesides
import Derived.BigQuiet
import Derived.Lib.Hide
import Derived.Deep.QuietTactic
set_option linter.unusedSimpArgs false
set_option linter.unusedVariables false
namespace Go.Proofs.Ytnelgblmogciiaa
open Go.RowKit

/-- What fits an int. -/
def I64 (n : Int) : Prop := -9223372036854775808 ≤ n ∧ n ≤ 9223372036854775807

/-- The fields of an expression but its kids. -/
structure Hd where
  kind : Int
  n : Int
  m : Int
  name : ByteArray
  vk : Int
  vn : Int
  vs : ByteArray
  dev : Int
  cl : ByteArray
  at_ : ByteArray

inductive LExpr where
  | mk (h : Hd) (kids : List LExpr)

def LExpr.hd : LExpr → Hd | .mk h _ => h
def LExpr.kids : LExpr → List LExpr | .mk _ ks => ks

theorem LExpr.ind {p : LExpr → Prop} (h : ∀ hd ks, (∀ (i : Nat) (hi : i < ks.length), p ks[i]) → p (.mk hd ks)) : ∀ e, p e
  | .mk hd ks => h hd ks (fun i hi =>
      have : SizeOf.sizeOf ks[i] < SizeOf.sizeOf ks := List.sizeOf_lt_of_mem (List.getElem_mem hi)
      LExpr.ind h ks[i])
termination_by e => SizeOf.sizeOf e
decreasing_by simp only [LExpr.mk.sizeOf_spec]; omega

structure Hd.ok (h : Hd) : Prop where
  kind : I64 h.kind
  n : I64 h.n
  m : I64 h.m
  vk : I64 h.vk
  vn : I64 h.vn
  dev : I64 h.dev

def Hd.cells (h : Hd) (s : Value) : List Value :=
  [.int .i64 h.kind, .int .i64 h.n, .int .i64 h.m, .string h.name, .int .i64 h.vk, .int .i64 h.vn, .string h.vs, .int .i64 h.dev, .string h.cl, .string h.at_, s]

/-- The cells from an offset of a block on are these. -/
def RowAt (w : World) (b off : Nat) (cs : List Value) : Prop := ∀ (j : Nat) (v : Value), cs[j]? = some v → w.cell? ⟨b, off + j, none⟩ = some v

/-- A list of cells reads as an expression, all of whose kids lie below block B. -/
inductive IsExpr (B : Nat) (w : World) : LExpr → List Value → Prop where
  | mk (h : Hd) (ks : List LExpr) (A : Option Addr) (c b off : Nat) (cs : Nat → List Value) (ok : h.ok) (hlen : ks.length * 136 ≤ 140737488351232)
      (hA : 0 < ks.length → A = some ⟨b, off, none⟩ ∧ b < B)
      (hsz : ∀ i, (cs i).length = 11) (hrow : ∀ i (hi : i < ks.length), RowAt w b (off + i * 11) (cs i)) (hk : ∀ i (hi : i < ks.length), IsExpr B w ks[i] (cs i)) :
      IsExpr B w (.mk h ks) (h.cells (.slice A ks.length c))

theorem RowAt.below {w w' : World} {b off : Nat} {cs : List Value} {B : Nat} (h : RowAt w b off cs) (hb : Below B w w') (hB : b < B) : RowAt w' b off cs :=
  fun j v hj => (hb.cell (p := ⟨b, off + j, none⟩) hB).trans (h j v hj)

theorem IsExpr.carry {B : Nat} {w w' : World} {e : LExpr} {cs : List Value} (h : IsExpr B w e cs) (hb : Below B w w') : IsExpr B w' e cs := by
  induction h with
  | mk h ks A c b off cs ok hlen hA hsz hrow _ ih =>
    exact .mk h ks A c b off cs ok hlen hA hsz (fun i hi => (hrow i hi).below hb (hA (by omega)).2) ih
theorem IsExpr.mono {B B' : Nat} {w : World} {e : LExpr} {cs : List Value} (h : IsExpr B w e cs) (hB : B ≤ B') : IsExpr B' w e cs := by
  induction h with
  | mk h ks A c b off cs ok hlen hA hsz hrow _ ih =>
    exact .mk h ks A c b off cs ok hlen (fun h0 => ⟨(hA h0).1, Nat.lt_of_lt_of_le (hA h0).2 hB⟩) hsz hrow ih
theorem IsExpr.len {B : Nat} {w : World} {e : LExpr} {cs : List Value} (h : IsExpr B w e cs) : cs.length = 11 := by
  cases h; simp [Hd.cells]

section
variable {P : Program}
theorem run_loadVar_at (w : World) (b off : Nat) (ty : TypeId) (cs : List Value) (d : TypeDesc) (h : RowAt w b off cs)
    (hu : P.underlying ty = some d) (hd : (match d with | .struct _ | .array _ _ => true | _ => false) = true) (hi : (P.info? ty).map (·.size) = some cs.length) :
    (loadVar ty ⟨b, off, none⟩).run P w = .ok (.agg cs.toArray) w := by
  have hl : (loadCells ⟨b, off, none⟩ cs.length).run P w = .ok cs.toArray w :=
    run_loadCells_list (P := P) w ⟨b, off, none⟩ cs (fun j v hv => by
      have hadd : (⟨b, off, none⟩ : Addr).add j = ⟨b, off + j, none⟩ := by unfold Addr.add; split <;> simp_all
      rw [hadd]
      exact h j v (by simpa using hv))
  cases hq : P.info? ty with
  | none => simp [hq] at hi
  | some i =>
    have hs : i.size = cs.length := by simpa [hq] using hi
    have hagg : (isAgg ty).run P w = .ok true w := by
      unfold isAgg
      rw [Sem.run_bind, run_underlying hu w]
      cases d <;> simp_all
    simp [loadVar, Sem.run_bind, hagg, sizeOf, typeInfo, hq, hs, hl]

/-- A load of a whole struct out of memory of which its cells are known. -/
theorem wp_load_at {o : Oper} {a : Act} {w : World} {K : Act → World → Prop} {Q : Exit → Act → World → Prop} (ty : TypeId) (x : Operand) (ho : o.op = .load ty x)
    (b off : Nat) (hx : a.eval x = .pointer (some ⟨b, off, none⟩)) (cs : List Value) (d : TypeDesc) (h : RowAt w b off cs)
    (hu : P.underlying ty = some d) (hd : (match d with | .struct _ | .array _ _ => true | _ => false) = true) (hi : (P.info? ty).map (·.size) = some cs.length)
    (hK : K (a.put o.dst (.agg cs.toArray)) w) : o.wp P a w K Q := by
  unfold Oper.wp execOp
  simp only [ho, hx, Instr.loadAt, Instr.sureAddr, Sem.run_bind, Sem.run_pure, Result.andThen_ok, run_loadVar_at w b off ty cs d h hu hd hi]
  exact hK

theorem wpList_load_at {ops : Array Oper} {rest : List Oper} {o : Oper} {a : Act} {w : World} {Q : Exit → Act → World → Prop} (hgd : o.guard = none) (ty : TypeId) (x : Operand) (ho : o.op = .load ty x)
    (b off : Nat) (hx : a.eval x = .pointer (some ⟨b, off, none⟩)) (cs : List Value) (d : TypeDesc) (h : RowAt w b off cs)
    (hu : P.underlying ty = some d) (hd : (match d with | .struct _ | .array _ _ => true | _ => false) = true) (hi : (P.info? ty).map (·.size) = some cs.length)
    (hK : wpList P ops Q rest (a.put o.dst (.agg cs.toArray)) w) : wpList P ops Q (o :: rest) a w :=
  wpList_plain hgd fun _ hK' => wp_load_at ty x ho b off hx cs d h hu hd hi (hK' _ _ hK)
end

theorem _root_.Go.RowKit.Below.al {a w : World} (h : Below a.heap.size a w) (o : Obj) : Below a.heap.size a (w.alloc o) := h.alloc h.size o
theorem _root_.Go.RowKit.Below.dr {a w : World} (h : Below a.heap.size a w) : Below a.heap.size a w.drew := h.drew
theorem _root_.Go.RowKit.Below.st {a w : World} (h : Below a.heap.size a w) {p : Addr} (hp : a.heap.size ≤ p.block) (v : Value) : Below a.heap.size a (w.setCell p v) := h.setCell hp v
theorem _root_.Go.RowKit.Below.th {a w w' : World} (h : Below a.heap.size a w) (h' : Below w.heap.size w w') : Below a.heap.size a w' := h.trans (h'.mono h.size)

theorem bcell {W w1 : World} (hb : Below W.heap.size W w1) : (∀ b o, b < W.heap.size → w1.cell? ⟨b, o, none⟩ = W.cell? ⟨b, o, none⟩) ∧ (∀ b o, b < W.heap.size → w1.frozen? ⟨b, o, none⟩ = W.frozen? ⟨b, o, none⟩) :=
  ⟨fun b o h => hb.cell (p := ⟨b, o, none⟩) h, fun b o h => hb.frozen (p := ⟨b, o, none⟩) h⟩

theorem bool_is {b : Bool} {P : Prop} [Decidable P] (h : (b = true) ↔ P) : b = decide P := by
  cases b with
  | true => exact (decide_eq_true (h.1 rfl)).symm
  | false => exact (decide_eq_false (fun hp => by have := h.2 hp; cases this)).symm
theorem bool_isNot {b : Bool} {P : Prop} [Decidable P] (h : (b = true) ↔ ¬ P) : b = !decide P := by
  rw [bool_is h, decide_not]

theorem toList_nil (s : ByteArray) : s.toList = [] ↔ s.size = 0 := by
  rw [ByteArray.toList_eq, ← List.length_eq_zero_iff]
  exact Iff.rfl
theorem toList_inj (a b : ByteArray) : a.toList = b.toList ↔ a = b := by
  rw [ByteArray.toList_eq, ByteArray.toList_eq]
  exact ⟨fun h => ByteArray.ext (Array.toList_inj.1 h), fun h => by rw [h]⟩
theorem toList_beq (a b : ByteArray) : (a.toList == b.toList) = decide (a = b) := by
  rw [Bool.eq_iff_iff, beq_iff_eq, decide_eq_true_iff, toList_inj]

theorem ret_int {k : IntKind} {a b : Int} (h : a = b) : Ending.returned (.int k a) = .returned (.int k b) := by rw [h]
theorem ret_bool {a b : Bool} (h : a = b) : Ending.returned (.bool a) = .returned (.bool b) := by rw [h]

end Go.Proofs.Ytnelgblmogciiaa
