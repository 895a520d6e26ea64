/- Views and the small functions of the evaluation. -/
import Derived.Test.YtnelgblmogciiaaRCheck
set_option linter.unusedSimpArgs false
set_option linter.unusedVariables false
namespace Go.Proofs.Ytnelgblmogciiaa
open Go.RowKit

/-- A slice of flat rows. -/
def IsRows (B : Nat) (w : World) (size : Nat) (rows : List (List Value)) (A : Option Addr) : Prop :=
  0 < rows.length → ∃ b off, A = some ⟨b, off, none⟩ ∧ b < B ∧ ∀ (i : Nat) (hi : i < rows.length), RowAt w b (off + i * size) rows[i]
theorem IsRows.carry {B : Nat} {w w' : World} {size : Nat} {rows : List (List Value)} {A : Option Addr} (h : IsRows B w size rows A) (hb : Below B w w') : IsRows B w' size rows A := fun h0 => by
  obtain ⟨b, off, hA, hB, hr⟩ := h h0
  exact ⟨b, off, hA, hB, fun i hi => (hr i hi).below hb hB⟩
theorem IsRows.mono {B B' : Nat} {w : World} {size : Nat} {rows : List (List Value)} {A : Option Addr} (h : IsRows B w size rows A) (hB : B ≤ B') : IsRows B' w size rows A := fun h0 => by
  obtain ⟨b, off, hA, hb, hr⟩ := h h0
  exact ⟨b, off, hA, by omega, hr⟩

structure LItem where
  dev : Int
  cl : ByteArray
  at_ : ByteArray
  vk : Int
  vn : Int
  vs : ByteArray
  ver : Int
def LItem.cells (x : LItem) : List Value := [.int .i64 x.dev, .string x.cl, .string x.at_, .int .i64 x.vk, .int .i64 x.vn, .string x.vs, .int .i64 x.ver]
structure LMember where
  name : ByteArray
  role : Int
  sa : Option Addr
  sl : Nat
  sc : Nat
  ra : Option Addr
  rl : Nat
  rc : Nat
  home : Bool
def LMember.cells (m : LMember) : List Value := [.string m.name, .int .i64 m.role, .slice m.sa m.sl m.sc, .slice m.ra m.rl m.rc, .bool m.home]
structure LView where
  items : List LItem
  mode : ByteArray
  minute : Int
  members : List LMember
/-- The cells of a view read as a view. -/
def IsView (B : Nat) (w : World) (V : LView) (cs : List Value) : Prop :=
  ∃ IA ic MA mc, cs = [.slice IA V.items.length ic, .string V.mode, .int .i64 V.minute, .slice MA V.members.length mc] ∧ IsRows B w 7 (V.items.map LItem.cells) IA ∧ IsRows B w 5 (V.members.map LMember.cells) MA ∧
    I64 V.minute ∧ V.items.length ≤ 140737488351232 ∧ V.members.length ≤ 140737488351232
theorem IsView.carry {B : Nat} {w w' : World} {V : LView} {cs : List Value} (h : IsView B w V cs) (hb : Below B w w') : IsView B w' V cs := by
  obtain ⟨IA, ic, MA, mc, e, h1, h2, h3⟩ := h
  exact ⟨IA, ic, MA, mc, e, h1.carry hb, h2.carry hb, h3⟩
theorem IsView.mono {B B' : Nat} {w : World} {V : LView} {cs : List Value} (h : IsView B w V cs) (hB : B ≤ B') : IsView B' w V cs := by
  obtain ⟨IA, ic, MA, mc, e, h1, h2, h3⟩ := h
  exact ⟨IA, ic, MA, mc, e, h1.mono hB, h2.mono hB, h3⟩

/-- A value, and whether it is known. -/
structure EV where
  k : Int
  n : Int
  s : ByteArray
  ok : Bool
abbrev EV.val (x : EV) : Value := .agg #[.int .i64 x.k, .int .i64 x.n, .string x.s]
abbrev EV.res (x : EV) : Value := .tuple #[.agg #[.int .i64 x.k, .int .i64 x.n, .string x.s], .bool x.ok]
def noStr : ByteArray := { data := #[] }
def bit (b : Bool) : Int := if b then 1 else 0
def truthE (b : Bool) : EV := ⟨1, bit b, noStr, true⟩
def unknownE : EV := ⟨0, 0, noStr, false⟩

set_option maxHeartbeats 400000 in
theorem truth_any (b : Bool) (w : World) : Calls Try.prog 69 #[.bool b] w fun r w' => r = .returned (.tuple #[.agg #[.int .i64 1, .int .i64 (bit b), .string noStr], .bool true]) ∧ Below w.heap.size w w' := by
  cases b
  all_goals
    go_enter Try.func69, Try.ntmps69
    go_wp2_with fail
    exact bodyPost_ret (v := .tuple #[.agg #[.int .i64 1, .int .i64 (bit _), .string noStr], .bool true]) (by simp [results, Try.results69, go_sem, bit, noStr]; try rfl) rfl ⟨rfl, by repeat (first | exact Below.refl _ _ | refine Below.al ?_ _)⟩

set_option maxHeartbeats 400000 in
theorem unknown_any (w : World) : Calls Try.prog 43 #[] w fun r w' => r = .returned (.tuple #[.agg #[.int .i64 0, .int .i64 0, .string noStr], .bool false]) ∧ Below w.heap.size w w' := by
  go_enter Try.func43, Try.ntmps43
  go_wp2_with fail
  exact bodyPost_ret (v := .tuple #[.agg #[.int .i64 0, .int .i64 0, .string noStr], .bool false]) (by simp [results, Try.results43, go_sem, noStr]; try rfl) rfl ⟨rfl, by repeat (first | exact Below.refl _ _ | refine Below.al ?_ _)⟩

/-- Is a minute of the day from one up to another one? -/
def duringP (t f u : Int) : Prop := if f < u then f ≤ t ∧ t < u else f = u ∨ f ≤ t ∨ t < u
instance (t f u : Int) : Decidable (duringP t f u) := by unfold duringP; infer_instance

set_option maxHeartbeats 400000 in
theorem during_any (t f u : Int) (w : World) : Calls Try.prog 70 #[.int .i64 t, .int .i64 f, .int .i64 u] w fun r w' => r = .returned (.bool (decide (duringP t f u))) ∧ w = w' := by
  go_enter Try.func70, Try.ntmps70
  go_wp2_with fail
  all_goals go_ret
  all_goals (refine ⟨ret_bool ?_, rfl⟩; refine bool_is ?_; go_tidy; unfold duringP; grind)

end Go.Proofs.Ytnelgblmogciiaa
