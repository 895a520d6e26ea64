/- Guard: an argument read as a case. -/
import Derived.Test.YtmgalnbacenbbaaGRead
set_option linter.unusedSimpArgs false
set_option linter.unusedVariables false
namespace Go.Proofs.Ytmgalnbacenbbaa
open Go.ChangeShapes Go.WideShapes Go.ChangeAt Go.RowKit

/-- A case's cells. -/
def caC (A : Option Addr) (n c : Nat) (B : Option Addr) (n' m : Nat) (k : LKey) (v : LVal) : List Value := [.slice A n c, .slice B n' m, .int .i64 k.dev, .string k.cl, .string k.at_, .int .i64 v.k, .int .i64 v.n, .string v.s]
section
variable {H : Type} {enc : TypeId × Value → H} {W : World}
theorem cCa : Try.prog.cellsOf 37 = 8 := by kernel_rfl
theorem cLS : Try.prog.cellsOf 22 = 1 := by kernel_rfl
theorem cNS : Try.prog.cellsOf 23 = 1 := by kernel_rfl
set_option maxRecDepth 100000 in
theorem rd_case {fuel : Nat} {cs : List Value} {x : DataW H × List MemPlace} (h : DataW.trod enc Try.prog W 0 (fun _ => true) true fuel 37 cs = some x) : ∃ (ps : List (LkR × LLock)) (A : Option Addr) (c : Nat) (acts : List ByteArray) (B : Option Addr) (m : Nat) (k : LKey) (v : LVal), cs = caC A ps.length c B acts.length m k v ∧ RdL W ps (.slice A ps.length c) ∧ ES.Rd W acts (.slice B acts.length m) := by
  obtain ⟨xs, m, rfl, hxe, hl, hx, hf⟩ := DataW.trod_struct Try.underlying37 h
  rw [cCa] at hl
  match cs, hl with
  | [a0, a1, a2, a3, a4, a5, a6, a7], _ =>
    have hx4 : xs.length = 4 := hx
    match xs, hx4 with
    | [x0, x1, x2, x3], _ =>
      have f0 := hf 0 _ rfl
      have f1 := hf 1 _ rfl
      have f2 := hf 2 _ rfl
      have f3 := hf 3 _ rfl
      simp only [List.getElem?_cons_zero, List.getElem?_cons_succ] at f0 f1 f2 f3
      clear hf h
      obtain ⟨ps, A, c, e0, h0⟩ := rd_locks f0
      obtain ⟨acts, B, m', e1, h1⟩ := rd_names f1
      obtain ⟨k, e2⟩ := rd_key f2
      obtain ⟨v, e3⟩ := rd_val f3
      simp [cK, cV, cLS, cNS, kC, vC] at e0 e1 e2 e3
      obtain ⟨rfl, rfl, rfl⟩ := e2
      obtain ⟨rfl, rfl, rfl⟩ := e3
      subst e0 e1
      exact ⟨ps, A, c, acts, B, m', k, v, rfl, h0, h1⟩
set_option maxRecDepth 100000 in
theorem arg_case {v : Value} {d : DataW H} {p : List MemPlace} (h : DataW.Trod enc Try.prog W 0 (fun _ => true) true 37 v d p) : ∃ (ps : List (LkR × LLock)) (A : Option Addr) (c : Nat) (acts : List ByteArray) (B : Option Addr) (m : Nat) (k : LKey) (vv : LVal), v = .agg (caC A ps.length c B acts.length m k vv).toArray ∧ RdL W ps (.slice A ps.length c) ∧ ES.Rd W acts (.slice B acts.length m) := by
  obtain ⟨fuel, h1⟩ := h
  obtain ⟨ps, A, c, acts, B, m, k, vv, he, h2, h3⟩ := rd_case h1
  refine ⟨ps, A, c, acts, B, m, k, vv, ?_, h2, h3⟩
  rw [← he, Array.toArray_toList]
  exact agg_of (n := 8) (by rw [he]; rfl) (by decide)
end
theorem canCa : Try.prog.readableRec 37 = true := by kernel_rfl
theorem rowCa : 37 < Try.prog.types.size := of_decide_eq_true (by kernel_rfl)
end Go.Proofs.Ytmgalnbacenbbaa
