/- Resolve: a decision as an argument, with the bounds of its numbers. -/
import Derived.Test.YtgjoojailghilaaDoorVRead2
import Derived.Test.YtgjoojailghilaaDoorXDig
set_option linter.unusedSimpArgs false
set_option linter.unusedVariables false
namespace Go.Proofs.YtgjoojailghilaaDoor
open Go.ChangeShapes Go.WideShapes Go.ChangeAt Go.RowKit

section
variable {H : Type} {enc : TypeId × Value → H} {W : World}
theorem i64_wf {n : Int} (h : (Lit.int .i64 n).wf = true) : I64 n := by
  have : -9223372036854775808 ≤ n ∧ n ≤ 9223372036854775807 := by simpa [Lit.wf, IntKind.signed, IntKind.bits, IntKind.min, IntKind.max] using h
  exact this
set_option maxRecDepth 100000 in
theorem rd_key' {fuel : Nat} {cs : List Value} {x : DataW H × List MemPlace} (h : DataW.trod enc Tryd.prog W 0 (fun _ => true) true fuel 23 cs = some x) : ∃ k : LKey, cs = kC k ∧ I64 k.dev := by
  obtain ⟨xs, m, rfl, hxe, hl, hx, hf⟩ := DataW.trod_struct Tryd.underlying23 h
  rw [cK] at hl
  match cs, hl with
  | [a0, a1, a2], _ =>
    have hx3 : xs.length = 3 := hx
    match xs, hx3 with
    | [x0, x1, x2], _ =>
      have f0 := hf 0 _ rfl
      have f1 := hf 1 _ rfl
      have f2 := hf 2 _ rfl
      simp only [List.getElem?_cons_zero, List.getElem?_cons_succ] at f0 f1 f2
      clear hf h
      obtain ⟨p0, e0, -, wf⟩ := DataW.trod_int Tryd.underlying3 f0
      obtain ⟨p1, e1, -, -⟩ := DataW.trod_string Tryd.underlying9 f1
      obtain ⟨p2, e2, -, -⟩ := DataW.trod_string Tryd.underlying9 f2
      simp [cI, cS] at e0 e1 e2
      subst e0 e1 e2
      exact ⟨⟨p0, p1, p2⟩, rfl, i64_wf wf⟩
set_option maxRecDepth 100000 in
theorem rd_cause' {fuel : Nat} {cs : List Value} {x : DataW H × List MemPlace} (h : DataW.trod enc Tryd.prog W 0 (fun _ => true) true fuel 27 cs = some x) : ∃ (k : Int) (n : ByteArray) (p : Int), cs = [.int .i64 k, .string n, .int .i64 p] ∧ I64 p := by
  obtain ⟨xs, m, rfl, hxe, hl, hx, hf⟩ := DataW.trod_struct Tryd.underlying27 h
  rw [cC] at hl
  match cs, hl with
  | [a0, a1, a2], _ =>
    have hx3 : xs.length = 3 := hx
    match xs, hx3 with
    | [x0, x1, x2], _ =>
      have f0 := hf 0 _ rfl
      have f1 := hf 1 _ rfl
      have f2 := hf 2 _ rfl
      simp only [List.getElem?_cons_zero, List.getElem?_cons_succ] at f0 f1 f2
      clear hf h
      obtain ⟨p0, e0, -, -⟩ := DataW.trod_int Tryd.underlying3 f0
      obtain ⟨p1, e1, -, -⟩ := DataW.trod_string Tryd.underlying9 f1
      obtain ⟨p2, e2, -, wf⟩ := DataW.trod_int Tryd.underlying3 f2
      simp [cI, cS] at e0 e1 e2
      subst e0 e1 e2
      exact ⟨p0, p1, p2, rfl, i64_wf wf⟩
set_option maxRecDepth 100000 in
theorem rd_write' {fuel : Nat} {cs : List Value} {x : DataW H × List MemPlace} (h : DataW.trod enc Tryd.prog W 0 (fun _ => true) true fuel 29 cs = some x) : ∃ y : LW, cs = wC y ∧ I64 y.cp := by
  obtain ⟨xs, m, rfl, hxe, hl, hx, hf⟩ := DataW.trod_struct Tryd.underlying29 h
  rw [cW] at hl
  match cs, hl with
  | [a0, a1, a2, a3, a4, a5, a6, a7, a8, a9], _ =>
    have hx4 : xs.length = 4 := hx
    match xs, hx4 with
    | [x0, x1, x2, x3], _ =>
      have f0 := hf 0 _ rfl
      have f1 := hf 1 _ rfl
      have f2 := hf 2 _ rfl
      have f3 := hf 3 _ rfl
      simp only [List.getElem?_cons_zero, List.getElem?_cons_succ] at f0 f1 f2 f3
      clear hf h
      obtain ⟨k, e0⟩ := rd_key f0
      obtain ⟨v, e1⟩ := rd_val f1
      obtain ⟨q0, q1, q2, e2, hq⟩ := rd_cause' f2
      obtain ⟨p3, e3, -, -⟩ := DataW.trod_int Tryd.underlying3 f3
      simp [cK, cV, cC, cI, kC, vC] at e0 e1 e2 e3
      obtain ⟨rfl, rfl, rfl⟩ := e0
      obtain ⟨rfl, rfl, rfl⟩ := e1
      obtain ⟨rfl, rfl, rfl⟩ := e2
      subst e3
      exact ⟨⟨k, v, q0, q1, q2, p3⟩, rfl, hq⟩
set_option maxRecDepth 100000 in
theorem rd_writes' {fuel : Nat} {cs : List Value} {x : DataW H × List MemPlace} (h : DataW.trod enc Tryd.prog W 0 (fun _ => true) true fuel 33 cs = some x) : ∃ (l : List LW) (A : Option Addr) (c : Nat), cs = [.slice A l.length c] ∧ EW.Rd W l (.slice A l.length c) ∧ ∀ y ∈ l, I64 y.cp := by
  obtain ⟨A, l, c, e, hr, hp, hn, hc⟩ := rd_rowsP w00 wC (fun y => I64 y.cp) Tryd.underlying33 cW (by decide) (fun _ _ _ h => rd_write' h) h
  exact ⟨l, A, c, e, ⟨A, c, rfl, hr, hn⟩, hp⟩
set_option maxRecDepth 100000 in
theorem rd_dec' {fuel : Nat} {cs : List Value} {x : DataW H × List MemPlace} (h : DataW.trod enc Tryd.prog W 0 (fun _ => true) true fuel 44 cs = some x) : ∃ (y : LD) (A : Option Addr) (c : Nat), cs = kC y.key ++ wC y.win ++ [Value.slice A y.los.length c, .int .i64 y.err] ∧ EW.Rd W y.los (.slice A y.los.length c) ∧ I64 y.key.dev ∧ I64 y.win.cp ∧ ∀ z ∈ y.los, I64 z.cp := by
  obtain ⟨xs, m, rfl, hxe, hl, hx, hf⟩ := DataW.trod_struct Tryd.underlying44 h
  rw [cDec] at hl
  match cs, hl with
  | [a0, a1, a2, a3, a4, a5, a6, a7, a8, a9, b0, b1, b2, b3, b4], _ =>
    have hx4 : xs.length = 4 := hx
    match xs, hx4 with
    | [x0, x1, x2, x3], _ =>
      have f0 := hf 0 _ rfl
      have f1 := hf 1 _ rfl
      have f2 := hf 2 _ rfl
      have f3 := hf 3 _ rfl
      simp only [List.getElem?_cons_zero, List.getElem?_cons_succ] at f0 f1 f2 f3
      clear hf h
      obtain ⟨k, e0, hk⟩ := rd_key' f0
      obtain ⟨y, e1, hy⟩ := rd_write' f1
      obtain ⟨l, A, c, e2, hr, hp⟩ := rd_writes' f2
      obtain ⟨p3, e3, -, -⟩ := DataW.trod_int Tryd.underlying42 f3
      simp [cK, cW, cWS, cErr, kC, wC, vC] at e0 e1 e2 e3
      obtain ⟨rfl, rfl, rfl⟩ := e0
      obtain ⟨rfl, rfl, rfl, rfl, rfl, rfl, rfl, rfl, rfl, rfl⟩ := e1
      subst e2 e3
      exact ⟨⟨k, y, l, p3⟩, A, c, rfl, hr, hk, hy, hp⟩
set_option maxRecDepth 100000 in
theorem arg_dec' {v : Value} {d : DataW H} {p : List MemPlace} (h : DataW.Trod enc Tryd.prog W 0 (fun _ => true) true 44 v d p) : ∃ (y : LD) (A : Option Addr) (c : Nat), v = .agg (kC y.key ++ wC y.win ++ [Value.slice A y.los.length c, .int .i64 y.err]).toArray ∧ EW.Rd W y.los (.slice A y.los.length c) ∧ I64 y.key.dev ∧ I64 y.win.cp ∧ ∀ z ∈ y.los, I64 z.cp := by
  obtain ⟨fuel, h1⟩ := h
  obtain ⟨y, A, c, he, hs⟩ := rd_dec' h1
  refine ⟨y, A, c, ?_, hs⟩
  rw [← he, Array.toArray_toList]
  exact agg_of (n := 15) (by rw [he]; rfl) (by decide)
end
end Go.Proofs.YtgjoojailghilaaDoor
