/- Resolve: arguments read as writes. -/
import Derived.Test.YtgjoojailghilaaDoorGenRead
import Derived.Test.YtgjoojailghilaaDoorVMem
set_option linter.unusedSimpArgs false
set_option linter.unusedVariables false
namespace Go.Proofs.YtgjoojailghilaaDoor
open Go.ChangeShapes Go.WideShapes Go.ChangeAt Go.RowKit

section
variable {H : Type} {enc : TypeId × Value → H} {W : World}
theorem cK : Tryd.prog.cellsOf 23 = 3 := by kernel_rfl
theorem cV : Tryd.prog.cellsOf 25 = 3 := by kernel_rfl
theorem cC : Tryd.prog.cellsOf 27 = 3 := by kernel_rfl
theorem cW : Tryd.prog.cellsOf 29 = 10 := by kernel_rfl
theorem cI : Tryd.prog.cellsOf 3 = 1 := by kernel_rfl
theorem cS : Tryd.prog.cellsOf 9 = 1 := by kernel_rfl
set_option maxRecDepth 100000 in
theorem rd_key {fuel : Nat} {cs : List Value} {x : DataW H × List MemPlace} (h : DataW.trod enc Tryd.prog W 0 (fun _ => true) true fuel 23 cs = some x) : ∃ k : LKey, cs = kC k := by
  obtain ⟨xs, m, rfl, hxe, hl, hx, hf⟩ := DataW.trod_struct Tryd.underlying23 h
  rw [cK] at hl
  match cs, hl with
  | [a0, a1, a2], _ =>
    have hx3 : xs.length = 3 := hx
    match xs, hx3 with
    | [x0, x1, x2], _ =>
      have f0 := hf 0 _ rfl
      have f1 := hf 1 _ rfl
      have f2 := hf 2 _ rfl
      simp only [List.getElem?_cons_zero, List.getElem?_cons_succ] at f0 f1 f2
      clear hf h
      obtain ⟨p0, e0, -, -⟩ := DataW.trod_int Tryd.underlying3 f0
      obtain ⟨p1, e1, -, -⟩ := DataW.trod_string Tryd.underlying9 f1
      obtain ⟨p2, e2, -, -⟩ := DataW.trod_string Tryd.underlying9 f2
      simp [cI, cS] at e0 e1 e2
      subst e0 e1 e2
      exact ⟨⟨p0, p1, p2⟩, rfl⟩
set_option maxRecDepth 100000 in
theorem rd_val {fuel : Nat} {cs : List Value} {x : DataW H × List MemPlace} (h : DataW.trod enc Tryd.prog W 0 (fun _ => true) true fuel 25 cs = some x) : ∃ k : LVal, cs = vC k := by
  obtain ⟨xs, m, rfl, hxe, hl, hx, hf⟩ := DataW.trod_struct Tryd.underlying25 h
  rw [cV] at hl
  match cs, hl with
  | [a0, a1, a2], _ =>
    have hx3 : xs.length = 3 := hx
    match xs, hx3 with
    | [x0, x1, x2], _ =>
      have f0 := hf 0 _ rfl
      have f1 := hf 1 _ rfl
      have f2 := hf 2 _ rfl
      simp only [List.getElem?_cons_zero, List.getElem?_cons_succ] at f0 f1 f2
      clear hf h
      obtain ⟨p0, e0, -, -⟩ := DataW.trod_int Tryd.underlying3 f0
      obtain ⟨p1, e1, -, -⟩ := DataW.trod_int Tryd.underlying3 f1
      obtain ⟨p2, e2, -, -⟩ := DataW.trod_string Tryd.underlying9 f2
      simp [cI, cS] at e0 e1 e2
      subst e0 e1 e2
      exact ⟨⟨p0, p1, p2⟩, rfl⟩
set_option maxRecDepth 100000 in
theorem rd_cause {fuel : Nat} {cs : List Value} {x : DataW H × List MemPlace} (h : DataW.trod enc Tryd.prog W 0 (fun _ => true) true fuel 27 cs = some x) : ∃ (k : Int) (n : ByteArray) (p : Int), cs = [.int .i64 k, .string n, .int .i64 p] := by
  obtain ⟨xs, m, rfl, hxe, hl, hx, hf⟩ := DataW.trod_struct Tryd.underlying27 h
  rw [cC] at hl
  match cs, hl with
  | [a0, a1, a2], _ =>
    have hx3 : xs.length = 3 := hx
    match xs, hx3 with
    | [x0, x1, x2], _ =>
      have f0 := hf 0 _ rfl
      have f1 := hf 1 _ rfl
      have f2 := hf 2 _ rfl
      simp only [List.getElem?_cons_zero, List.getElem?_cons_succ] at f0 f1 f2
      clear hf h
      obtain ⟨p0, e0, -, -⟩ := DataW.trod_int Tryd.underlying3 f0
      obtain ⟨p1, e1, -, -⟩ := DataW.trod_string Tryd.underlying9 f1
      obtain ⟨p2, e2, -, -⟩ := DataW.trod_int Tryd.underlying3 f2
      simp [cI, cS] at e0 e1 e2
      subst e0 e1 e2
      exact ⟨p0, p1, p2, rfl⟩
set_option maxRecDepth 100000 in
theorem rd_write {fuel : Nat} {cs : List Value} {x : DataW H × List MemPlace} (h : DataW.trod enc Tryd.prog W 0 (fun _ => true) true fuel 29 cs = some x) : ∃ y : LW, cs = wC y := by
  obtain ⟨xs, m, rfl, hxe, hl, hx, hf⟩ := DataW.trod_struct Tryd.underlying29 h
  rw [cW] at hl
  match cs, hl with
  | [a0, a1, a2, a3, a4, a5, a6, a7, a8, a9], _ =>
    have hx4 : xs.length = 4 := hx
    match xs, hx4 with
    | [x0, x1, x2, x3], _ =>
      have f0 := hf 0 _ rfl
      have f1 := hf 1 _ rfl
      have f2 := hf 2 _ rfl
      have f3 := hf 3 _ rfl
      simp only [List.getElem?_cons_zero, List.getElem?_cons_succ] at f0 f1 f2 f3
      clear hf h
      obtain ⟨k, e0⟩ := rd_key f0
      obtain ⟨v, e1⟩ := rd_val f1
      obtain ⟨q0, q1, q2, e2⟩ := rd_cause f2
      obtain ⟨p3, e3, -, -⟩ := DataW.trod_int Tryd.underlying3 f3
      simp [cK, cV, cC, cI, kC, vC] at e0 e1 e2 e3
      obtain ⟨rfl, rfl, rfl⟩ := e0
      obtain ⟨rfl, rfl, rfl⟩ := e1
      obtain ⟨rfl, rfl, rfl⟩ := e2
      subst e3
      exact ⟨⟨k, v, q0, q1, q2, p3⟩, rfl⟩
theorem arg_write {v : Value} {d : DataW H} {p : List MemPlace} (h : DataW.Trod enc Tryd.prog W 0 (fun _ => true) true 29 v d p) : ∃ y : LW, v = .agg (wC y).toArray := by
  obtain ⟨fuel, h1⟩ := h
  obtain ⟨y, he⟩ := rd_write h1
  refine ⟨y, ?_⟩
  rw [← he, Array.toArray_toList]
  exact agg_of (n := 10) (by rw [he]; rfl) (by decide)
end
theorem canW : Tryd.prog.readableRec 29 = true := by kernel_rfl
theorem rowW : 29 < Tryd.prog.types.size := of_decide_eq_true (by kernel_rfl)
end Go.Proofs.YtgjoojailghilaaDoor
