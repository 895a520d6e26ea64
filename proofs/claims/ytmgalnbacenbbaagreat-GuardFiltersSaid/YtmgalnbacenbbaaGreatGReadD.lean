/- Guard: arguments read as lists of decisions. -/
import Derived.Test.YtmgalnbacenbbaaGreatGRead
import Derived.Test.YtmgalnbacenbbaaGreatVDecs
set_option linter.unusedSimpArgs false
set_option linter.unusedVariables false
namespace Go.Proofs.YtmgalnbacenbbaaGreat
open Go.ChangeShapes Go.WideShapes Go.ChangeAt Go.RowKit

section
variable {H : Type} {enc : TypeId × Value → H} {W : World}
theorem cCau : Tryz.prog.cellsOf 42 = 3 := by kernel_rfl
theorem cWri : Tryz.prog.cellsOf 44 = 10 := by kernel_rfl
set_option maxRecDepth 100000 in
theorem rd_cause {fuel : Nat} {cs : List Value} {x : DataW H × List MemPlace} (h : DataW.trod enc Tryz.prog W 0 (fun _ => true) true fuel 42 cs = some x) : ∃ (k : Int) (n : ByteArray) (p : Int), cs = [.int .i64 k, .string n, .int .i64 p] := by
  obtain ⟨xs, m, rfl, hxe, hl, hx, hf⟩ := DataW.trod_struct Tryz.underlying42 h
  rw [cCau] at hl
  match cs, hl with
  | [a0, a1, a2], _ =>
    have hx3 : xs.length = 3 := hx
    match xs, hx3 with
    | [x0, x1, x2], _ =>
      have f0 := hf 0 _ rfl
      have f1 := hf 1 _ rfl
      have f2 := hf 2 _ rfl
      simp only [List.getElem?_cons_zero, List.getElem?_cons_succ] at f0 f1 f2
      clear hf h
      obtain ⟨p0, e0, -, -⟩ := DataW.trod_int Tryz.underlying3 f0
      obtain ⟨p1, e1, -, -⟩ := DataW.trod_string Tryz.underlying9 f1
      obtain ⟨p2, e2, -, -⟩ := DataW.trod_int Tryz.underlying3 f2
      simp [cI, cS] at e0 e1 e2
      subst e0 e1 e2
      exact ⟨p0, p1, p2, rfl⟩
set_option maxRecDepth 100000 in
theorem rd_write {fuel : Nat} {cs : List Value} {x : DataW H × List MemPlace} (h : DataW.trod enc Tryz.prog W 0 (fun _ => true) true fuel 44 cs = some x) : ∃ y : LW, cs = wC y := by
  obtain ⟨xs, m, rfl, hxe, hl, hx, hf⟩ := DataW.trod_struct Tryz.underlying44 h
  rw [cWri] at hl
  match cs, hl with
  | [a0, a1, a2, a3, a4, a5, a6, a7, a8, a9], _ =>
    have hx4 : xs.length = 4 := hx
    match xs, hx4 with
    | [x0, x1, x2, x3], _ =>
      have f0 := hf 0 _ rfl
      have f1 := hf 1 _ rfl
      have f2 := hf 2 _ rfl
      have f3 := hf 3 _ rfl
      simp only [List.getElem?_cons_zero, List.getElem?_cons_succ] at f0 f1 f2 f3
      clear hf h
      obtain ⟨k, e0⟩ := rd_key f0
      obtain ⟨v, e1⟩ := rd_val f1
      obtain ⟨q0, q1, q2, e2⟩ := rd_cause f2
      obtain ⟨p3, e3, -, -⟩ := DataW.trod_int Tryz.underlying3 f3
      simp [cK, cV, cCau, cI, kC, vC] at e0 e1 e2 e3
      obtain ⟨rfl, rfl, rfl⟩ := e0
      obtain ⟨rfl, rfl, rfl⟩ := e1
      obtain ⟨rfl, rfl, rfl⟩ := e2
      subst e3
      exact ⟨⟨k, v, q0, q1, q2, p3⟩, rfl⟩
def wr00 : LW := ⟨⟨0, noStr, noStr⟩, ⟨0, 0, noStr⟩, 0, noStr, 0, 0⟩
set_option maxRecDepth 100000 in
theorem rd_writes {fuel : Nat} {cs : List Value} {x : DataW H × List MemPlace} (h : DataW.trod enc Tryz.prog W 0 (fun _ => true) true fuel 45 cs = some x) : ∃ (l : List LW) (A : Option Addr) (c : Nat), cs = [.slice A l.length c] ∧ EW.Rd W l (.slice A l.length c) ∧ l.length ≤ c := by
  obtain ⟨A, l, c, e, hr, -, hn, hc⟩ := rd_rowsP wr00 wC (fun _ => True) Tryz.underlying45 cWri (by decide) (fun _ _ _ h => by obtain ⟨y, hy⟩ := rd_write h; exact ⟨y, hy, trivial⟩) h
  exact ⟨l, A, c, e, ⟨A, c, rfl, hr, hn⟩, hc⟩
theorem cWS : Tryz.prog.cellsOf 45 = 1 := by kernel_rfl
theorem cDec : Tryz.prog.cellsOf 48 = 15 := by kernel_rfl
theorem cErr : Tryz.prog.cellsOf 46 = 1 := by kernel_rfl
set_option maxRecDepth 100000 in
theorem rd_dec {fuel : Nat} {cs : List Value} {x : DataW H × List MemPlace} (h : DataW.trod enc Tryz.prog W 0 (fun _ => true) true fuel 48 cs = some x) : ∃ y : DR × LD, cs = y.1.cells ∧ y.1.says W y.2 := by
  obtain ⟨xs, m, rfl, hxe, hl, hx, hf⟩ := DataW.trod_struct Tryz.underlying48 h
  rw [cDec] at hl
  match cs, hl with
  | [a0, a1, a2, a3, a4, a5, a6, a7, a8, a9, b0, b1, b2, b3, b4], _ =>
    have hx4 : xs.length = 4 := hx
    match xs, hx4 with
    | [x0, x1, x2, x3], _ =>
      have f0 := hf 0 _ rfl
      have f1 := hf 1 _ rfl
      have f2 := hf 2 _ rfl
      have f3 := hf 3 _ rfl
      simp only [List.getElem?_cons_zero, List.getElem?_cons_succ] at f0 f1 f2 f3
      clear hf h
      obtain ⟨k, e0⟩ := rd_key f0
      obtain ⟨y, e1⟩ := rd_write f1
      obtain ⟨l, A, c, e2, hr, -⟩ := rd_writes f2
      obtain ⟨p3, e3, -, -⟩ := DataW.trod_int Tryz.underlying46 f3
      simp [cK, cWri, cWS, cErr, kC, wC, vC] at e0 e1 e2 e3
      obtain ⟨rfl, rfl, rfl⟩ := e0
      obtain ⟨rfl, rfl, rfl, rfl, rfl, rfl, rfl, rfl, rfl, rfl⟩ := e1
      subst e2 e3
      exact ⟨(⟨k, y, A, l.length, c, p3⟩, ⟨k, y, l, p3⟩), rfl, rfl, rfl, rfl, hr⟩
set_option maxRecDepth 100000 in
theorem rd_decs {fuel : Nat} {cs : List Value} {x : DataW H × List MemPlace} (h : DataW.trod enc Tryz.prog W 0 (fun _ => true) true fuel 24 cs = some x) : ∃ (l : List LD) (v : Value), cs = [v] ∧ RdD W l v := by
  obtain ⟨A, l, c, e, hr, hp, hn, -⟩ := rd_rowsP ((⟨wr00.key, wr00, none, 0, 0, 0⟩, ⟨wr00.key, wr00, [], 0⟩) : DR × LD) (fun y => y.1.cells) (fun y => y.1.says W y.2) Tryz.underlying24 cDec (by decide) (fun _ _ _ h => rd_dec h) h
  refine ⟨l.map Prod.snd, _, e, l.map Prod.fst, by simp, ⟨A, c, by simp, ?_, by simpa using hn⟩, fun i a b => ?_⟩
  · rw [List.map_map]; exact hr
  · simp only [List.getElem_map]
    exact hp _ (List.getElem_mem (by simpa using a))
set_option maxRecDepth 100000 in
theorem arg_decs {base : Nat} {v : Value} {d : DataW H} {p : List MemPlace} (hok : Value.okWide Tryz.prog W .any base 24 v) (h : DataW.Trod enc Tryz.prog W 0 (fun _ => true) true 24 v d p) :
    ∃ (l : List LD) (A : Option Addr) (c : Nat), v = .slice A l.length c ∧ RdD W l (.slice A l.length c) := by
  obtain ⟨fuel, h1⟩ := h
  obtain ⟨l, u, e, hr⟩ := rd_decs h1
  obtain rfl := slice_arg Tryz.underlying24 hok e
  obtain ⟨A, c, rfl⟩ : ∃ A c, v = .slice A l.length c := by
    obtain ⟨rs, hl, ⟨A, c, hv, _⟩, _⟩ := hr
    exact ⟨A, c, by rw [hv, hl]⟩
  exact ⟨l, A, c, rfl, hr⟩
end
theorem canDS : Tryz.prog.readableRec 24 = true := by kernel_rfl
theorem rowDS : 24 < Tryz.prog.types.size := of_decide_eq_true (by kernel_rfl)
end Go.Proofs.YtmgalnbacenbbaaGreat
