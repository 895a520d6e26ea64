/- Guard: arguments read as names, items, locks. -/
import Derived.Test.YtmgalnbacenbbaaGreatGenRead
import Derived.Test.YtmgalnbacenbbaaGreatGOps
set_option linter.unusedSimpArgs false
set_option linter.unusedVariables false
namespace Go.Proofs.YtmgalnbacenbbaaGreat
open Go.ChangeShapes Go.WideShapes Go.ChangeAt Go.RowKit

section
variable {H : Type} {enc : TypeId × Value → H} {W : World}
theorem cK : Tryz.prog.cellsOf 34 = 3 := by kernel_rfl
theorem cV : Tryz.prog.cellsOf 32 = 3 := by kernel_rfl
theorem cIt : Tryz.prog.cellsOf 51 = 7 := by kernel_rfl
theorem cEx : Tryz.prog.cellsOf 37 = 11 := by kernel_rfl
theorem cXS : Tryz.prog.cellsOf 35 = 1 := by kernel_rfl
theorem cIS : Tryz.prog.cellsOf 38 = 1 := by kernel_rfl
theorem cLk : Tryz.prog.cellsOf 40 = 16 := by kernel_rfl
theorem cB : Tryz.prog.cellsOf 4 = 1 := by kernel_rfl
theorem cI : Tryz.prog.cellsOf 3 = 1 := by kernel_rfl
theorem cS : Tryz.prog.cellsOf 9 = 1 := by kernel_rfl
set_option maxRecDepth 100000 in
theorem rd_key {fuel : Nat} {cs : List Value} {x : DataW H × List MemPlace} (h : DataW.trod enc Tryz.prog W 0 (fun _ => true) true fuel 34 cs = some x) : ∃ k : LKey, cs = kC k := by
  obtain ⟨xs, m, rfl, hxe, hl, hx, hf⟩ := DataW.trod_struct Tryz.underlying34 h
  rw [cK] at hl
  match cs, hl with
  | [a0, a1, a2], _ =>
    have hx3 : xs.length = 3 := hx
    match xs, hx3 with
    | [x0, x1, x2], _ =>
      have f0 := hf 0 _ rfl
      have f1 := hf 1 _ rfl
      have f2 := hf 2 _ rfl
      simp only [List.getElem?_cons_zero, List.getElem?_cons_succ] at f0 f1 f2
      clear hf h
      obtain ⟨p0, e0, -, -⟩ := DataW.trod_int Tryz.underlying3 f0
      obtain ⟨p1, e1, -, -⟩ := DataW.trod_string Tryz.underlying9 f1
      obtain ⟨p2, e2, -, -⟩ := DataW.trod_string Tryz.underlying9 f2
      simp [cI, cS] at e0 e1 e2
      subst e0 e1 e2
      exact ⟨⟨p0, p1, p2⟩, rfl⟩
set_option maxRecDepth 100000 in
theorem rd_val {fuel : Nat} {cs : List Value} {x : DataW H × List MemPlace} (h : DataW.trod enc Tryz.prog W 0 (fun _ => true) true fuel 32 cs = some x) : ∃ k : LVal, cs = vC k := by
  obtain ⟨xs, m, rfl, hxe, hl, hx, hf⟩ := DataW.trod_struct Tryz.underlying32 h
  rw [cV] at hl
  match cs, hl with
  | [a0, a1, a2], _ =>
    have hx3 : xs.length = 3 := hx
    match xs, hx3 with
    | [x0, x1, x2], _ =>
      have f0 := hf 0 _ rfl
      have f1 := hf 1 _ rfl
      have f2 := hf 2 _ rfl
      simp only [List.getElem?_cons_zero, List.getElem?_cons_succ] at f0 f1 f2
      clear hf h
      obtain ⟨p0, e0, -, -⟩ := DataW.trod_int Tryz.underlying3 f0
      obtain ⟨p1, e1, -, -⟩ := DataW.trod_int Tryz.underlying3 f1
      obtain ⟨p2, e2, -, -⟩ := DataW.trod_string Tryz.underlying9 f2
      simp [cI, cS] at e0 e1 e2
      subst e0 e1 e2
      exact ⟨⟨p0, p1, p2⟩, rfl⟩
theorem rd_rowsP {α : Type} (y0 : α) (f : α → List Value) (Pr : α → Prop) {t e : TypeId} (ht : Tryz.prog.underlying t = some (.slice e)) {n : Nat} (hc : Tryz.prog.cellsOf e = n) (hn : 0 < n)
    (hread : ∀ (fuel : Nat) (cs : List Value) (x : DataW H × List MemPlace), DataW.trod enc Tryz.prog W 0 (fun _ => true) true fuel e cs = some x → ∃ y, cs = f y ∧ Pr y)
    {fuel : Nat} {cs : List Value} {x : DataW H × List MemPlace} (h : DataW.trod enc Tryz.prog W 0 (fun _ => true) true fuel t cs = some x) :
    ∃ (A : Option Addr) (l : List α) (c : Nat), cs = [.slice A l.length c] ∧ IsRows W.heap.size W n (l.map f) A ∧ (∀ y ∈ l, Pr y) ∧ (A = none → c = 0 ∧ l.length = 0) ∧ l.length ≤ c := by
  have hnil := fun l c (he : cs = [.slice none l c]) => rd_nil ht h l c he
  rcases DataW.trod_slice ht h with ⟨e6, -⟩ | ⟨a, len, cap, elems, rest, q, rfl, e6, hx6, -, hlc, -, hel, he, -, -⟩
  · exact ⟨none, [], 0, e6, fun h => by simp at h, fun y hy => absurd hy (by simp), fun _ => ⟨rfl, rfl⟩, Nat.le_refl _⟩
  · have hkid : ∀ i, i < len → ∃ y, W.cells? 0 (a.add (i * n)) n = some (f y) ∧ Pr y := by
      intro i hi
      have h1 := he i hi
      rw [hc, List.getElem?_eq_getElem (by omega)] at h1
      obtain ⟨cs', h2, h3⟩ := Option.bind_eq_some_iff.1 h1
      obtain ⟨y, rfl, hy⟩ := hread _ _ _ h3
      exact ⟨y, h2, hy⟩
    classical
    obtain ⟨ys, hys⟩ : ∃ ys : Nat → α, ∀ i, i < len → W.cells? 0 (a.add (i * n)) n = some (f (ys i)) ∧ Pr (ys i) := by
      refine ⟨fun i => if h : i < len then Classical.choose (hkid i h) else y0, fun i hi => ?_⟩
      dsimp only
      rw [dif_pos hi]
      exact Classical.choose_spec (hkid i hi)
    have hln : ((List.range len).map ys).length = len := by simp
    refine ⟨some a, (List.range len).map ys, cap, by rw [hln]; exact e6, fun h0 => ?_, fun y hy => ?_, (fun hA => by cases hA), by rw [hln]; exact hlc⟩
    · have h0' : 0 < len := by simpa using h0
      obtain ⟨b, off, rfl⟩ := row_plain (n := n) (by have := (hys 0 h0').1; simpa using this) hn
      refine ⟨b, off, rfl, (row_read (hys 0 h0').1 hn).1, fun i hi => ?_⟩
      have hi' : i < len := by simpa using hi
      have := (row_read (hys i hi').1 hn).2.1
      simpa using this
    · obtain ⟨i, hi, rfl⟩ := List.mem_map.1 hy
      exact (hys i (by simpa using hi)).2
set_option maxRecDepth 100000 in
theorem slice_arg {t e : TypeId} (ht : Tryz.prog.underlying t = some (.slice e)) {base : Nat} {v : Value} (hok : Value.okWide Tryz.prog W .any base t v) {u : Value} (h : v.cells.toList = [u]) : v = u := by
  obtain ⟨a, len, cap, rfl⟩ := okWide_slice ht hok
  have : [Value.slice a len cap] = [u] := h
  injection this
set_option maxRecDepth 100000 in
theorem rd_item {fuel : Nat} {cs : List Value} {x : DataW H × List MemPlace} (h : DataW.trod enc Tryz.prog W 0 (fun _ => true) true fuel 51 cs = some x) : ∃ y : LItem, cs = iC y := by
  obtain ⟨xs, m, rfl, hxe, hl, hx, hf⟩ := DataW.trod_struct Tryz.underlying51 h
  rw [cIt] at hl
  match cs, hl with
  | [a0, a1, a2, a3, a4, a5, a6], _ =>
    have hx3 : xs.length = 3 := hx
    match xs, hx3 with
    | [x0, x1, x2], _ =>
      have f0 := hf 0 _ rfl
      have f1 := hf 1 _ rfl
      have f2 := hf 2 _ rfl
      simp only [List.getElem?_cons_zero, List.getElem?_cons_succ] at f0 f1 f2
      clear hf h
      obtain ⟨k, e0⟩ := rd_key f0
      obtain ⟨v, e1⟩ := rd_val f1
      obtain ⟨p3, e3, -, -⟩ := DataW.trod_int Tryz.underlying3 f2
      simp [cK, cV, cI, kC, vC] at e0 e1 e3
      obtain ⟨rfl, rfl, rfl⟩ := e0
      obtain ⟨rfl, rfl, rfl⟩ := e1
      subst e3
      exact ⟨⟨k, v, p3⟩, rfl⟩
set_option maxRecDepth 100000 in
theorem rd_items {fuel : Nat} {cs : List Value} {x : DataW H × List MemPlace} (h : DataW.trod enc Tryz.prog W 0 (fun _ => true) true fuel 38 cs = some x) : ∃ (l : List LItem) (A : Option Addr) (c : Nat), cs = [.slice A l.length c] ∧ EI.Rd W l (.slice A l.length c) := by
  obtain ⟨A, l, c, e, hr, -, hn, hc⟩ := rd_rowsP (⟨⟨0, noStr, noStr⟩, ⟨0, 0, noStr⟩, 0⟩ : LItem) iC (fun _ => True) Tryz.underlying38 cIt (by decide) (fun _ _ _ h => by obtain ⟨y, hy⟩ := rd_item h; exact ⟨y, hy, trivial⟩) h
  exact ⟨l, A, c, e, ⟨A, c, rfl, hr, hn⟩⟩
set_option maxRecDepth 100000 in
theorem rd_names {fuel : Nat} {cs : List Value} {x : DataW H × List MemPlace} (h : DataW.trod enc Tryz.prog W 0 (fun _ => true) true fuel 23 cs = some x) : ∃ (l : List ByteArray) (A : Option Addr) (c : Nat), cs = [.slice A l.length c] ∧ ES.Rd W l (.slice A l.length c) := by
  obtain ⟨A, l, c, e, hr, -, hn, hc⟩ := rd_rowsP noStr (fun s : ByteArray => [Value.string s]) (fun _ => True) Tryz.underlying23 cS (by decide) (fun _ _ _ h => by
    obtain ⟨p1, e1, -, -⟩ := DataW.trod_string Tryz.underlying9 h
    exact ⟨p1, e1, trivial⟩) h
  exact ⟨l, A, c, e, ⟨A, c, rfl, hr, hn⟩⟩
set_option maxRecDepth 100000 in
theorem rd_kids {fuel : Nat} {cs : List Value} {x : DataW H × List MemPlace} (h : DataW.trod enc Tryz.prog W 0 (fun _ => true) true fuel 35 cs = some x) : ∃ (A : Option Addr) (l c : Nat), cs = [.slice A l c] := by
  rcases DataW.trod_slice Tryz.underlying35 h with ⟨e6, -⟩ | ⟨a, len, cap, elems, rest, q, rfl, e6, -⟩
  · exact ⟨none, 0, 0, e6⟩
  · exact ⟨_, _, _, e6⟩
set_option maxRecDepth 100000 in
theorem rd_when {fuel : Nat} {cs : List Value} {x : DataW H × List MemPlace} (h : DataW.trod enc Tryz.prog W 0 (fun _ => true) true fuel 37 cs = some x) : ∃ y : WhR, cs = whC y := by
  obtain ⟨xs, m, rfl, hxe, hl, hx, hf⟩ := DataW.trod_struct Tryz.underlying37 h
  rw [cEx] at hl
  match cs, hl with
  | [a0, a1, a2, a3, a4, a5, a6, a7, a8, a9, b0], _ =>
    have hx7 : xs.length = 7 := hx
    match xs, hx7 with
    | [x0, x1, x2, x3, x4, x5, x6], _ =>
      have f0 := hf 0 _ rfl
      have f1 := hf 1 _ rfl
      have f2 := hf 2 _ rfl
      have f3 := hf 3 _ rfl
      have f4 := hf 4 _ rfl
      have f5 := hf 5 _ rfl
      have f6 := hf 6 _ rfl
      simp only [List.getElem?_cons_zero, List.getElem?_cons_succ] at f0 f1 f2 f3 f4 f5 f6
      clear hf h
      obtain ⟨p0, e0, -, -⟩ := DataW.trod_int Tryz.underlying3 f0
      obtain ⟨p1, e1, -, -⟩ := DataW.trod_int Tryz.underlying3 f1
      obtain ⟨p2, e2, -, -⟩ := DataW.trod_int Tryz.underlying3 f2
      obtain ⟨p3, e3, -, -⟩ := DataW.trod_string Tryz.underlying9 f3
      obtain ⟨v, e4⟩ := rd_val f4
      obtain ⟨k, e5⟩ := rd_key f5
      obtain ⟨A, l, c, e6⟩ := rd_kids f6
      simp [cK, cV, cI, cS, cXS, kC, vC] at e0 e1 e2 e3 e4 e5 e6
      obtain ⟨rfl, rfl, rfl⟩ := e4
      obtain ⟨rfl, rfl, rfl⟩ := e5
      subst e0 e1 e2 e3 e6
      exact ⟨⟨p0, p1, p2, p3, v, k, A, l, c⟩, rfl⟩
set_option maxRecDepth 100000 in
theorem rd_lock {fuel : Nat} {cs : List Value} {x : DataW H × List MemPlace} (h : DataW.trod enc Tryz.prog W 0 (fun _ => true) true fuel 40 cs = some x) : ∃ y : LkR × LLock, cs = lkC y.1 ∧ y.1.Says W y.2 := by
  obtain ⟨xs, m, rfl, hxe, hl, hx, hf⟩ := DataW.trod_struct Tryz.underlying40 h
  rw [cLk] at hl
  match cs, hl with
  | [a0, a1, a2, a3, a4, a5, a6, a7, a8, a9, b0, b1, b2, b3, b4, b5], _ =>
    have hx6 : xs.length = 6 := hx
    match xs, hx6 with
    | [x0, x1, x2, x3, x4, x5], _ =>
      have f0 := hf 0 _ rfl
      have f1 := hf 1 _ rfl
      have f2 := hf 2 _ rfl
      have f3 := hf 3 _ rfl
      have f4 := hf 4 _ rfl
      have f5 := hf 5 _ rfl
      simp only [List.getElem?_cons_zero, List.getElem?_cons_succ] at f0 f1 f2 f3 f4 f5
      clear hf h
      obtain ⟨p0, e0, -, -⟩ := DataW.trod_string Tryz.underlying9 f0
      obtain ⟨p1, e1, -, -⟩ := DataW.trod_int Tryz.underlying3 f1
      obtain ⟨y, e2⟩ := rd_when f2
      obtain ⟨p3, e3, -, -⟩ := DataW.trod_bool Tryz.underlying4 f3
      obtain ⟨l4, A4, c4, e4, h4⟩ := rd_items f4
      obtain ⟨l5, A5, c5, e5, h5⟩ := rd_items f5
      obtain ⟨y0, y1, y2, y3, ⟨v0, v1, v2⟩, ⟨k0, k1, k2⟩, yA, yl, yc⟩ := y
      simp [cI, cS, cEx, cB, cIS, whC, kC, vC] at e0 e1 e2 e3 e4 e5
      obtain ⟨rfl, rfl, rfl, rfl, rfl, rfl, rfl, rfl, rfl, rfl, rfl⟩ := e2
      subst e0 e1 e3 e4 e5
      exact ⟨(⟨p0, p1, ⟨y0, y1, y2, y3, ⟨v0, v1, v2⟩, ⟨k0, k1, k2⟩, yA, yl, yc⟩, p3, A4, l4.length, c4, A5, l5.length, c5⟩, ⟨p0, p1, l4, l5⟩), rfl, rfl, rfl, h4, h5⟩
set_option maxRecDepth 100000 in
theorem rd_locks {fuel : Nat} {cs : List Value} {x : DataW H × List MemPlace} (h : DataW.trod enc Tryz.prog W 0 (fun _ => true) true fuel 22 cs = some x) : ∃ (l : List (LkR × LLock)) (A : Option Addr) (c : Nat), cs = [.slice A l.length c] ∧ RdL W l (.slice A l.length c) := by
  obtain ⟨A, l, c, e, hr, hp, hn, -⟩ := rd_rowsP ((⟨noStr, 0, ⟨0, 0, 0, noStr, ⟨0, 0, noStr⟩, ⟨0, noStr, noStr⟩, none, 0, 0⟩, false, none, 0, 0, none, 0, 0⟩, ⟨noStr, 0, [], []⟩) : LkR × LLock) (fun y => lkC y.1) (fun y => y.1.Says W y.2) Tryz.underlying22 cLk (by decide) (fun _ _ _ h => rd_lock h) h
  refine ⟨l, A, c, e, ⟨A, c, by rw [List.length_map], ?_, by simpa using hn⟩, hp⟩
  rw [List.map_map]; exact hr
set_option maxRecDepth 100000 in
theorem arg_items {base : Nat} {v : Value} {d : DataW H} {p : List MemPlace} (hok : Value.okWide Tryz.prog W .any base 38 v) (h : DataW.Trod enc Tryz.prog W 0 (fun _ => true) true 38 v d p) :
    ∃ (l : List LItem) (A : Option Addr) (c : Nat), v = .slice A l.length c ∧ EI.Rd W l (.slice A l.length c) := by
  obtain ⟨fuel, h1⟩ := h
  obtain ⟨l, A, c, e, hr⟩ := rd_items h1
  obtain rfl := slice_arg Tryz.underlying38 hok e
  exact ⟨l, A, c, rfl, hr⟩
set_option maxRecDepth 100000 in
theorem arg_names {base : Nat} {v : Value} {d : DataW H} {p : List MemPlace} (hok : Value.okWide Tryz.prog W .any base 23 v) (h : DataW.Trod enc Tryz.prog W 0 (fun _ => true) true 23 v d p) :
    ∃ (l : List ByteArray) (A : Option Addr) (c : Nat), v = .slice A l.length c ∧ ES.Rd W l (.slice A l.length c) := by
  obtain ⟨fuel, h1⟩ := h
  obtain ⟨l, A, c, e, hr⟩ := rd_names h1
  obtain rfl := slice_arg Tryz.underlying23 hok e
  exact ⟨l, A, c, rfl, hr⟩
set_option maxRecDepth 100000 in
theorem arg_locks {base : Nat} {v : Value} {d : DataW H} {p : List MemPlace} (hok : Value.okWide Tryz.prog W .any base 22 v) (h : DataW.Trod enc Tryz.prog W 0 (fun _ => true) true 22 v d p) :
    ∃ (l : List (LkR × LLock)) (A : Option Addr) (c : Nat), v = .slice A l.length c ∧ RdL W l (.slice A l.length c) := by
  obtain ⟨fuel, h1⟩ := h
  obtain ⟨l, A, c, e, hr⟩ := rd_locks h1
  obtain rfl := slice_arg Tryz.underlying22 hok e
  exact ⟨l, A, c, rfl, hr⟩
end
theorem canIS : Tryz.prog.readableRec 38 = true := by kernel_rfl
theorem rowIS : 38 < Tryz.prog.types.size := of_decide_eq_true (by kernel_rfl)
theorem canNS : Tryz.prog.readableRec 23 = true := by kernel_rfl
theorem rowNS : 23 < Tryz.prog.types.size := of_decide_eq_true (by kernel_rfl)
theorem canLS : Tryz.prog.readableRec 22 = true := by kernel_rfl
theorem rowLS : 22 < Tryz.prog.types.size := of_decide_eq_true (by kernel_rfl)
theorem laidG : laidOutB Tryz.prog = true := by kernel_rfl
end Go.Proofs.YtmgalnbacenbbaaGreat
