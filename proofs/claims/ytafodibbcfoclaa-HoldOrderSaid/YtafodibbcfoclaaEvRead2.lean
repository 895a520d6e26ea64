/- Views, read as plain data; arguments that are structs. -/
import Derived.Test.YtafodibbcfoclaaEvRead
set_option linter.unusedSimpArgs false
set_option linter.unusedVariables false
namespace Go.Proofs.Ytafodibbcfoclaa.Ev
open Go.ChangeShapes Go.WideShapes Go.ChangeAt Go.RowKit

theorem c22 : Try.prog.cellsOf 35 = 1 := by kernel_rfl
theorem c23 : Try.prog.cellsOf 36 = 1 := by kernel_rfl
theorem cItem : Try.prog.cellsOf 127 = 7 := by kernel_rfl
theorem cMember : Try.prog.cellsOf 130 = 5 := by kernel_rfl
theorem cView : Try.prog.cellsOf 38 = 4 := by kernel_rfl

section
variable {H : Type} {enc : TypeId × Value → H} {W : World}

theorem rd_sl {t e : TypeId} (ht : Try.prog.underlying t = some (.slice e)) {fuel : Nat} {cs : List Value} {x : DataW H × List MemPlace} (h : DataW.trod enc Try.prog W 0 (fun _ => true) true fuel t cs = some x) :
    ∃ A l c, cs = [.slice A l c] := by
  rcases DataW.trod_slice ht h with ⟨e6, -⟩ | ⟨a, len, cap, elems, rest, q, rfl, e6, -⟩
  · exact ⟨none, 0, 0, e6⟩
  · exact ⟨_, _, _, e6⟩

set_option maxRecDepth 100000 in
theorem rd_item {fuel : Nat} {cs : List Value} {x : DataW H × List MemPlace} (h : DataW.trod enc Try.prog W 0 (fun _ => true) true fuel 127 cs = some x) : ∃ it : LItem, cs = it.cells := by
  obtain ⟨xs, m, rfl, -, hl, hx, hf⟩ := DataW.trod_struct Try.underlying127 h
  rw [cItem] at hl
  match cs, hl with
  | [a0, a1, a2, a3, a4, a5, a6], _ =>
    have hx3 : xs.length = 3 := hx
    have f0 := hf 0 _ rfl
    have f1 := hf 1 _ rfl
    have f2 := hf 2 _ rfl
    rw [List.getElem?_eq_getElem (by omega)] at f0 f1 f2
    obtain ⟨dv, cl, at_, e0, -⟩ := rd_key f0
    obtain ⟨vk, vn, vs, e1, -, -⟩ := rd_val f1
    obtain ⟨n, e2, -, -⟩ := DataW.trod_int Try.underlying3 f2
    simp [c3, c27, c29] at e0 e1 e2
    obtain ⟨rfl, rfl, rfl⟩ := e0
    obtain ⟨rfl, rfl, rfl⟩ := e1
    subst e2
    exact ⟨⟨dv, cl, at_, vk, vn, vs, n⟩, rfl⟩

set_option maxRecDepth 100000 in
theorem rd_member {fuel : Nat} {cs : List Value} {x : DataW H × List MemPlace} (h : DataW.trod enc Try.prog W 0 (fun _ => true) true fuel 130 cs = some x) : ∃ it : LMember, cs = it.cells := by
  obtain ⟨xs, m, rfl, -, hl, hx, hf⟩ := DataW.trod_struct Try.underlying130 h
  rw [cMember] at hl
  match cs, hl with
  | [a0, a1, a2, a3, a4], _ =>
    have hx3 : xs.length = 5 := hx
    have f0 := hf 0 _ rfl
    have f1 := hf 1 _ rfl
    have f2 := hf 2 _ rfl
    have f3 := hf 3 _ rfl
    have f4 := hf 4 _ rfl
    rw [List.getElem?_eq_getElem (by omega)] at f0 f1 f2 f3 f4
    obtain ⟨nm, e0, -, -⟩ := DataW.trod_string Try.underlying9 f0
    obtain ⟨r, e1, -, -⟩ := DataW.trod_int Try.underlying3 f1
    obtain ⟨A1, l1, k1, e2⟩ := rd_sl (by exact rfl) f2
    obtain ⟨A2, l2, k2, e3⟩ := rd_sl (by exact rfl) f3
    obtain ⟨hm, e4, -⟩ := DataW.trod_bool Try.underlying4 f4
    have c91 : Try.prog.cellsOf 128 = 1 := by kernel_rfl
    have c92 : Try.prog.cellsOf 29 = 1 := by kernel_rfl
    simp [c3, c9, c4, c91, c92] at e0 e1 e2 e3 e4
    subst e0 e1 e2 e3 e4
    exact ⟨⟨nm, r, A1, l1, k1, A2, l2, k2, hm⟩, rfl⟩

theorem rd_rows {α : Type} (y0 : α) (f : α → List Value) {t e : TypeId} (ht : Try.prog.underlying t = some (.slice e)) {n : Nat} (hc : Try.prog.cellsOf e = n) (hn : 0 < n) (hb : 1 ≤ Try.prog.bytesOf e)
    (hread : ∀ (fuel : Nat) (cs : List Value) (x : DataW H × List MemPlace), DataW.trod enc Try.prog W 0 (fun _ => true) true fuel e cs = some x → ∃ y, cs = f y)
    {fuel : Nat} {cs : List Value} {x : DataW H × List MemPlace} (h : DataW.trod enc Try.prog W 0 (fun _ => true) true fuel t cs = some x) (hwt : ∀ n ∈ x.1.weights Try.prog t, n ≤ reachBytes) :
    ∃ (A : Option Addr) (l : List α) (c : Nat), cs = [.slice A l.length c] ∧ IsRows W.heap.size W n (l.map f) A ∧ l.length ≤ 140737488351232 := by
  rcases DataW.trod_slice ht h with ⟨e6, -⟩ | ⟨a, len, cap, elems, rest, q, rfl, e6, hx6, -, hlc, -, hel, he, -, -⟩
  · exact ⟨none, [], 0, e6, fun h => by simp at h, by simp⟩
  · rw [hx6] at hwt
    simp only [DataW.weights, ht] at hwt
    have hb1 := hwt _ (List.mem_cons_self)
    simp only [List.length_map, reachBytes] at hb1
    have hle : len ≤ 140737488351232 := by
      have : (elems.length + rest.length) * 1 ≤ (elems.length + rest.length) * Try.prog.bytesOf e := Nat.mul_le_mul_left _ hb
      omega
    have hkid : ∀ i, i < len → ∃ y, W.cells? 0 (a.add (i * n)) n = some (f y) := by
      intro i hi
      have h1 := he i hi
      rw [hc, List.getElem?_eq_getElem (by omega)] at h1
      obtain ⟨cs', h2, h3⟩ := Option.bind_eq_some_iff.1 h1
      obtain ⟨y, rfl⟩ := hread _ _ _ h3
      exact ⟨y, h2⟩
    classical
    obtain ⟨ys, hys⟩ : ∃ ys : Nat → α, ∀ i, i < len → W.cells? 0 (a.add (i * n)) n = some (f (ys i)) := by
      refine ⟨fun i => if h : i < len then Classical.choose (hkid i h) else y0, fun i hi => ?_⟩
      dsimp only
      rw [dif_pos hi]
      exact Classical.choose_spec (hkid i hi)
    have hln : ((List.range len).map ys).length = len := by simp
    refine ⟨some a, (List.range len).map ys, cap, by rw [hln]; exact e6, fun h0 => ?_, by rw [hln]; exact hle⟩
    have h0' : 0 < len := by simpa using h0
    obtain ⟨b, off, rfl⟩ := row_plain (n := n) (by have := hys 0 h0'; simpa using this) hn
    refine ⟨b, off, rfl, (row_read (hys 0 h0') hn).1, fun i hi => ?_⟩
    have hi' : i < len := by simpa using hi
    have := (row_read (hys i hi') hn).2.1
    simpa using this

set_option maxRecDepth 100000 in
theorem rd_view {fuel : Nat} {cs : List Value} {x : DataW H × List MemPlace} (h : DataW.trod enc Try.prog W 0 (fun _ => true) true fuel 38 cs = some x) (hwt : ∀ n ∈ x.1.weights Try.prog 38, n ≤ reachBytes) :
    ∃ V, IsView W.heap.size W V cs := by
  obtain ⟨xs, m, rfl, hxe, hl, hx, hf⟩ := DataW.trod_struct Try.underlying38 h
  rw [cView] at hl
  match cs, hl with
  | [a0, a1, a2, a3], _ =>
    have hx3 : xs.length = 4 := hx
    match xs, hx3 with
    | [x0, x1, x2, x3], _ =>
      have f0 := hf 0 _ rfl
      have f1 := hf 1 _ rfl
      have f2 := hf 2 _ rfl
      have f3 := hf 3 _ rfl
      simp only [List.getElem?_cons_zero, List.getElem?_cons_succ] at f0 f1 f2 f3
      have hw0 : ∀ n ∈ x0.1.weights Try.prog 35, n ≤ reachBytes := by
        intro n hn
        refine hwt n ?_
        rw [hxe]
        simp only [DataW.weights, Try.underlying38]
        simp [DataW.weightsEach, hn]
      have hw3 : ∀ n ∈ x3.1.weights Try.prog 36, n ≤ reachBytes := by
        intro n hn
        refine hwt n ?_
        rw [hxe]
        simp only [DataW.weights, Try.underlying38]
        simp [DataW.weightsEach, hn]
      obtain ⟨IA, li, ic, e0, hI, hI2⟩ := rd_rows ⟨0, noStr, noStr, 0, 0, noStr, 0⟩ LItem.cells Try.underlying35 cItem (by decide) (of_decide_eq_true (by kernel_rfl)) (fun _ _ _ h => rd_item h) f0 hw0
      obtain ⟨md, e1, -, -⟩ := DataW.trod_string Try.underlying9 f1
      obtain ⟨mi, e2, -, wm⟩ := DataW.trod_int Try.underlying3 f2
      obtain ⟨MA, lm, mc, e3, hM, hM2⟩ := rd_rows ⟨noStr, 0, none, 0, 0, none, 0, 0, false⟩ LMember.cells Try.underlying36 cMember (by decide) (of_decide_eq_true (by kernel_rfl)) (fun _ _ _ h => rd_member h) f3 hw3
      simp [c3, c9, c22, c23] at e0 e1 e2 e3
      subst e0 e1 e2 e3
      exact ⟨⟨li, md, mi, lm⟩, IA, ic, MA, mc, rfl, hI, hM, i64_of_wf wm, hI2, hM2⟩

/-- An argument that is a struct of more than one cell is an aggregate. -/
theorem agg_of {v : Value} {n : Nat} (h : v.cells.toList.length = n) (hn : 1 < n) : v = .agg v.cells := by
  cases v <;> first | rfl | (simp [Value.cells] at h; omega)
end
end Go.Proofs.Ytafodibbcfoclaa.Ev
