/- Hold: arguments read as lists of timers, of names, of bools. -/
import Derived.Test.YtafodibbcfoclaaGenRead
import Derived.Test.YtafodibbcfoclaaHMem
set_option linter.unusedSimpArgs false
set_option linter.unusedVariables false
namespace Go.Proofs.Ytafodibbcfoclaa
open Go.ChangeShapes Go.WideShapes Go.ChangeAt Go.RowKit

section
variable {H : Type} {enc : TypeId × Value → H} {W : World}
theorem cTm : Try.prog.cellsOf 56 = 3 := by kernel_rfl
theorem cI : Try.prog.cellsOf 3 = 1 := by kernel_rfl
theorem cS : Try.prog.cellsOf 9 = 1 := by kernel_rfl
theorem cB : Try.prog.cellsOf 4 = 1 := by kernel_rfl
theorem rd_rowsP {α : Type} (y0 : α) (f : α → List Value) (Pr : α → Prop) {t e : TypeId} (ht : Try.prog.underlying t = some (.slice e)) {n : Nat} (hc : Try.prog.cellsOf e = n) (hn : 0 < n)
    (hread : ∀ (fuel : Nat) (cs : List Value) (x : DataW H × List MemPlace), DataW.trod enc Try.prog W 0 (fun _ => true) true fuel e cs = some x → ∃ y, cs = f y ∧ Pr y)
    {fuel : Nat} {cs : List Value} {x : DataW H × List MemPlace} (h : DataW.trod enc Try.prog W 0 (fun _ => true) true fuel t cs = some x) :
    ∃ (A : Option Addr) (l : List α) (c : Nat), cs = [.slice A l.length c] ∧ IsRows W.heap.size W n (l.map f) A ∧ (∀ y ∈ l, Pr y) ∧ (A = none → c = 0 ∧ l.length = 0) ∧ l.length ≤ c := by
  have hnil := fun l c (he : cs = [.slice none l c]) => rd_nil ht h l c he
  rcases DataW.trod_slice ht h with ⟨e6, -⟩ | ⟨a, len, cap, elems, rest, q, rfl, e6, hx6, -, hlc, -, hel, he, -, -⟩
  · exact ⟨none, [], 0, e6, fun h => by simp at h, fun y hy => absurd hy (by simp), fun _ => ⟨rfl, rfl⟩, Nat.le_refl _⟩
  · have hkid : ∀ i, i < len → ∃ y, W.cells? 0 (a.add (i * n)) n = some (f y) ∧ Pr y := by
      intro i hi
      have h1 := he i hi
      rw [hc, List.getElem?_eq_getElem (by omega)] at h1
      obtain ⟨cs', h2, h3⟩ := Option.bind_eq_some_iff.1 h1
      obtain ⟨y, rfl, hy⟩ := hread _ _ _ h3
      exact ⟨y, h2, hy⟩
    classical
    obtain ⟨ys, hys⟩ : ∃ ys : Nat → α, ∀ i, i < len → W.cells? 0 (a.add (i * n)) n = some (f (ys i)) ∧ Pr (ys i) := by
      refine ⟨fun i => if h : i < len then Classical.choose (hkid i h) else y0, fun i hi => ?_⟩
      dsimp only
      rw [dif_pos hi]
      exact Classical.choose_spec (hkid i hi)
    have hln : ((List.range len).map ys).length = len := by simp
    refine ⟨some a, (List.range len).map ys, cap, by rw [hln]; exact e6, fun h0 => ?_, fun y hy => ?_, (fun hA => by cases hA), by rw [hln]; exact hlc⟩
    · have h0' : 0 < len := by simpa using h0
      obtain ⟨b, off, rfl⟩ := row_plain (n := n) (by have := (hys 0 h0').1; simpa using this) hn
      refine ⟨b, off, rfl, (row_read (hys 0 h0').1 hn).1, fun i hi => ?_⟩
      have hi' : i < len := by simpa using hi
      have := (row_read (hys i hi').1 hn).2.1
      simpa using this
    · obtain ⟨i, hi, rfl⟩ := List.mem_map.1 hy
      exact (hys i (by simpa using hi)).2
set_option maxRecDepth 100000 in
theorem slice_arg {t e : TypeId} (ht : Try.prog.underlying t = some (.slice e)) {base : Nat} {v : Value} (hok : Value.okWide Try.prog W .any base t v) {u : Value} (h : v.cells.toList = [u]) : v = u := by
  obtain ⟨a, len, cap, rfl⟩ := okWide_slice ht hok
  have : [Value.slice a len cap] = [u] := h
  injection this
set_option maxRecDepth 100000 in
theorem rd_timer {fuel : Nat} {cs : List Value} {x : DataW H × List MemPlace} (h : DataW.trod enc Try.prog W 0 (fun _ => true) true fuel 56 cs = some x) : ∃ y : LTim, cs = tC y ∧ y.rule.size ≤ maxLen := by
  obtain ⟨xs, m, rfl, hxe, hl, hx, hf⟩ := DataW.trod_struct Try.underlying56 h
  rw [cTm] at hl
  match cs, hl with
  | [a0, a1, a2], _ =>
    have hx3 : xs.length = 3 := hx
    match xs, hx3 with
    | [x0, x1, x2], _ =>
      have f0 := hf 0 _ rfl
      have f1 := hf 1 _ rfl
      have f2 := hf 2 _ rfl
      simp only [List.getElem?_cons_zero, List.getElem?_cons_succ] at f0 f1 f2
      clear hf h
      obtain ⟨p0, e0, -, hs⟩ := DataW.trod_string Try.underlying9 f0
      obtain ⟨p1, e1, -, -⟩ := DataW.trod_int Try.underlying3 f1
      obtain ⟨p2, e2, -⟩ := DataW.trod_bool Try.underlying4 f2
      simp [cI, cS, cB] at e0 e1 e2
      subst e0 e1 e2
      exact ⟨⟨p0, p1, p2⟩, rfl, hs⟩
set_option maxRecDepth 100000 in
theorem arg_timers {base : Nat} {v : Value} {d : DataW H} {p : List MemPlace} (hok : Value.okWide Try.prog W .any base 22 v) (h : DataW.Trod enc Try.prog W 0 (fun _ => true) true 22 v d p) :
    ∃ (l : List LTim) (A : Option Addr) (c : Nat), v = .slice A l.length c ∧ RdT W l (.slice A l.length c) := by
  obtain ⟨fuel, h1⟩ := h
  obtain ⟨A, l, c, e, hr, hp, hn, hc⟩ := rd_rowsP (⟨noStr, 0, false⟩ : LTim) tC (fun y => y.rule.size ≤ maxLen) Try.underlying22 cTm (by decide) (fun _ _ _ h => rd_timer h) h1
  obtain rfl := slice_arg Try.underlying22 hok e
  exact ⟨l, A, c, rfl, ⟨A, c, rfl, hr, hn⟩, hp⟩
set_option maxRecDepth 100000 in
theorem arg_names {base : Nat} {v : Value} {d : DataW H} {p : List MemPlace} (hok : Value.okWide Try.prog W .any base 29 v) (h : DataW.Trod enc Try.prog W 0 (fun _ => true) true 29 v d p) :
    ∃ (l : List ByteArray) (A : Option Addr) (c : Nat), v = .slice A l.length c ∧ ES.Rd W l (.slice A l.length c) := by
  obtain ⟨fuel, h1⟩ := h
  obtain ⟨A, l, c, e, hr, hp, hn, hc⟩ := rd_rowsP noStr (fun s : ByteArray => [Value.string s]) (fun _ => True) Try.underlying29 cS (by decide) (fun _ _ _ h => by
    obtain ⟨p1, e1, -, -⟩ := DataW.trod_string Try.underlying9 h
    exact ⟨p1, e1, trivial⟩) h1
  obtain rfl := slice_arg Try.underlying29 hok e
  exact ⟨l, A, c, rfl, ⟨A, c, rfl, hr, hn⟩⟩
end
theorem canTS : Try.prog.readableRec 22 = true := by kernel_rfl
theorem rowTS : 22 < Try.prog.types.size := of_decide_eq_true (by kernel_rfl)
theorem canNS : Try.prog.readableRec 29 = true := by kernel_rfl
theorem rowNS : 29 < Try.prog.types.size := of_decide_eq_true (by kernel_rfl)
end Go.Proofs.Ytafodibbcfoclaa
