/- Resolve: arguments read as lists of writes, as decisions, as lists of decisions, as bytes. -/
import Derived.Test.YtgjoojailghilaaDoorVRead
set_option linter.unusedSimpArgs false
set_option linter.unusedVariables false
namespace Go.Proofs.YtgjoojailghilaaDoor
open Go.ChangeShapes Go.WideShapes Go.ChangeAt Go.RowKit

section
variable {H : Type} {enc : TypeId × Value → H} {W : World}
theorem rd_rowsP {α : Type} (y0 : α) (f : α → List Value) (Pr : α → Prop) {t e : TypeId} (ht : Tryd.prog.underlying t = some (.slice e)) {n : Nat} (hc : Tryd.prog.cellsOf e = n) (hn : 0 < n)
    (hread : ∀ (fuel : Nat) (cs : List Value) (x : DataW H × List MemPlace), DataW.trod enc Tryd.prog W 0 (fun _ => true) true fuel e cs = some x → ∃ y, cs = f y ∧ Pr y)
    {fuel : Nat} {cs : List Value} {x : DataW H × List MemPlace} (h : DataW.trod enc Tryd.prog W 0 (fun _ => true) true fuel t cs = some x) :
    ∃ (A : Option Addr) (l : List α) (c : Nat), cs = [.slice A l.length c] ∧ IsRows W.heap.size W n (l.map f) A ∧ (∀ y ∈ l, Pr y) ∧ (A = none → c = 0 ∧ l.length = 0) ∧ l.length ≤ c := by
  have hnil := fun l c (he : cs = [.slice none l c]) => rd_nil ht h l c he
  rcases DataW.trod_slice ht h with ⟨e6, -⟩ | ⟨a, len, cap, elems, rest, q, rfl, e6, hx6, -, hlc, -, hel, he, -, -⟩
  · exact ⟨none, [], 0, e6, fun h => by simp at h, fun y hy => absurd hy (by simp), fun _ => ⟨rfl, rfl⟩, Nat.le_refl _⟩
  · have hkid : ∀ i, i < len → ∃ y, W.cells? 0 (a.add (i * n)) n = some (f y) ∧ Pr y := by
      intro i hi
      have h1 := he i hi
      rw [hc, List.getElem?_eq_getElem (by omega)] at h1
      obtain ⟨cs', h2, h3⟩ := Option.bind_eq_some_iff.1 h1
      obtain ⟨y, rfl, hy⟩ := hread _ _ _ h3
      exact ⟨y, h2, hy⟩
    classical
    obtain ⟨ys, hys⟩ : ∃ ys : Nat → α, ∀ i, i < len → W.cells? 0 (a.add (i * n)) n = some (f (ys i)) ∧ Pr (ys i) := by
      refine ⟨fun i => if h : i < len then Classical.choose (hkid i h) else y0, fun i hi => ?_⟩
      dsimp only
      rw [dif_pos hi]
      exact Classical.choose_spec (hkid i hi)
    have hln : ((List.range len).map ys).length = len := by simp
    refine ⟨some a, (List.range len).map ys, cap, by rw [hln]; exact e6, fun h0 => ?_, fun y hy => ?_, (fun hA => by cases hA), by rw [hln]; exact hlc⟩
    · have h0' : 0 < len := by simpa using h0
      obtain ⟨b, off, rfl⟩ := row_plain (n := n) (by have := (hys 0 h0').1; simpa using this) hn
      refine ⟨b, off, rfl, (row_read (hys 0 h0').1 hn).1, fun i hi => ?_⟩
      have hi' : i < len := by simpa using hi
      have := (row_read (hys i hi').1 hn).2.1
      simpa using this
    · obtain ⟨i, hi, rfl⟩ := List.mem_map.1 hy
      exact (hys i (by simpa using hi)).2
def w00 : LW := ⟨⟨0, noStr, noStr⟩, ⟨0, 0, noStr⟩, 0, noStr, 0, 0⟩
set_option maxRecDepth 100000 in
theorem rd_writes {fuel : Nat} {cs : List Value} {x : DataW H × List MemPlace} (h : DataW.trod enc Tryd.prog W 0 (fun _ => true) true fuel 33 cs = some x) : ∃ (l : List LW) (A : Option Addr) (c : Nat), cs = [.slice A l.length c] ∧ EW.Rd W l (.slice A l.length c) ∧ l.length ≤ c := by
  obtain ⟨A, l, c, e, hr, -, hn, hc⟩ := rd_rowsP w00 wC (fun _ => True) Tryd.underlying33 cW (by decide) (fun _ _ _ h => by obtain ⟨y, hy⟩ := rd_write h; exact ⟨y, hy, trivial⟩) h
  exact ⟨l, A, c, e, ⟨A, c, rfl, hr, hn⟩, hc⟩
set_option maxRecDepth 100000 in
theorem slice_arg {t e : TypeId} (ht : Tryd.prog.underlying t = some (.slice e)) {base : Nat} {v : Value} (hok : Value.okWide Tryd.prog W .any base t v) {u : Value} (h : v.cells.toList = [u]) : v = u := by
  obtain ⟨a, len, cap, rfl⟩ := okWide_slice ht hok
  have : [Value.slice a len cap] = [u] := h
  injection this
set_option maxRecDepth 100000 in
theorem arg_writes {base : Nat} {v : Value} {d : DataW H} {p : List MemPlace} (hok : Value.okWide Tryd.prog W .any base 33 v) (h : DataW.Trod enc Tryd.prog W 0 (fun _ => true) true 33 v d p) :
    ∃ (l : List LW) (A : Option Addr) (c : Nat), v = .slice A l.length c ∧ EW.Rd W l (.slice A l.length c) ∧ l.length ≤ c := by
  obtain ⟨fuel, h1⟩ := h
  obtain ⟨l, A, c, e, hr, hc⟩ := rd_writes h1
  obtain rfl := slice_arg Tryd.underlying33 hok e
  exact ⟨l, A, c, rfl, hr, hc⟩
theorem cWS : Tryd.prog.cellsOf 33 = 1 := by kernel_rfl
theorem cDec : Tryd.prog.cellsOf 44 = 15 := by kernel_rfl
theorem cErr : Tryd.prog.cellsOf 42 = 1 := by kernel_rfl
set_option maxRecDepth 100000 in
theorem rd_dec {fuel : Nat} {cs : List Value} {x : DataW H × List MemPlace} (h : DataW.trod enc Tryd.prog W 0 (fun _ => true) true fuel 44 cs = some x) : ∃ y : DR × LD, cs = y.1.cells ∧ y.1.says W y.2 := by
  obtain ⟨xs, m, rfl, hxe, hl, hx, hf⟩ := DataW.trod_struct Tryd.underlying44 h
  rw [cDec] at hl
  match cs, hl with
  | [a0, a1, a2, a3, a4, a5, a6, a7, a8, a9, b0, b1, b2, b3, b4], _ =>
    have hx4 : xs.length = 4 := hx
    match xs, hx4 with
    | [x0, x1, x2, x3], _ =>
      have f0 := hf 0 _ rfl
      have f1 := hf 1 _ rfl
      have f2 := hf 2 _ rfl
      have f3 := hf 3 _ rfl
      simp only [List.getElem?_cons_zero, List.getElem?_cons_succ] at f0 f1 f2 f3
      clear hf h
      obtain ⟨k, e0⟩ := rd_key f0
      obtain ⟨y, e1⟩ := rd_write f1
      obtain ⟨l, A, c, e2, hr, -⟩ := rd_writes f2
      obtain ⟨p3, e3, -, -⟩ := DataW.trod_int Tryd.underlying42 f3
      simp [cK, cW, cWS, cErr, kC, wC, vC] at e0 e1 e2 e3
      obtain ⟨rfl, rfl, rfl⟩ := e0
      obtain ⟨rfl, rfl, rfl, rfl, rfl, rfl, rfl, rfl, rfl, rfl⟩ := e1
      subst e2 e3
      exact ⟨(⟨k, y, A, l.length, c, p3⟩, ⟨k, y, l, p3⟩), rfl, rfl, rfl, rfl, hr⟩
set_option maxRecDepth 100000 in
theorem rd_decs {fuel : Nat} {cs : List Value} {x : DataW H × List MemPlace} (h : DataW.trod enc Tryd.prog W 0 (fun _ => true) true fuel 36 cs = some x) : ∃ (l : List LD) (v : Value), cs = [v] ∧ RdD W l v := by
  obtain ⟨A, l, c, e, hr, hp, hn, -⟩ := rd_rowsP ((⟨w00.key, w00, none, 0, 0, 0⟩, ⟨w00.key, w00, [], 0⟩) : DR × LD) (fun y => y.1.cells) (fun y => y.1.says W y.2) Tryd.underlying36 cDec (by decide) (fun _ _ _ h => rd_dec h) h
  refine ⟨l.map Prod.snd, _, e, l.map Prod.fst, by simp, ⟨A, c, by simp, ?_, by simpa using hn⟩, fun i a b => ?_⟩
  · rw [List.map_map]; exact hr
  · simp only [List.getElem_map]
    exact hp _ (List.getElem_mem (by simpa using a))
set_option maxRecDepth 100000 in
theorem arg_decs {base : Nat} {v : Value} {d : DataW H} {p : List MemPlace} (hok : Value.okWide Tryd.prog W .any base 36 v) (h : DataW.Trod enc Tryd.prog W 0 (fun _ => true) true 36 v d p) :
    ∃ (l : List LD) (A : Option Addr) (c : Nat), v = .slice A l.length c ∧ RdD W l (.slice A l.length c) := by
  obtain ⟨fuel, h1⟩ := h
  obtain ⟨l, u, e, hr⟩ := rd_decs h1
  obtain rfl := slice_arg Tryd.underlying36 hok e
  obtain ⟨A, c, rfl⟩ : ∃ A c, v = .slice A l.length c := by
    obtain ⟨rs, hl, ⟨A, c, hv, _⟩, _⟩ := hr
    exact ⟨A, c, by rw [hv, hl]⟩
  exact ⟨l, A, c, rfl, hr⟩
set_option maxRecDepth 100000 in
theorem arg_dec {v : Value} {d : DataW H} {p : List MemPlace} (h : DataW.Trod enc Tryd.prog W 0 (fun _ => true) true 44 v d p) : ∃ (r : DR) (y : LD), v = .agg r.cells.toArray ∧ r.says W y := by
  obtain ⟨fuel, h1⟩ := h
  obtain ⟨y, he, hs⟩ := rd_dec h1
  refine ⟨y.1, y.2, ?_, hs⟩
  rw [← he, Array.toArray_toList]
  exact agg_of (n := 15) (by rw [he]; rfl) (by decide)
theorem u8_of_wf {n : Int} (h : (Lit.int .u8 n).wf = true) : 0 ≤ n ∧ n < 256 := by
  have : 0 ≤ n ∧ n ≤ 255 := by simpa [Lit.wf, IntKind.signed, IntKind.bits, IntKind.min, IntKind.max] using h
  omega
end
theorem canWS : Tryd.prog.readableRec 33 = true := by kernel_rfl
theorem rowWS : 33 < Tryd.prog.types.size := of_decide_eq_true (by kernel_rfl)
theorem canD : Tryd.prog.readableRec 44 = true := by kernel_rfl
theorem rowD : 44 < Tryd.prog.types.size := of_decide_eq_true (by kernel_rfl)
theorem canDS : Tryd.prog.readableRec 36 = true := by kernel_rfl
theorem rowDS : 36 < Tryd.prog.types.size := of_decide_eq_true (by kernel_rfl)
theorem can8 : Tryd.prog.readableRec 5 = true := by kernel_rfl
theorem row8 : 5 < Tryd.prog.types.size := of_decide_eq_true (by kernel_rfl)
end Go.Proofs.YtgjoojailghilaaDoor
