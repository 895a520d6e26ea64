/- Arguments read as plain data: of no one program's own. -/
import Derived.Test.YtafodibbcfoclaaGreatGBase
import Derived.ProofKit
import Derived.OpenShut
import Derived.SizedLaws
set_option linter.unusedSimpArgs false
set_option linter.unusedVariables false
namespace Go.Proofs.YtafodibbcfoclaaGreat
open Go.ChangeShapes Go.WideShapes Go.ChangeAt Go.RowKit

theorem post_of_below {H : Type} {enc : TypeId × Value → H} {P : Program} {f : Func} {s : ChangeSpec} {W W' : World} {args : Array Value} {v : Value} {ds gs : List (DataW H)} {before pa pv : List MemPlace}
    (hW : DataW.Whole enc P f.params.toList s.vars false W args.toList ds gs before)
    (hres : ∀ (b : Nat) (sp : Nat → Bool) (hd : Bool), DataW.TrodAll enc P W' b sp hd f.resultTypes.toList (v.resultList f.resultTypes.size) (s.fn H (ds ++ gs)).results [])
    (hargs : DataW.TrodAll enc P W' 0 (fun b => decide (b < W.heap.size)) true f.params.toList args.toList (s.fn H (ds ++ gs)).args pa)
    (hvars : DataW.TrodVars enc P W' (fun b => decide (b < W.heap.size)) s.vars (s.fn H (ds ++ gs)).vars pv)
    (hps : before = pa ++ pv) (hb : Below W.heap.size W W') :
    s.post enc P f false true false false W args v W' :=
  ⟨ds, gs, before, [], pa, pv, hW, hres _ _ _, hargs, hvars, World.keptBut_mono (fun p hp => ⟨hp, by rw [hps, List.mem_append] at hp; exact Or.inr hp⟩) (hb.frame _), fun h => by cases h⟩


theorem i64_of_wf {a : Int} (h : (Lit.int .i64 a).wf = true) : I64 a := by
  have h2 : -9223372036854775808 ≤ a ∧ a ≤ 9223372036854775807 := by
    simpa [Lit.wf, IntKind.signed, IntKind.bits, IntKind.min, IntKind.max] using h
  exact h2


section
variable {H : Type} {enc : TypeId × Value → H} {W : World}

theorem row_read {b off i n : Nat} {cs : List Value} (h : W.cells? 0 ((⟨b, off, none⟩ : Addr).add i) n = some cs) (hn : 0 < n) : b < W.heap.size ∧ RowAt W b (off + i) cs ∧ cs.length = n := by
  obtain ⟨-, hl, hc⟩ := World.cells?_some h
  have h0 : W.cell? ((Addr.add ⟨b, off, none⟩ i).add 0) = some (cs[0]'(by omega)) := by rw [hc 0 hn, List.getElem?_eq_getElem (by omega)]
  refine ⟨?_, fun j v hv => ?_, hl⟩
  · rw [Go.WideShapes.add_plain, Go.WideShapes.add_plain] at h0
    unfold World.cell? at h0
    cases hb : W.heap[b]? with
    | none => simp [hb] at h0
    | some o => exact (Array.getElem?_eq_some_iff.1 hb).1
  · have hj : j < n := by rw [← hl]; exact (List.getElem?_eq_some_iff.1 hv).1
    have := hc j hj
    rw [Go.WideShapes.add_plain, Go.WideShapes.add_plain] at this
    rw [this, hv]
theorem row_plain {a : Addr} {n : Nat} {cs : List Value} (h : W.cells? 0 (a.add 0) n = some cs) (hn : 0 < n) : ∃ b off, a = ⟨b, off, none⟩ := by
  obtain ⟨-, hl, hc⟩ := World.cells?_some h
  obtain ⟨b, off, spot⟩ := a
  have h0 : W.cell? ((Addr.add ⟨b, off, spot⟩ 0).add 0) = some (cs[0]'(by omega)) := by rw [hc 0 hn, List.getElem?_eq_getElem (by omega)]
  have hspot : spot = none := by simpa [Addr.add] using World.cell?_spot h0
  exact ⟨b, off, by rw [hspot]⟩


theorem rd_sl {t e : TypeId} (ht : Tryz.prog.underlying t = some (.slice e)) {fuel : Nat} {cs : List Value} {x : DataW H × List MemPlace} (h : DataW.trod enc Tryz.prog W 0 (fun _ => true) true fuel t cs = some x) :
    ∃ A l c, cs = [.slice A l c] := by
  rcases DataW.trod_slice ht h with ⟨e6, -⟩ | ⟨a, len, cap, elems, rest, q, rfl, e6, -⟩
  · exact ⟨none, 0, 0, e6⟩
  · exact ⟨_, _, _, e6⟩


theorem rd_rows {α : Type} (y0 : α) (f : α → List Value) {t e : TypeId} (ht : Tryz.prog.underlying t = some (.slice e)) {n : Nat} (hc : Tryz.prog.cellsOf e = n) (hn : 0 < n) (hb : 1 ≤ Tryz.prog.bytesOf e)
    (hread : ∀ (fuel : Nat) (cs : List Value) (x : DataW H × List MemPlace), DataW.trod enc Tryz.prog W 0 (fun _ => true) true fuel e cs = some x → ∃ y, cs = f y)
    {fuel : Nat} {cs : List Value} {x : DataW H × List MemPlace} (h : DataW.trod enc Tryz.prog W 0 (fun _ => true) true fuel t cs = some x) (hwt : ∀ n ∈ x.1.weights Tryz.prog t, n ≤ reachBytes) :
    ∃ (A : Option Addr) (l : List α) (c : Nat), cs = [.slice A l.length c] ∧ IsRows W.heap.size W n (l.map f) A ∧ l.length ≤ 140737488351232 := by
  rcases DataW.trod_slice ht h with ⟨e6, -⟩ | ⟨a, len, cap, elems, rest, q, rfl, e6, hx6, -, hlc, -, hel, he, -, -⟩
  · exact ⟨none, [], 0, e6, fun h => by simp at h, by simp⟩
  · rw [hx6] at hwt
    simp only [DataW.weights, ht] at hwt
    have hb1 := hwt _ (List.mem_cons_self)
    simp only [List.length_map, reachBytes] at hb1
    have hle : len ≤ 140737488351232 := by
      have : (elems.length + rest.length) * 1 ≤ (elems.length + rest.length) * Tryz.prog.bytesOf e := Nat.mul_le_mul_left _ hb
      omega
    have hkid : ∀ i, i < len → ∃ y, W.cells? 0 (a.add (i * n)) n = some (f y) := by
      intro i hi
      have h1 := he i hi
      rw [hc, List.getElem?_eq_getElem (by omega)] at h1
      obtain ⟨cs', h2, h3⟩ := Option.bind_eq_some_iff.1 h1
      obtain ⟨y, rfl⟩ := hread _ _ _ h3
      exact ⟨y, h2⟩
    classical
    obtain ⟨ys, hys⟩ : ∃ ys : Nat → α, ∀ i, i < len → W.cells? 0 (a.add (i * n)) n = some (f (ys i)) := by
      refine ⟨fun i => if h : i < len then Classical.choose (hkid i h) else y0, fun i hi => ?_⟩
      dsimp only
      rw [dif_pos hi]
      exact Classical.choose_spec (hkid i hi)
    have hln : ((List.range len).map ys).length = len := by simp
    refine ⟨some a, (List.range len).map ys, cap, by rw [hln]; exact e6, fun h0 => ?_, by rw [hln]; exact hle⟩
    have h0' : 0 < len := by simpa using h0
    obtain ⟨b, off, rfl⟩ := row_plain (n := n) (by have := hys 0 h0'; simpa using this) hn
    refine ⟨b, off, rfl, (row_read (hys 0 h0') hn).1, fun i hi => ?_⟩
    have hi' : i < len := by simpa using hi
    have := (row_read (hys i hi') hn).2.1
    simpa using this


/-- An argument that is a struct of more than one cell is an aggregate. -/
theorem agg_of {v : Value} {n : Nat} (h : v.cells.toList.length = n) (hn : 1 < n) : v = .agg v.cells := by
  cases v <;> first | rfl | (simp [Value.cells] at h; omega)
end

section
variable {H : Type} {enc : TypeId × Value → H} {W : World}
set_option maxRecDepth 100000 in
theorem rd_nil {t e : TypeId} (ht : Tryz.prog.underlying t = some (.slice e)) {fuel : Nat} {cs : List Value} {x : DataW H × List MemPlace} (h : DataW.trod enc Tryz.prog W 0 (fun _ => true) true fuel t cs = some x) (l c : Nat) (he : cs = [.slice none l c]) : c = 0 ∧ l = 0 := by
  rcases DataW.trod_slice ht h with ⟨e6, -⟩ | ⟨a, len, cap, elems, rest, q, rfl, e6, -⟩
  · rw [e6] at he; injection he with he; injection he with _ h1 h2; exact ⟨h2.symm, h1.symm⟩
  · rw [e6] at he; injection he with he; injection he with h0; cases h0

end

theorem own : ownKnob Tryz.prog.godebug = none := by kernel_rfl
theorem laid : laidOutB Tryz.prog = true := by kernel_rfl

end Go.Proofs.YtafodibbcfoclaaGreat
