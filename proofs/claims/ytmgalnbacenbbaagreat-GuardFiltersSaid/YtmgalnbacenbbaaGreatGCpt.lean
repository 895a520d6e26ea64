/- Guard: the plain law of slices.Compact at keys in order; a row cut short. -/
import Derived.Test.YtmgalnbacenbbaaGreatGOps
set_option linter.unusedSimpArgs false
set_option linter.unusedVariables false
namespace Go.Proofs.YtmgalnbacenbbaaGreat
open Go.RowKit

/-- The keys so far, each once, in order. -/
structure Cpt (l ks : List LKey) (i : Nat) : Prop where
  asc : ks.Pairwise (fun a b => kless a b = true)
  mem : ∀ x, x ∈ ks ↔ x ∈ l.take i
theorem Cpt.one {l : List LKey} (h : 0 < l.length) : Cpt l (l.take 1) 1 := by
  refine ⟨?_, fun x => Iff.rfl⟩
  cases l with
  | nil => simp at h
  | cons a r => simp
theorem kless_of {a b : LKey} (h1 : kless b a = false) (h2 : b ≠ a) : kless a b = true := by
  exact sto_kless.tri b a h1 h2
theorem Cpt.same {l ks : List LKey} {q : Nat} (h : Cpt l ks (q + 1)) (hq : q + 1 < l.length) (he : l[q + 1] = l[q]) : Cpt l ks (q + 2) := by
  refine ⟨h.asc, fun x => ?_⟩
  rw [h.mem, List.take_succ_eq_append_getElem hq, List.mem_append, List.mem_singleton, he]
  constructor
  · exact .inl
  · rintro (h | h)
    · exact h
    · subst h
      rw [List.take_succ_eq_append_getElem (by omega : q < l.length)]
      exact List.mem_append_right _ (List.mem_singleton.2 rfl)
theorem Cpt.new {l ks : List LKey} {q : Nat} (h : Cpt l ks (q + 1)) (hs : l.Pairwise (fun a b => kless b a = false)) (hq : q + 1 < l.length) (he : l[q + 1] ≠ l[q]) : Cpt l (ks ++ [l[q + 1]]) (q + 2) := by
  rw [List.pairwise_iff_getElem] at hs
  have hlt := kless_of (hs q (q + 1) (by omega) hq (by omega)) he
  refine ⟨List.pairwise_append.2 ⟨h.asc, List.pairwise_singleton _ _, fun a ha b hb => ?_⟩, fun x => ?_⟩
  · rw [List.mem_singleton] at hb
    subst hb
    rw [h.mem] at ha
    obtain ⟨p, hp, rfl⟩ := List.getElem_of_mem ha
    rw [List.length_take] at hp
    rw [List.getElem_take]
    by_cases e : l[p] = l[q]
    · rw [e]; exact hlt
    · have hpq : p < q := by
        rcases Nat.lt_or_ge p q with h' | h'
        · exact h'
        · have : p = q := by omega
          subst this; exact absurd rfl e
      exact sto_kless.trans _ _ _ (kless_of (hs p q (by omega) (by omega) hpq) (fun h => e h.symm)) hlt
  · rw [List.take_succ_eq_append_getElem hq, List.mem_append, List.mem_append, h.mem]
theorem Cpt.all {l ks : List LKey} {i : Nat} (h : Cpt l ks i) (hi : l.length ≤ i) : ∀ x, x ∈ ks ↔ x ∈ l := by
  have := h.mem
  rwa [List.take_of_length_le hi] at this
theorem Cpt.snoc {l : List LKey} {q : Nat} (h : Cpt l (l.take (q + 1)) (q + 1)) (hs : l.Pairwise (fun a b => kless b a = false)) (hq : q + 1 < l.length) (he : l[q + 1] ≠ l[q]) : Cpt l (l.take (q + 2)) (q + 2) := by
  have := h.new hs hq he
  rwa [← List.take_succ_eq_append_getElem hq] at this
/-- The list in memory while keys are moved down. -/
structure CptM (l ks m : List LKey) (i : Nat) : Prop where
  len : m.length = l.length
  low : ks.length < i
  pre : m.take ks.length = ks
  top : ∀ q, i ≤ q + 1 → m[q]? = l[q]?
theorem CptM.start {l : List LKey} {q : Nat} (hq : q + 1 < l.length) : CptM l (l.take (q + 1)) l (q + 2) :=
  ⟨rfl, by rw [List.length_take]; omega, by rw [List.length_take, Nat.min_eq_left (by omega)], fun _ _ => rfl⟩
theorem CptM.same {l ks m : List LKey} {i : Nat} (h : CptM l ks m i) : CptM l ks m (i + 1) := ⟨h.len, by have := h.low; omega, h.pre, fun q hq => h.top q (by omega)⟩
theorem CptM.new {l ks m : List LKey} {i : Nat} (h : CptM l ks m i) (x : LKey) (hi : i < l.length) : CptM l (ks ++ [x]) (m.set ks.length x) (i + 1) := by
  have hl := h.low
  have hm := h.len
  refine ⟨by rw [List.length_set, h.len], by rw [List.length_append]; simp; omega, ?_, fun q hq => ?_⟩
  · rw [List.length_append, List.length_singleton, List.take_succ_eq_append_getElem (by rw [List.length_set]; omega), List.getElem_set_self, List.take_set_of_le (Nat.le_refl _), h.pre]
  · rw [List.getElem?_set_ne (by omega)]
    exact h.top q (by omega)
theorem CptM.at {l ks m : List LKey} {i : Nat} (h : CptM l ks m i) (q : Nat) (hq : i ≤ q + 1) (hl : q < l.length) : m[q]'(by rw [h.len]; exact hl) = l[q] := by
  have := h.top q hq
  rw [List.getElem?_eq_getElem (by rw [h.len]; exact hl), List.getElem?_eq_getElem hl] at this
  injection this
/-- Cells of the row overwritten, from one place on. -/
theorem owns_sets {base g n m c len : Nat} {e : TypeId} : ∀ (vs : List Value) (i : Nat) (w : World) (xs : List Value), w.ownsRow base e n (.slice (some ⟨g, 0, none⟩) m c) len xs → (w.setCells g i vs).ownsRow base e n (.slice (some ⟨g, 0, none⟩) m c) len (splice xs i vs)
  | [], _, _, _, h => h
  | v :: r, i, w, xs, h => owns_sets r (i + 1) (w.setCell ⟨g, i, none⟩ v) (xs.set i v) (owns_set h i v)
theorem splice_take : ∀ (vs xs : List Value) (i j : Nat), j ≤ i → (splice xs i vs).take j = xs.take j
  | [], _, _, _, _ => rfl
  | v :: r, xs, i, j, h => by rw [splice, splice_take r (xs.set i v) (i + 1) j (by omega), List.take_set_of_le h]
theorem flat_take {α : Type} (E : Elt α) (xs : List α) (j : Nat) (hj : j ≤ xs.length) : ((xs.take j).map E.f).flatten = (xs.map E.f).flatten.take (j * E.n) := by
  have h : (xs.map E.f).flatten = ((xs.take j).map E.f).flatten ++ ((xs.drop j).map E.f).flatten := by
    rw [← List.flatten_append, ← List.map_append, List.take_append_drop]
  have hl : ((xs.take j).map E.f).flatten.length = j * E.n := by rw [E.flat, List.length_take, Nat.min_eq_left hj]
  rw [h]
  exact (List.take_left' hl).symm
/-- A row whose end is overwritten, cut there. -/
theorem Elt.Own.cutAt {α : Type} {E : Elt α} {w : World} {base g n c : Nat} {xs : List α} (h : E.Own w base xs (.slice (some ⟨g, 0, none⟩) n c)) (j : Nat) (hj : j ≤ xs.length) (vs : List Value) : E.Own (w.setCells g (j * E.n) vs) base (xs.take j) (.slice (some ⟨g, 0, none⟩) j c) := by
  have h1 := owns_sets vs (j * E.n) w _ h
  have hlj : (xs.take j).length = j := by rw [List.length_take]; omega
  obtain ⟨hl, ⟨hv, h0⟩ | ⟨g', cap, cur, hv, hbg, hg, h1, h2, h3, h4⟩⟩ := h1
  · cases hv
  · injection hv with e1 e2 e3
    injection e1 with e1
    injection e1 with e1
    subst e1
    refine ⟨by rw [E.flat], .inr ⟨g, cap, cur, by rw [hlj, e3], hbg, hg, by omega, h2, h3, ?_⟩⟩
    rw [hlj, flat_take E xs j hj, ← splice_take vs (xs.map E.f).flatten (j * E.n) (j * E.n) (Nat.le_refl _), ← h4, List.take_take, Nat.min_eq_left (Nat.mul_le_mul_right _ hj)]
/-- What clear does to the cells of a slice of structs. -/
theorem Elt.run_clear {α : Type} (E : Elt α) (hz0 : ∀ w, (zeroValue E.e).run Tryz.prog w = .ok E.z w) (hz1 : ∀ v ∈ E.z.cells.toList, v.oneCell' = true) (w : World) (b o n c : Nat) (ty : TypeId)
    (hc : ∀ q, q < n * E.n → (w.cell? ⟨b, o + q, none⟩).isSome = true) (hf : ∀ q, q < n * E.n → w.frozen? ⟨b, o + q, none⟩ = false) (hn : 0 < n) :
    (Builtin.clear_ #[E.t] ty #[.slice (some ⟨b, o, none⟩) n c]).run Tryz.prog w = .ok (.tuple #[]) (w.setCells b o (Builtin.zeroCells E.z.cells n).toList) := by
  have hsz : (Builtin.zeroCells E.z.cells n).toList.length = n * E.n := by simp [Builtin.zeroCells, E.hzs]
  have hz : ∀ v ∈ (Builtin.zeroCells E.z.cells n).toList, v.oneCell' = true := fun v hv => by
    simp only [Builtin.zeroCells, Array.toList_map, List.mem_map] at hv
    obtain ⟨i, _, rfl⟩ := hv
    have hm : i % E.z.cells.size < E.z.cells.size := Nat.mod_lt _ (by rw [E.hzs]; exact E.hn)
    rw [getElem!_pos E.z.cells _ hm]
    exact hz1 _ (Array.getElem_mem_toList hm)
  have hst := run_storeCells_cells (P := Tryz.prog) b o (Builtin.zeroCells E.z.cells n).toList 0 w (by rw [hsz]; simpa using hc) (by rw [hsz]; simpa using hf) hz
  simp only [Nat.add_zero] at hst
  obtain ⟨k, rfl⟩ : ∃ k, n = k + 1 := ⟨n - 1, by omega⟩
  simp [Builtin.clear_, run_underlying E.ht, hz0, hst]
end Go.Proofs.YtmgalnbacenbbaaGreat
