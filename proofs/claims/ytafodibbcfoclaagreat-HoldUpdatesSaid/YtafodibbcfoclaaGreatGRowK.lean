/- Guard: rows of structs as the shelf's sorts see them. -/
import Derived.Test.YtafodibbcfoclaaGreatGMem
import Derived.Shelf.SlSortCmp.KitK
import Derived.Lib.OwnBridge
set_option linter.unusedSimpArgs false
set_option linter.unusedVariables false
namespace Go.Proofs.YtafodibbcfoclaaGreat
open Go.Shelf Go.RowKit Go.Lib Go.Sort
section
variable {α γ : Type}
theorem Elt.flat_get [Inhabited α] (E : Elt α) : ∀ (l : List α) (t : Nat), t < l.length * E.n → (l.map E.f).flatten[t]? = some ((E.f l[t / E.n]!)[t % E.n]!)
  | [], t, h => by simp at h
  | s :: r, t, h => by
    have hl := E.len s
    have hn := E.hn
    rw [List.map_cons, List.flatten_cons]
    by_cases ht : t < E.n
    · rw [List.getElem?_append_left (by rw [hl]; exact ht), Nat.div_eq_of_lt ht, Nat.mod_eq_of_lt ht]
      simp only [List.getElem!_cons_zero]
      rw [List.getElem?_eq_getElem (by rw [hl]; exact ht), getElem!_pos (E.f s) t (by rw [hl]; exact ht)]
    · have hle : E.n ≤ t := Nat.le_of_not_lt ht
      rw [List.getElem?_append_right (by rw [hl]; exact hle), hl, E.flat_get r (t - E.n) (by rw [List.length_cons, Nat.add_mul] at h; omega), Nat.div_eq_sub_div hn hle, Nat.mod_eq_sub_mod hle]
      simp
theorem Elt.holdsK [Inhabited γ] (E : Elt α) (f : γ → α) {w : World} {base g n cap : Nat} {l : List γ} (h : E.Own w base (l.map f) (.slice (some ⟨g, 0, none⟩) n cap)) : HoldsK (fun x => E.f (f x)) E.n w g 0 l.toArray := by
  intro j hj
  rw [size_flatK, List.size_toArray] at hj
  rw [Nat.zero_add]
  have hn := E.hn
  have hd : j / E.n < l.length := Nat.div_lt_of_lt_mul (by rw [Nat.mul_comm]; exact hj)
  have hm : j % E.n < E.n := Nat.mod_lt _ hn
  refine ⟨?_, h.free j⟩
  have hc := h.cell (j / E.n) (j % E.n) (by simpa using hd) hm
  rw [Nat.div_add_mod'] at hc
  rw [hc, get_flatK _ _ _ _ (by simpa using hj)]
  have e1 : (l.toArray)[j / E.n]! = l[j / E.n] := by simp [hd]
  rw [e1, List.getElem_map, List.getElem?_eq_getElem (by rw [E.len]; exact hm), getElem!_pos _ _ (by rw [E.len]; exact hm)]
  rfl
theorem Elt.putK [Inhabited γ] [Inhabited α] (E : Elt α) (f : γ → α) {w : World} {base g n cap q : Nat} {l d : List γ} (h : E.Own w base (l.map f) (.slice (some ⟨g, 0, none⟩) n cap)) (hd : d.length = l.length) :
    E.Own (putRowK (fun x => E.f (f x)) E.n (Sort.ahead w q) g 0 d.toArray) base (d.map f) (.slice (some ⟨g, 0, none⟩) n cap) := by
  have hn := E.hn
  rcases h.2 with ⟨e0, _⟩ | ⟨g', cap', cur, e0, hb, hg, hnc, hm, hs, ht⟩
  · cases e0
  · injection e0 with e1 e2 e3
    injection e1 with e1
    injection e1 with e1
    subst e1; subst e3
    have hlen : (l.map f).length = l.length := List.length_map ..
    have hlen' : (d.map f).length = l.length := by rw [List.length_map, hd]
    rw [hlen] at hnc e2
    refine ⟨E.flat _, .inr ⟨g, cap, putCells id 0 (flatK (fun x => E.f (f x)) E.n d.toArray) cur, by rw [hlen', e2], hb, ?_, by rw [hlen']; exact hnc, hm, by simpa [putCells] using hs, ?_⟩⟩
    · simp [putRowK, putRow, mapBlock, Sort.ahead, Array.getElem?_modify, hg, onCells]
    · rw [hlen']
      apply List.ext_getElem?
      intro j
      rw [List.getElem?_take, Array.getElem?_toList]
      by_cases hj : j < l.length * E.n
      · have hjc : j < cur.size := by rw [hs]; exact Nat.lt_of_lt_of_le hj (Nat.mul_le_mul_right _ hnc)
        have hdv : j / E.n < d.length := Nat.div_lt_of_lt_mul (by rw [hd, Nat.mul_comm]; exact hj)
        rw [if_pos hj, E.flat_get (d.map f) j (by rw [hlen']; exact hj)]
        simp only [putCells, Array.getElem?_mapIdx, Array.getElem?_eq_getElem hjc, Option.map_some]
        rw [if_pos (by simp; rw [hd]; exact hj), Nat.sub_zero, get_flatK _ _ _ _ (by simp; rw [hd]; exact hj)]
        have e1 : (d.toArray)[j / E.n]! = d[j / E.n] := by simp [hdv]
        have e2 : (d.map f)[j / E.n]! = f d[j / E.n] := by
          rw [getElem!_pos _ _ (by rw [List.length_map]; exact hdv), List.getElem_map]
        rw [e1, e2]; rfl
      · rw [if_neg hj, List.getElem?_eq_none (by rw [E.flat, hlen']; omega)]
theorem Elt.Own.grow {E : Elt α} {w : World} {base : Nat} {xs : List α} {v : Value} (h : E.Own w base xs v) (os : Array Obj) : E.Own (Sort.grow w os) base xs v := by
  obtain ⟨hl, h0 | ⟨g, cap, cur, hv, hb, hh, r⟩⟩ := h
  · exact ⟨hl, .inl h0⟩
  · have hg : g < w.heap.size := (Array.getElem?_eq_some_iff.1 hh).1
    refine ⟨hl, .inr ⟨g, cap, cur, hv, hb, ?_, r⟩⟩
    rw [← hh]
    show (w.heap ++ os)[g]? = w.heap[g]?
    exact Array.getElem?_append_left hg
theorem below_growW (B : Nat) (w : World) (hB : B ≤ w.heap.size) (os : Array Obj) : RowKit.Below B w (Sort.grow w os) :=
  ⟨rfl, rfl, rfl, by show w.heap.size ≤ (w.heap ++ os).size; rw [Array.size_append]; omega, fun j hj => by
    show (w.heap ++ os)[j]? = w.heap[j]?
    exact Array.getElem?_append_left (by omega)⟩
/-- What a sort leaves of a row. -/
theorem SWK.own [Inhabited γ] [Inhabited α] (E : Elt α) (f : γ → α) {w w' : World} {base g n cap : Nat} {l : List γ} {dk : Array γ} (h : E.Own w base (l.map f) (.slice (some ⟨g, 0, none⟩) n cap)) (S : SWK (fun x => E.f (f x)) E.n w g 0 dk w') (hs : dk.size = l.length) :
    E.Own w' base (dk.toList.map f) (.slice (some ⟨g, 0, none⟩) n cap) ∧ w.heap.size ≤ w'.heap.size ∧ ∀ B, B ≤ base → B ≤ w.heap.size → RowKit.Below B w w' := by
  obtain ⟨q, os, rfl⟩ := S
  have hb := h.base_le
  have h1 : ∀ B, B ≤ base → RowKit.Below B w (putRowK (fun x => E.f (f x)) E.n (Sort.ahead w q) g 0 dk) := fun B hB => below_putRow (RowKit.Below.refl B w) (Nat.le_trans hB hb.1)
  have h2 := E.putK f (q := q) (d := dk.toList) h (by simpa using hs)
  rw [Array.toArray_toList] at h2
  refine ⟨Elt.Own.grow h2 os, ?_, fun B hB hBw => (h1 B hB).trans (below_growW B _ (Nat.le_trans hBw (h1 B hB).size) os)⟩
  have := (h1 0 (Nat.zero_le _)).trans (below_growW 0 _ (Nat.zero_le _) os)
  exact this.size
theorem Dr.Lat.grows {w w' : World} (h : Dr.Lat w w') : ∃ q os', w' = Sort.grow (w.drewN q) os' := by
  refine ⟨w'.drawn - w.drawn, w'.heap.extract w.heap.size w'.heap.size, ?_⟩
  have h1 := h.os
  have h2 := h.tape
  have h3 := h.output
  have h4 := h.drawn
  have h5 : w'.heap = w.heap ++ w'.heap.extract w.heap.size w'.heap.size := by
    apply Array.ext_getElem?
    intro i
    have hs := h.size
    by_cases hi : i < w.heap.size
    · rw [Array.getElem?_append_left hi]; exact h.block i hi
    · rw [Array.getElem?_append_right (by omega), Array.getElem?_extract]
      split
      · congr 1; omega
      · rw [Array.getElem?_eq_none (by omega)]
  cases w' with
  | mk heap tape drawn os output =>
    cases w with
    | mk heap0 tape0 drawn0 os0 output0 =>
      simp only [Sort.grow, World.drewN] at *
      subst h1 h2 h3
      rw [← h5]
      congr 1
      omega
end
end Go.Proofs.YtafodibbcfoclaaGreat
