/- Rows laid one behind the other; slices that the call has made read as rows. -/
import Derived.Test.YtnelgblmogciiaaEx
import Derived.Laws.AppendOwn
import Derived.Laws.AppendOwnNone
set_option linter.unusedSimpArgs false
set_option linter.unusedVariables false
namespace Go.Proofs.Ytnelgblmogciiaa
open Go.RowKit

theorem rowAt_app {w : World} {b off : Nat} {r s : List Value} : RowAt w b off (r ++ s) ↔ RowAt w b off r ∧ RowAt w b (off + r.length) s := by
  constructor
  · refine fun h => ⟨fun j v hj => h j v ?_, fun j v hj => ?_⟩
    · rw [List.getElem?_append_left (List.getElem?_eq_some_iff.1 hj).1]; exact hj
    · have := h (r.length + j) v (by rw [List.getElem?_append_right (by omega)]; simpa using hj)
      rwa [show off + (r.length + j) = off + r.length + j from by omega] at this
  · rintro ⟨h1, h2⟩ j v hj
    by_cases hl : j < r.length
    · exact h1 j v (by rwa [List.getElem?_append_left hl] at hj)
    · rw [List.getElem?_append_right (by omega)] at hj
      have := h2 (j - r.length) v hj
      rwa [show off + r.length + (j - r.length) = off + j from by omega] at this
theorem rowAt_nil {w : World} {b off : Nat} : RowAt w b off [] := fun j v hj => by simp at hj

theorem flat_iff {w : World} {b n : Nat} : ∀ (rows : List (List Value)) (off : Nat), (∀ r ∈ rows, r.length = n) → (RowAt w b off rows.flatten ↔ ∀ (i : Nat) (hi : i < rows.length), RowAt w b (off + i * n) rows[i])
  | [], off, _ => by simp [rowAt_nil]
  | r :: rows, off, h => by
    have hr : r.length = n := h r (by simp)
    rw [List.flatten_cons, rowAt_app, flat_iff rows (off + r.length) (fun x hx => h x (by simp [hx])), hr]
    constructor
    · rintro ⟨h1, h2⟩ i hi
      cases i with
      | zero => simpa using h1
      | succ i =>
        have := h2 i (by simpa using hi)
        rw [List.getElem_cons_succ, show off + (i + 1) * n = off + n + i * n from by rw [Nat.add_mul]; omega]
        exact this
    · refine fun h' => ⟨by have := h' 0 (by simp); rw [Nat.zero_mul, Nat.add_zero] at this; exact this, fun i hi => ?_⟩
      have := h' (i + 1) (by simpa using hi)
      rwa [List.getElem_cons_succ, show off + (i + 1) * n = off + n + i * n from by rw [Nat.add_mul]; omega] at this

theorem flat_len {n : Nat} : ∀ (rows : List (List Value)), (∀ r ∈ rows, r.length = n) → rows.flatten.length = rows.length * n
  | [], _ => by simp
  | r :: rows, h => by
    rw [List.flatten_cons, List.length_append, flat_len rows (fun x hx => h x (by simp [hx])), h r (by simp), List.length_cons, Nat.add_mul]; omega

/-- What a slice that came in gives to an append. -/
theorem IsRows.news {B : Nat} {w : World} {n : Nat} {rows : List (List Value)} {ad : Addr} (h : IsRows B w n rows (some ad)) (hn : ∀ r ∈ rows, r.length = n) : ∀ j u, rows.flatten[j]? = some u → w.cell? (ad.add j) = some u := by
  intro j u hj
  have h0 : 0 < rows.length := by
    cases rows with
    | nil => simp at hj
    | cons => simp
  obtain ⟨b, off, hA, _, hr⟩ := h h0
  injection hA with hA
  subst hA
  have hadd : (⟨b, off, none⟩ : Addr).add j = ⟨b, off + j, none⟩ := by unfold Addr.add; split <;> simp_all
  rw [hadd]
  exact (flat_iff rows off hn).2 hr j u hj

/-- What an append has made reads as rows. -/
theorem ownsRow_rows {w : World} {base : Nat} {e : TypeId} {n k : Nat} {v : Value} {rows : List (List Value)} (h : w.ownsRow base e n v k rows.flatten) (hn : ∀ r ∈ rows, r.length = n) (hk : k = rows.length) :
    ∃ A c, v = .slice A rows.length c ∧ ∀ w' : World, w.heap.size ≤ w'.heap.size → (∀ k, base ≤ k → k < w.heap.size → w'.heap[k]? = w.heap[k]?) → IsRows w'.heap.size w' n rows A := by
  subst hk
  obtain ⟨hl, h | ⟨g, cap, cur, hv, hb, hg, h1, h2, h3, h4⟩⟩ := h
  · obtain ⟨hv, h0⟩ := h
    exact ⟨none, 0, by rw [h0]; exact hv, fun _ _ _ h' => by omega⟩
  · have hgl := (Array.getElem?_eq_some_iff.1 hg).1
    refine ⟨_, cap, hv, fun w' hs hk _ => ⟨g, 0, rfl, by omega, (flat_iff rows 0 hn).1 fun j u hj => ?_⟩⟩
    rw [Nat.zero_add, cell_of_row w' g j cur e (0, 0) ((hk g hb hgl).trans hg), ← Array.getElem?_toList]
    rw [← h4, List.getElem?_take] at hj
    split at hj
    · exact hj
    · cases hj

/-- An append of rows that came in to a slice of the call's own. -/
theorem append_rows {P : Program} {w : World} {ops : Array Oper} {rest : List Oper} {o : Oper} {a : Act} {Q : Exit → Act → World → Prop} (hgd : o.guard = none) (s x : Operand) (t : TypeId)
    (ho : o.op = .call { callee := .builtin .append, args := #[s, x], argTypes := #[t, t] })
    (base : Nat) (e : TypeId) (i : TypeInfo) (z : Value) (size bytes : Nat) (ht : P.underlying t = some (.slice e)) (hi : P.info? e = some i) (hz : i.zero = some z)
    (hsize : i.size = size) (hby : i.bytes = bytes) (hzs : z.cells.size = size) (hsz : 0 < size)
    (v : Value) (rows0 : List (List Value)) (hs : a.eval s = v) (hown : w.ownsRow base e size v rows0.length rows0.flatten)
    (A : Option Addr) (n c B : Nat) (rows : List (List Value)) (hx : a.eval x = .slice A n c) (hn : n = rows.length) (hnil : A = none → c = 0 ∧ n = 0) (hr : IsRows B w size rows A) (hlen : ∀ r ∈ rows, r.length = size)
    (h1 : ∀ u ∈ rows.flatten, u.oneCell' = true) (h63 : rows0.length + rows.length ≤ maxLen) (hbytes : (rows0.length + rows.length) * bytes ≤ 140737488355328) (hbase : base ≤ w.heap.size)
    (h : ∀ v' w', w'.ownsRow base e size v' (rows0 ++ rows).length (rows0 ++ rows).flatten → w.grownBy w' v.ownBlock → wpList P ops Q rest (a.put o.dst v') w') : wpList P ops Q (o :: rest) a w := by
  subst hn
  cases A with
  | none =>
    obtain ⟨rfl, h0⟩ := hnil rfl
    have hr0 : rows = [] := List.length_eq_zero_iff.1 h0
    subst hr0
    refine wpList_append_own_none hgd s x t ho base e i size ht hi v rows0.length rows0.flatten hs hown hx ?_
    exact h v w (by simpa using hown) ⟨rfl, rfl, rfl, Nat.le_refl _, fun _ _ _ => rfl⟩
  | some ad =>
    refine wpList_append_own w hgd s x t ho base e i z size bytes ht hi hz hsize hby hzs hsz v rows0.length rows0.flatten hs hown ad rows.length c rows.flatten hx (flat_len rows hlen) (hr.news hlen) h1 h63 hbytes hbase ?_
    intro v' w' g1 g2 _
    exact h v' w' (by simpa using g1) g2

theorem ownBlock_le {g n c k : Nat} (h : (Value.slice (some ⟨g, 0, none⟩) n c).ownBlock = some k) : g ≤ k := by cases h; exact Nat.le_refl _
theorem Blk.grown {w w' : World} {g : Nat} {t : TypeId} {cs : Array Value} {row : Option Nat} (h : Blk w g t cs) (hg : w.grownBy w' row) (hne : some g ≠ row) : Blk w' g t cs := (hg.block g h.lt hne).trans h

end Go.Proofs.Ytnelgblmogciiaa
