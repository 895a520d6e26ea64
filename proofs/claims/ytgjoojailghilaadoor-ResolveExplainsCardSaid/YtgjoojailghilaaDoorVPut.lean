/- Lists that the call itself fills: stores into an element's cells; what stays read behind them. -/
import Derived.Test.YtgjoojailghilaaDoorVIns
set_option linter.unusedSimpArgs false
set_option linter.unusedVariables false
namespace Go.Proofs.YtgjoojailghilaaDoor
open Go.RowKit

/-- Cells laid over a row, from a place on. -/
def splice : List Value → Nat → List Value → List Value
  | xs, _, [] => xs
  | xs, k, v :: r => splice (xs.set k v) (k + 1) r
theorem splice_len : ∀ (vs xs : List Value) (k : Nat), (splice xs k vs).length = xs.length
  | [], _, _ => rfl
  | v :: r, xs, k => by rw [splice, splice_len r, List.length_set]
/-- Nothing but one block is other. -/
structure OnlyAt (g : Nat) (w w' : World) : Prop where
  size : w.heap.size ≤ w'.heap.size
  block : ∀ k, k < w.heap.size → k ≠ g → w'.heap[k]? = w.heap[k]?
theorem OnlyAt.refl (g : Nat) (w : World) : OnlyAt g w w := ⟨Nat.le_refl _, fun _ _ _ => rfl⟩
theorem OnlyAt.trans {g : Nat} {a b c : World} (h : OnlyAt g a b) (h' : OnlyAt g b c) : OnlyAt g a c :=
  ⟨Nat.le_trans h.size h'.size, fun k hk hg => (h'.block k (Nat.lt_of_lt_of_le hk h.size) hg).trans (h.block k hk hg)⟩
theorem OnlyAt.lat {g : Nat} {w w' : World} (h : Lat w w') : OnlyAt g w w' := ⟨h.size, fun k hk _ => h.block k hk⟩
theorem only_setCells (g : Nat) : ∀ (vs : List Value) (o : Nat) (w : World), OnlyAt g w (w.setCells g o vs)
  | [], _, w => OnlyAt.refl g w
  | v :: r, o, w => by
    refine OnlyAt.trans ⟨?_, fun k hk hg => ?_⟩ (only_setCells g r (o + 1) (w.setCell ⟨g, o, none⟩ v))
    · exact ((Below.refl 0 w).setCell (p := ⟨g, o, none⟩) (Nat.zero_le _) v).size
    · exact heap_setCell_other w ⟨g, o, none⟩ k v hg
theorem below_cells {B g : Nat} (hg : B ≤ g) : ∀ (vs : List Value) (o : Nat) (w : World), Below B w (w.setCells g o vs)
  | [], _, w => Below.refl B w
  | v :: r, o, w => ((Below.refl B w).setCell (p := ⟨g, o, none⟩) hg v).trans (below_cells hg r (o + 1) _)
theorem owns_set {w : World} {base g n m c len : Nat} {e : TypeId} {xs : List Value} (h : w.ownsRow base e n (.slice (some ⟨g, 0, none⟩) m c) len xs) (i : Nat) (u : Value) :
    (w.setCell ⟨g, i, none⟩ u).ownsRow base e n (.slice (some ⟨g, 0, none⟩) m c) len (xs.set i u) := by
  obtain ⟨hl, ⟨hv, h0⟩ | ⟨g', cap, cur, hv, hbg, hg, h1, h2, h3, h4⟩⟩ := h
  · cases hv
  · injection hv with e1 e2 e3
    injection e1 with e1
    injection e1 with e1
    subst e1
    refine ⟨by rw [List.length_set]; exact hl, .inr ⟨g, cap, cur.setIfInBounds i u, by rw [e2, e3], hbg, heap_setCell_same w g _ _ _ u hg, h1, h2, by rw [Array.size_setIfInBounds]; exact h3, ?_⟩⟩
    rw [Array.toList_setIfInBounds, List.take_set, h4]
theorem owns_puts {base g n m c : Nat} {e : TypeId} {j : Nat} : ∀ (vs : List Value) (k : Nat) (w : World) (rows : List (List Value)), (∀ r ∈ rows, r.length = n) → (hj : j < rows.length) → k + vs.length ≤ n →
    w.ownsRow base e n (.slice (some ⟨g, 0, none⟩) m c) rows.length rows.flatten →
    (w.setCells g (j * n + k) vs).ownsRow base e n (.slice (some ⟨g, 0, none⟩) m c) rows.length (rows.set j (splice rows[j] k vs)).flatten
  | [], k, w, rows, _, hj, _, h => by rw [splice, List.set_getElem_self]; exact h
  | v :: r, k, w, rows, hr, hj, hk, h => by
    have hk' : k < n := by simp at hk; omega
    have h1 := owns_set h (j * n + k) v
    rw [← flatten_set rows j k v hr hj hk'] at h1
    have hl : (rows.set j (rows[j].set k v)).length = rows.length := List.length_set
    have h2 := owns_puts r (k + 1) (w.setCell ⟨g, j * n + k, none⟩ v) (rows.set j (rows[j].set k v)) (fun x hx => by
      rcases List.mem_or_eq_of_mem_set hx with hx | rfl
      · exact hr x hx
      · rw [List.length_set]; exact hr _ (List.getElem_mem hj)) (by rw [hl]; exact hj) (by simp at hk; omega) (by rw [hl]; exact h1)
    simp only [List.length_set, List.getElem_set_self, List.set_set] at h2
    rw [splice, World.setCells, Nat.add_assoc]
    exact h2
section
variable {α : Type} {E : Elt α}
theorem Elt.Own.puts {w : World} {base : Nat} {xs : List α} {g n c : Nat} (h : E.Own w base xs (.slice (some ⟨g, 0, none⟩) n c)) (j k : Nat) (hj : j < xs.length) (vs : List Value) (hk : k + vs.length ≤ E.n) (y : α) (hy : E.f y = splice (E.f xs[j]) k vs) :
    E.Own (w.setCells g (j * E.n + k) vs) base (xs.set j y) (.slice (some ⟨g, 0, none⟩) n c) := by
  have h' : w.ownsRow base E.e E.n (.slice (some ⟨g, 0, none⟩) n c) (xs.map E.f).length (xs.map E.f).flatten := by rw [List.length_map]; exact h
  have := owns_puts vs k w (xs.map E.f) (E.lens xs) (by simpa using hj) hk h'
  unfold Elt.Own
  rw [List.length_set, List.map_set, hy]
  simp only [List.length_map, List.getElem_map] at this
  exact this
theorem Elt.Own.base_le {w : World} {base : Nat} {xs : List α} {g n c : Nat} (h : E.Own w base xs (.slice (some ⟨g, 0, none⟩) n c)) : base ≤ g ∧ g < w.heap.size := h.lt g rfl
/-- A store into an element. -/
theorem Elt.put {w : World} {ops : Array Oper} {rest : List Oper} {o : Oper} {a : Act} {Q : Exit → Act → World → Prop} (E : Elt α) (hgd : o.guard = none) (ty : TypeId) (x y : Operand) (ho : o.op = .store ty x y)
    (base : Nat) (xs : List α) (g n c : Nat) (hown : E.Own w base xs (.slice (some ⟨g, 0, none⟩) n c)) (j k : Nat) (hj : j < xs.length) (off : Nat) (hoff : off = j * E.n + k)
    (hx : a.eval x = .pointer (some ⟨g, off, none⟩)) (u : Value) (hy : a.eval y = u) (hi : (Tryd.prog.info? ty).map (·.size) = some u.cells.size) (h1 : ∀ v ∈ u.cells.toList, v.oneCell' = true)
    (hk : k + u.cells.toList.length ≤ E.n) (z : α) (hz : E.f z = splice (E.f xs[j]) k u.cells.toList)
    (h : ∀ w', E.Own w' base (xs.set j z) (.slice (some ⟨g, 0, none⟩) n c) → OnlyAt g w w' → Below base w w' → wpList Tryd.prog ops Q rest (a.put o.dst undef) w') : wpList Tryd.prog ops Q (o :: rest) a w := by
  subst hoff
  have hcell : ∀ q, q < u.cells.toList.length → (w.cell? ⟨g, j * E.n + k + q, none⟩).isSome = true := fun q hq => by
    rw [Nat.add_assoc, hown.cell j (k + q) hj (by omega), List.getElem?_eq_getElem (by rw [E.len]; omega)]; rfl
  have hfr : ∀ q, q < u.cells.toList.length → w.frozen? ⟨g, j * E.n + k + q, none⟩ = false := fun q _ => hown.free _
  refine wpList_plain hgd fun K hK => ?_
  have hst := run_storeCells_cells (P := Tryd.prog) g (j * E.n + k) u.cells.toList 0 w (by simpa using hcell) (by simpa using hfr) h1
  have hrun : (storeVar ty ⟨g, j * E.n + k, none⟩ u).run Tryd.prog w = .ok () (w.setCells g (j * E.n + k) u.cells.toList) := by
    cases hq : Tryd.prog.info? ty with
    | none => simp [hq] at hi
    | some i =>
      have hs : u.cells.size = i.size := by simp [hq] at hi; omega
      simpa [storeVar, sizeOf, typeInfo, hq, hs] using hst
  unfold Oper.wp execOp
  simp only [ho, hx, hy, Instr.storeAt, Instr.sureAddr, Sem.run_bind, Sem.run_pure, Result.andThen_ok, hrun]
  exact hK _ _ (h _ (hown.puts j k hj _ hk z hz) (only_setCells _ _ _ _) (below_cells hown.base_le.1 _ _ _))
/-- A list that is read, whatever a block holds. -/
def Elt.RdS (E : Elt α) (g : Nat) (w : World) (xs : List α) (v : Value) : Prop := ∀ w', OnlyAt g w w' → E.Rd w' xs v
theorem Elt.RdS.rd {g : Nat} {w : World} {xs : List α} {v : Value} (h : E.RdS g w xs v) : E.Rd w xs v := h w (OnlyAt.refl g w)
theorem Elt.RdS.step {g : Nat} {w w' : World} {xs : List α} {v : Value} (h : E.RdS g w xs v) (ho : OnlyAt g w w') : E.RdS g w' xs v := fun w'' h' => h w'' (ho.trans h')
theorem Elt.Own.rdS {w : World} {base g : Nat} {xs : List α} {v : Value} (h : E.Own w base xs v) (hg : g < base) : E.RdS g w xs v := fun w' ho =>
  (h.carry (fun k hk => ho.block k (h.lt k hk).2 (by have := (h.lt k hk).1; omega))).rd
/-- A slice from a place on. -/
def Elt.sl (E : Elt α) (A : Option Addr) (n c j : Nat) : Value := .slice (if c = j then A else A.map (·.add (j * E.n))) (n - j) (c - j)
theorem Elt.run_sl (E : Elt α) (A : Option Addr) (n c j : Nat) (hj : j ≤ n) (w : World) :
    (Instr.slice E.t (.slice A n c) (some (.int .i64 (j : Int))) none none).run Tryd.prog w = .ok (E.sl A n c j) w := by
  have hel : Tryd.prog.elem E.t = E.e := by simp [Program.elem, E.ht]
  have hu : Tryd.prog.underlying E.t = some (.slice (Tryd.prog.elem E.t)) := by rw [hel]; exact E.ht
  rw [run_slice_l w E.t A n c hu .i64 j (by omega) (by omega), hel]
  simp [sizeOf, typeInfo, E.hi, E.hs, Sem.run_bind, sliced, Elt.sl]
theorem Elt.Rd.sl {w0 : World} {xs : List α} {A : Option Addr} {c : Nat} (h : E.Rd w0 xs (.slice A xs.length c)) (hc : xs.length ≤ c) (j : Nat) (hj : j ≤ xs.length) : E.Rd w0 (xs.drop j) (E.sl A xs.length c j) := by
  refine ⟨_, c - j, by rw [List.length_drop]; rfl, fun h0 => ?_, fun hA => ?_⟩
  · have hj' : j < xs.length := by simp at h0; omega
    obtain ⟨b, off, rfl, hb, _⟩ := h.row j hj'
    rw [if_neg (by omega)]
    have := h.drop j rfl h0
    rw [Option.map_some, show (⟨b, off, none⟩ : Addr).add (j * E.n) = ⟨b, off + j * E.n, none⟩ from by unfold Addr.add; split <;> simp_all]
    exact this
  · obtain ⟨A1, c1, e, _, hn⟩ := h
    injection e with e1 e2 e3
    subst e1 e3
    have hA' : A = none := by
      split at hA
      · exact hA
      · simpa using hA
    obtain ⟨h1, h2⟩ := hn hA'
    rw [List.length_drop]
    omega
theorem Elt.Own.slS {w : World} {base g : Nat} {xs : List α} {A : Option Addr} {c : Nat} (h : E.Own w base xs (.slice A xs.length c)) (hg : g < base) (j : Nat) (hj : j ≤ xs.length) : E.RdS g w (xs.drop j) (E.sl A xs.length c j) := fun w' ho =>
  ((h.rdS hg) w' ho).sl h.cap j hj
end
end Go.Proofs.YtgjoojailghilaaDoor
