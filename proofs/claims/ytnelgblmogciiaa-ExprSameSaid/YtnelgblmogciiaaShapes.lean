/- Values that read as expressions, as slices of expressions; they last. Rows laid one behind the other; slices that the call has made read as rows. Expressions in memory, with a word on the blocks in which their rows lie; slices of expressions that the call itself fills. -/
import Derived.Test.YtnelgblmogciiaaAwake1
import Derived.Test.YtnelgblmogciiaaRelies
import Derived.Laws.CopyOwn
import Derived.Laws.AppendOwn
import Derived.Laws.AppendOwnNone
namespace Go.Proofs.Ytnelgblmogciiaa
section
set_option linter.unusedSimpArgs false
set_option linter.unusedVariables false
open Go.RowKit

def IsEx (e : LExpr) (v : Value) (w : World) : Prop := ∃ cs : List Value, v = .agg cs.toArray ∧ IsExpr w.heap.size w e cs
theorem IsExpr.lat {B : Nat} {w w' : World} {e : LExpr} {cs : List Value} (h : IsExpr B w e cs) (hB : B ≤ w.heap.size) (hl : Lat w w') : IsExpr w'.heap.size w' e cs :=
  (h.mono hB).carry hl |>.mono hl.size
theorem IsEx.lat {e : LExpr} {v : Value} {w w' : World} (h : IsEx e v w) (hl : Lat w w') : IsEx e v w' := by
  obtain ⟨cs, hv, he⟩ := h
  exact ⟨cs, hv, he.lat (Nat.le_refl _) hl⟩
theorem Lat.al (w : World) (o : Obj) : Lat w (w.alloc o) := (Below.refl _ _).alloc (Nat.le_refl _) o

def IsSl (es : List LExpr) (v : Value) (w : World) : Prop :=
  ∃ (A : Option Addr) (c b off : Nat) (cs : Nat → List Value), v = .slice A es.length c ∧ es.length * 136 ≤ 140737488351232 ∧ (0 < es.length → A = some ⟨b, off, none⟩ ∧ b < w.heap.size) ∧
    (∀ i, (cs i).length = 11) ∧ (∀ i (hi : i < es.length), RowAt w b (off + i * 11) (cs i)) ∧ ∀ i (hi : i < es.length), IsExpr w.heap.size w es[i] (cs i)
theorem IsSl.lat {es : List LExpr} {v : Value} {w w' : World} (h : IsSl es v w) (hl : Lat w w') : IsSl es v w' := by
  obtain ⟨A, c, b, off, cs, hv, hn, hA, hsz, hr, hk⟩ := h
  exact ⟨A, c, b, off, cs, hv, hn, fun h0 => ⟨(hA h0).1, Nat.lt_of_lt_of_le (hA h0).2 hl.size⟩, hsz, fun i hi => (hr i hi).below hl (hA (by omega)).2, fun i hi => (hk i hi).lat (Nat.le_refl _) hl⟩
theorem IsSl.node {es : List LExpr} {A : Option Addr} {n c : Nat} {w : World} {h : Hd} (hs : IsSl es (.slice A n c) w) (ok : h.ok) : IsExpr w.heap.size w (.mk h es) (h.cells (.slice A n c)) := by
  obtain ⟨A', c', b, off, cs, hv, hn, hA, hsz, hr, hk⟩ := hs
  injection hv with e1 e2 e3
  subst e1 e2 e3
  exact .mk h es A c b off cs ok hn hA hsz hr hk
theorem IsSl.one {w : World} {g : Nat} {t : TypeId} {e0 : LExpr} {c0 : List Value} (c : Nat) (hb : Blk w g t c0.toArray) (h0 : IsExpr w.heap.size w e0 c0) : IsSl [e0] (.slice (some ⟨g, 0, none⟩) 1 c) w := by
  have l0 := h0.len
  refine ⟨_, c, g, 0, fun _ => c0, rfl, by simp, fun _ => ⟨rfl, hb.lt⟩, fun i => l0, fun i hi => ?_, fun i hi => ?_⟩
  · match i, hi with
    | 0, _ => exact row_of_blk hb _ _ (fun j v hj => by simpa using hj)
  · match i, hi with
    | 0, _ => exact h0
theorem IsSl.two {w : World} {g : Nat} {t : TypeId} {e0 e1 : LExpr} {c0 c1 : List Value} (c : Nat) (hb : Blk w g t (c0 ++ c1).toArray) (h0 : IsExpr w.heap.size w e0 c0) (h1 : IsExpr w.heap.size w e1 c1) :
    IsSl [e0, e1] (.slice (some ⟨g, 0, none⟩) 2 c) w := by
  have l0 := h0.len
  have l1 := h1.len
  refine ⟨_, c, g, 0, fun i => if i = 0 then c0 else c1, rfl, by simp, fun _ => ⟨rfl, hb.lt⟩, fun i => by dsimp only; split <;> assumption, fun i hi => ?_, fun i hi => ?_⟩
  · match i, hi with
    | 0, _ => exact row_of_blk hb _ _ (fun j v hj => by have : j < c0.length := (List.getElem?_eq_some_iff.1 hj).1; simp only [Nat.zero_mul, Nat.add_zero, Nat.zero_add]; rw [List.getElem?_append_left this]; exact hj)
    | 1, _ => exact row_of_blk hb _ _ (fun j v hj => by rw [List.getElem?_append_right (by omega)]; simpa [l0] using hj)
  · match i, hi with
    | 0, _ => exact h0
    | 1, _ => exact h1
/-- The cells of an expression, laid open. -/
theorem IsEx.form {e : LExpr} {v : Value} {w : World} (h : IsEx e v w) : ∃ (hd : Hd) (ks : List LExpr) (A : Option Addr) (c : Nat), e = .mk hd ks ∧ v = .agg (hd.cells (.slice A ks.length c)).toArray ∧ IsSl ks (.slice A ks.length c) w ∧ hd.ok := by
  obtain ⟨cs, rfl, he⟩ := h
  cases he with
  | mk hd ks A c b off cs ok hlen hA hsz hrow hk => exact ⟨hd, ks, A, c, rfl, rfl, ⟨A, c, b, off, cs, rfl, hlen, hA, hsz, hrow, hk⟩, ok⟩
theorem IsEx.of_form {hd : Hd} {ks : List LExpr} {A : Option Addr} {n c : Nat} {w : World} (hs : IsSl ks (.slice A n c) w) (ok : hd.ok) : IsEx (.mk hd ks) (.agg (hd.cells (.slice A n c)).toArray) w := ⟨_, rfl, hs.node ok⟩
theorem IsEx.opened {hd : Hd} {ks : List LExpr} {v : Value} {w : World} (h : IsEx (.mk hd ks) v w) : ∃ (A : Option Addr) (c : Nat), v = .agg (hd.cells (.slice A ks.length c)).toArray ∧ IsSl ks (.slice A ks.length c) w ∧ IsExpr w.heap.size w (.mk hd ks) (hd.cells (.slice A ks.length c)) := by
  obtain ⟨hd', ks', A, c, e, hv, hs, ok⟩ := h.form
  cases e
  exact ⟨A, c, hv, hs, hs.node ok⟩
theorem IsSl.form {es : List LExpr} {v : Value} {w : World} (h : IsSl es v w) : ∃ (A : Option Addr) (c : Nat), v = .slice A es.length c := by
  obtain ⟨A, c, _, _, _, hv, _⟩ := h; exact ⟨A, c, hv⟩

def zero11 : Array Value := #[.int .i64 0, .int .i64 0, .int .i64 0, .string { data := #[] }, .int .i64 0, .int .i64 0, .string { data := #[] }, .int .i64 0, .string { data := #[] }, .string { data := #[] }, .slice none 0 0]
theorem zero11_size (j : Nat) (v : Value) (h : zero11[j]? = some v) : j < 11 := (Array.getElem?_eq_some_iff.1 h).1

/-- A valid expression's rows do not lie in a box that holds nothing yet. -/
theorem sep_zero {w : World} {g : Nat} {t : TypeId} (hg : Blk w g t zero11) (C : Array Value) {B : Nat} {e : LExpr} {cs : List Value} (h : IsExpr B w e cs) : (∀ k ∈ e.kids, okE k) → IsExpr B (w.setRow g C) e cs := by
  induction h with
  | mk h ks A c b off cs ok hlen hA hsz hrow hk ih =>
    intro hok
    refine .mk h ks A c b off cs ok hlen hA hsz (fun i hi => ?_) (fun i hi => ih i hi (fun k hkk => ?_))
    · have hne : b ≠ g := by
        rintro rfl
        obtain ⟨hd, kk, A', c', e1, e2, _⟩ := (hk i hi).form
        have hr := hrow i hi
        have h0 := hr 0 (.int .i64 hd.kind) (by rw [e2]; rfl)
        have h10 := hr 10 (.slice A' kk.length c') (by rw [e2]; rfl)
        rw [hg.cell] at h0 h10
        have := zero11_size _ _ h10
        have e0 : off + i * 11 = 0 := by omega
        rw [e0] at h0
        have hk0 : hd.kind = 0 := by
          have h0' : (some (Value.int .i64 0) : Option Value) = some (.int .i64 hd.kind) := h0
          injection h0' with h0'; injection h0' with _ h0'; exact h0'.symm
        have := hok ks[i] (List.getElem_mem hi)
        rw [e1, okE] at this
        have := this.1
        unfold nodeCheck at this
        rw [if_pos (by omega)] at this
        cases this
      exact fun j v hj => by rw [cell_setRow_other _ _ _ _ hne]; exact hrow i hi j v hj
    · have := hok ks[i] (List.getElem_mem hi)
      cases hki : ks[i] with
      | mk h' ks' =>
        rw [hki] at this hkk
        rw [okE] at this
        exact this.2 k hkk
theorem cells_one (h : Hd) (A : Option Addr) (n c : Nat) : (h.cells (.slice A n c)).toArray.all (·.oneCell') = true := by simp [Hd.cells, Value.oneCell']
theorem lat_setRow {B : Nat} {w : World} {g : Nat} (C : Array Value) (hg : B ≤ g) : Below B w (w.setRow g C) := below_setRow (Below.refl _ _) hg C
theorem Blk.setRow {w : World} {g : Nat} {t : TypeId} {cs : Array Value} (h : Blk w g t cs) (C : Array Value) : Blk (w.setRow g C) g t C := setRow_heap w g cs C t (0, 0) h
theorem Blk.apart {w : World} {g g' : Nat} {t : TypeId} {cs : Array Value} (h : Blk w g t cs) (C : Array Value) (hn : g ≠ g') : Blk (w.setRow g' C) g t cs := (setRow_other w g' g C hn).trans h
end

section
set_option linter.unusedSimpArgs false
set_option linter.unusedVariables false
open Go.RowKit

theorem rowAt_app {w : World} {b off : Nat} {r s : List Value} : RowAt w b off (r ++ s) ↔ RowAt w b off r ∧ RowAt w b (off + r.length) s := by
  constructor
  · refine fun h => ⟨fun j v hj => h j v ?_, fun j v hj => ?_⟩
    · rw [List.getElem?_append_left (List.getElem?_eq_some_iff.1 hj).1]; exact hj
    · have := h (r.length + j) v (by rw [List.getElem?_append_right (by omega)]; simpa using hj)
      rwa [show off + (r.length + j) = off + r.length + j from by omega] at this
  · rintro ⟨h1, h2⟩ j v hj
    by_cases hl : j < r.length
    · exact h1 j v (by rwa [List.getElem?_append_left hl] at hj)
    · rw [List.getElem?_append_right (by omega)] at hj
      have := h2 (j - r.length) v hj
      rwa [show off + r.length + (j - r.length) = off + j from by omega] at this
theorem rowAt_nil {w : World} {b off : Nat} : RowAt w b off [] := fun j v hj => by simp at hj

theorem flat_iff {w : World} {b n : Nat} : ∀ (rows : List (List Value)) (off : Nat), (∀ r ∈ rows, r.length = n) → (RowAt w b off rows.flatten ↔ ∀ (i : Nat) (hi : i < rows.length), RowAt w b (off + i * n) rows[i])
  | [], off, _ => by simp [rowAt_nil]
  | r :: rows, off, h => by
    have hr : r.length = n := h r (by simp)
    rw [List.flatten_cons, rowAt_app, flat_iff rows (off + r.length) (fun x hx => h x (by simp [hx])), hr]
    constructor
    · rintro ⟨h1, h2⟩ i hi
      cases i with
      | zero => simpa using h1
      | succ i =>
        have := h2 i (by simpa using hi)
        rw [List.getElem_cons_succ, show off + (i + 1) * n = off + n + i * n from by rw [Nat.add_mul]; omega]
        exact this
    · refine fun h' => ⟨by have := h' 0 (by simp); rw [Nat.zero_mul, Nat.add_zero] at this; exact this, fun i hi => ?_⟩
      have := h' (i + 1) (by simpa using hi)
      rwa [List.getElem_cons_succ, show off + (i + 1) * n = off + n + i * n from by rw [Nat.add_mul]; omega] at this

theorem flat_len {n : Nat} : ∀ (rows : List (List Value)), (∀ r ∈ rows, r.length = n) → rows.flatten.length = rows.length * n
  | [], _ => by simp
  | r :: rows, h => by
    rw [List.flatten_cons, List.length_append, flat_len rows (fun x hx => h x (by simp [hx])), h r (by simp), List.length_cons, Nat.add_mul]; omega

/-- What a slice that came in gives to an append. -/
theorem IsRows.news {B : Nat} {w : World} {n : Nat} {rows : List (List Value)} {ad : Addr} (h : IsRows B w n rows (some ad)) (hn : ∀ r ∈ rows, r.length = n) : ∀ j u, rows.flatten[j]? = some u → w.cell? (ad.add j) = some u := by
  intro j u hj
  have h0 : 0 < rows.length := by
    cases rows with
    | nil => simp at hj
    | cons => simp
  obtain ⟨b, off, hA, _, hr⟩ := h h0
  injection hA with hA
  subst hA
  have hadd : (⟨b, off, none⟩ : Addr).add j = ⟨b, off + j, none⟩ := by unfold Addr.add; split <;> simp_all
  rw [hadd]
  exact (flat_iff rows off hn).2 hr j u hj

/-- What an append has made reads as rows. -/
theorem ownsRow_rows {w : World} {base : Nat} {e : TypeId} {n k : Nat} {v : Value} {rows : List (List Value)} (h : w.ownsRow base e n v k rows.flatten) (hn : ∀ r ∈ rows, r.length = n) (hk : k = rows.length) :
    ∃ A c, v = .slice A rows.length c ∧ ∀ w' : World, w.heap.size ≤ w'.heap.size → (∀ k, base ≤ k → k < w.heap.size → w'.heap[k]? = w.heap[k]?) → IsRows w'.heap.size w' n rows A := by
  subst hk
  obtain ⟨hl, h | ⟨g, cap, cur, hv, hb, hg, h1, h2, h3, h4⟩⟩ := h
  · obtain ⟨hv, h0⟩ := h
    exact ⟨none, 0, by rw [h0]; exact hv, fun _ _ _ h' => by omega⟩
  · have hgl := (Array.getElem?_eq_some_iff.1 hg).1
    refine ⟨_, cap, hv, fun w' hs hk _ => ⟨g, 0, rfl, by omega, (flat_iff rows 0 hn).1 fun j u hj => ?_⟩⟩
    rw [Nat.zero_add, cell_of_row w' g j cur e (0, 0) ((hk g hb hgl).trans hg), ← Array.getElem?_toList]
    rw [← h4, List.getElem?_take] at hj
    split at hj
    · exact hj
    · cases hj

/-- An append of rows that came in to a slice of the call's own. -/
theorem append_rows {P : Program} {w : World} {ops : Array Oper} {rest : List Oper} {o : Oper} {a : Act} {Q : Exit → Act → World → Prop} (hgd : o.guard = none) (s x : Operand) (t : TypeId)
    (ho : o.op = .call { callee := .builtin .append, args := #[s, x], argTypes := #[t, t] })
    (base : Nat) (e : TypeId) (i : TypeInfo) (z : Value) (size bytes : Nat) (ht : P.underlying t = some (.slice e)) (hi : P.info? e = some i) (hz : i.zero = some z)
    (hsize : i.size = size) (hby : i.bytes = bytes) (hzs : z.cells.size = size) (hsz : 0 < size)
    (v : Value) (rows0 : List (List Value)) (hs : a.eval s = v) (hown : w.ownsRow base e size v rows0.length rows0.flatten)
    (A : Option Addr) (n c B : Nat) (rows : List (List Value)) (hx : a.eval x = .slice A n c) (hn : n = rows.length) (hnil : A = none → c = 0 ∧ n = 0) (hr : IsRows B w size rows A) (hlen : ∀ r ∈ rows, r.length = size)
    (h1 : ∀ u ∈ rows.flatten, u.oneCell' = true) (h63 : rows0.length + rows.length ≤ maxLen) (hbytes : (rows0.length + rows.length) * bytes ≤ 140737488355328) (hbase : base ≤ w.heap.size)
    (h : ∀ v' w', w'.ownsRow base e size v' (rows0 ++ rows).length (rows0 ++ rows).flatten → w.grownBy w' v.ownBlock → wpList P ops Q rest (a.put o.dst v') w') : wpList P ops Q (o :: rest) a w := by
  subst hn
  cases A with
  | none =>
    obtain ⟨rfl, h0⟩ := hnil rfl
    have hr0 : rows = [] := List.length_eq_zero_iff.1 h0
    subst hr0
    refine wpList_append_own_none hgd s x t ho base e i size ht hi v rows0.length rows0.flatten hs hown hx ?_
    exact h v w (by simpa using hown) ⟨rfl, rfl, rfl, Nat.le_refl _, fun _ _ _ => rfl⟩
  | some ad =>
    refine wpList_append_own w hgd s x t ho base e i z size bytes ht hi hz hsize hby hzs hsz v rows0.length rows0.flatten hs hown ad rows.length c rows.flatten hx (flat_len rows hlen) (hr.news hlen) h1 h63 hbytes hbase ?_
    intro v' w' g1 g2 _
    exact h v' w' (by simpa using g1) g2

theorem ownBlock_le {g n c k : Nat} (h : (Value.slice (some ⟨g, 0, none⟩) n c).ownBlock = some k) : g ≤ k := by cases h; exact Nat.le_refl _
theorem Blk.grown {w w' : World} {g : Nat} {t : TypeId} {cs : Array Value} {row : Option Nat} (h : Blk w g t cs) (hg : w.grownBy w' row) (hne : some g ≠ row) : Blk w' g t cs := (hg.block g h.lt hne).trans h
end

section
set_option linter.unusedSimpArgs false
set_option linter.unusedVariables false
open Go.RowKit

/-- A list of cells reads as an expression, all of whose rows lie in blocks of which ok holds. -/
inductive IsExprP (ok : Nat → Prop) (w : World) : LExpr → List Value → Prop where
  | mk (h : Hd) (ks : List LExpr) (A : Option Addr) (c b off : Nat) (cs : Nat → List Value) (hok : h.ok) (hlen : ks.length * 136 ≤ 140737488351232)
      (hA : 0 < ks.length → A = some ⟨b, off, none⟩ ∧ ok b)
      (hsz : ∀ i, (cs i).length = 11) (hrow : ∀ i (hi : i < ks.length), RowAt w b (off + i * 11) (cs i)) (hk : ∀ i (hi : i < ks.length), IsExprP ok w ks[i] (cs i)) :
      IsExprP ok w (.mk h ks) (h.cells (.slice A ks.length c))

theorem IsExpr.toP {B : Nat} {w : World} {e : LExpr} {cs : List Value} (h : IsExpr B w e cs) : IsExprP (· < B) w e cs := by
  induction h with
  | mk h ks A c b off cs ok hlen hA hsz hrow hk ih => exact .mk h ks A c b off cs ok hlen hA hsz hrow ih
theorem IsExprP.len {ok : Nat → Prop} {w : World} {e : LExpr} {cs : List Value} (h : IsExprP ok w e cs) : cs.length = 11 := by
  cases h; simp [Hd.cells]
theorem IsExprP.one {ok : Nat → Prop} {w : World} {e : LExpr} {cs : List Value} (h : IsExprP ok w e cs) : ∀ u ∈ cs, u.oneCell' = true := by
  cases h with
  | mk h ks A c b off cs ok hlen hA hsz hrow hk =>
    intro u hu
    have := cells_one h A ks.length c
    exact Array.all_eq_true_iff_forall_mem.1 this u (by simpa using hu)

theorem IsExprP.form {ok : Nat → Prop} {w : World} {e : LExpr} {cs : List Value} (h : IsExprP ok w e cs) : ∃ (hd : Hd) (n : Nat) (A : Option Addr) (c : Nat), cs = hd.cells (.slice A n c) := by
  cases h with
  | mk h ks A c b off cs ok hlen hA hsz hrow hk => exact ⟨h, ks.length, A, c, rfl⟩
theorem rowAt_lt {w : World} {b off : Nat} {cs : List Value} (h : RowAt w b off cs) (hl : 0 < cs.length) : b < w.heap.size := by
  have := h 0 cs[0] (List.getElem?_eq_getElem hl)
  exact World.block_lt_of_cell? w _ this
theorem rowAt_block {w w' : World} {b off : Nat} {cs : List Value} (h : RowAt w b off cs) (hb : w'.heap[b]? = w.heap[b]?) : RowAt w' b off cs :=
  fun j v hj => (World.cell?_of_block (w := w) (a := ⟨b, off + j, none⟩) hb).trans (h j v hj)

theorem IsExprP.mono {ok ok' : Nat → Prop} {w : World} {e : LExpr} {cs : List Value} (h : IsExprP ok w e cs) (hm : ∀ b, ok b → b < w.heap.size → ok' b) : IsExprP ok' w e cs := by
  induction h with
  | mk h ks A c b off cs hok hlen hA hsz hrow hk ih =>
    exact .mk h ks A c b off cs hok hlen (fun h0 => ⟨(hA h0).1, hm b (hA h0).2 (rowAt_lt (hrow 0 h0) (by rw [hsz]; omega))⟩) hsz hrow ih
theorem IsExprP.carry {ok : Nat → Prop} {w w' : World} {e : LExpr} {cs : List Value} (h : IsExprP ok w e cs) (hb : ∀ b, ok b → b < w.heap.size → w'.heap[b]? = w.heap[b]?) : IsExprP ok w' e cs := by
  induction h with
  | mk h ks A c b off cs hok hlen hA hsz hrow hk ih =>
    exact .mk h ks A c b off cs hok hlen hA hsz (fun i hi => rowAt_block (hrow i hi) (hb b (hA (by omega)).2 (rowAt_lt (hrow i hi) (by rw [hsz]; omega)))) ih
theorem IsExprP.toB {ok : Nat → Prop} {w : World} {e : LExpr} {cs : List Value} (h : IsExprP ok w e cs) {B : Nat} (hm : ∀ b, ok b → b < w.heap.size → b < B) : IsExpr B w e cs := by
  induction h with
  | mk h ks A c b off cs hok hlen hA hsz hrow hk ih =>
    exact .mk h ks A c b off cs hok hlen (fun h0 => ⟨(hA h0).1, hm b (hA h0).2 (rowAt_lt (hrow 0 h0) (by rw [hsz]; omega))⟩) hsz hrow ih
theorem IsExprP.lat {ok : Nat → Prop} {w w' : World} {e : LExpr} {cs : List Value} (h : IsExprP ok w e cs) (hl : Lat w w') : IsExprP ok w' e cs := h.carry (fun b _ hb => hl.block b hb)
theorem IsExprP.toIs {ok : Nat → Prop} {w : World} {e : LExpr} {cs : List Value} (h : IsExprP ok w e cs) : IsExpr w.heap.size w e cs := h.toB (fun _ _ hb => hb)

/-- A value that reads as an expression. -/
def Ex (ok : Nat → Prop) (e : LExpr) (v : Value) (w : World) : Prop := ∃ cs : List Value, v = .agg cs.toArray ∧ IsExprP ok w e cs
theorem Ex.lat {ok : Nat → Prop} {e : LExpr} {v : Value} {w w' : World} (h : Ex ok e v w) (hl : Lat w w') : Ex ok e v w' := by
  obtain ⟨cs, hv, he⟩ := h; exact ⟨cs, hv, he.lat hl⟩
theorem Ex.mono {ok ok' : Nat → Prop} {e : LExpr} {v : Value} {w : World} (h : Ex ok e v w) (hm : ∀ b, ok b → b < w.heap.size → ok' b) : Ex ok' e v w := by
  obtain ⟨cs, hv, he⟩ := h; exact ⟨cs, hv, he.mono hm⟩

section
variable {P : Program} {w : World}
/-- Where the slice lies that an append hands back. -/
theorem append_where (base : Nat) (t ty e : TypeId) (i : TypeInfo) (z : Value) (size bytes : Nat) (ht : P.underlying t = some (.slice e)) (hi : P.info? e = some i) (hz : i.zero = some z)
    (hsize : i.size = size) (hby : i.bytes = bytes) (hsz : 0 < size) (v : Value) (n : Nat) (xs : List Value) (hown : w.ownsRow base e size v n xs)
    (a : Addr) (m c : Nat) (hm : 0 < m) (news : List Value) (hl : news.length = m * size) (hnews : ∀ j u, news[j]? = some u → w.cell? (a.add j) = some u) (h1 : ∀ u ∈ news, u.oneCell' = true)
    (h63 : n + m ≤ maxLen) (hbytes : (n + m) * bytes ≤ 140737488355328) (v' : Value) (w' : World)
    (hr : (Builtin.append_ #[t, t] ty #[v, .slice (some a) m c]).run P w = .ok v' w') : v'.ownBlock = v.ownBlock ∨ v'.ownBlock = some w.heap.size := by
  subst hsize
  subst hby
  simp only [maxLen] at h63
  rcases hown.2 with ⟨rfl, rfl⟩ | ⟨g, cap, cur, rfl, hbg, hg, hnc, hcm, hcs, htake⟩
  · rw [run_append_nil (P := P) w t ty e i z ht hi hz a m c news hl hnews hm (by omega) (by rw [Nat.zero_add] at hbytes; omega)] at hr
    injection hr with hr _
    exact .inr (by rw [← hr]; rfl)
  · by_cases hroom : n + m ≤ cap
    · have hfit : n * i.size + news.length ≤ cur.size := by rw [hl, hcs, ← Nat.add_mul]; exact Nat.mul_le_mul_right _ hroom
      rw [run_append_room (P := P) w t ty e i ht hi g n cap cur hg a m c news hl hnews h1 hroom hfit] at hr
      injection hr with hr _
      exact .inl (by rw [← hr]; rfl)
    · have holds : ∀ j u, xs[j]? = some u → w.cell? ((⟨g, 0, none⟩ : Addr).add j) = some u := hown.cells (g := g) rfl
      rw [run_append_grow (P := P) w t ty e i z ht hi hz ⟨g, 0, none⟩ n cap xs hown.1 holds a m c news hl hnews (by omega) (by omega) (growslice_fits (by omega) hbytes)] at hr
      injection hr with hr _
      exact .inr (by rw [← hr]; rfl)
end

theorem infoExpr : (Try.prog.info? 32).map (fun i => (i.zero, i.size, i.bytes)) = some (some (.agg zero11), 11, 136) := by kernel_rfl

/-- A slice that the call itself fills with expressions. -/
def OwnEx (w : World) (base : Nat) (es : List LExpr) (v : Value) : Prop :=
  ∃ rows : List (List Value), rows.length = es.length ∧ (∀ r ∈ rows, r.length = 11) ∧ w.ownsRow base 32 11 v es.length rows.flatten ∧
    ∀ (i : Nat) (hi : i < es.length) (hr : i < rows.length), IsExprP (fun b => base ≤ b ∧ some b ≠ v.ownBlock) w es[i] rows[i]

theorem OwnEx.nil (w : World) (base : Nat) : OwnEx w base [] (.slice none 0 0) :=
  ⟨[], rfl, fun r hr => by simp at hr, World.ownsRow_nil _ _ _ _, fun i hi => by simp at hi⟩
theorem OwnEx.size {w : World} {base : Nat} {es : List LExpr} {v : Value} (h : OwnEx w base es v) : ∀ k, v.ownBlock = some k → base ≤ k ∧ k < w.heap.size := by
  obtain ⟨_, _, _, ho, _⟩ := h; exact ho.lt
/-- Nothing has turned from base on. -/
theorem OwnEx.carry {w w' : World} {base : Nat} {es : List LExpr} {v : Value} (h : OwnEx w base es v) (hb : ∀ k, base ≤ k → k < w.heap.size → w'.heap[k]? = w.heap[k]?) : OwnEx w' base es v := by
  obtain ⟨rows, h1, h2, ho, hk⟩ := h
  refine ⟨rows, h1, h2, ?_, fun i hi hr => (hk i hi hr).carry (fun b hb' hl => hb b hb'.1 hl)⟩
  obtain ⟨hl, ho | ⟨g, cap, cur, hv, hbg, hg, r⟩⟩ := ho
  · exact ⟨hl, .inl ho⟩
  · exact ⟨hl, .inr ⟨g, cap, cur, hv, hbg, (hb g hbg (Array.getElem?_eq_some_iff.1 hg).1).trans hg, r⟩⟩
theorem OwnEx.lat {w w' : World} {base : Nat} {es : List LExpr} {v : Value} (h : OwnEx w base es v) (hl : Lat w w') : OwnEx w' base es v := h.carry (fun k _ hk => hl.block k hk)
theorem OwnEx.slice {w : World} {base : Nat} {es : List LExpr} {v : Value} (h : OwnEx w base es v) : ∃ A c, v = .slice A es.length c := by
  obtain ⟨rows, h1, h2, ⟨hl, ⟨hv, h0⟩ | ⟨g, cap, cur, hv, r⟩⟩, hk⟩ := h
  · exact ⟨none, 0, by rw [h0]; exact hv⟩
  · exact ⟨_, cap, hv⟩
/-- A node with these kids. -/
theorem OwnEx.node {w : World} {base : Nat} {es : List LExpr} {A : Option Addr} {n c : Nat} (h : OwnEx w base es (.slice A n c)) (hd : Hd) (hok : hd.ok) (hlen : es.length * 136 ≤ 140737488351232) : IsExprP (base ≤ ·) w (.mk hd es) (hd.cells (.slice A n c)) := by
  obtain ⟨rows, h1, h2, ho, hk⟩ := h
  obtain ⟨A', c', hv, hr⟩ := ownsRow_rows ho h2 h1.symm
  injection hv with e1 e2 e3
  subst e1 e2 e3
  have hr0 := hr w (Nat.le_refl _) (fun _ _ _ => rfl)
  rw [h1]
  have hbase : ∀ b off, A = some ⟨b, off, none⟩ → base ≤ b := fun b off hA => by
    obtain ⟨hl, ⟨hv, h0⟩ | ⟨g, cap, cur, hv, hbg, r⟩⟩ := ho
    · injection hv with e1; rw [hA] at e1; cases e1
    · injection hv with e1; rw [hA] at e1; injection e1 with e1; injection e1 with e1; omega
  by_cases h0 : 0 < es.length
  · obtain ⟨b, off, hA, _, hrow⟩ := hr0 (by omega)
    refine .mk hd es A c b off (fun i => if h : i < rows.length then rows[i] else List.replicate 11 undef) hok hlen (fun _ => ⟨hA, hbase b off hA⟩) (fun i => ?_) (fun i hi => ?_) (fun i hi => ?_)
    · split
      · exact h2 _ (List.getElem_mem _)
      · simp
    · rw [dif_pos (by omega)]; exact hrow i (by omega)
    · rw [dif_pos (by omega)]; exact (hk i hi (by omega)).mono (fun b hb _ => hb.1)
  · have he : es = [] := List.eq_nil_of_length_eq_zero (by omega)
    subst he
    exact .mk hd [] A c 0 0 (fun _ => List.replicate 11 undef) hok hlen (fun h0 => by simp at h0) (fun _ => by simp) (fun i hi => by simp at hi) (fun i hi => by simp at hi)

/-- One expression more. -/
theorem append_ex {w : World} {ops : Array Oper} {rest : List Oper} {o : Oper} {a : Act} {Q : Exit → Act → World → Prop} (hgd : o.guard = none) (s x : Operand)
    (ho : o.op = .call { callee := .builtin .append, args := #[s, x], argTypes := #[30, 30] })
    (base : Nat) (es : List LExpr) (v : Value) (hs : a.eval s = v) (hown : OwnEx w base es v)
    (g1 c1 : Nat) (e : LExpr) (cs : List Value) (hx : a.eval x = .slice (some ⟨g1, 0, none⟩) 1 c1) (t : TypeId) (hb : Blk w g1 t cs.toArray) (he : IsExprP (fun b => base ≤ b ∧ some b ≠ v.ownBlock) w e cs)
    (hlen : (es.length + 1) * 136 ≤ 140737488351232) (hbase : base ≤ w.heap.size)
    (h : ∀ v' w', OwnEx w' base (es ++ [e]) v' → w.grownBy w' v.ownBlock → wpList Try.prog ops Q rest (a.put o.dst v') w') : wpList Try.prog ops Q (o :: rest) a w := by
  obtain ⟨rows, h1, h2, hown, hk⟩ := hown
  obtain ⟨i0, hi, hz0, hz1, hz2⟩ := info_parts infoExpr
  have hnews : ∀ j u, cs[j]? = some u → w.cell? ((⟨g1, 0, none⟩ : Addr).add j) = some u := fun j u hj => by
    have hadd : (⟨g1, 0, none⟩ : Addr).add j = ⟨g1, j, none⟩ := by unfold Addr.add; split <;> simp_all
    rw [hadd, hb.cell]; simpa using hj
  have hcl : cs.length = 1 * 11 := by rw [he.len]
  refine wpList_plain hgd fun K hK => ?_
  obtain ⟨v', w', hr, g2, g3, _⟩ := run_append_own (P := Try.prog) w base 30 o.type 32 i0 _ 11 136 Try.underlying30 hi hz0 hz1 hz2 rfl (by decide) v es.length rows.flatten hown ⟨g1, 0, none⟩ 1 c1 cs hcl hnews he.one (by simp only [maxLen]; omega) (by omega) hbase
  have hw := append_where base 30 o.type 32 i0 _ 11 136 Try.underlying30 hi hz0 hz1 hz2 (by decide) v es.length rows.flatten hown ⟨g1, 0, none⟩ 1 c1 (by decide) cs hcl hnews he.one (by simp only [maxLen]; omega) (by omega) v' w' hr
  unfold Oper.wp execOp
  simp only [ho, resolve, invoke, builtin, Sem.run_bind, Sem.run_pure, Result.andThen_ok, List.map_toArray, List.map_cons, List.map_nil, hs, hx, hr]
  refine hK _ _ (h v' w' ⟨rows ++ [cs], by simp [h1], fun r hr => ?_, by simpa using g2, fun i hi' hr' => ?_⟩ g3)
  · rcases List.mem_append.1 hr with hr | hr
    · exact h2 r hr
    · simp at hr; subst hr; exact he.len
  · have key : ∀ {e' : LExpr} {cs' : List Value}, IsExprP (fun b => base ≤ b ∧ some b ≠ v.ownBlock) w e' cs' → IsExprP (fun b => base ≤ b ∧ some b ≠ v'.ownBlock) w' e' cs' := fun {e' cs'} hx => by
      refine (hx.mono (ok' := fun b => base ≤ b ∧ some b ≠ v.ownBlock ∧ b < w.heap.size) (fun b hb hl => ⟨hb.1, hb.2, hl⟩)).carry (fun b hb hl => g3.block b hl hb.2.1) |>.mono (fun b hb _ => ⟨hb.1, fun hc => ?_⟩)
      rcases hw with hw | hw
      · rw [hw] at hc; exact hb.2.1 hc
      · rw [hw] at hc; injection hc with hc; have := hb.2.2; omega
    by_cases hlt : i < es.length
    · have := key (hk i hlt (by omega))
      simpa [List.getElem_append_left hlt, List.getElem_append_left (show i < rows.length by omega)] using this
    · have hi2 : i = es.length := by simp at hi'; omega
      subst hi2
      have := key he
      simpa [h1] using this
end

end Go.Proofs.Ytnelgblmogciiaa
