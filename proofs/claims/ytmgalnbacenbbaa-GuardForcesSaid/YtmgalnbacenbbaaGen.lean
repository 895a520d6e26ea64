/- Loads of whole structs, rows of flat blocks, blocks known whole, appends of rows: of no one program's own. -/
import Derived.Test.YtmgalnbacenbbaaRows
import Derived.WalkKit
import Derived.WalkSpells
import Derived.WalkLawsBesides
import Derived.BigQuiet
import Derived.Lib.Hide
import Derived.Deep.QuietTactic
import Derived.Laws.CopyOwn
import Derived.Laws.AppendOwn
import Derived.Laws.AppendOwnNone
set_option linter.unusedSimpArgs false
set_option linter.unusedVariables false
namespace Go.Proofs.Ytmgalnbacenbbaa
open Go.RowKit

/-- What fits an int. -/
def I64 (n : Int) : Prop := -9223372036854775808 ≤ n ∧ n ≤ 9223372036854775807


/-- The cells from an offset of a block on are these. -/
def RowAt (w : World) (b off : Nat) (cs : List Value) : Prop := ∀ (j : Nat) (v : Value), cs[j]? = some v → w.cell? ⟨b, off + j, none⟩ = some v


theorem RowAt.below {w w' : World} {b off : Nat} {cs : List Value} {B : Nat} (h : RowAt w b off cs) (hb : Below B w w') (hB : b < B) : RowAt w' b off cs :=
  fun j v hj => (hb.cell (p := ⟨b, off + j, none⟩) hB).trans (h j v hj)


section
variable {P : Program}
theorem run_loadVar_at (w : World) (b off : Nat) (ty : TypeId) (cs : List Value) (d : TypeDesc) (h : RowAt w b off cs)
    (hu : P.underlying ty = some d) (hd : (match d with | .struct _ | .array _ _ => true | _ => false) = true) (hi : (P.info? ty).map (·.size) = some cs.length) :
    (loadVar ty ⟨b, off, none⟩).run P w = .ok (.agg cs.toArray) w := by
  have hl : (loadCells ⟨b, off, none⟩ cs.length).run P w = .ok cs.toArray w :=
    run_loadCells_list (P := P) w ⟨b, off, none⟩ cs (fun j v hv => by
      have hadd : (⟨b, off, none⟩ : Addr).add j = ⟨b, off + j, none⟩ := by unfold Addr.add; split <;> simp_all
      rw [hadd]
      exact h j v (by simpa using hv))
  cases hq : P.info? ty with
  | none => simp [hq] at hi
  | some i =>
    have hs : i.size = cs.length := by simpa [hq] using hi
    have hagg : (isAgg ty).run P w = .ok true w := by
      unfold isAgg
      rw [Sem.run_bind, run_underlying hu w]
      cases d <;> simp_all
    simp [loadVar, Sem.run_bind, hagg, sizeOf, typeInfo, hq, hs, hl]

/-- A load of a whole struct out of memory of which its cells are known. -/
theorem wp_load_at {o : Oper} {a : Act} {w : World} {K : Act → World → Prop} {Q : Exit → Act → World → Prop} (ty : TypeId) (x : Operand) (ho : o.op = .load ty x)
    (b off : Nat) (hx : a.eval x = .pointer (some ⟨b, off, none⟩)) (cs : List Value) (d : TypeDesc) (h : RowAt w b off cs)
    (hu : P.underlying ty = some d) (hd : (match d with | .struct _ | .array _ _ => true | _ => false) = true) (hi : (P.info? ty).map (·.size) = some cs.length)
    (hK : K (a.put o.dst (.agg cs.toArray)) w) : o.wp P a w K Q := by
  unfold Oper.wp execOp
  simp only [ho, hx, Instr.loadAt, Instr.sureAddr, Sem.run_bind, Sem.run_pure, Result.andThen_ok, run_loadVar_at w b off ty cs d h hu hd hi]
  exact hK

theorem wpList_load_at {ops : Array Oper} {rest : List Oper} {o : Oper} {a : Act} {w : World} {Q : Exit → Act → World → Prop} (hgd : o.guard = none) (ty : TypeId) (x : Operand) (ho : o.op = .load ty x)
    (b off : Nat) (hx : a.eval x = .pointer (some ⟨b, off, none⟩)) (cs : List Value) (d : TypeDesc) (h : RowAt w b off cs)
    (hu : P.underlying ty = some d) (hd : (match d with | .struct _ | .array _ _ => true | _ => false) = true) (hi : (P.info? ty).map (·.size) = some cs.length)
    (hK : wpList P ops Q rest (a.put o.dst (.agg cs.toArray)) w) : wpList P ops Q (o :: rest) a w :=
  wpList_plain hgd fun _ hK' => wp_load_at ty x ho b off hx cs d h hu hd hi (hK' _ _ hK)
end

theorem _root_.Go.RowKit.Below.al {a w : World} (h : Below a.heap.size a w) (o : Obj) : Below a.heap.size a (w.alloc o) := h.alloc h.size o
theorem _root_.Go.RowKit.Below.dr {a w : World} (h : Below a.heap.size a w) : Below a.heap.size a w.drew := h.drew
theorem _root_.Go.RowKit.Below.st {a w : World} (h : Below a.heap.size a w) {p : Addr} (hp : a.heap.size ≤ p.block) (v : Value) : Below a.heap.size a (w.setCell p v) := h.setCell hp v
theorem _root_.Go.RowKit.Below.th {a w w' : World} (h : Below a.heap.size a w) (h' : Below w.heap.size w w') : Below a.heap.size a w' := h.trans (h'.mono h.size)

theorem bcell {W w1 : World} (hb : Below W.heap.size W w1) : (∀ b o, b < W.heap.size → w1.cell? ⟨b, o, none⟩ = W.cell? ⟨b, o, none⟩) ∧ (∀ b o, b < W.heap.size → w1.frozen? ⟨b, o, none⟩ = W.frozen? ⟨b, o, none⟩) :=
  ⟨fun b o h => hb.cell (p := ⟨b, o, none⟩) h, fun b o h => hb.frozen (p := ⟨b, o, none⟩) h⟩

theorem bool_is {b : Bool} {P : Prop} [Decidable P] (h : (b = true) ↔ P) : b = decide P := by
  cases b with
  | true => exact (decide_eq_true (h.1 rfl)).symm
  | false => exact (decide_eq_false (fun hp => by have := h.2 hp; cases this)).symm
theorem bool_isNot {b : Bool} {P : Prop} [Decidable P] (h : (b = true) ↔ ¬ P) : b = !decide P := by
  rw [bool_is h, decide_not]

theorem toList_nil (s : ByteArray) : s.toList = [] ↔ s.size = 0 := by
  rw [ByteArray.toList_eq, ← List.length_eq_zero_iff]
  exact Iff.rfl
theorem toList_inj (a b : ByteArray) : a.toList = b.toList ↔ a = b := by
  rw [ByteArray.toList_eq, ByteArray.toList_eq]
  exact ⟨fun h => ByteArray.ext (Array.toList_inj.1 h), fun h => by rw [h]⟩
theorem toList_beq (a b : ByteArray) : (a.toList == b.toList) = decide (a = b) := by
  rw [Bool.eq_iff_iff, beq_iff_eq, decide_eq_true_iff, toList_inj]

theorem ret_int {k : IntKind} {a b : Int} (h : a = b) : Ending.returned (.int k a) = .returned (.int k b) := by rw [h]
theorem ret_bool {a b : Bool} (h : a = b) : Ending.returned (.bool a) = .returned (.bool b) := by rw [h]


/-- A slice of flat rows. -/
def IsRows (B : Nat) (w : World) (size : Nat) (rows : List (List Value)) (A : Option Addr) : Prop :=
  0 < rows.length → ∃ b off, A = some ⟨b, off, none⟩ ∧ b < B ∧ ∀ (i : Nat) (hi : i < rows.length), RowAt w b (off + i * size) rows[i]
theorem IsRows.carry {B : Nat} {w w' : World} {size : Nat} {rows : List (List Value)} {A : Option Addr} (h : IsRows B w size rows A) (hb : Below B w w') : IsRows B w' size rows A := fun h0 => by
  obtain ⟨b, off, hA, hB, hr⟩ := h h0
  exact ⟨b, off, hA, hB, fun i hi => (hr i hi).below hb hB⟩
theorem IsRows.mono {B B' : Nat} {w : World} {size : Nat} {rows : List (List Value)} {A : Option Addr} (h : IsRows B w size rows A) (hB : B ≤ B') : IsRows B' w size rows A := fun h0 => by
  obtain ⟨b, off, hA, hb, hr⟩ := h h0
  exact ⟨b, off, hA, by omega, hr⟩


def noStr : ByteArray := { data := #[] }

/-- A block known whole. -/
def Blk (w : World) (g : Nat) (t : TypeId) (cs : Array Value) : Prop := w.heap[g]? = some (.cells cs t (0, 0))
theorem Blk.lt {w : World} {g : Nat} {t : TypeId} {cs : Array Value} (h : Blk w g t cs) : g < w.heap.size := (Array.getElem?_eq_some_iff.1 h).1
theorem Blk.cell {w : World} {g : Nat} {t : TypeId} {cs : Array Value} (h : Blk w g t cs) (i : Nat) : w.cell? ⟨g, i, none⟩ = cs[i]? := cell_of_row _ _ _ _ _ _ h
theorem Blk.free {w : World} {g : Nat} {t : TypeId} {cs : Array Value} (h : Blk w g t cs) (i : Nat) : w.frozen? ⟨g, i, none⟩ = false := frozen_of_row _ _ _ _ _ h
theorem Blk.alloc {w : World} {g : Nat} {t : TypeId} {cs : Array Value} (h : Blk w g t cs) (o : Obj) : Blk (w.alloc o) g t cs := (Below.heap_alloc w o g h.lt).trans h
theorem Blk.below {w w' : World} {g : Nat} {t : TypeId} {cs : Array Value} (h : Blk w g t cs) (hb : Below w.heap.size w w') : Blk w' g t cs := (hb.block g h.lt).trans h
theorem Blk.set {w : World} {g : Nat} {t : TypeId} {cs : Array Value} (h : Blk w g t cs) (i : Nat) (u : Value) : Blk (w.setCell ⟨g, i, none⟩ u) g t (cs.setIfInBounds i u) := heap_setCell_same w g i _ t u h
theorem Blk.far {w : World} {g g' : Nat} {t : TypeId} {cs : Array Value} (h : Blk w g t cs) (hb : g ≠ g') (i : Nat) (u : Value) : Blk (w.setCell ⟨g', i, none⟩ u) g t cs := (heap_setCell_other w ⟨g', i, none⟩ g u hb).trans h
theorem Blk.new (w : World) (t : TypeId) (cs : Array Value) : Blk (w.alloc (.cells cs t)) w.heap.size t cs := heap_alloc_new w _
theorem Blk.at1 (w : World) (o : Obj) (t : TypeId) (cs : Array Value) : Blk ((w.alloc o).alloc (.cells cs t)) (w.heap.size + 1) t cs := by
  have h := heap_alloc_new (w.alloc o) (.cells cs t); rwa [World.size_alloc] at h
theorem Blk.at2 (w : World) (o1 o2 : Obj) (t : TypeId) (cs : Array Value) : Blk (((w.alloc o1).alloc o2).alloc (.cells cs t)) (w.heap.size + 1 + 1) t cs := by
  have h := heap_alloc_new ((w.alloc o1).alloc o2) (.cells cs t); rwa [World.size_alloc, World.size_alloc] at h
theorem Blk.at3 (w : World) (o1 o2 o3 : Obj) (t : TypeId) (cs : Array Value) : Blk ((((w.alloc o1).alloc o2).alloc o3).alloc (.cells cs t)) (w.heap.size + 1 + 1 + 1) t cs := by
  have h := heap_alloc_new (((w.alloc o1).alloc o2).alloc o3) (.cells cs t); rwa [World.size_alloc, World.size_alloc, World.size_alloc] at h


theorem row_of_blk {W : World} {g : Nat} {t : TypeId} {l : List Value} (h : Blk W g t l.toArray) (off : Nat) (cs : List Value) (hc : ∀ j v, cs[j]? = some v → l[off + j]? = some v) : RowAt W g off cs := fun j v hj => by
  rw [h.cell]
  simpa using hc j v hj

theorem lat_setRow {B : Nat} {w : World} {g : Nat} (C : Array Value) (hg : B ≤ g) : Below B w (w.setRow g C) := below_setRow (Below.refl _ _) hg C

theorem Blk.setRow {w : World} {g : Nat} {t : TypeId} {cs : Array Value} (h : Blk w g t cs) (C : Array Value) : Blk (w.setRow g C) g t C := setRow_heap w g cs C t (0, 0) h
theorem Blk.apart {w : World} {g g' : Nat} {t : TypeId} {cs : Array Value} (h : Blk w g t cs) (C : Array Value) (hn : g ≠ g') : Blk (w.setRow g' C) g t cs := (setRow_other w g' g C hn).trans h


theorem rowAt_app {w : World} {b off : Nat} {r s : List Value} : RowAt w b off (r ++ s) ↔ RowAt w b off r ∧ RowAt w b (off + r.length) s := by
  constructor
  · refine fun h => ⟨fun j v hj => h j v ?_, fun j v hj => ?_⟩
    · rw [List.getElem?_append_left (List.getElem?_eq_some_iff.1 hj).1]; exact hj
    · have := h (r.length + j) v (by rw [List.getElem?_append_right (by omega)]; simpa using hj)
      rwa [show off + (r.length + j) = off + r.length + j from by omega] at this
  · rintro ⟨h1, h2⟩ j v hj
    by_cases hl : j < r.length
    · exact h1 j v (by rwa [List.getElem?_append_left hl] at hj)
    · rw [List.getElem?_append_right (by omega)] at hj
      have := h2 (j - r.length) v hj
      rwa [show off + r.length + (j - r.length) = off + j from by omega] at this
theorem rowAt_nil {w : World} {b off : Nat} : RowAt w b off [] := fun j v hj => by simp at hj

theorem flat_iff {w : World} {b n : Nat} : ∀ (rows : List (List Value)) (off : Nat), (∀ r ∈ rows, r.length = n) → (RowAt w b off rows.flatten ↔ ∀ (i : Nat) (hi : i < rows.length), RowAt w b (off + i * n) rows[i])
  | [], off, _ => by simp [rowAt_nil]
  | r :: rows, off, h => by
    have hr : r.length = n := h r (by simp)
    rw [List.flatten_cons, rowAt_app, flat_iff rows (off + r.length) (fun x hx => h x (by simp [hx])), hr]
    constructor
    · rintro ⟨h1, h2⟩ i hi
      cases i with
      | zero => simpa using h1
      | succ i =>
        have := h2 i (by simpa using hi)
        rw [List.getElem_cons_succ, show off + (i + 1) * n = off + n + i * n from by rw [Nat.add_mul]; omega]
        exact this
    · refine fun h' => ⟨by have := h' 0 (by simp); rw [Nat.zero_mul, Nat.add_zero] at this; exact this, fun i hi => ?_⟩
      have := h' (i + 1) (by simpa using hi)
      rwa [List.getElem_cons_succ, show off + (i + 1) * n = off + n + i * n from by rw [Nat.add_mul]; omega] at this

theorem flat_len {n : Nat} : ∀ (rows : List (List Value)), (∀ r ∈ rows, r.length = n) → rows.flatten.length = rows.length * n
  | [], _ => by simp
  | r :: rows, h => by
    rw [List.flatten_cons, List.length_append, flat_len rows (fun x hx => h x (by simp [hx])), h r (by simp), List.length_cons, Nat.add_mul]; omega

/-- What a slice that came in gives to an append. -/
theorem IsRows.news {B : Nat} {w : World} {n : Nat} {rows : List (List Value)} {ad : Addr} (h : IsRows B w n rows (some ad)) (hn : ∀ r ∈ rows, r.length = n) : ∀ j u, rows.flatten[j]? = some u → w.cell? (ad.add j) = some u := by
  intro j u hj
  have h0 : 0 < rows.length := by
    cases rows with
    | nil => simp at hj
    | cons => simp
  obtain ⟨b, off, hA, _, hr⟩ := h h0
  injection hA with hA
  subst hA
  have hadd : (⟨b, off, none⟩ : Addr).add j = ⟨b, off + j, none⟩ := by unfold Addr.add; split <;> simp_all
  rw [hadd]
  exact (flat_iff rows off hn).2 hr j u hj

/-- What an append has made reads as rows. -/
theorem ownsRow_rows {w : World} {base : Nat} {e : TypeId} {n k : Nat} {v : Value} {rows : List (List Value)} (h : w.ownsRow base e n v k rows.flatten) (hn : ∀ r ∈ rows, r.length = n) (hk : k = rows.length) :
    ∃ A c, v = .slice A rows.length c ∧ ∀ w' : World, w.heap.size ≤ w'.heap.size → (∀ k, base ≤ k → k < w.heap.size → w'.heap[k]? = w.heap[k]?) → IsRows w'.heap.size w' n rows A := by
  subst hk
  obtain ⟨hl, h | ⟨g, cap, cur, hv, hb, hg, h1, h2, h3, h4⟩⟩ := h
  · obtain ⟨hv, h0⟩ := h
    exact ⟨none, 0, by rw [h0]; exact hv, fun _ _ _ h' => by omega⟩
  · have hgl := (Array.getElem?_eq_some_iff.1 hg).1
    refine ⟨_, cap, hv, fun w' hs hk _ => ⟨g, 0, rfl, by omega, (flat_iff rows 0 hn).1 fun j u hj => ?_⟩⟩
    rw [Nat.zero_add, cell_of_row w' g j cur e (0, 0) ((hk g hb hgl).trans hg), ← Array.getElem?_toList]
    rw [← h4, List.getElem?_take] at hj
    split at hj
    · exact hj
    · cases hj

/-- An append of rows that came in to a slice of the call's own. -/
theorem append_rows {P : Program} {w : World} {ops : Array Oper} {rest : List Oper} {o : Oper} {a : Act} {Q : Exit → Act → World → Prop} (hgd : o.guard = none) (s x : Operand) (t : TypeId)
    (ho : o.op = .call { callee := .builtin .append, args := #[s, x], argTypes := #[t, t] })
    (base : Nat) (e : TypeId) (i : TypeInfo) (z : Value) (size bytes : Nat) (ht : P.underlying t = some (.slice e)) (hi : P.info? e = some i) (hz : i.zero = some z)
    (hsize : i.size = size) (hby : i.bytes = bytes) (hzs : z.cells.size = size) (hsz : 0 < size)
    (v : Value) (rows0 : List (List Value)) (hs : a.eval s = v) (hown : w.ownsRow base e size v rows0.length rows0.flatten)
    (A : Option Addr) (n c B : Nat) (rows : List (List Value)) (hx : a.eval x = .slice A n c) (hn : n = rows.length) (hnil : A = none → c = 0 ∧ n = 0) (hr : IsRows B w size rows A) (hlen : ∀ r ∈ rows, r.length = size)
    (h1 : ∀ u ∈ rows.flatten, u.oneCell' = true) (h63 : rows0.length + rows.length ≤ maxLen) (hbytes : (rows0.length + rows.length) * bytes ≤ 140737488355328) (hbase : base ≤ w.heap.size)
    (h : ∀ v' w', w'.ownsRow base e size v' (rows0 ++ rows).length (rows0 ++ rows).flatten → w.grownBy w' v.ownBlock → wpList P ops Q rest (a.put o.dst v') w') : wpList P ops Q (o :: rest) a w := by
  subst hn
  cases A with
  | none =>
    obtain ⟨rfl, h0⟩ := hnil rfl
    have hr0 : rows = [] := List.length_eq_zero_iff.1 h0
    subst hr0
    refine wpList_append_own_none hgd s x t ho base e i size ht hi v rows0.length rows0.flatten hs hown hx ?_
    exact h v w (by simpa using hown) ⟨rfl, rfl, rfl, Nat.le_refl _, fun _ _ _ => rfl⟩
  | some ad =>
    refine wpList_append_own w hgd s x t ho base e i z size bytes ht hi hz hsize hby hzs hsz v rows0.length rows0.flatten hs hown ad rows.length c rows.flatten hx (flat_len rows hlen) (hr.news hlen) h1 h63 hbytes hbase ?_
    intro v' w' g1 g2 _
    exact h v' w' (by simpa using g1) g2

theorem ownBlock_le {g n c k : Nat} (h : (Value.slice (some ⟨g, 0, none⟩) n c).ownBlock = some k) : g ≤ k := by cases h; exact Nat.le_refl _
theorem Blk.grown {w w' : World} {g : Nat} {t : TypeId} {cs : Array Value} {row : Option Nat} (h : Blk w g t cs) (hg : w.grownBy w' row) (hne : some g ≠ row) : Blk w' g t cs := (hg.block g h.lt hne).trans h


end Go.Proofs.Ytmgalnbacenbbaa
