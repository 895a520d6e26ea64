/- The law package's small functions. Values that read as expressions, as slices of expressions; they last. Rows laid one behind the other; slices that the call has made read as rows. -/
import Derived.Test.YtafodibbcfoclaaGreatEvFindZ
import Derived.Test.YtafodibbcfoclaaGreatEvRelys
import Derived.Laws.CopyOwn
import Derived.Laws.AppendOwn
import Derived.Laws.AppendOwnNone
namespace Go.Proofs.YtafodibbcfoclaaGreat.Ev
section
set_option linter.unusedSimpArgs false
set_option linter.unusedVariables false
open Go.RowKit

/-- A boolean literal. -/
def litH (n : Int) : Hd := ⟨1, 0, 0, noStr, 1, n, noStr, 0, noStr, noStr⟩
/-- A node with kids and nothing else. -/
def bareH (k : Int) : Hd := ⟨k, 0, 0, noStr, 0, 0, noStr, 0, noStr, noStr⟩
theorem litH_ok {n : Int} (h : I64 n) : (litH n).ok := by constructor <;> first | exact h | (unfold I64 litH; simp)
theorem bareH_ok {n : Int} (h : I64 n) : (bareH n).ok := by constructor <;> first | exact h | (unfold I64 bareH; simp)

/-- A leaf reads as an expression wherever it lies. -/
theorem leaf_is (B : Nat) (W : World) (h : Hd) (ok : h.ok) (A : Option Addr) (c : Nat) : IsExpr B W (.mk h []) (h.cells (.slice A 0 c)) :=
  .mk h [] A c 0 0 (fun _ => List.replicate 11 undef) ok (by simp) (fun h0 => by simp at h0) (fun _ => by simp) (fun i hi => by simp at hi) (fun i hi => by simp at hi)
theorem row_of_blk {W : World} {g : Nat} {t : TypeId} {l : List Value} (h : Blk W g t l.toArray) (off : Nat) (cs : List Value) (hc : ∀ j v, cs[j]? = some v → l[off + j]? = some v) : RowAt W g off cs := fun j v hj => by
  rw [h.cell]
  simpa using hc j v hj
theorem pair_is {B : Nat} {W : World} {h : Hd} (ok : h.ok) {g : Nat} {t : TypeId} {e0 e1 : LExpr} {c0 c1 : List Value} (c : Nat) (hb : Blk W g t (c0 ++ c1).toArray) (hg : g < B) (h0 : IsExpr B W e0 c0) (h1 : IsExpr B W e1 c1) :
    IsExpr B W (.mk h [e0, e1]) (h.cells (.slice (some ⟨g, 0, none⟩) 2 c)) := by
  have l0 := h0.len
  have l1 := h1.len
  refine .mk h [e0, e1] _ c g 0 (fun i => if i = 0 then c0 else c1) ok (by simp) (fun _ => ⟨rfl, hg⟩) (fun i => by split <;> assumption) (fun i hi => ?_) (fun i hi => ?_)
  · match i, hi with
    | 0, _ => exact row_of_blk hb _ _ (fun j v hj => by have : j < c0.length := (List.getElem?_eq_some_iff.1 hj).1; simp only [Nat.zero_mul, Nat.add_zero, Nat.zero_add]; rw [List.getElem?_append_left this]; exact hj)
    | 1, _ => exact row_of_blk hb _ _ (fun j v hj => by rw [List.getElem?_append_right (by omega)]; simpa [l0] using hj)
  · match i, hi with
    | 0, _ => exact h0
    | 1, _ => exact h1
theorem triple_is {B : Nat} {W : World} {h : Hd} (ok : h.ok) {g : Nat} {t : TypeId} {e0 e1 e2 : LExpr} {c0 c1 c2 : List Value} (c : Nat) (hb : Blk W g t (c0 ++ (c1 ++ c2)).toArray) (hg : g < B) (h0 : IsExpr B W e0 c0) (h1 : IsExpr B W e1 c1) (h2 : IsExpr B W e2 c2) :
    IsExpr B W (.mk h [e0, e1, e2]) (h.cells (.slice (some ⟨g, 0, none⟩) 3 c)) := by
  have l0 := h0.len
  have l1 := h1.len
  have l2 := h2.len
  refine .mk h [e0, e1, e2] _ c g 0 (fun i => if i = 0 then c0 else if i = 1 then c1 else c2) ok (by simp) (fun _ => ⟨rfl, hg⟩) (fun i => by split; assumption; split <;> assumption) (fun i hi => ?_) (fun i hi => ?_)
  · match i, hi with
    | 0, _ => exact row_of_blk hb _ _ (fun j v hj => by have : j < c0.length := (List.getElem?_eq_some_iff.1 hj).1; simp only [Nat.zero_mul, Nat.add_zero, Nat.zero_add]; rw [List.getElem?_append_left this]; exact hj)
    | 1, _ => exact row_of_blk hb _ _ (fun j v hj => by have : j < c1.length := (List.getElem?_eq_some_iff.1 hj).1; rw [List.getElem?_append_right (by omega), List.getElem?_append_left (by omega)]; simpa [l0] using hj)
    | 2, _ => exact row_of_blk hb _ _ (fun j v hj => by rw [List.getElem?_append_right (by omega), List.getElem?_append_right (by omega)]; have e : 0 + 2 * 11 + j - c0.length - c1.length = j := by omega
                                                        rw [e]; exact hj)
  · match i, hi with
    | 0, _ => exact h0
    | 1, _ => exact h1
    | 2, _ => exact h2

def onoff : ByteArray := { data := #[111, 110, 111, 102, 102] }
def onStr : ByteArray := { data := #[111, 110] }
def dayStr : ByteArray := { data := #[100, 97, 121] }
def attrH : Hd := ⟨2, 0, 0, noStr, 0, 0, noStr, 1, onoff, onStr⟩
theorem attrH_ok : attrH.ok := by constructor <;> (unfold I64 attrH; simp)
def view0 : LView := ⟨[], dayStr, 0, []⟩
theorem view0_is (B : Nat) (W : World) (A A' : Option Addr) (c c' : Nat) : IsView B W view0 [.slice A 0 c, .string dayStr, .int .i64 0, .slice A' 0 c'] :=
  ⟨A, c, A', c', rfl, fun h => by simp [view0] at h, fun h => by simp [view0] at h, by unfold I64; decide, by decide, by decide⟩

theorem ground1 : evalE view0 (.mk (bareH 7) [.mk attrH [], .mk (litH 0) []]) = truthE false := by kernel_rfl
theorem ground2 : evalE view0 (.mk (bareH 8) [.mk attrH [], .mk (litH 0) []]) = unknownE := by kernel_rfl
theorem ground3 : isTrue (evalE view0 (.mk ⟨4, 1320, 360, noStr, 0, 0, noStr, 0, noStr, noStr⟩ [])) = true := by kernel_rfl
theorem ground4 : isTrue (evalE view0 (.mk ⟨5, 32, 0, noStr, 0, 0, noStr, 0, noStr, noStr⟩ [])) = true := by kernel_rfl
theorem ground5 : isTrue (evalE view0 (.mk ⟨5, 31, 0, noStr, 0, 0, noStr, 0, noStr, noStr⟩ [])) = false := by kernel_rfl
theorem ground6 : isTrue (evalE view0 (.mk ⟨3, 0, 0, dayStr, 0, 0, noStr, 0, noStr, noStr⟩ [])) = true := by kernel_rfl
theorem ground7 : isTrue (evalE view0 (.mk (bareH 14) [.mk (litH 1) [], .mk (litH 1) [], .mk attrH []])) = true := by kernel_rfl
end
end Go.Proofs.YtafodibbcfoclaaGreat.Ev

namespace Go.Proofs.YtafodibbcfoclaaGreat.Ev
section
set_option linter.unusedSimpArgs false
set_option linter.unusedVariables false
open Go.RowKit

def IsEx (e : LExpr) (v : Value) (w : World) : Prop := ∃ cs : List Value, v = .agg cs.toArray ∧ IsExpr w.heap.size w e cs
theorem IsExpr.lat {B : Nat} {w w' : World} {e : LExpr} {cs : List Value} (h : IsExpr B w e cs) (hB : B ≤ w.heap.size) (hl : Lat w w') : IsExpr w'.heap.size w' e cs :=
  (h.mono hB).carry hl |>.mono hl.size
theorem IsEx.lat {e : LExpr} {v : Value} {w w' : World} (h : IsEx e v w) (hl : Lat w w') : IsEx e v w' := by
  obtain ⟨cs, hv, he⟩ := h
  exact ⟨cs, hv, he.lat (Nat.le_refl _) hl⟩
theorem Lat.al (w : World) (o : Obj) : Lat w (w.alloc o) := (Below.refl _ _).alloc (Nat.le_refl _) o

def IsSl (es : List LExpr) (v : Value) (w : World) : Prop :=
  ∃ (A : Option Addr) (c b off : Nat) (cs : Nat → List Value), v = .slice A es.length c ∧ es.length * 136 ≤ 140737488351232 ∧ (0 < es.length → A = some ⟨b, off, none⟩ ∧ b < w.heap.size) ∧
    (∀ i, (cs i).length = 11) ∧ (∀ i (hi : i < es.length), RowAt w b (off + i * 11) (cs i)) ∧ ∀ i (hi : i < es.length), IsExpr w.heap.size w es[i] (cs i)
theorem IsSl.lat {es : List LExpr} {v : Value} {w w' : World} (h : IsSl es v w) (hl : Lat w w') : IsSl es v w' := by
  obtain ⟨A, c, b, off, cs, hv, hn, hA, hsz, hr, hk⟩ := h
  exact ⟨A, c, b, off, cs, hv, hn, fun h0 => ⟨(hA h0).1, Nat.lt_of_lt_of_le (hA h0).2 hl.size⟩, hsz, fun i hi => (hr i hi).below hl (hA (by omega)).2, fun i hi => (hk i hi).lat (Nat.le_refl _) hl⟩
theorem IsSl.node {es : List LExpr} {A : Option Addr} {n c : Nat} {w : World} {h : Hd} (hs : IsSl es (.slice A n c) w) (ok : h.ok) : IsExpr w.heap.size w (.mk h es) (h.cells (.slice A n c)) := by
  obtain ⟨A', c', b, off, cs, hv, hn, hA, hsz, hr, hk⟩ := hs
  injection hv with e1 e2 e3
  subst e1 e2 e3
  exact .mk h es A c b off cs ok hn hA hsz hr hk
theorem IsSl.one {w : World} {g : Nat} {t : TypeId} {e0 : LExpr} {c0 : List Value} (c : Nat) (hb : Blk w g t c0.toArray) (h0 : IsExpr w.heap.size w e0 c0) : IsSl [e0] (.slice (some ⟨g, 0, none⟩) 1 c) w := by
  have l0 := h0.len
  refine ⟨_, c, g, 0, fun _ => c0, rfl, by simp, fun _ => ⟨rfl, hb.lt⟩, fun i => l0, fun i hi => ?_, fun i hi => ?_⟩
  · match i, hi with
    | 0, _ => exact row_of_blk hb _ _ (fun j v hj => by simpa using hj)
  · match i, hi with
    | 0, _ => exact h0
theorem IsSl.two {w : World} {g : Nat} {t : TypeId} {e0 e1 : LExpr} {c0 c1 : List Value} (c : Nat) (hb : Blk w g t (c0 ++ c1).toArray) (h0 : IsExpr w.heap.size w e0 c0) (h1 : IsExpr w.heap.size w e1 c1) :
    IsSl [e0, e1] (.slice (some ⟨g, 0, none⟩) 2 c) w := by
  have l0 := h0.len
  have l1 := h1.len
  refine ⟨_, c, g, 0, fun i => if i = 0 then c0 else c1, rfl, by simp, fun _ => ⟨rfl, hb.lt⟩, fun i => by dsimp only; split <;> assumption, fun i hi => ?_, fun i hi => ?_⟩
  · match i, hi with
    | 0, _ => exact row_of_blk hb _ _ (fun j v hj => by have : j < c0.length := (List.getElem?_eq_some_iff.1 hj).1; simp only [Nat.zero_mul, Nat.add_zero, Nat.zero_add]; rw [List.getElem?_append_left this]; exact hj)
    | 1, _ => exact row_of_blk hb _ _ (fun j v hj => by rw [List.getElem?_append_right (by omega)]; simpa [l0] using hj)
  · match i, hi with
    | 0, _ => exact h0
    | 1, _ => exact h1
/-- The cells of an expression, laid open. -/
theorem IsEx.form {e : LExpr} {v : Value} {w : World} (h : IsEx e v w) : ∃ (hd : Hd) (ks : List LExpr) (A : Option Addr) (c : Nat), e = .mk hd ks ∧ v = .agg (hd.cells (.slice A ks.length c)).toArray ∧ IsSl ks (.slice A ks.length c) w ∧ hd.ok := by
  obtain ⟨cs, rfl, he⟩ := h
  cases he with
  | mk hd ks A c b off cs ok hlen hA hsz hrow hk => exact ⟨hd, ks, A, c, rfl, rfl, ⟨A, c, b, off, cs, rfl, hlen, hA, hsz, hrow, hk⟩, ok⟩
theorem IsEx.of_form {hd : Hd} {ks : List LExpr} {A : Option Addr} {n c : Nat} {w : World} (hs : IsSl ks (.slice A n c) w) (ok : hd.ok) : IsEx (.mk hd ks) (.agg (hd.cells (.slice A n c)).toArray) w := ⟨_, rfl, hs.node ok⟩
theorem IsEx.opened {hd : Hd} {ks : List LExpr} {v : Value} {w : World} (h : IsEx (.mk hd ks) v w) : ∃ (A : Option Addr) (c : Nat), v = .agg (hd.cells (.slice A ks.length c)).toArray ∧ IsSl ks (.slice A ks.length c) w ∧ IsExpr w.heap.size w (.mk hd ks) (hd.cells (.slice A ks.length c)) := by
  obtain ⟨hd', ks', A, c, e, hv, hs, ok⟩ := h.form
  cases e
  exact ⟨A, c, hv, hs, hs.node ok⟩
theorem IsSl.form {es : List LExpr} {v : Value} {w : World} (h : IsSl es v w) : ∃ (A : Option Addr) (c : Nat), v = .slice A es.length c := by
  obtain ⟨A, c, _, _, _, hv, _⟩ := h; exact ⟨A, c, hv⟩

def zero11 : Array Value := #[.int .i64 0, .int .i64 0, .int .i64 0, .string { data := #[] }, .int .i64 0, .int .i64 0, .string { data := #[] }, .int .i64 0, .string { data := #[] }, .string { data := #[] }, .slice none 0 0]
theorem zero11_size (j : Nat) (v : Value) (h : zero11[j]? = some v) : j < 11 := (Array.getElem?_eq_some_iff.1 h).1

/-- A valid expression's rows do not lie in a box that holds nothing yet. -/
theorem sep_zero {w : World} {g : Nat} {t : TypeId} (hg : Blk w g t zero11) (C : Array Value) {B : Nat} {e : LExpr} {cs : List Value} (h : IsExpr B w e cs) : (∀ k ∈ e.kids, okE k) → IsExpr B (w.setRow g C) e cs := by
  induction h with
  | mk h ks A c b off cs ok hlen hA hsz hrow hk ih =>
    intro hok
    refine .mk h ks A c b off cs ok hlen hA hsz (fun i hi => ?_) (fun i hi => ih i hi (fun k hkk => ?_))
    · have hne : b ≠ g := by
        rintro rfl
        obtain ⟨hd, kk, A', c', e1, e2, _⟩ := (hk i hi).form
        have hr := hrow i hi
        have h0 := hr 0 (.int .i64 hd.kind) (by rw [e2]; rfl)
        have h10 := hr 10 (.slice A' kk.length c') (by rw [e2]; rfl)
        rw [hg.cell] at h0 h10
        have := zero11_size _ _ h10
        have e0 : off + i * 11 = 0 := by omega
        rw [e0] at h0
        have hk0 : hd.kind = 0 := by
          have h0' : (some (Value.int .i64 0) : Option Value) = some (.int .i64 hd.kind) := h0
          injection h0' with h0'; injection h0' with _ h0'; exact h0'.symm
        have := hok ks[i] (List.getElem_mem hi)
        rw [e1, okE] at this
        have := this.1
        unfold nodeCheck at this
        rw [if_pos (by omega)] at this
        cases this
      exact fun j v hj => by rw [cell_setRow_other _ _ _ _ hne]; exact hrow i hi j v hj
    · have := hok ks[i] (List.getElem_mem hi)
      cases hki : ks[i] with
      | mk h' ks' =>
        rw [hki] at this hkk
        rw [okE] at this
        exact this.2 k hkk
theorem cells_one (h : Hd) (A : Option Addr) (n c : Nat) : (h.cells (.slice A n c)).toArray.all (·.oneCell') = true := by simp [Hd.cells, Value.oneCell']
theorem lat_setRow {B : Nat} {w : World} {g : Nat} (C : Array Value) (hg : B ≤ g) : Below B w (w.setRow g C) := below_setRow (Below.refl _ _) hg C
theorem Blk.setRow {w : World} {g : Nat} {t : TypeId} {cs : Array Value} (h : Blk w g t cs) (C : Array Value) : Blk (w.setRow g C) g t C := setRow_heap w g cs C t (0, 0) h
theorem Blk.apart {w : World} {g g' : Nat} {t : TypeId} {cs : Array Value} (h : Blk w g t cs) (C : Array Value) (hn : g ≠ g') : Blk (w.setRow g' C) g t cs := (setRow_other w g' g C hn).trans h
end
end Go.Proofs.YtafodibbcfoclaaGreat.Ev

namespace Go.Proofs.YtafodibbcfoclaaGreat.Ev
section
set_option linter.unusedSimpArgs false
set_option linter.unusedVariables false
open Go.RowKit

theorem rowAt_app {w : World} {b off : Nat} {r s : List Value} : RowAt w b off (r ++ s) ↔ RowAt w b off r ∧ RowAt w b (off + r.length) s := by
  constructor
  · refine fun h => ⟨fun j v hj => h j v ?_, fun j v hj => ?_⟩
    · rw [List.getElem?_append_left (List.getElem?_eq_some_iff.1 hj).1]; exact hj
    · have := h (r.length + j) v (by rw [List.getElem?_append_right (by omega)]; simpa using hj)
      rwa [show off + (r.length + j) = off + r.length + j from by omega] at this
  · rintro ⟨h1, h2⟩ j v hj
    by_cases hl : j < r.length
    · exact h1 j v (by rwa [List.getElem?_append_left hl] at hj)
    · rw [List.getElem?_append_right (by omega)] at hj
      have := h2 (j - r.length) v hj
      rwa [show off + r.length + (j - r.length) = off + j from by omega] at this
theorem rowAt_nil {w : World} {b off : Nat} : RowAt w b off [] := fun j v hj => by simp at hj

theorem flat_iff {w : World} {b n : Nat} : ∀ (rows : List (List Value)) (off : Nat), (∀ r ∈ rows, r.length = n) → (RowAt w b off rows.flatten ↔ ∀ (i : Nat) (hi : i < rows.length), RowAt w b (off + i * n) rows[i])
  | [], off, _ => by simp [rowAt_nil]
  | r :: rows, off, h => by
    have hr : r.length = n := h r (by simp)
    rw [List.flatten_cons, rowAt_app, flat_iff rows (off + r.length) (fun x hx => h x (by simp [hx])), hr]
    constructor
    · rintro ⟨h1, h2⟩ i hi
      cases i with
      | zero => simpa using h1
      | succ i =>
        have := h2 i (by simpa using hi)
        rw [List.getElem_cons_succ, show off + (i + 1) * n = off + n + i * n from by rw [Nat.add_mul]; omega]
        exact this
    · refine fun h' => ⟨by have := h' 0 (by simp); rw [Nat.zero_mul, Nat.add_zero] at this; exact this, fun i hi => ?_⟩
      have := h' (i + 1) (by simpa using hi)
      rwa [List.getElem_cons_succ, show off + (i + 1) * n = off + n + i * n from by rw [Nat.add_mul]; omega] at this

theorem flat_len {n : Nat} : ∀ (rows : List (List Value)), (∀ r ∈ rows, r.length = n) → rows.flatten.length = rows.length * n
  | [], _ => by simp
  | r :: rows, h => by
    rw [List.flatten_cons, List.length_append, flat_len rows (fun x hx => h x (by simp [hx])), h r (by simp), List.length_cons, Nat.add_mul]; omega

/-- What a slice that came in gives to an append. -/
theorem IsRows.news {B : Nat} {w : World} {n : Nat} {rows : List (List Value)} {ad : Addr} (h : IsRows B w n rows (some ad)) (hn : ∀ r ∈ rows, r.length = n) : ∀ j u, rows.flatten[j]? = some u → w.cell? (ad.add j) = some u := by
  intro j u hj
  have h0 : 0 < rows.length := by
    cases rows with
    | nil => simp at hj
    | cons => simp
  obtain ⟨b, off, hA, _, hr⟩ := h h0
  injection hA with hA
  subst hA
  have hadd : (⟨b, off, none⟩ : Addr).add j = ⟨b, off + j, none⟩ := by unfold Addr.add; split <;> simp_all
  rw [hadd]
  exact (flat_iff rows off hn).2 hr j u hj

/-- What an append has made reads as rows. -/
theorem ownsRow_rows {w : World} {base : Nat} {e : TypeId} {n k : Nat} {v : Value} {rows : List (List Value)} (h : w.ownsRow base e n v k rows.flatten) (hn : ∀ r ∈ rows, r.length = n) (hk : k = rows.length) :
    ∃ A c, v = .slice A rows.length c ∧ ∀ w' : World, w.heap.size ≤ w'.heap.size → (∀ k, base ≤ k → k < w.heap.size → w'.heap[k]? = w.heap[k]?) → IsRows w'.heap.size w' n rows A := by
  subst hk
  obtain ⟨hl, h | ⟨g, cap, cur, hv, hb, hg, h1, h2, h3, h4⟩⟩ := h
  · obtain ⟨hv, h0⟩ := h
    exact ⟨none, 0, by rw [h0]; exact hv, fun _ _ _ h' => by omega⟩
  · have hgl := (Array.getElem?_eq_some_iff.1 hg).1
    refine ⟨_, cap, hv, fun w' hs hk _ => ⟨g, 0, rfl, by omega, (flat_iff rows 0 hn).1 fun j u hj => ?_⟩⟩
    rw [Nat.zero_add, cell_of_row w' g j cur e (0, 0) ((hk g hb hgl).trans hg), ← Array.getElem?_toList]
    rw [← h4, List.getElem?_take] at hj
    split at hj
    · exact hj
    · cases hj

/-- An append of rows that came in to a slice of the call's own. -/
theorem append_rows {P : Program} {w : World} {ops : Array Oper} {rest : List Oper} {o : Oper} {a : Act} {Q : Exit → Act → World → Prop} (hgd : o.guard = none) (s x : Operand) (t : TypeId)
    (ho : o.op = .call { callee := .builtin .append, args := #[s, x], argTypes := #[t, t] })
    (base : Nat) (e : TypeId) (i : TypeInfo) (z : Value) (size bytes : Nat) (ht : P.underlying t = some (.slice e)) (hi : P.info? e = some i) (hz : i.zero = some z)
    (hsize : i.size = size) (hby : i.bytes = bytes) (hzs : z.cells.size = size) (hsz : 0 < size)
    (v : Value) (rows0 : List (List Value)) (hs : a.eval s = v) (hown : w.ownsRow base e size v rows0.length rows0.flatten)
    (A : Option Addr) (n c B : Nat) (rows : List (List Value)) (hx : a.eval x = .slice A n c) (hn : n = rows.length) (hnil : A = none → c = 0 ∧ n = 0) (hr : IsRows B w size rows A) (hlen : ∀ r ∈ rows, r.length = size)
    (h1 : ∀ u ∈ rows.flatten, u.oneCell' = true) (h63 : rows0.length + rows.length ≤ maxLen) (hbytes : (rows0.length + rows.length) * bytes ≤ 140737488355328) (hbase : base ≤ w.heap.size)
    (h : ∀ v' w', w'.ownsRow base e size v' (rows0 ++ rows).length (rows0 ++ rows).flatten → w.grownBy w' v.ownBlock → wpList P ops Q rest (a.put o.dst v') w') : wpList P ops Q (o :: rest) a w := by
  subst hn
  cases A with
  | none =>
    obtain ⟨rfl, h0⟩ := hnil rfl
    have hr0 : rows = [] := List.length_eq_zero_iff.1 h0
    subst hr0
    refine wpList_append_own_none hgd s x t ho base e i size ht hi v rows0.length rows0.flatten hs hown hx ?_
    exact h v w (by simpa using hown) ⟨rfl, rfl, rfl, Nat.le_refl _, fun _ _ _ => rfl⟩
  | some ad =>
    refine wpList_append_own w hgd s x t ho base e i z size bytes ht hi hz hsize hby hzs hsz v rows0.length rows0.flatten hs hown ad rows.length c rows.flatten hx (flat_len rows hlen) (hr.news hlen) h1 h63 hbytes hbase ?_
    intro v' w' g1 g2 _
    exact h v' w' (by simpa using g1) g2

theorem ownBlock_le {g n c k : Nat} (h : (Value.slice (some ⟨g, 0, none⟩) n c).ownBlock = some k) : g ≤ k := by cases h; exact Nat.le_refl _
theorem Blk.grown {w w' : World} {g : Nat} {t : TypeId} {cs : Array Value} {row : Option Nat} (h : Blk w g t cs) (hg : w.grownBy w' row) (hne : some g ≠ row) : Blk w' g t cs := (hg.block g h.lt hne).trans h
end
end Go.Proofs.YtafodibbcfoclaaGreat.Ev
