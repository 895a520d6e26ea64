/- Values that read as expressions, as slices of expressions; they last. -/
import Derived.Test.YtnelgblmogciiaaAwake1
import Derived.Test.YtnelgblmogciiaaRely3
import Derived.Laws.CopyOwn
set_option linter.unusedSimpArgs false
set_option linter.unusedVariables false
namespace Go.Proofs.Ytnelgblmogciiaa
open Go.RowKit

def IsEx (e : LExpr) (v : Value) (w : World) : Prop := ∃ cs : List Value, v = .agg cs.toArray ∧ IsExpr w.heap.size w e cs
theorem IsExpr.lat {B : Nat} {w w' : World} {e : LExpr} {cs : List Value} (h : IsExpr B w e cs) (hB : B ≤ w.heap.size) (hl : Lat w w') : IsExpr w'.heap.size w' e cs :=
  (h.mono hB).carry hl |>.mono hl.size
theorem IsEx.lat {e : LExpr} {v : Value} {w w' : World} (h : IsEx e v w) (hl : Lat w w') : IsEx e v w' := by
  obtain ⟨cs, hv, he⟩ := h
  exact ⟨cs, hv, he.lat (Nat.le_refl _) hl⟩
theorem Lat.al (w : World) (o : Obj) : Lat w (w.alloc o) := (Below.refl _ _).alloc (Nat.le_refl _) o

def IsSl (es : List LExpr) (v : Value) (w : World) : Prop :=
  ∃ (A : Option Addr) (c b off : Nat) (cs : Nat → List Value), v = .slice A es.length c ∧ es.length * 136 ≤ 140737488351232 ∧ (0 < es.length → A = some ⟨b, off, none⟩ ∧ b < w.heap.size) ∧
    (∀ i, (cs i).length = 11) ∧ (∀ i (hi : i < es.length), RowAt w b (off + i * 11) (cs i)) ∧ ∀ i (hi : i < es.length), IsExpr w.heap.size w es[i] (cs i)
theorem IsSl.lat {es : List LExpr} {v : Value} {w w' : World} (h : IsSl es v w) (hl : Lat w w') : IsSl es v w' := by
  obtain ⟨A, c, b, off, cs, hv, hn, hA, hsz, hr, hk⟩ := h
  exact ⟨A, c, b, off, cs, hv, hn, fun h0 => ⟨(hA h0).1, Nat.lt_of_lt_of_le (hA h0).2 hl.size⟩, hsz, fun i hi => (hr i hi).below hl (hA (by omega)).2, fun i hi => (hk i hi).lat (Nat.le_refl _) hl⟩
theorem IsSl.node {es : List LExpr} {A : Option Addr} {n c : Nat} {w : World} {h : Hd} (hs : IsSl es (.slice A n c) w) (ok : h.ok) : IsExpr w.heap.size w (.mk h es) (h.cells (.slice A n c)) := by
  obtain ⟨A', c', b, off, cs, hv, hn, hA, hsz, hr, hk⟩ := hs
  injection hv with e1 e2 e3
  subst e1 e2 e3
  exact .mk h es A c b off cs ok hn hA hsz hr hk
theorem IsSl.one {w : World} {g : Nat} {t : TypeId} {e0 : LExpr} {c0 : List Value} (c : Nat) (hb : Blk w g t c0.toArray) (h0 : IsExpr w.heap.size w e0 c0) : IsSl [e0] (.slice (some ⟨g, 0, none⟩) 1 c) w := by
  have l0 := h0.len
  refine ⟨_, c, g, 0, fun _ => c0, rfl, by simp, fun _ => ⟨rfl, hb.lt⟩, fun i => l0, fun i hi => ?_, fun i hi => ?_⟩
  · match i, hi with
    | 0, _ => exact row_of_blk hb _ _ (fun j v hj => by simpa using hj)
  · match i, hi with
    | 0, _ => exact h0
theorem IsSl.two {w : World} {g : Nat} {t : TypeId} {e0 e1 : LExpr} {c0 c1 : List Value} (c : Nat) (hb : Blk w g t (c0 ++ c1).toArray) (h0 : IsExpr w.heap.size w e0 c0) (h1 : IsExpr w.heap.size w e1 c1) :
    IsSl [e0, e1] (.slice (some ⟨g, 0, none⟩) 2 c) w := by
  have l0 := h0.len
  have l1 := h1.len
  refine ⟨_, c, g, 0, fun i => if i = 0 then c0 else c1, rfl, by simp, fun _ => ⟨rfl, hb.lt⟩, fun i => by dsimp only; split <;> assumption, fun i hi => ?_, fun i hi => ?_⟩
  · match i, hi with
    | 0, _ => exact row_of_blk hb _ _ (fun j v hj => by have : j < c0.length := (List.getElem?_eq_some_iff.1 hj).1; simp only [Nat.zero_mul, Nat.add_zero, Nat.zero_add]; rw [List.getElem?_append_left this]; exact hj)
    | 1, _ => exact row_of_blk hb _ _ (fun j v hj => by rw [List.getElem?_append_right (by omega)]; simpa [l0] using hj)
  · match i, hi with
    | 0, _ => exact h0
    | 1, _ => exact h1
/-- The cells of an expression, laid open. -/
theorem IsEx.form {e : LExpr} {v : Value} {w : World} (h : IsEx e v w) : ∃ (hd : Hd) (ks : List LExpr) (A : Option Addr) (c : Nat), e = .mk hd ks ∧ v = .agg (hd.cells (.slice A ks.length c)).toArray ∧ IsSl ks (.slice A ks.length c) w ∧ hd.ok := by
  obtain ⟨cs, rfl, he⟩ := h
  cases he with
  | mk hd ks A c b off cs ok hlen hA hsz hrow hk => exact ⟨hd, ks, A, c, rfl, rfl, ⟨A, c, b, off, cs, rfl, hlen, hA, hsz, hrow, hk⟩, ok⟩
theorem IsEx.of_form {hd : Hd} {ks : List LExpr} {A : Option Addr} {n c : Nat} {w : World} (hs : IsSl ks (.slice A n c) w) (ok : hd.ok) : IsEx (.mk hd ks) (.agg (hd.cells (.slice A n c)).toArray) w := ⟨_, rfl, hs.node ok⟩
theorem IsEx.opened {hd : Hd} {ks : List LExpr} {v : Value} {w : World} (h : IsEx (.mk hd ks) v w) : ∃ (A : Option Addr) (c : Nat), v = .agg (hd.cells (.slice A ks.length c)).toArray ∧ IsSl ks (.slice A ks.length c) w ∧ IsExpr w.heap.size w (.mk hd ks) (hd.cells (.slice A ks.length c)) := by
  obtain ⟨hd', ks', A, c, e, hv, hs, ok⟩ := h.form
  cases e
  exact ⟨A, c, hv, hs, hs.node ok⟩
theorem IsSl.form {es : List LExpr} {v : Value} {w : World} (h : IsSl es v w) : ∃ (A : Option Addr) (c : Nat), v = .slice A es.length c := by
  obtain ⟨A, c, _, _, _, hv, _⟩ := h; exact ⟨A, c, hv⟩

def zero11 : Array Value := #[.int .i64 0, .int .i64 0, .int .i64 0, .string { data := #[] }, .int .i64 0, .int .i64 0, .string { data := #[] }, .int .i64 0, .string { data := #[] }, .string { data := #[] }, .slice none 0 0]
theorem zero11_size (j : Nat) (v : Value) (h : zero11[j]? = some v) : j < 11 := (Array.getElem?_eq_some_iff.1 h).1

/-- A valid expression's rows do not lie in a box that holds nothing yet. -/
theorem sep_zero {w : World} {g : Nat} {t : TypeId} (hg : Blk w g t zero11) (C : Array Value) {B : Nat} {e : LExpr} {cs : List Value} (h : IsExpr B w e cs) : (∀ k ∈ e.kids, okE k) → IsExpr B (w.setRow g C) e cs := by
  induction h with
  | mk h ks A c b off cs ok hlen hA hsz hrow hk ih =>
    intro hok
    refine .mk h ks A c b off cs ok hlen hA hsz (fun i hi => ?_) (fun i hi => ih i hi (fun k hkk => ?_))
    · have hne : b ≠ g := by
        rintro rfl
        obtain ⟨hd, kk, A', c', e1, e2, _⟩ := (hk i hi).form
        have hr := hrow i hi
        have h0 := hr 0 (.int .i64 hd.kind) (by rw [e2]; rfl)
        have h10 := hr 10 (.slice A' kk.length c') (by rw [e2]; rfl)
        rw [hg.cell] at h0 h10
        have := zero11_size _ _ h10
        have e0 : off + i * 11 = 0 := by omega
        rw [e0] at h0
        have hk0 : hd.kind = 0 := by
          have h0' : (some (Value.int .i64 0) : Option Value) = some (.int .i64 hd.kind) := h0
          injection h0' with h0'; injection h0' with _ h0'; exact h0'.symm
        have := hok ks[i] (List.getElem_mem hi)
        rw [e1, okE] at this
        have := this.1
        unfold nodeCheck at this
        rw [if_pos (by omega)] at this
        cases this
      exact fun j v hj => by rw [cell_setRow_other _ _ _ _ hne]; exact hrow i hi j v hj
    · have := hok ks[i] (List.getElem_mem hi)
      cases hki : ks[i] with
      | mk h' ks' =>
        rw [hki] at this hkk
        rw [okE] at this
        exact this.2 k hkk
theorem cells_one (h : Hd) (A : Option Addr) (n c : Nat) : (h.cells (.slice A n c)).toArray.all (·.oneCell') = true := by simp [Hd.cells, Value.oneCell']
theorem lat_setRow {B : Nat} {w : World} {g : Nat} (C : Array Value) (hg : B ≤ g) : Below B w (w.setRow g C) := below_setRow (Below.refl _ _) hg C
theorem Blk.setRow {w : World} {g : Nat} {t : TypeId} {cs : Array Value} (h : Blk w g t cs) (C : Array Value) : Blk (w.setRow g C) g t C := setRow_heap w g cs C t (0, 0) h
theorem Blk.apart {w : World} {g g' : Nat} {t : TypeId} {cs : Array Value} (h : Blk w g t cs) (C : Array Value) (hn : g ≠ g') : Blk (w.setRow g' C) g t cs := (setRow_other w g' g C hn).trans h

end Go.Proofs.Ytnelgblmogciiaa
