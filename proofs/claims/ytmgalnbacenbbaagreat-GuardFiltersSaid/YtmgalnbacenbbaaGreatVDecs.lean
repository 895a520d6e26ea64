/- Guard: decisions in memory. Resolve: decisions that the call itself fills. Resolve: Equal, Same, Winners. Guard: decisions whose list is the call's own and whose losers are read whatever the list's block holds. -/
import Derived.Test.YtmgalnbacenbbaaGreatGOps
import Derived.Deep.AppendLies
import Derived.Deep.RegionLaw
import Derived.Deep.DeepCutAuto
namespace Go.Proofs.YtmgalnbacenbbaaGreat
section
set_option linter.unusedSimpArgs false
set_option linter.unusedVariables false
open Go.RowKit

/-- A decision's cells. -/
structure DR where
  key : LKey
  win : LW
  A : Option Addr
  n : Nat
  c : Nat
  err : Int
def DR.cells (d : DR) : List Value := kC d.key ++ wC d.win ++ [.slice d.A d.n d.c, .int .i64 d.err]
theorem infoD : (Tryz.prog.info? 48).map (fun i => (i.zero, i.size, i.bytes)) = some (some (.agg #[.int .i64 0, .string { data := #[] }, .string { data := #[] }, .int .i64 0, .string { data := #[] }, .string { data := #[] }, .int .i64 0, .int .i64 0, .string { data := #[] }, .int .i64 0, .string { data := #[] }, .int .i64 0, .int .i64 0, .slice none 0 0, .int .i64 0]), 15, 184) := by kernel_rfl
/-- Decisions. -/
noncomputable def ED : Elt DR where
  e := 48
  t := 24
  n := 15
  bytes := 184
  f := DR.cells
  i := (info_parts infoD).choose
  z := _
  ht := Tryz.underlying24
  hi := (info_parts infoD).choose_spec.1
  hz := (info_parts infoD).choose_spec.2.1
  hs := (info_parts infoD).choose_spec.2.2.1
  hb := (info_parts infoD).choose_spec.2.2.2
  hzs := rfl
  hn := by decide
  len := fun x => rfl
  one := fun x u hu => by
    simp only [DR.cells, kC, wC, List.cons_append, List.nil_append, List.mem_cons, List.not_mem_nil, or_false] at hu
    rcases hu with rfl | rfl | rfl | rfl | rfl | rfl | rfl | rfl | rfl | rfl | rfl | rfl | rfl | rfl | rfl <;> rfl
/-- What a decision's cells say. -/
def DR.says (w : World) (r : DR) (d : LD) : Prop := r.key = d.key ∧ r.win = d.win ∧ r.err = d.err ∧ EW.Rd w d.los (.slice r.A r.n r.c)
theorem DR.says.lat {w w' : World} {r : DR} {d : LD} (h : r.says w d) (hl : Lat w w') : r.says w' d := ⟨h.1, h.2.1, h.2.2.1, h.2.2.2.lat hl⟩
/-- A list of decisions to be read. -/
def RdD (w : World) (ds : List LD) (v : Value) : Prop := ∃ rs : List DR, rs.length = ds.length ∧ ED.Rd w rs v ∧ ∀ (i : Nat) (h1 : i < rs.length) (h2 : i < ds.length), rs[i].says w ds[i]
theorem RdD.lat {w w' : World} {ds : List LD} {v : Value} (h : RdD w ds v) (hl : Lat w w') : RdD w' ds v := by
  obtain ⟨rs, h1, h2, h3⟩ := h
  exact ⟨rs, h1, h2.lat hl, fun i a b => (h3 i a b).lat hl⟩
end
end Go.Proofs.YtmgalnbacenbbaaGreat

namespace Go.Proofs.YtmgalnbacenbbaaGreat
section
set_option linter.unusedSimpArgs false
set_option linter.unusedVariables false
open Go.RowKit

def DR.sl (r : DR) : Value := .slice r.A r.n r.c
/-- What a decision's cells say, its losers the call's own. -/
structure Rep (w : World) (base : Nat) (p : LD × DR) : Prop where
  key : p.2.key = p.1.key
  win : p.2.win = p.1.win
  err : p.2.err = p.1.err
  los : EW.Own w base p.1.los p.2.sl
def OwnD (w : World) (base : Nat) (ds : List LD) (v : Value) : Prop :=
  ∃ ps : List (LD × DR), ps.map Prod.fst = ds ∧ ED.Own w base (ps.map Prod.snd) v ∧ (∀ p ∈ ps, Rep w base p) ∧ (∀ p ∈ ps, ∀ g, p.2.sl.ownBlock = some g → v.ownBlock ≠ some g) ∧
    ps.Pairwise (fun a b => ∀ g, a.2.sl.ownBlock = some g → b.2.sl.ownBlock ≠ some g)
theorem OwnD.nil (w : World) (base : Nat) : OwnD w base [] (.slice none 0 0) :=
  ⟨[], rfl, Elt.Own.nil _ _, fun p hp => (by simp at hp), fun p hp => (by simp at hp), List.Pairwise.nil⟩
theorem OwnD.lat {w w' : World} {base : Nat} {ds : List LD} {v : Value} (h : OwnD w base ds v) (hl : Lat w w') : OwnD w' base ds v := by
  obtain ⟨ps, h1, h2, h3, h4, h5⟩ := h
  exact ⟨ps, h1, h2.lat hl, fun p hp => ⟨(h3 p hp).key, (h3 p hp).win, (h3 p hp).err, (h3 p hp).los.lat hl⟩, h4, h5⟩
theorem OwnD.lt {w : World} {base : Nat} {ds : List LD} {v : Value} (h : OwnD w base ds v) : ∀ k, v.ownBlock = some k → base ≤ k ∧ k < w.heap.size := by
  obtain ⟨ps, h1, h2, h3, h4, h5⟩ := h; exact h2.lt
theorem OwnD.slice {w : World} {base : Nat} {ds : List LD} {v : Value} (h : OwnD w base ds v) : ∃ A c, v = .slice A ds.length c := by
  obtain ⟨ps, h1, h2, h3, h4, h5⟩ := h
  obtain ⟨A, c, hv⟩ := h2.slice
  exact ⟨A, c, by rw [hv, ← h1]; simp⟩
theorem OwnD.rd {w : World} {base : Nat} {ds : List LD} {v : Value} (h : OwnD w base ds v) : RdD w ds v := by
  obtain ⟨ps, h1, h2, h3, h4, h5⟩ := h
  subst h1
  refine ⟨ps.map Prod.snd, by simp, h2.rd, fun i a b => ?_⟩
  have hi : i < ps.length := by simpa using a
  have hp := h3 ps[i] (List.getElem_mem hi)
  simp only [List.getElem_map]
  exact ⟨hp.key, hp.win, hp.err, hp.los.rd⟩
/-- The last decision. -/
theorem OwnD.last {w : World} {base : Nat} {pre : List LD} {d : LD} {v : Value} (h : OwnD w base (pre ++ [d]) v) (x : LW) : ∃ g cap r, v = .slice (some ⟨g, 0, none⟩) (pre.length + 1) cap ∧ base ≤ g ∧ g < w.heap.size ∧
    Rep w base (d, r) ∧ (∀ w' : World, w'.heap[g]? = w.heap[g]? → (∀ k, k < 15 → w'.cell? ⟨g, pre.length * 15 + k, none⟩ = r.cells[k]?) ∧ (∀ i, w'.frozen? ⟨g, i, none⟩ = false)) ∧ r.sl.ownBlock ≠ some g ∧
    (∀ w' s', EW.Own w' base (d.los ++ [x]) s' → w.grownBy w' r.sl.ownBlock → (s'.ownBlock = r.sl.ownBlock ∨ s'.ownBlock = some w.heap.size) →
      OwnD (w'.setCell ⟨g, pre.length * 15 + 13, none⟩ s') base (pre ++ [⟨d.key, d.win, d.los ++ [x], d.err⟩]) v) := by
  obtain ⟨ps, h1, h2, h3, h4, h5⟩ := h
  obtain ⟨ps0, p, rfl⟩ : ∃ ps0 p, ps = ps0 ++ [p] := by
    rcases List.eq_nil_or_concat ps with e | ⟨a, b, e⟩
    · subst e; simp at h1
    · exact ⟨a, b, by rw [e, List.concat_eq_append]⟩
  rw [List.map_append, List.map_cons, List.map_nil] at h1
  obtain ⟨e1, e2⟩ := List.append_inj' h1 rfl
  obtain ⟨d', r⟩ := p
  simp only [List.cons.injEq, and_true] at e2
  subst e2
  have hlen : ps0.length = pre.length := by rw [← e1]; simp
  obtain ⟨g, cap, rfl, hbg, hgl⟩ := h2.form (by simp)
  have hlt : pre.length < ((ps0 ++ [(d', r)]).map Prod.snd).length := by simp; omega
  have hget : ((ps0 ++ [(d', r)]).map Prod.snd)[pre.length] = r := by
    rw [List.getElem_map]; simp [← hlen]
  have hrep := h3 (d', r) (by simp)
  have hne : r.sl.ownBlock ≠ some g := fun e => h4 (d', r) (by simp) g e rfl
  refine ⟨g, cap, r, by simp [hlen], hbg, hgl, hrep, fun w' hw' => ?_, hne, ?_⟩
  · have h2' : ED.Own w' base ((ps0 ++ [(d', r)]).map Prod.snd) (.slice (some ⟨g, 0, none⟩) ((ps0 ++ [(d', r)]).map Prod.snd).length cap) := h2.carry (fun k hk => by injection hk with hk; subst hk; exact hw')
    refine ⟨fun k hk => ?_, h2'.free⟩
    have := h2'.cell pre.length k hlt hk
    rw [hget] at this
    exact this
  · intro w' s' hs' hg hw
    obtain ⟨A', c', rfl⟩ := hs'.slice
    have hg' : w'.heap[g]? = w.heap[g]? := hg.block g hgl (fun e => hne e.symm)
    have h2' : ED.Own w' base ((ps0 ++ [(d', r)]).map Prod.snd) (.slice (some ⟨g, 0, none⟩) ((ps0 ++ [(d', r)]).map Prod.snd).length cap) := h2.carry (fun k hk => by injection hk with hk; subst hk; exact hg')
    have hset := h2'.set pre.length 13 hlt (by decide) (.slice A' (d'.los ++ [x]).length c') ⟨r.key, r.win, A', (d'.los ++ [x]).length, c', r.err⟩ (by rw [hget]; rfl)
    have hmap : ((ps0 ++ [(d', r)]).map Prod.snd).set pre.length ⟨r.key, r.win, A', (d'.los ++ [x]).length, c', r.err⟩ = (ps0 ++ [((⟨d'.key, d'.win, d'.los ++ [x], d'.err⟩ : LD), (⟨r.key, r.win, A', (d'.los ++ [x]).length, c', r.err⟩ : DR))]).map Prod.snd := by
      rw [List.map_append, List.map_append, List.set_append_right _ _ (by simp; omega)]
      simp [hlen]
    rw [hmap] at hset
    have hpre : ∀ p ∈ ps0, ∀ q, p.2.sl.ownBlock = some q → q < w.heap.size ∧ some q ≠ r.sl.ownBlock ∧ q ≠ g := fun p hp q hq => by
      refine ⟨((h3 p (by simp [hp])).los.lt q hq).2, fun e => ?_, fun e => ?_⟩
      · have := (List.pairwise_append.1 h5).2.2 p hp (d', r) (by simp) q hq
        exact this e.symm
      · subst e; exact h4 p (by simp [hp]) q hq rfl
    have hsg : (Value.slice A' (d'.los ++ [x]).length c').ownBlock ≠ some g := fun e => by
      rcases hw with hw | hw
      · rw [hw] at e; exact hne e
      · rw [hw] at e; injection e with e; omega
    refine ⟨ps0 ++ [((⟨d'.key, d'.win, d'.los ++ [x], d'.err⟩ : LD), (⟨r.key, r.win, A', (d'.los ++ [x]).length, c', r.err⟩ : DR))], by rw [List.map_append, e1]; rfl, hset, fun p hp => ?_, fun p hp q hq => ?_, ?_⟩
    · rcases List.mem_append.1 hp with hp | hp
      · have h := h3 p (by simp [hp])
        refine ⟨h.key, h.win, h.err, h.los.carry fun k hk => ?_⟩
        obtain ⟨q1, q2, q3⟩ := hpre p hp k hk
        exact (heap_setCell_other _ ⟨g, _, none⟩ k _ q3).trans (hg.block k q1 q2)
      · rw [List.mem_singleton] at hp; subst hp
        exact ⟨hrep.key, hrep.win, hrep.err, hs'.carry fun k hk => heap_setCell_other _ ⟨g, _, none⟩ k _ (fun e => hsg (by have e' : k = g := e; rw [← e']; exact hk))⟩
    · rcases List.mem_append.1 hp with hp | hp
      · exact h4 p (by simp [hp]) q hq
      · rw [List.mem_singleton] at hp; subst hp
        intro e
        have : (Value.slice A' (d'.los ++ [x]).length c').ownBlock = some q := hq
        injection e with e
        have eg : g = q := e
        subst eg
        exact hsg this
    · rw [List.pairwise_append] at h5 ⊢
      refine ⟨h5.1, by simp, fun a ha b hb q hq e => ?_⟩
      rw [List.mem_singleton] at hb; subst hb
      obtain ⟨q1, q2, q3⟩ := hpre a ha q hq
      rcases hw with hw | hw
      · have e' : (Value.slice A' (d'.los ++ [x]).length c').ownBlock = some q := e
        rw [hw] at e'; exact q2 e'.symm
      · have e' : (Value.slice A' (d'.los ++ [x]).length c').ownBlock = some q := e
        rw [hw] at e'; injection e' with e'; omega
/-- One decision more. -/
theorem OwnD.more {w w' : World} {base : Nat} {ds : List LD} {v v' : Value} (x : LW) (ps : List (LD × DR)) (h1 : ps.map Prod.fst = ds) (h3 : ∀ p ∈ ps, Rep w base p) (h4 : ∀ p ∈ ps, ∀ g, p.2.sl.ownBlock = some g → v.ownBlock ≠ some g)
    (h5 : ps.Pairwise (fun a b => ∀ g, a.2.sl.ownBlock = some g → b.2.sl.ownBlock ≠ some g))
    (hn : ED.Own w' base (ps.map Prod.snd ++ [⟨x.key, x, none, 0, 0, 0⟩]) v') (hg : w.grownBy w' v.ownBlock) (hw : v'.ownBlock = v.ownBlock ∨ v'.ownBlock = some w.heap.size) : OwnD w' base (ds ++ [⟨x.key, x, [], 0⟩]) v' := by
  refine ⟨ps ++ [(⟨x.key, x, [], 0⟩, ⟨x.key, x, none, 0, 0, 0⟩)], by rw [List.map_append, h1]; rfl, by rw [List.map_append]; exact hn, fun p hp => ?_, fun p hp q hq => ?_, ?_⟩
  · rcases List.mem_append.1 hp with hp | hp
    · have h := h3 p hp
      refine ⟨h.key, h.win, h.err, h.los.carry fun k hk => hg.block k (h.los.lt k hk).2 (fun e => h4 p hp k hk e.symm)⟩
    · rw [List.mem_singleton] at hp; subst hp
      exact ⟨rfl, rfl, rfl, Elt.Own.nil _ _⟩
  · rcases List.mem_append.1 hp with hp | hp
    · rcases hw with hw | hw
      · rw [hw]; exact h4 p hp q hq
      · rw [hw]; intro e; injection e with e; have := ((h3 p hp).los.lt q hq).2; omega
    · rw [List.mem_singleton] at hp; subst hp; cases hq
  · rw [List.pairwise_append]
    refine ⟨h5, by simp, fun a ha b hb q hq e => ?_⟩
    rw [List.mem_singleton] at hb; subst hb; cases e
theorem DR.keyRow {w : World} {g off : Nat} {r : DR} (h : ∀ k, k < 15 → w.cell? ⟨g, off + k, none⟩ = r.cells[k]?) : RowAt w g off (kC r.key) := fun j v hj => by
  have hj' : j < 3 := (List.getElem?_eq_some_iff.1 hj).1
  rw [h j (by omega), DR.cells, List.append_assoc, List.getElem?_append_left (by exact hj')]
  exact hj
theorem DR.winRow {w : World} {g off : Nat} {r : DR} (h : ∀ k, k < 15 → w.cell? ⟨g, off + k, none⟩ = r.cells[k]?) : RowAt w g (off + 3) (wC r.win) := fun j v hj => by
  have hj' : j < 10 := (List.getElem?_eq_some_iff.1 hj).1
  rw [Nat.add_assoc, h (3 + j) (by omega), DR.cells, List.append_assoc, List.getElem?_append_right (by show 3 ≤ 3 + j; omega)]
  have e : 3 + j - (kC r.key).length = j := by show 3 + j - 3 = j; omega
  rw [e, List.getElem?_append_left (by exact hj')]
  exact hj
theorem DR.losCell {w : World} {g off : Nat} {r : DR} (h : ∀ k, k < 15 → w.cell? ⟨g, off + k, none⟩ = r.cells[k]?) : w.cell? ⟨g, off + 13, none⟩ = some (.slice r.A r.n r.c) := by rw [h 13 (by decide)]; rfl
end
end Go.Proofs.YtmgalnbacenbbaaGreat

namespace Go.Proofs.YtmgalnbacenbbaaGreat
section
set_option linter.unusedSimpArgs false
set_option linter.unusedVariables false
open Go.RowKit

/-- The reading of a decision's cells out of a row. -/
theorem RdD.row {w : World} {ds : List LD} {A : Option Addr} {n c : Nat} (h : RdD w ds (.slice A n c)) (j : Nat) (hj : j < ds.length) :
    ∃ b off A' n' c', A = some ⟨b, off, none⟩ ∧ b < w.heap.size ∧ RowAt w b (off + j * 15) (kC ds[j].key ++ wC ds[j].win ++ [.slice A' n' c', .int .i64 ds[j].err]) ∧ EW.Rd w ds[j].los (.slice A' n' c') := by
  obtain ⟨rs, hl, hr, hs⟩ := h
  obtain ⟨b, off, hA, hb, hrow⟩ := hr.row j (by omega)
  obtain ⟨h1, h2, h3, h4⟩ := hs j (by omega) hj
  refine ⟨b, off, _, _, _, hA, hb, ?_, h4⟩
  have : RowAt w b (off + j * 15) (DR.cells rs[j]) := hrow
  unfold DR.cells at this
  rw [h1, h2, h3] at this
  exact this
theorem RdD.slice {w : World} {ds : List LD} {v : Value} (h : RdD w ds v) : ∃ A c, v = .slice A ds.length c := by
  obtain ⟨rs, hl, ⟨A, c, hv, _⟩, hs⟩ := h
  exact ⟨A, c, by rw [hv, hl]⟩
theorem RowAt.part {w : World} {b off : Nat} {cs : List Value} (h : RowAt w b off cs) (k : Nat) (ds : List Value) (hd : ∀ j v, ds[j]? = some v → cs[k + j]? = some v) : RowAt w b (off + k) ds := fun j v hj => by
  have := h (k + j) v (hd j v hj)
  rw [Nat.add_assoc]; exact this
theorem dec_key {w : World} {b off : Nat} {k : LKey} {x : LW} {t : List Value} (h : RowAt w b off (kC k ++ wC x ++ t)) : RowAt w b off (kC k) :=
  h.part 0 _ fun j v hj => by
    have hj' : j < 3 := (List.getElem?_eq_some_iff.1 hj).1
    rw [Nat.zero_add, List.append_assoc, List.getElem?_append_left (by exact hj')]; exact hj
theorem dec_win {w : World} {b off : Nat} {k : LKey} {x : LW} {t : List Value} (h : RowAt w b off (kC k ++ wC x ++ t)) : RowAt w b (off + 3) (wC x) :=
  h.part 3 _ fun j v hj => by
    have hj' : j < 10 := (List.getElem?_eq_some_iff.1 hj).1
    rw [List.append_assoc, List.getElem?_append_right (by show 3 ≤ 3 + j; omega)]
    have e : 3 + j - (kC k).length = j := by show 3 + j - 3 = j; omega
    rw [e, List.getElem?_append_left (by exact hj')]; exact hj
theorem dec_los {w : World} {b off : Nat} {k : LKey} {x : LW} {v e : Value} (h : RowAt w b off (kC k ++ wC x ++ [v, e])) : w.cell? ⟨b, off + 13, none⟩ = some v ∧ w.cell? ⟨b, off + 14, none⟩ = some e := ⟨h 13 v rfl, h 14 e rfl⟩
end
end Go.Proofs.YtmgalnbacenbbaaGreat

namespace Go.Proofs.YtmgalnbacenbbaaGreat
section
set_option linter.unusedSimpArgs false
set_option linter.unusedVariables false
open Go.RowKit

def OwnX (w : World) (base : Nat) (ds : List LD) (v : Value) : Prop :=
  ∃ ps : List (LD × DR), ps.map Prod.fst = ds ∧ ED.Own w base (ps.map Prod.snd) v ∧ ∀ p ∈ ps, p.2.key = p.1.key ∧ p.2.win = p.1.win ∧ p.2.err = p.1.err ∧ ∀ g, v.ownBlock = some g → EW.RdS g w p.1.los p.2.sl
theorem OwnD.toX {w : World} {base : Nat} {ds : List LD} {v : Value} (h : OwnD w base ds v) : OwnX w base ds v := by
  obtain ⟨ps, h1, h2, h3, h4, h5⟩ := h
  refine ⟨ps, h1, h2, fun p hp => ⟨(h3 p hp).key, (h3 p hp).win, (h3 p hp).err, fun g hg w' ho => ?_⟩⟩
  exact ((h3 p hp).los.carry (fun k hk => ho.block k ((h3 p hp).los.lt k hk).2 (fun e => by subst e; exact h4 p hp k hk hg))).rd
theorem OwnX.lat {w w' : World} {base : Nat} {ds : List LD} {v : Value} (h : OwnX w base ds v) (hl : Lat w w') : OwnX w' base ds v := by
  obtain ⟨ps, h1, h2, h3⟩ := h
  exact ⟨ps, h1, h2.lat hl, fun p hp => ⟨(h3 p hp).1, (h3 p hp).2.1, (h3 p hp).2.2.1, fun g hg => ((h3 p hp).2.2.2 g hg).step (OnlyAt.lat hl)⟩⟩
theorem OwnX.slice {w : World} {base : Nat} {ds : List LD} {v : Value} (h : OwnX w base ds v) : ∃ A c, v = .slice A ds.length c := by
  obtain ⟨ps, h1, h2, h3⟩ := h
  obtain ⟨A, c, hv⟩ := h2.slice
  exact ⟨A, c, by rw [hv, ← h1]; simp⟩
theorem OwnX.rd {w : World} {base : Nat} {ds : List LD} {v : Value} (h : OwnX w base ds v) : RdD w ds v := by
  obtain ⟨ps, h1, h2, h3⟩ := h
  subst h1
  refine ⟨ps.map Prod.snd, by simp, h2.rd, fun i a b => ?_⟩
  have hi : i < ps.length := by simpa using a
  have hp := h3 ps[i] (List.getElem_mem hi)
  obtain ⟨g, cap, rfl, _, _⟩ := h2.form (by simp; omega)
  simp only [List.getElem_map]
  exact ⟨hp.1, hp.2.1, hp.2.2.1, (hp.2.2.2 g rfl).rd⟩
theorem OwnX.mono {w : World} {base base' : Nat} {ds : List LD} {v : Value} (h : OwnX w base ds v) (hb : base' ≤ base) : OwnX w base' ds v := by
  obtain ⟨ps, h1, h2, h3⟩ := h
  exact ⟨ps, h1, h2.mono hb, h3⟩
theorem only_setCell (w : World) (g i : Nat) (u : Value) : OnlyAt g w (w.setCell ⟨g, i, none⟩ u) :=
  ⟨((Below.refl 0 w).setCell (p := ⟨g, i, none⟩) (Nat.zero_le _) u).size, fun k hk hg => heap_setCell_other w ⟨g, i, none⟩ k u hg⟩
/-- A decision of the call's own: its cells; its error turned. -/
theorem OwnX.place {w : World} {base : Nat} {ds : List LD} {A : Option Addr} {n c : Nat} (h : OwnX w base ds (.slice A n c)) (j : Nat) (hj : j < ds.length) :
    ∃ g, A = some ⟨g, 0, none⟩ ∧ base ≤ g ∧ g < w.heap.size ∧ (∃ A' n' c', RowAt w g (j * 15) (kC ds[j].key ++ wC ds[j].win ++ [.slice A' n' c', .int .i64 ds[j].err])) ∧ w.frozen? ⟨g, j * 15 + 14, none⟩ = false ∧
      ∀ e, OwnX (w.setCell ⟨g, j * 15 + 14, none⟩ (.int .i64 e)) base (ds.set j ⟨ds[j].key, ds[j].win, ds[j].los, e⟩) (.slice A n c) := by
  obtain ⟨ps, h1, h2, h3⟩ := h
  have hl : ps.length = ds.length := by rw [← h1, List.length_map]
  have hjp : j < ps.length := by omega
  obtain ⟨g, cap, hv, hbg, hgl⟩ := h2.form (by rw [List.length_map]; omega)
  injection hv with e1 e2 e3
  subst e1
  have hd : ps[j].1 = ds[j] := by
    have : (ps.map Prod.fst)[j]'(by rw [List.length_map]; omega) = ds[j] := by simp only [h1]
    rw [List.getElem_map] at this; exact this
  have hrep := h3 ps[j] (List.getElem_mem hjp)
  have hjs : j < (ps.map Prod.snd).length := by rw [List.length_map]; exact hjp
  have hcell : ∀ k, k < 15 → w.cell? ⟨g, j * 15 + k, none⟩ = ps[j].2.cells[k]? := fun k hk => by
    have := h2.cell j k hjs hk
    rw [List.getElem_map] at this
    exact this
  refine ⟨g, rfl, hbg, hgl, ⟨ps[j].2.A, ps[j].2.n, ps[j].2.c, fun k v hk => ?_⟩, h2.free _, fun e => ?_⟩
  · have hk' : k < 15 := (List.getElem?_eq_some_iff.1 hk).1
    rw [hcell k hk', DR.cells, hrep.1, hrep.2.1, hrep.2.2.1, hd]
    exact hk
  · refine ⟨ps.set j (⟨ds[j].key, ds[j].win, ds[j].los, e⟩, ⟨ps[j].2.key, ps[j].2.win, ps[j].2.A, ps[j].2.n, ps[j].2.c, e⟩), ?_, ?_, ?_⟩
    · rw [List.map_set, h1]
    · rw [List.map_set]
      exact h2.set j 14 hjs (by decide) (.int .i64 e) _ (by rw [List.getElem_map]; rfl)
    · intro p hp
      have hst : ∀ q ∈ ps, ∀ g', (Value.slice (some ⟨g, 0, none⟩) n c).ownBlock = some g' → EW.RdS g' (w.setCell ⟨g, j * 15 + 14, none⟩ (.int .i64 e)) q.1.los q.2.sl := fun q hq g' hg' => by
        have e' : g = g' := by injection hg'
        subst e'
        exact ((h3 q hq).2.2.2 g rfl).step (only_setCell _ _ _ _)
      rcases List.mem_or_eq_of_mem_set hp with hp | rfl
      · exact ⟨(h3 p hp).1, (h3 p hp).2.1, (h3 p hp).2.2.1, hst p hp⟩
      · refine ⟨by rw [← hd]; exact hrep.1, by rw [← hd]; exact hrep.2.1, rfl, fun g' hg' => ?_⟩
        have := hst _ (List.getElem_mem hjp) g' hg'
        rw [hd] at this
        exact this
end
end Go.Proofs.YtmgalnbacenbbaaGreat
