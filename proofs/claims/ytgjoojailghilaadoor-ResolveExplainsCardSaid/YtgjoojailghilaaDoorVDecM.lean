/- Resolve: decisions that the call itself fills. -/
import Derived.Test.YtgjoojailghilaaDoorVMem
import Derived.Test.YtgjoojailghilaaDoorVEq
import Derived.Deep.AppendLies
import Derived.Deep.RegionLaw
import Derived.Deep.DeepCutAuto
set_option linter.unusedSimpArgs false
set_option linter.unusedVariables false
namespace Go.Proofs.YtgjoojailghilaaDoor
open Go.RowKit

section
variable {α : Type} {E : Elt α}
theorem flatten_set {n : Nat} : ∀ (rows : List (List Value)) (j k : Nat) (u : Value), (∀ r ∈ rows, r.length = n) → (hj : j < rows.length) → k < n → (rows.set j (rows[j].set k u)).flatten = rows.flatten.set (j * n + k) u
  | r :: rows, 0, k, u, h, _, hk => by
    have hr : r.length = n := h r (by simp)
    simp only [List.set_cons_zero, List.flatten_cons, List.getElem_cons_zero, Nat.zero_mul, Nat.zero_add]
    rw [List.set_append_left _ _ (by omega)]
  | r :: rows, j + 1, k, u, h, hj, hk => by
    have hr : r.length = n := h r (by simp)
    simp only [List.set_cons_succ, List.flatten_cons, List.getElem_cons_succ]
    rw [flatten_set rows j k u (fun x hx => h x (by simp [hx])) (by simpa using hj) hk, List.set_append_right _ _ (by rw [hr, Nat.add_mul]; omega), hr]
    congr 2
    rw [Nat.add_mul]; omega
/-- One cell of an element turned. -/
theorem Elt.Own.set {w : World} {base : Nat} {xs : List α} {g n c : Nat} (h : E.Own w base xs (.slice (some ⟨g, 0, none⟩) n c)) (j k : Nat) (hj : j < xs.length) (hk : k < E.n) (u : Value) (y : α) (hy : E.f y = (E.f xs[j]).set k u) :
    E.Own (w.setCell ⟨g, j * E.n + k, none⟩ u) base (xs.set j y) (.slice (some ⟨g, 0, none⟩) n c) := by
  obtain ⟨hl, ⟨hv, h0⟩ | ⟨g', cap, cur, hv, hbg, hg, h1, h2, h3, h4⟩⟩ := h
  · cases hv
  · injection hv with e1 e2 e3
    injection e1 with e1
    injection e1 with e1
    subst e1
    refine ⟨by rw [E.flat], .inr ⟨g, cap, cur.setIfInBounds (j * E.n + k) u, by rw [List.length_set, e2, e3], hbg, heap_setCell_same w g _ _ _ u hg, by rw [List.length_set]; exact h1, h2, by rw [Array.size_setIfInBounds]; exact h3, ?_⟩⟩
    have hf := flatten_set (xs.map E.f) j k u (E.lens xs) (by simpa using hj) hk
    rw [Array.toList_setIfInBounds, List.length_set, List.take_set, h4, ← hf]
    congr 1
    rw [List.map_set, hy]
    simp
theorem Elt.Own.cell {w : World} {base : Nat} {xs : List α} {g n c : Nat} (h : E.Own w base xs (.slice (some ⟨g, 0, none⟩) n c)) (j k : Nat) (hj : j < xs.length) (hk : k < E.n) : w.cell? ⟨g, j * E.n + k, none⟩ = (E.f xs[j])[k]? := by
  obtain ⟨b, off, hA, hb, hr⟩ := h.rd.row j hj
  injection hA with hA
  injection hA with e1 e2
  subst e1 e2
  have hk' : k < (E.f xs[j]).length := by rw [E.len]; exact hk
  have := hr k (E.f xs[j])[k] (List.getElem?_eq_getElem hk')
  rw [Nat.zero_add] at this
  rw [this, List.getElem?_eq_getElem hk']
theorem Elt.Own.free {w : World} {base : Nat} {xs : List α} {g n c : Nat} (h : E.Own w base xs (.slice (some ⟨g, 0, none⟩) n c)) (i : Nat) : w.frozen? ⟨g, i, none⟩ = false := by
  obtain ⟨hl, ⟨hv, h0⟩ | ⟨g', cap, cur, hv, hbg, hg, h1⟩⟩ := h
  · cases hv
  · injection hv with e1 e2 e3
    injection e1 with e1
    injection e1 with e1
    subst e1
    exact frozen_of_row _ _ _ _ _ hg
theorem Elt.Own.form {w : World} {base : Nat} {xs : List α} {v : Value} (h : E.Own w base xs v) (h0 : 0 < xs.length) : ∃ g cap, v = .slice (some ⟨g, 0, none⟩) xs.length cap ∧ base ≤ g ∧ g < w.heap.size := by
  obtain ⟨hl, ⟨hv, h1⟩ | ⟨g', cap, cur, hv, hbg, hg, r⟩⟩ := h
  · omega
  · exact ⟨g', cap, hv, hbg, (Array.getElem?_eq_some_iff.1 hg).1⟩
/-- One element more, as one step of a region that draws. -/
theorem Elt.step {ops : Array Oper} {o : Oper} {a : Act} {w : World} {K : Act → World → Prop} {Q : Exit → Act → World → Prop} {F : Prop} (E : Elt α) (hgd : o.guard = none) (s x : Operand)
    (ho : o.op = .call { callee := .builtin .append, args := #[s, x], argTypes := #[E.t, E.t] })
    (base : Nat) (xs : List α) (v : Value) (hs : a.eval s = v) (hown : E.Own w base xs v)
    (g1 c1 : Nat) (k : α) (hx : a.eval x = .slice (some ⟨g1, 0, none⟩) 1 c1) (t : TypeId) (hb : Blk w g1 t (E.f k).toArray)
    (hmax : xs.length + 1 ≤ maxLen) (hlen : (xs.length + 1) * E.bytes ≤ 140737488355328) (hbase : base ≤ w.heap.size)
    (h : ∀ v' w', E.Own w' base (xs ++ [k]) v' → w.grownBy w' v.ownBlock → (v'.ownBlock = v.ownBlock ∨ v'.ownBlock = some w.heap.size) → K (a.put o.dst v') w') :
    if Region.wanted o (yielded ops a.tmps) = true then Oper.wp Tryd.prog o a w K Q else F := by
  have hw : Region.wanted o (yielded ops a.tmps) = true := by simp [Region.wanted, hgd]
  rw [if_pos hw]
  have hnews : ∀ j u, (E.f k)[j]? = some u → w.cell? ((⟨g1, 0, none⟩ : Addr).add j) = some u := fun j u hj => by
    have hadd : (⟨g1, 0, none⟩ : Addr).add j = ⟨g1, j, none⟩ := by unfold Addr.add; split <;> simp_all
    rw [hadd, hb.cell]; simpa using hj
  obtain ⟨v', w', hr, g2, g3, _⟩ := run_append_own (P := Tryd.prog) w base E.t o.type E.e E.i E.z E.n E.bytes E.ht E.hi E.hz E.hs E.hb E.hzs E.hn v xs.length (xs.map E.f).flatten hown ⟨g1, 0, none⟩ 1 c1 (E.f k) (by rw [E.len]; omega) hnews (E.one k) hmax hlen hbase
  have hw := append_where base E.t o.type E.e E.i E.z E.n E.bytes E.ht E.hi E.hz E.hs E.hb E.hn v xs.length (xs.map E.f).flatten hown ⟨g1, 0, none⟩ 1 c1 (by decide) (E.f k) (by rw [E.len]; omega) hnews (E.one k) hmax hlen v' w' hr
  unfold Oper.wp execOp
  simp only [ho, resolve, invoke, builtin, Sem.run_bind, Sem.run_pure, Result.andThen_ok, List.map_toArray, List.map_cons, List.map_nil, hs, hx, hr]
  exact h v' w' (by simpa [Elt.Own] using g2) g3 hw
end

def DR.sl (r : DR) : Value := .slice r.A r.n r.c
/-- What a decision's cells say, its losers the call's own. -/
structure Rep (w : World) (base : Nat) (p : LD × DR) : Prop where
  key : p.2.key = p.1.key
  win : p.2.win = p.1.win
  err : p.2.err = p.1.err
  los : EW.Own w base p.1.los p.2.sl
def OwnD (w : World) (base : Nat) (ds : List LD) (v : Value) : Prop :=
  ∃ ps : List (LD × DR), ps.map Prod.fst = ds ∧ ED.Own w base (ps.map Prod.snd) v ∧ (∀ p ∈ ps, Rep w base p) ∧ (∀ p ∈ ps, ∀ g, p.2.sl.ownBlock = some g → v.ownBlock ≠ some g) ∧
    ps.Pairwise (fun a b => ∀ g, a.2.sl.ownBlock = some g → b.2.sl.ownBlock ≠ some g)
theorem OwnD.nil (w : World) (base : Nat) : OwnD w base [] (.slice none 0 0) :=
  ⟨[], rfl, Elt.Own.nil _ _, fun p hp => (by simp at hp), fun p hp => (by simp at hp), List.Pairwise.nil⟩
theorem OwnD.lat {w w' : World} {base : Nat} {ds : List LD} {v : Value} (h : OwnD w base ds v) (hl : Lat w w') : OwnD w' base ds v := by
  obtain ⟨ps, h1, h2, h3, h4, h5⟩ := h
  exact ⟨ps, h1, h2.lat hl, fun p hp => ⟨(h3 p hp).key, (h3 p hp).win, (h3 p hp).err, (h3 p hp).los.lat hl⟩, h4, h5⟩
theorem OwnD.lt {w : World} {base : Nat} {ds : List LD} {v : Value} (h : OwnD w base ds v) : ∀ k, v.ownBlock = some k → base ≤ k ∧ k < w.heap.size := by
  obtain ⟨ps, h1, h2, h3, h4, h5⟩ := h; exact h2.lt
theorem OwnD.slice {w : World} {base : Nat} {ds : List LD} {v : Value} (h : OwnD w base ds v) : ∃ A c, v = .slice A ds.length c := by
  obtain ⟨ps, h1, h2, h3, h4, h5⟩ := h
  obtain ⟨A, c, hv⟩ := h2.slice
  exact ⟨A, c, by rw [hv, ← h1]; simp⟩
theorem OwnD.rd {w : World} {base : Nat} {ds : List LD} {v : Value} (h : OwnD w base ds v) : RdD w ds v := by
  obtain ⟨ps, h1, h2, h3, h4, h5⟩ := h
  subst h1
  refine ⟨ps.map Prod.snd, by simp, h2.rd, fun i a b => ?_⟩
  have hi : i < ps.length := by simpa using a
  have hp := h3 ps[i] (List.getElem_mem hi)
  simp only [List.getElem_map]
  exact ⟨hp.key, hp.win, hp.err, hp.los.rd⟩
/-- The last decision. -/
theorem OwnD.last {w : World} {base : Nat} {pre : List LD} {d : LD} {v : Value} (h : OwnD w base (pre ++ [d]) v) (x : LW) : ∃ g cap r, v = .slice (some ⟨g, 0, none⟩) (pre.length + 1) cap ∧ base ≤ g ∧ g < w.heap.size ∧
    Rep w base (d, r) ∧ (∀ w' : World, w'.heap[g]? = w.heap[g]? → (∀ k, k < 15 → w'.cell? ⟨g, pre.length * 15 + k, none⟩ = r.cells[k]?) ∧ (∀ i, w'.frozen? ⟨g, i, none⟩ = false)) ∧ r.sl.ownBlock ≠ some g ∧
    (∀ w' s', EW.Own w' base (d.los ++ [x]) s' → w.grownBy w' r.sl.ownBlock → (s'.ownBlock = r.sl.ownBlock ∨ s'.ownBlock = some w.heap.size) →
      OwnD (w'.setCell ⟨g, pre.length * 15 + 13, none⟩ s') base (pre ++ [⟨d.key, d.win, d.los ++ [x], d.err⟩]) v) := by
  obtain ⟨ps, h1, h2, h3, h4, h5⟩ := h
  obtain ⟨ps0, p, rfl⟩ : ∃ ps0 p, ps = ps0 ++ [p] := by
    rcases List.eq_nil_or_concat ps with e | ⟨a, b, e⟩
    · subst e; simp at h1
    · exact ⟨a, b, by rw [e, List.concat_eq_append]⟩
  rw [List.map_append, List.map_cons, List.map_nil] at h1
  obtain ⟨e1, e2⟩ := List.append_inj' h1 rfl
  obtain ⟨d', r⟩ := p
  simp only [List.cons.injEq, and_true] at e2
  subst e2
  have hlen : ps0.length = pre.length := by rw [← e1]; simp
  obtain ⟨g, cap, rfl, hbg, hgl⟩ := h2.form (by simp)
  have hlt : pre.length < ((ps0 ++ [(d', r)]).map Prod.snd).length := by simp; omega
  have hget : ((ps0 ++ [(d', r)]).map Prod.snd)[pre.length] = r := by
    rw [List.getElem_map]; simp [← hlen]
  have hrep := h3 (d', r) (by simp)
  have hne : r.sl.ownBlock ≠ some g := fun e => h4 (d', r) (by simp) g e rfl
  refine ⟨g, cap, r, by simp [hlen], hbg, hgl, hrep, fun w' hw' => ?_, hne, ?_⟩
  · have h2' : ED.Own w' base ((ps0 ++ [(d', r)]).map Prod.snd) (.slice (some ⟨g, 0, none⟩) ((ps0 ++ [(d', r)]).map Prod.snd).length cap) := h2.carry (fun k hk => by injection hk with hk; subst hk; exact hw')
    refine ⟨fun k hk => ?_, h2'.free⟩
    have := h2'.cell pre.length k hlt hk
    rw [hget] at this
    exact this
  · intro w' s' hs' hg hw
    obtain ⟨A', c', rfl⟩ := hs'.slice
    have hg' : w'.heap[g]? = w.heap[g]? := hg.block g hgl (fun e => hne e.symm)
    have h2' : ED.Own w' base ((ps0 ++ [(d', r)]).map Prod.snd) (.slice (some ⟨g, 0, none⟩) ((ps0 ++ [(d', r)]).map Prod.snd).length cap) := h2.carry (fun k hk => by injection hk with hk; subst hk; exact hg')
    have hset := h2'.set pre.length 13 hlt (by decide) (.slice A' (d'.los ++ [x]).length c') ⟨r.key, r.win, A', (d'.los ++ [x]).length, c', r.err⟩ (by rw [hget]; rfl)
    have hmap : ((ps0 ++ [(d', r)]).map Prod.snd).set pre.length ⟨r.key, r.win, A', (d'.los ++ [x]).length, c', r.err⟩ = (ps0 ++ [((⟨d'.key, d'.win, d'.los ++ [x], d'.err⟩ : LD), (⟨r.key, r.win, A', (d'.los ++ [x]).length, c', r.err⟩ : DR))]).map Prod.snd := by
      rw [List.map_append, List.map_append, List.set_append_right _ _ (by simp; omega)]
      simp [hlen]
    rw [hmap] at hset
    have hpre : ∀ p ∈ ps0, ∀ q, p.2.sl.ownBlock = some q → q < w.heap.size ∧ some q ≠ r.sl.ownBlock ∧ q ≠ g := fun p hp q hq => by
      refine ⟨((h3 p (by simp [hp])).los.lt q hq).2, fun e => ?_, fun e => ?_⟩
      · have := (List.pairwise_append.1 h5).2.2 p hp (d', r) (by simp) q hq
        exact this e.symm
      · subst e; exact h4 p (by simp [hp]) q hq rfl
    have hsg : (Value.slice A' (d'.los ++ [x]).length c').ownBlock ≠ some g := fun e => by
      rcases hw with hw | hw
      · rw [hw] at e; exact hne e
      · rw [hw] at e; injection e with e; omega
    refine ⟨ps0 ++ [((⟨d'.key, d'.win, d'.los ++ [x], d'.err⟩ : LD), (⟨r.key, r.win, A', (d'.los ++ [x]).length, c', r.err⟩ : DR))], by rw [List.map_append, e1]; rfl, hset, fun p hp => ?_, fun p hp q hq => ?_, ?_⟩
    · rcases List.mem_append.1 hp with hp | hp
      · have h := h3 p (by simp [hp])
        refine ⟨h.key, h.win, h.err, h.los.carry fun k hk => ?_⟩
        obtain ⟨q1, q2, q3⟩ := hpre p hp k hk
        exact (heap_setCell_other _ ⟨g, _, none⟩ k _ q3).trans (hg.block k q1 q2)
      · rw [List.mem_singleton] at hp; subst hp
        exact ⟨hrep.key, hrep.win, hrep.err, hs'.carry fun k hk => heap_setCell_other _ ⟨g, _, none⟩ k _ (fun e => hsg (by have e' : k = g := e; rw [← e']; exact hk))⟩
    · rcases List.mem_append.1 hp with hp | hp
      · exact h4 p (by simp [hp]) q hq
      · rw [List.mem_singleton] at hp; subst hp
        intro e
        have : (Value.slice A' (d'.los ++ [x]).length c').ownBlock = some q := hq
        injection e with e
        have eg : g = q := e
        subst eg
        exact hsg this
    · rw [List.pairwise_append] at h5 ⊢
      refine ⟨h5.1, by simp, fun a ha b hb q hq e => ?_⟩
      rw [List.mem_singleton] at hb; subst hb
      obtain ⟨q1, q2, q3⟩ := hpre a ha q hq
      rcases hw with hw | hw
      · have e' : (Value.slice A' (d'.los ++ [x]).length c').ownBlock = some q := e
        rw [hw] at e'; exact q2 e'.symm
      · have e' : (Value.slice A' (d'.los ++ [x]).length c').ownBlock = some q := e
        rw [hw] at e'; injection e' with e'; omega
/-- One decision more. -/
theorem OwnD.more {w w' : World} {base : Nat} {ds : List LD} {v v' : Value} (x : LW) (ps : List (LD × DR)) (h1 : ps.map Prod.fst = ds) (h3 : ∀ p ∈ ps, Rep w base p) (h4 : ∀ p ∈ ps, ∀ g, p.2.sl.ownBlock = some g → v.ownBlock ≠ some g)
    (h5 : ps.Pairwise (fun a b => ∀ g, a.2.sl.ownBlock = some g → b.2.sl.ownBlock ≠ some g))
    (hn : ED.Own w' base (ps.map Prod.snd ++ [⟨x.key, x, none, 0, 0, 0⟩]) v') (hg : w.grownBy w' v.ownBlock) (hw : v'.ownBlock = v.ownBlock ∨ v'.ownBlock = some w.heap.size) : OwnD w' base (ds ++ [⟨x.key, x, [], 0⟩]) v' := by
  refine ⟨ps ++ [(⟨x.key, x, [], 0⟩, ⟨x.key, x, none, 0, 0, 0⟩)], by rw [List.map_append, h1]; rfl, by rw [List.map_append]; exact hn, fun p hp => ?_, fun p hp q hq => ?_, ?_⟩
  · rcases List.mem_append.1 hp with hp | hp
    · have h := h3 p hp
      refine ⟨h.key, h.win, h.err, h.los.carry fun k hk => hg.block k (h.los.lt k hk).2 (fun e => h4 p hp k hk e.symm)⟩
    · rw [List.mem_singleton] at hp; subst hp
      exact ⟨rfl, rfl, rfl, Elt.Own.nil _ _⟩
  · rcases List.mem_append.1 hp with hp | hp
    · rcases hw with hw | hw
      · rw [hw]; exact h4 p hp q hq
      · rw [hw]; intro e; injection e with e; have := ((h3 p hp).los.lt q hq).2; omega
    · rw [List.mem_singleton] at hp; subst hp; cases hq
  · rw [List.pairwise_append]
    refine ⟨h5, by simp, fun a ha b hb q hq e => ?_⟩
    rw [List.mem_singleton] at hb; subst hb; cases e
theorem DR.keyRow {w : World} {g off : Nat} {r : DR} (h : ∀ k, k < 15 → w.cell? ⟨g, off + k, none⟩ = r.cells[k]?) : RowAt w g off (kC r.key) := fun j v hj => by
  have hj' : j < 3 := (List.getElem?_eq_some_iff.1 hj).1
  rw [h j (by omega), DR.cells, List.append_assoc, List.getElem?_append_left (by exact hj')]
  exact hj
theorem DR.winRow {w : World} {g off : Nat} {r : DR} (h : ∀ k, k < 15 → w.cell? ⟨g, off + k, none⟩ = r.cells[k]?) : RowAt w g (off + 3) (wC r.win) := fun j v hj => by
  have hj' : j < 10 := (List.getElem?_eq_some_iff.1 hj).1
  rw [Nat.add_assoc, h (3 + j) (by omega), DR.cells, List.append_assoc, List.getElem?_append_right (by show 3 ≤ 3 + j; omega)]
  have e : 3 + j - (kC r.key).length = j := by show 3 + j - 3 = j; omega
  rw [e, List.getElem?_append_left (by exact hj')]
  exact hj
theorem DR.losCell {w : World} {g off : Nat} {r : DR} (h : ∀ k, k < 15 → w.cell? ⟨g, off + k, none⟩ = r.cells[k]?) : w.cell? ⟨g, off + 13, none⟩ = some (.slice r.A r.n r.c) := by rw [h 13 (by decide)]; rfl
end Go.Proofs.YtgjoojailghilaaDoor
