/- Lists in memory, for any seat: rows of elements of one type; stores into them; what stays read. -/
import Derived.Test.YtafodibbcfoclaaGreatGBase
import Derived.Deep.AppendLies
import Derived.Deep.RegionLaw
import Derived.Deep.DeepCutAuto
import Derived.Laws.StructEq
set_option linter.unusedSimpArgs false
set_option linter.unusedVariables false
namespace Go.Proofs.YtafodibbcfoclaaGreat
open Go.RowKit

theorem drLat {w w' : World} (h : Dr.Lat w w') : Lat w w' := ⟨h.os, h.tape, h.output, h.size, h.block⟩
section
variable {P : Program} {w : World}
/-- Where the slice lies that an append hands back. -/
theorem append_where (base : Nat) (t ty e : TypeId) (i : TypeInfo) (z : Value) (size bytes : Nat) (ht : P.underlying t = some (.slice e)) (hi : P.info? e = some i) (hz : i.zero = some z)
    (hsize : i.size = size) (hby : i.bytes = bytes) (hsz : 0 < size) (v : Value) (n : Nat) (xs : List Value) (hown : w.ownsRow base e size v n xs)
    (a : Addr) (m c : Nat) (hm : 0 < m) (news : List Value) (hl : news.length = m * size) (hnews : ∀ j u, news[j]? = some u → w.cell? (a.add j) = some u) (h1 : ∀ u ∈ news, u.oneCell' = true)
    (h63 : n + m ≤ maxLen) (hbytes : (n + m) * bytes ≤ 140737488355328) (v' : Value) (w' : World)
    (hr : (Builtin.append_ #[t, t] ty #[v, .slice (some a) m c]).run P w = .ok v' w') : v'.ownBlock = v.ownBlock ∨ v'.ownBlock = some w.heap.size := by
  subst hsize
  subst hby
  simp only [maxLen] at h63
  rcases hown.2 with ⟨rfl, rfl⟩ | ⟨g, cap, cur, rfl, hbg, hg, hnc, hcm, hcs, htake⟩
  · rw [run_append_nil (P := P) w t ty e i z ht hi hz a m c news hl hnews hm (by omega) (by rw [Nat.zero_add] at hbytes; omega)] at hr
    injection hr with hr _
    exact .inr (by rw [← hr]; rfl)
  · by_cases hroom : n + m ≤ cap
    · have hfit : n * i.size + news.length ≤ cur.size := by rw [hl, hcs, ← Nat.add_mul]; exact Nat.mul_le_mul_right _ hroom
      rw [run_append_room (P := P) w t ty e i ht hi g n cap cur hg a m c news hl hnews h1 hroom hfit] at hr
      injection hr with hr _
      exact .inl (by rw [← hr]; rfl)
    · have holds : ∀ j u, xs[j]? = some u → w.cell? ((⟨g, 0, none⟩ : Addr).add j) = some u := hown.cells (g := g) rfl
      rw [run_append_grow (P := P) w t ty e i z ht hi hz ⟨g, 0, none⟩ n cap xs hown.1 holds a m c news hl hnews (by omega) (by omega) (growslice_fits (by omega) hbytes)] at hr
      injection hr with hr _
      exact .inr (by rw [← hr]; rfl)
end
/-- A kind of elements: the types, the cells. -/
structure Elt (α : Type) where
  e : TypeId
  t : TypeId
  n : Nat
  bytes : Nat
  f : α → List Value
  i : TypeInfo
  z : Value
  ht : Tryz.prog.underlying t = some (.slice e)
  hi : Tryz.prog.info? e = some i
  hz : i.zero = some z
  hs : i.size = n
  hb : i.bytes = bytes
  hzs : z.cells.size = n
  hn : 0 < n
  len : ∀ x, (f x).length = n
  one : ∀ x, ∀ u ∈ f x, u.oneCell' = true

section
variable {α : Type} (E : Elt α)
theorem Elt.lens (xs : List α) : ∀ r ∈ xs.map E.f, r.length = E.n := fun r hr => by obtain ⟨k, _, rfl⟩ := List.mem_map.1 hr; exact E.len k
theorem Elt.ones (xs : List α) : ∀ u ∈ (xs.map E.f).flatten, u.oneCell' = true := fun u hu => by
  obtain ⟨r, hr, hu⟩ := List.mem_flatten.1 hu
  obtain ⟨x, _, rfl⟩ := List.mem_map.1 hr
  exact E.one x u hu
theorem Elt.flat (xs : List α) : (xs.map E.f).flatten.length = xs.length * E.n := by rw [flat_len _ (E.lens xs)]; simp
/-- A list that the call itself fills. -/
def Elt.Own (w : World) (base : Nat) (xs : List α) (v : Value) : Prop := w.ownsRow base E.e E.n v xs.length (xs.map E.f).flatten
/-- A list to be read. -/
def Elt.Rd (w : World) (xs : List α) (v : Value) : Prop := ∃ A c, v = .slice A xs.length c ∧ IsRows w.heap.size w E.n (xs.map E.f) A ∧ (A = none → c = 0 ∧ xs.length = 0)
variable {E}
theorem Elt.Own.nil (w : World) (base : Nat) : E.Own w base [] (.slice none 0 0) := ⟨by simp, .inl ⟨rfl, rfl⟩⟩
theorem Elt.Rd.nil (w : World) : E.Rd w [] (.slice none 0 0) := ⟨none, 0, rfl, fun h => by simp at h, fun _ => ⟨rfl, rfl⟩⟩
theorem Elt.Own.lt {w : World} {base : Nat} {xs : List α} {v : Value} (h : E.Own w base xs v) : ∀ k, v.ownBlock = some k → base ≤ k ∧ k < w.heap.size := World.ownsRow.lt h
theorem Elt.Own.carry {w w' : World} {base : Nat} {xs : List α} {v : Value} (h : E.Own w base xs v) (hb : ∀ k, v.ownBlock = some k → w'.heap[k]? = w.heap[k]?) : E.Own w' base xs v := by
  obtain ⟨hl, h | ⟨g, cap, cur, hv, hbg, hg, h1⟩⟩ := h
  · exact ⟨hl, .inl h⟩
  · exact ⟨hl, .inr ⟨g, cap, cur, hv, hbg, (hb g (by rw [hv]; rfl)).trans hg, h1⟩⟩
theorem Elt.Own.lat {w w' : World} {base : Nat} {xs : List α} {v : Value} (h : E.Own w base xs v) (hl : Lat w w') : E.Own w' base xs v := h.carry (fun k hk => hl.block k (h.lt k hk).2)
theorem Elt.Own.al {w : World} {base : Nat} {xs : List α} {v : Value} (h : E.Own w base xs v) (o : Obj) : E.Own (w.alloc o) base xs v := h.lat (Lat.al _ _)
theorem Elt.Own.mono {w : World} {base base' : Nat} {xs : List α} {v : Value} (h : E.Own w base xs v) (hb : base' ≤ base) : E.Own w base' xs v := by
  obtain ⟨hl, h | ⟨g, cap, cur, hv, hbg, h1⟩⟩ := h
  · exact ⟨hl, .inl h⟩
  · exact ⟨hl, .inr ⟨g, cap, cur, hv, Nat.le_trans hb hbg, h1⟩⟩
theorem Elt.Own.slice {w : World} {base : Nat} {xs : List α} {v : Value} (h : E.Own w base xs v) : ∃ A c, v = .slice A xs.length c := by
  obtain ⟨hl, ⟨hv, h0⟩ | ⟨g, cap, cur, hv, r⟩⟩ := h
  · exact ⟨none, 0, by rw [h0]; exact hv⟩
  · exact ⟨_, cap, hv⟩
theorem Elt.Own.rd {w : World} {base : Nat} {xs : List α} {v : Value} (h : E.Own w base xs v) : E.Rd w xs v := by
  obtain ⟨A, c, hv, hr⟩ := ownsRow_rows h (E.lens xs) (by simp)
  refine ⟨A, c, by simpa using hv, hr w (Nat.le_refl _) (fun _ _ _ => rfl), fun hA => ?_⟩
  obtain ⟨hl, ⟨hv', h0⟩ | ⟨g, cap, cur, hv', r⟩⟩ := h
  · rw [hv] at hv'; injection hv' with _ _ h3; exact ⟨h3, h0⟩
  · rw [hv, hA] at hv'; cases hv'
theorem Elt.Rd.lat {w w' : World} {xs : List α} {v : Value} (h : E.Rd w xs v) (hl : Lat w w') : E.Rd w' xs v := by
  obtain ⟨A, c, hv, hr, hn⟩ := h
  exact ⟨A, c, hv, (hr.carry hl).mono hl.size, hn⟩
theorem Elt.Rd.of {w : World} {B : Nat} {xs : List α} {A : Option Addr} {c : Nat} (hB : B ≤ w.heap.size) (h : IsRows B w E.n (xs.map E.f) A) (hn : A = none → c = 0 ∧ xs.length = 0) : E.Rd w xs (.slice A xs.length c) := ⟨A, c, rfl, h.mono hB, hn⟩
theorem Elt.Rd.row {w : World} {xs : List α} {A : Option Addr} {n c : Nat} (h : E.Rd w xs (.slice A n c)) (j : Nat) (hj : j < xs.length) : ∃ b off, A = some ⟨b, off, none⟩ ∧ b < w.heap.size ∧ RowAt w b (off + j * E.n) (E.f xs[j]) := by
  obtain ⟨A', c', hv, hr, hn⟩ := h
  injection hv with e1 e2 e3
  subst e1
  obtain ⟨b, off, hA, hb, hrow⟩ := hr (by simpa using (by omega : 0 < xs.length))
  exact ⟨b, off, hA, hb, by have h1 := hrow j (by simpa using hj); rw [List.getElem_map] at h1; exact h1⟩
/-- One element more. -/
theorem Elt.append {w : World} {ops : Array Oper} {rest : List Oper} {o : Oper} {a : Act} {Q : Exit → Act → World → Prop} (E : Elt α) (hgd : o.guard = none) (s x : Operand)
    (ho : o.op = .call { callee := .builtin .append, args := #[s, x], argTypes := #[E.t, E.t] })
    (base : Nat) (xs : List α) (v : Value) (hs : a.eval s = v) (hown : E.Own w base xs v)
    (g1 c1 : Nat) (k : α) (hx : a.eval x = .slice (some ⟨g1, 0, none⟩) 1 c1) (t : TypeId) (hb : Blk w g1 t (E.f k).toArray)
    (hmax : xs.length + 1 ≤ maxLen) (hlen : (xs.length + 1) * E.bytes ≤ 140737488355328) (hbase : base ≤ w.heap.size)
    (h : ∀ v' w', E.Own w' base (xs ++ [k]) v' → w.grownBy w' v.ownBlock → (v'.ownBlock = v.ownBlock ∨ v'.ownBlock = some w.heap.size) → wpList Tryz.prog ops Q rest (a.put o.dst v') w') : wpList Tryz.prog ops Q (o :: rest) a w := by
  have hnews : ∀ j u, (E.f k)[j]? = some u → w.cell? ((⟨g1, 0, none⟩ : Addr).add j) = some u := fun j u hj => by
    have hadd : (⟨g1, 0, none⟩ : Addr).add j = ⟨g1, j, none⟩ := by unfold Addr.add; split <;> simp_all
    rw [hadd, hb.cell]; simpa using hj
  refine wpList_plain hgd fun K hK => ?_
  obtain ⟨v', w', hr, g2, g3, _⟩ := run_append_own (P := Tryz.prog) w base E.t o.type E.e E.i E.z E.n E.bytes E.ht E.hi E.hz E.hs E.hb E.hzs E.hn v xs.length (xs.map E.f).flatten hown ⟨g1, 0, none⟩ 1 c1 (E.f k) (by rw [E.len]; omega) hnews (E.one k) hmax hlen hbase
  have hw := append_where base E.t o.type E.e E.i E.z E.n E.bytes E.ht E.hi E.hz E.hs E.hb E.hn v xs.length (xs.map E.f).flatten hown ⟨g1, 0, none⟩ 1 c1 (by decide) (E.f k) (by rw [E.len]; omega) hnews (E.one k) hmax hlen v' w' hr
  unfold Oper.wp execOp
  simp only [ho, resolve, invoke, builtin, Sem.run_bind, Sem.run_pure, Result.andThen_ok, List.map_toArray, List.map_cons, List.map_nil, hs, hx, hr]
  exact hK _ _ (h v' w' (by simpa [Elt.Own] using g2) g3 hw)
/-- Several elements more. -/
theorem Elt.appends {w : World} {ops : Array Oper} {rest : List Oper} {o : Oper} {a : Act} {Q : Exit → Act → World → Prop} (E : Elt α) (hgd : o.guard = none) (s x : Operand)
    (ho : o.op = .call { callee := .builtin .append, args := #[s, x], argTypes := #[E.t, E.t] })
    (base : Nat) (xs : List α) (v : Value) (hs : a.eval s = v) (hown : E.Own w base xs v)
    (A : Option Addr) (n c : Nat) (ys : List α) (hx : a.eval x = .slice A n c) (hn : n = ys.length) (hnil : A = none → c = 0 ∧ n = 0) (hr : IsRows w.heap.size w E.n (ys.map E.f) A)
    (hmax : xs.length + ys.length ≤ maxLen) (hlen : (xs.length + ys.length) * E.bytes ≤ 140737488355328) (hbase : base ≤ w.heap.size)
    (h : ∀ v' w', E.Own w' base (xs ++ ys) v' → w.grownBy w' v.ownBlock → wpList Tryz.prog ops Q rest (a.put o.dst v') w') : wpList Tryz.prog ops Q (o :: rest) a w := by
  refine append_rows hgd s x E.t ho base E.e E.i E.z E.n E.bytes E.ht E.hi E.hz E.hs E.hb E.hzs E.hn v (xs.map E.f) hs (by simpa [Elt.Own] using hown) A n c w.heap.size (ys.map E.f) hx (by simpa using hn) hnil hr (E.lens ys) (E.ones ys) (by simpa using hmax) (by simpa using hlen) hbase ?_
  intro v' w' g2 g3
  exact h v' w' (by simpa [Elt.Own] using g2) g3
end

section
variable {α : Type} {E : Elt α}
theorem flatten_set {n : Nat} : ∀ (rows : List (List Value)) (j k : Nat) (u : Value), (∀ r ∈ rows, r.length = n) → (hj : j < rows.length) → k < n → (rows.set j (rows[j].set k u)).flatten = rows.flatten.set (j * n + k) u
  | r :: rows, 0, k, u, h, _, hk => by
    have hr : r.length = n := h r (by simp)
    simp only [List.set_cons_zero, List.flatten_cons, List.getElem_cons_zero, Nat.zero_mul, Nat.zero_add]
    rw [List.set_append_left _ _ (by omega)]
  | r :: rows, j + 1, k, u, h, hj, hk => by
    have hr : r.length = n := h r (by simp)
    simp only [List.set_cons_succ, List.flatten_cons, List.getElem_cons_succ]
    rw [flatten_set rows j k u (fun x hx => h x (by simp [hx])) (by simpa using hj) hk, List.set_append_right _ _ (by rw [hr, Nat.add_mul]; omega), hr]
    congr 2
    rw [Nat.add_mul]; omega
/-- One cell of an element turned. -/
theorem Elt.Own.set {w : World} {base : Nat} {xs : List α} {g n c : Nat} (h : E.Own w base xs (.slice (some ⟨g, 0, none⟩) n c)) (j k : Nat) (hj : j < xs.length) (hk : k < E.n) (u : Value) (y : α) (hy : E.f y = (E.f xs[j]).set k u) :
    E.Own (w.setCell ⟨g, j * E.n + k, none⟩ u) base (xs.set j y) (.slice (some ⟨g, 0, none⟩) n c) := by
  obtain ⟨hl, ⟨hv, h0⟩ | ⟨g', cap, cur, hv, hbg, hg, h1, h2, h3, h4⟩⟩ := h
  · cases hv
  · injection hv with e1 e2 e3
    injection e1 with e1
    injection e1 with e1
    subst e1
    refine ⟨by rw [E.flat], .inr ⟨g, cap, cur.setIfInBounds (j * E.n + k) u, by rw [List.length_set, e2, e3], hbg, heap_setCell_same w g _ _ _ u hg, by rw [List.length_set]; exact h1, h2, by rw [Array.size_setIfInBounds]; exact h3, ?_⟩⟩
    have hf := flatten_set (xs.map E.f) j k u (E.lens xs) (by simpa using hj) hk
    rw [Array.toList_setIfInBounds, List.length_set, List.take_set, h4, ← hf]
    congr 1
    rw [List.map_set, hy]
    simp
theorem Elt.Own.cell {w : World} {base : Nat} {xs : List α} {g n c : Nat} (h : E.Own w base xs (.slice (some ⟨g, 0, none⟩) n c)) (j k : Nat) (hj : j < xs.length) (hk : k < E.n) : w.cell? ⟨g, j * E.n + k, none⟩ = (E.f xs[j])[k]? := by
  obtain ⟨b, off, hA, hb, hr⟩ := h.rd.row j hj
  injection hA with hA
  injection hA with e1 e2
  subst e1 e2
  have hk' : k < (E.f xs[j]).length := by rw [E.len]; exact hk
  have := hr k (E.f xs[j])[k] (List.getElem?_eq_getElem hk')
  rw [Nat.zero_add] at this
  rw [this, List.getElem?_eq_getElem hk']
theorem Elt.Own.free {w : World} {base : Nat} {xs : List α} {g n c : Nat} (h : E.Own w base xs (.slice (some ⟨g, 0, none⟩) n c)) (i : Nat) : w.frozen? ⟨g, i, none⟩ = false := by
  obtain ⟨hl, ⟨hv, h0⟩ | ⟨g', cap, cur, hv, hbg, hg, h1⟩⟩ := h
  · cases hv
  · injection hv with e1 e2 e3
    injection e1 with e1
    injection e1 with e1
    subst e1
    exact frozen_of_row _ _ _ _ _ hg
theorem Elt.Own.form {w : World} {base : Nat} {xs : List α} {v : Value} (h : E.Own w base xs v) (h0 : 0 < xs.length) : ∃ g cap, v = .slice (some ⟨g, 0, none⟩) xs.length cap ∧ base ≤ g ∧ g < w.heap.size := by
  obtain ⟨hl, ⟨hv, h1⟩ | ⟨g', cap, cur, hv, hbg, hg, r⟩⟩ := h
  · omega
  · exact ⟨g', cap, hv, hbg, (Array.getElem?_eq_some_iff.1 hg).1⟩
/-- One element more, as one step of a region that draws. -/
theorem Elt.step {ops : Array Oper} {o : Oper} {a : Act} {w : World} {K : Act → World → Prop} {Q : Exit → Act → World → Prop} {F : Prop} (E : Elt α) (hgd : o.guard = none) (s x : Operand)
    (ho : o.op = .call { callee := .builtin .append, args := #[s, x], argTypes := #[E.t, E.t] })
    (base : Nat) (xs : List α) (v : Value) (hs : a.eval s = v) (hown : E.Own w base xs v)
    (g1 c1 : Nat) (k : α) (hx : a.eval x = .slice (some ⟨g1, 0, none⟩) 1 c1) (t : TypeId) (hb : Blk w g1 t (E.f k).toArray)
    (hmax : xs.length + 1 ≤ maxLen) (hlen : (xs.length + 1) * E.bytes ≤ 140737488355328) (hbase : base ≤ w.heap.size)
    (h : ∀ v' w', E.Own w' base (xs ++ [k]) v' → w.grownBy w' v.ownBlock → (v'.ownBlock = v.ownBlock ∨ v'.ownBlock = some w.heap.size) → K (a.put o.dst v') w') :
    if Region.wanted o (yielded ops a.tmps) = true then Oper.wp Tryz.prog o a w K Q else F := by
  have hw : Region.wanted o (yielded ops a.tmps) = true := by simp [Region.wanted, hgd]
  rw [if_pos hw]
  have hnews : ∀ j u, (E.f k)[j]? = some u → w.cell? ((⟨g1, 0, none⟩ : Addr).add j) = some u := fun j u hj => by
    have hadd : (⟨g1, 0, none⟩ : Addr).add j = ⟨g1, j, none⟩ := by unfold Addr.add; split <;> simp_all
    rw [hadd, hb.cell]; simpa using hj
  obtain ⟨v', w', hr, g2, g3, _⟩ := run_append_own (P := Tryz.prog) w base E.t o.type E.e E.i E.z E.n E.bytes E.ht E.hi E.hz E.hs E.hb E.hzs E.hn v xs.length (xs.map E.f).flatten hown ⟨g1, 0, none⟩ 1 c1 (E.f k) (by rw [E.len]; omega) hnews (E.one k) hmax hlen hbase
  have hw := append_where base E.t o.type E.e E.i E.z E.n E.bytes E.ht E.hi E.hz E.hs E.hb E.hn v xs.length (xs.map E.f).flatten hown ⟨g1, 0, none⟩ 1 c1 (by decide) (E.f k) (by rw [E.len]; omega) hnews (E.one k) hmax hlen v' w' hr
  unfold Oper.wp execOp
  simp only [ho, resolve, invoke, builtin, Sem.run_bind, Sem.run_pure, Result.andThen_ok, List.map_toArray, List.map_cons, List.map_nil, hs, hx, hr]
  exact h v' w' (by simpa [Elt.Own] using g2) g3 hw
end

theorem Elt.Rd.drop {α : Type} {E : Elt α} {w : World} {xs : List α} {A : Option Addr} {c : Nat} (h : E.Rd w xs (.slice A xs.length c)) (j : Nat) {b off : Nat} (hA : A = some ⟨b, off, none⟩) : IsRows w.heap.size w E.n ((xs.drop j).map E.f) (some ⟨b, off + j * E.n, none⟩) := fun h0 => by
  have hj : j < xs.length := by simp at h0; omega
  refine ⟨b, off + j * E.n, rfl, ?_, fun i hi => ?_⟩
  · obtain ⟨b', off', e, hb, _⟩ := h.row j hj
    rw [hA] at e; injection e with e; injection e with e1; subst e1; exact hb
  · have hi' : i < xs.length - j := by simpa using hi
    obtain ⟨b', off', e, hb, hr⟩ := h.row (j + i) (by omega)
    rw [hA] at e; injection e with e; injection e with e1 e2; subst e1 e2
    rw [Nat.add_assoc, ← Nat.add_mul, List.getElem_map, List.getElem_drop]
    exact hr
theorem Elt.Own.cap {α : Type} {E : Elt α} {w : World} {base : Nat} {xs : List α} {A : Option Addr} {n c : Nat} (h : E.Own w base xs (.slice A n c)) : xs.length ≤ c := by
  obtain ⟨hl, ⟨hv, h0⟩ | ⟨g, cap, cur, hv, r⟩⟩ := h
  · omega
  · injection hv with _ e2 e3
    obtain ⟨_, _, h3, _⟩ := r
    omega
theorem Elt.run_from {α : Type} (E : Elt α) {w0 : World} {xs : List α} {A : Option Addr} {c : Nat} (h : E.Rd w0 xs (.slice A xs.length c)) (hc : xs.length ≤ c) (j : Nat) (hj : j ≤ xs.length) :
    ∃ A' c', (∀ w, (Instr.slice E.t (.slice A xs.length c) (some (.int .i64 (j : Int))) none none).run Tryz.prog w = .ok (.slice A' (xs.length - j) c') w) ∧ E.Rd w0 (xs.drop j) (.slice A' (xs.length - j) c') := by
  have hel : Tryz.prog.elem E.t = E.e := by simp [Program.elem, E.ht]
  have hu : Tryz.prog.underlying E.t = some (.slice (Tryz.prog.elem E.t)) := by rw [hel]; exact E.ht
  have hrun : ∀ w, (Instr.slice E.t (.slice A xs.length c) (some (.int .i64 (j : Int))) none none).run Tryz.prog w = .ok (.slice (if c = j then A else A.map (·.add (j * E.n))) (xs.length - j) (c - j)) w := fun w => by
    rw [run_slice_l w E.t A xs.length c hu .i64 j (by omega) (by omega), hel]
    simp [sizeOf, typeInfo, E.hi, E.hs, Sem.run_bind, sliced]
  refine ⟨_, _, hrun, _, c - j, by rw [List.length_drop], fun h0 => ?_, fun hA => ?_⟩
  · have hj' : j < xs.length := by simp at h0; omega
    obtain ⟨b, off, rfl, hb, _⟩ := h.row j hj'
    rw [if_neg (by omega)]
    have := h.drop j rfl h0
    rw [Option.map_some, show (⟨b, off, none⟩ : Addr).add (j * E.n) = ⟨b, off + j * E.n, none⟩ from by unfold Addr.add; split <;> simp_all]
    exact this
  · obtain ⟨A1, c1, e, _, hn⟩ := h
    injection e with e1 e2 e3
    subst e1 e3
    have hA' : A = none := by
      split at hA
      · exact hA
      · simpa using hA
    obtain ⟨h1, h2⟩ := hn hA'
    rw [List.length_drop]
    omega
/-- Cells laid over a row, from a place on. -/
def splice : List Value → Nat → List Value → List Value
  | xs, _, [] => xs
  | xs, k, v :: r => splice (xs.set k v) (k + 1) r
theorem splice_len : ∀ (vs xs : List Value) (k : Nat), (splice xs k vs).length = xs.length
  | [], _, _ => rfl
  | v :: r, xs, k => by rw [splice, splice_len r, List.length_set]
/-- Nothing but one block is other. -/
structure OnlyAt (g : Nat) (w w' : World) : Prop where
  size : w.heap.size ≤ w'.heap.size
  block : ∀ k, k < w.heap.size → k ≠ g → w'.heap[k]? = w.heap[k]?
theorem OnlyAt.refl (g : Nat) (w : World) : OnlyAt g w w := ⟨Nat.le_refl _, fun _ _ _ => rfl⟩
theorem OnlyAt.trans {g : Nat} {a b c : World} (h : OnlyAt g a b) (h' : OnlyAt g b c) : OnlyAt g a c :=
  ⟨Nat.le_trans h.size h'.size, fun k hk hg => (h'.block k (Nat.lt_of_lt_of_le hk h.size) hg).trans (h.block k hk hg)⟩
theorem OnlyAt.lat {g : Nat} {w w' : World} (h : Lat w w') : OnlyAt g w w' := ⟨h.size, fun k hk _ => h.block k hk⟩
theorem only_setCells (g : Nat) : ∀ (vs : List Value) (o : Nat) (w : World), OnlyAt g w (w.setCells g o vs)
  | [], _, w => OnlyAt.refl g w
  | v :: r, o, w => by
    refine OnlyAt.trans ⟨?_, fun k hk hg => ?_⟩ (only_setCells g r (o + 1) (w.setCell ⟨g, o, none⟩ v))
    · exact ((Below.refl 0 w).setCell (p := ⟨g, o, none⟩) (Nat.zero_le _) v).size
    · exact heap_setCell_other w ⟨g, o, none⟩ k v hg
theorem below_cells {B g : Nat} (hg : B ≤ g) : ∀ (vs : List Value) (o : Nat) (w : World), Below B w (w.setCells g o vs)
  | [], _, w => Below.refl B w
  | v :: r, o, w => ((Below.refl B w).setCell (p := ⟨g, o, none⟩) hg v).trans (below_cells hg r (o + 1) _)
theorem owns_set {w : World} {base g n m c len : Nat} {e : TypeId} {xs : List Value} (h : w.ownsRow base e n (.slice (some ⟨g, 0, none⟩) m c) len xs) (i : Nat) (u : Value) :
    (w.setCell ⟨g, i, none⟩ u).ownsRow base e n (.slice (some ⟨g, 0, none⟩) m c) len (xs.set i u) := by
  obtain ⟨hl, ⟨hv, h0⟩ | ⟨g', cap, cur, hv, hbg, hg, h1, h2, h3, h4⟩⟩ := h
  · cases hv
  · injection hv with e1 e2 e3
    injection e1 with e1
    injection e1 with e1
    subst e1
    refine ⟨by rw [List.length_set]; exact hl, .inr ⟨g, cap, cur.setIfInBounds i u, by rw [e2, e3], hbg, heap_setCell_same w g _ _ _ u hg, h1, h2, by rw [Array.size_setIfInBounds]; exact h3, ?_⟩⟩
    rw [Array.toList_setIfInBounds, List.take_set, h4]
theorem owns_puts {base g n m c : Nat} {e : TypeId} {j : Nat} : ∀ (vs : List Value) (k : Nat) (w : World) (rows : List (List Value)), (∀ r ∈ rows, r.length = n) → (hj : j < rows.length) → k + vs.length ≤ n →
    w.ownsRow base e n (.slice (some ⟨g, 0, none⟩) m c) rows.length rows.flatten →
    (w.setCells g (j * n + k) vs).ownsRow base e n (.slice (some ⟨g, 0, none⟩) m c) rows.length (rows.set j (splice rows[j] k vs)).flatten
  | [], k, w, rows, _, hj, _, h => by rw [splice, List.set_getElem_self]; exact h
  | v :: r, k, w, rows, hr, hj, hk, h => by
    have hk' : k < n := by simp at hk; omega
    have h1 := owns_set h (j * n + k) v
    rw [← flatten_set rows j k v hr hj hk'] at h1
    have hl : (rows.set j (rows[j].set k v)).length = rows.length := List.length_set
    have h2 := owns_puts r (k + 1) (w.setCell ⟨g, j * n + k, none⟩ v) (rows.set j (rows[j].set k v)) (fun x hx => by
      rcases List.mem_or_eq_of_mem_set hx with hx | rfl
      · exact hr x hx
      · rw [List.length_set]; exact hr _ (List.getElem_mem hj)) (by rw [hl]; exact hj) (by simp at hk; omega) (by rw [hl]; exact h1)
    simp only [List.length_set, List.getElem_set_self, List.set_set] at h2
    rw [splice, World.setCells, Nat.add_assoc]
    exact h2
section
variable {α : Type} {E : Elt α}
theorem Elt.Own.puts {w : World} {base : Nat} {xs : List α} {g n c : Nat} (h : E.Own w base xs (.slice (some ⟨g, 0, none⟩) n c)) (j k : Nat) (hj : j < xs.length) (vs : List Value) (hk : k + vs.length ≤ E.n) (y : α) (hy : E.f y = splice (E.f xs[j]) k vs) :
    E.Own (w.setCells g (j * E.n + k) vs) base (xs.set j y) (.slice (some ⟨g, 0, none⟩) n c) := by
  have h' : w.ownsRow base E.e E.n (.slice (some ⟨g, 0, none⟩) n c) (xs.map E.f).length (xs.map E.f).flatten := by rw [List.length_map]; exact h
  have := owns_puts vs k w (xs.map E.f) (E.lens xs) (by simpa using hj) hk h'
  unfold Elt.Own
  rw [List.length_set, List.map_set, hy]
  simp only [List.length_map, List.getElem_map] at this
  exact this
theorem Elt.Own.base_le {w : World} {base : Nat} {xs : List α} {g n c : Nat} (h : E.Own w base xs (.slice (some ⟨g, 0, none⟩) n c)) : base ≤ g ∧ g < w.heap.size := h.lt g rfl
/-- A store into an element. -/
theorem Elt.put {w : World} {ops : Array Oper} {rest : List Oper} {o : Oper} {a : Act} {Q : Exit → Act → World → Prop} (E : Elt α) (hgd : o.guard = none) (ty : TypeId) (x y : Operand) (ho : o.op = .store ty x y)
    (base : Nat) (xs : List α) (g n c : Nat) (hown : E.Own w base xs (.slice (some ⟨g, 0, none⟩) n c)) (j k : Nat) (hj : j < xs.length) (off : Nat) (hoff : off = j * E.n + k)
    (hx : a.eval x = .pointer (some ⟨g, off, none⟩)) (u : Value) (hy : a.eval y = u) (hi : (Tryz.prog.info? ty).map (·.size) = some u.cells.size) (h1 : ∀ v ∈ u.cells.toList, v.oneCell' = true)
    (hk : k + u.cells.toList.length ≤ E.n) (z : α) (hz : E.f z = splice (E.f xs[j]) k u.cells.toList)
    (h : ∀ w', E.Own w' base (xs.set j z) (.slice (some ⟨g, 0, none⟩) n c) → OnlyAt g w w' → Below base w w' → wpList Tryz.prog ops Q rest (a.put o.dst undef) w') : wpList Tryz.prog ops Q (o :: rest) a w := by
  subst hoff
  have hcell : ∀ q, q < u.cells.toList.length → (w.cell? ⟨g, j * E.n + k + q, none⟩).isSome = true := fun q hq => by
    rw [Nat.add_assoc, hown.cell j (k + q) hj (by omega), List.getElem?_eq_getElem (by rw [E.len]; omega)]; rfl
  have hfr : ∀ q, q < u.cells.toList.length → w.frozen? ⟨g, j * E.n + k + q, none⟩ = false := fun q _ => hown.free _
  refine wpList_plain hgd fun K hK => ?_
  have hst := run_storeCells_cells (P := Tryz.prog) g (j * E.n + k) u.cells.toList 0 w (by simpa using hcell) (by simpa using hfr) h1
  have hrun : (storeVar ty ⟨g, j * E.n + k, none⟩ u).run Tryz.prog w = .ok () (w.setCells g (j * E.n + k) u.cells.toList) := by
    cases hq : Tryz.prog.info? ty with
    | none => simp [hq] at hi
    | some i =>
      have hs : u.cells.size = i.size := by simp [hq] at hi; omega
      simpa [storeVar, sizeOf, typeInfo, hq, hs] using hst
  unfold Oper.wp execOp
  simp only [ho, hx, hy, Instr.storeAt, Instr.sureAddr, Sem.run_bind, Sem.run_pure, Result.andThen_ok, hrun]
  exact hK _ _ (h _ (hown.puts j k hj _ hk z hz) (only_setCells _ _ _ _) (below_cells hown.base_le.1 _ _ _))
/-- A list that is read, whatever a block holds. -/
def Elt.RdS (E : Elt α) (g : Nat) (w : World) (xs : List α) (v : Value) : Prop := ∀ w', OnlyAt g w w' → E.Rd w' xs v
theorem Elt.RdS.rd {g : Nat} {w : World} {xs : List α} {v : Value} (h : E.RdS g w xs v) : E.Rd w xs v := h w (OnlyAt.refl g w)
theorem Elt.RdS.step {g : Nat} {w w' : World} {xs : List α} {v : Value} (h : E.RdS g w xs v) (ho : OnlyAt g w w') : E.RdS g w' xs v := fun w'' h' => h w'' (ho.trans h')
theorem Elt.Own.rdS {w : World} {base g : Nat} {xs : List α} {v : Value} (h : E.Own w base xs v) (hg : g < base) : E.RdS g w xs v := fun w' ho =>
  (h.carry (fun k hk => ho.block k (h.lt k hk).2 (by have := (h.lt k hk).1; omega))).rd
/-- A slice from a place on. -/
def Elt.sl (E : Elt α) (A : Option Addr) (n c j : Nat) : Value := .slice (if c = j then A else A.map (·.add (j * E.n))) (n - j) (c - j)
theorem Elt.run_sl (E : Elt α) (A : Option Addr) (n c j : Nat) (hj : j ≤ n) (w : World) :
    (Instr.slice E.t (.slice A n c) (some (.int .i64 (j : Int))) none none).run Tryz.prog w = .ok (E.sl A n c j) w := by
  have hel : Tryz.prog.elem E.t = E.e := by simp [Program.elem, E.ht]
  have hu : Tryz.prog.underlying E.t = some (.slice (Tryz.prog.elem E.t)) := by rw [hel]; exact E.ht
  rw [run_slice_l w E.t A n c hu .i64 j (by omega) (by omega), hel]
  simp [sizeOf, typeInfo, E.hi, E.hs, Sem.run_bind, sliced, Elt.sl]
theorem Elt.Rd.sl {w0 : World} {xs : List α} {A : Option Addr} {c : Nat} (h : E.Rd w0 xs (.slice A xs.length c)) (hc : xs.length ≤ c) (j : Nat) (hj : j ≤ xs.length) : E.Rd w0 (xs.drop j) (E.sl A xs.length c j) := by
  refine ⟨_, c - j, by rw [List.length_drop]; rfl, fun h0 => ?_, fun hA => ?_⟩
  · have hj' : j < xs.length := by simp at h0; omega
    obtain ⟨b, off, rfl, hb, _⟩ := h.row j hj'
    rw [if_neg (by omega)]
    have := h.drop j rfl h0
    rw [Option.map_some, show (⟨b, off, none⟩ : Addr).add (j * E.n) = ⟨b, off + j * E.n, none⟩ from by unfold Addr.add; split <;> simp_all]
    exact this
  · obtain ⟨A1, c1, e, _, hn⟩ := h
    injection e with e1 e2 e3
    subst e1 e3
    have hA' : A = none := by
      split at hA
      · exact hA
      · simpa using hA
    obtain ⟨h1, h2⟩ := hn hA'
    rw [List.length_drop]
    omega
theorem Elt.Own.slS {w : World} {base g : Nat} {xs : List α} {A : Option Addr} {c : Nat} (h : E.Own w base xs (.slice A xs.length c)) (hg : g < base) (j : Nat) (hj : j ≤ xs.length) : E.RdS g w (xs.drop j) (E.sl A xs.length c j) := fun w' ho =>
  ((h.rdS hg) w' ho).sl h.cap j hj
end
theorem wpList_load_atG {P : Program} {ops : Array Oper} {rest : List Oper} {o : Oper} {a : Act} {w : World} {Q : Exit → Act → World → Prop} (hw : Region.wanted o (yielded ops a.tmps) = true) (ty : TypeId) (x : Operand) (ho : o.op = .load ty x)
    (b off : Nat) (hx : a.eval x = .pointer (some ⟨b, off, none⟩)) (cs : List Value) (d : TypeDesc) (h : RowAt w b off cs)
    (hu : P.underlying ty = some d) (hd : (match d with | .struct _ | .array _ _ => true | _ => false) = true) (hi : (P.info? ty).map (·.size) = some cs.length)
    (hK : wpList P ops Q rest (a.put o.dst (.agg cs.toArray)) w) : wpList P ops Q (o :: rest) a w :=
  wpList_step fun K hK' => by rw [if_pos hw]; exact wp_load_at ty x ho b off hx cs d h hu hd hi (hK' _ _ hK)
theorem Elt.Rd.take {α : Type} {E : Elt α} {w : World} {xs : List α} {A : Option Addr} {c : Nat} (h : E.Rd w xs (.slice A xs.length c)) (j : Nat) (hj : j ≤ xs.length) : E.Rd w (xs.take j) (.slice A j c) := by
  obtain ⟨A1, c1, e, hr, hn⟩ := h
  injection e with e1 e2 e3
  subst e1 e3
  have hl : (xs.take j).length = j := by rw [List.length_take]; omega
  refine ⟨A, c, by rw [hl], fun h0 => ?_, fun hA => ?_⟩
  · obtain ⟨b, off, hA, hb, hrow⟩ := hr (by simp at h0 ⊢; omega)
    refine ⟨b, off, hA, hb, fun i hi => ?_⟩
    have hi' : i < xs.length := by simp at hi; omega
    have := hrow i (by simpa using hi')
    simpa using this
  · have := hn hA
    rw [hl]; omega
theorem Elt.run_to {α : Type} (E : Elt α) {w0 : World} {xs : List α} {A : Option Addr} {c : Nat} (h : E.Rd w0 xs (.slice A xs.length c)) (hc : xs.length ≤ c) (j : Nat) (hj : j ≤ xs.length) :
    ∃ A' c', (∀ w, (Instr.slice E.t (.slice A xs.length c) none (some (.int .i64 (j : Int))) none).run Tryz.prog w = .ok (.slice A' j c') w) ∧ E.Rd w0 (xs.take j) (.slice A' j c') := by
  have hel : Tryz.prog.elem E.t = E.e := by simp [Program.elem, E.ht]
  have hu : Tryz.prog.underlying E.t = some (.slice (Tryz.prog.elem E.t)) := by rw [hel]; exact E.ht
  have hA : A.map (·.add (0 * E.n)) = A := by
    cases A with
    | none => rfl
    | some a => simp [Addr.add_zero']
  refine ⟨A, c, fun w => ?_, h.take j hj⟩
  rw [run_slice_h w E.t A xs.length c hu .i64 j (by omega) (by omega), hel]
  simp [sizeOf, typeInfo, E.hi, E.hs, Sem.run_bind, sliced]
  intro _
  simpa using hA
theorem Elt.Rd.blk {α : Type} {E : Elt α} {w : World} {g : Nat} {t : TypeId} {ys : List α} (h : Blk w g t (ys.map E.f).flatten.toArray) (c : Nat) : E.Rd w ys (.slice (some ⟨g, 0, none⟩) ys.length c) :=
  ⟨some ⟨g, 0, none⟩, c, rfl, fun _ => ⟨g, 0, rfl, h.lt, (flat_iff (ys.map E.f) 0 (E.lens ys)).1 h.row⟩, fun h => by cases h⟩
theorem Elt.Own.made {α : Type} (E : Elt α) (w : World) (l : List α) (hl : l.length ≤ maxLen) : E.Own (w.alloc (.cells (l.map E.f).flatten.toArray E.e)) w.heap.size l (.slice (some ⟨w.heap.size, 0, none⟩) l.length l.length) :=
  ⟨E.flat l, .inr ⟨w.heap.size, l.length, _, rfl, Nat.le_refl _, heap_alloc_new w _, Nat.le_refl _, hl, by rw [List.size_toArray]; exact E.flat l, List.take_of_length_le (by show (l.map E.f).flatten.length ≤ l.length * E.n; rw [E.flat l]; exact Nat.le_refl _)⟩⟩
end Go.Proofs.YtafodibbcfoclaaGreat
