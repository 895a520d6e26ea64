/- Lists in memory: rows of elements of one type, of the call's own or to be read; one element more, several more. -/
import Derived.Test.YtgjoojailghilaaDoorVCon
set_option linter.unusedSimpArgs false
set_option linter.unusedVariables false
namespace Go.Proofs.YtgjoojailghilaaDoor
open Go.RowKit

section
variable {P : Program} {w : World}
/-- Where the slice lies that an append hands back. -/
theorem append_where (base : Nat) (t ty e : TypeId) (i : TypeInfo) (z : Value) (size bytes : Nat) (ht : P.underlying t = some (.slice e)) (hi : P.info? e = some i) (hz : i.zero = some z)
    (hsize : i.size = size) (hby : i.bytes = bytes) (hsz : 0 < size) (v : Value) (n : Nat) (xs : List Value) (hown : w.ownsRow base e size v n xs)
    (a : Addr) (m c : Nat) (hm : 0 < m) (news : List Value) (hl : news.length = m * size) (hnews : ∀ j u, news[j]? = some u → w.cell? (a.add j) = some u) (h1 : ∀ u ∈ news, u.oneCell' = true)
    (h63 : n + m ≤ maxLen) (hbytes : (n + m) * bytes ≤ 140737488355328) (v' : Value) (w' : World)
    (hr : (Builtin.append_ #[t, t] ty #[v, .slice (some a) m c]).run P w = .ok v' w') : v'.ownBlock = v.ownBlock ∨ v'.ownBlock = some w.heap.size := by
  subst hsize
  subst hby
  simp only [maxLen] at h63
  rcases hown.2 with ⟨rfl, rfl⟩ | ⟨g, cap, cur, rfl, hbg, hg, hnc, hcm, hcs, htake⟩
  · rw [run_append_nil (P := P) w t ty e i z ht hi hz a m c news hl hnews hm (by omega) (by rw [Nat.zero_add] at hbytes; omega)] at hr
    injection hr with hr _
    exact .inr (by rw [← hr]; rfl)
  · by_cases hroom : n + m ≤ cap
    · have hfit : n * i.size + news.length ≤ cur.size := by rw [hl, hcs, ← Nat.add_mul]; exact Nat.mul_le_mul_right _ hroom
      rw [run_append_room (P := P) w t ty e i ht hi g n cap cur hg a m c news hl hnews h1 hroom hfit] at hr
      injection hr with hr _
      exact .inl (by rw [← hr]; rfl)
    · have holds : ∀ j u, xs[j]? = some u → w.cell? ((⟨g, 0, none⟩ : Addr).add j) = some u := hown.cells (g := g) rfl
      rw [run_append_grow (P := P) w t ty e i z ht hi hz ⟨g, 0, none⟩ n cap xs hown.1 holds a m c news hl hnews (by omega) (by omega) (growslice_fits (by omega) hbytes)] at hr
      injection hr with hr _
      exact .inr (by rw [← hr]; rfl)
end
/-- A kind of elements: the types, the cells. -/
structure Elt (α : Type) where
  e : TypeId
  t : TypeId
  n : Nat
  bytes : Nat
  f : α → List Value
  i : TypeInfo
  z : Value
  ht : Tryd.prog.underlying t = some (.slice e)
  hi : Tryd.prog.info? e = some i
  hz : i.zero = some z
  hs : i.size = n
  hb : i.bytes = bytes
  hzs : z.cells.size = n
  hn : 0 < n
  len : ∀ x, (f x).length = n
  one : ∀ x, ∀ u ∈ f x, u.oneCell' = true

section
variable {α : Type} (E : Elt α)
theorem Elt.lens (xs : List α) : ∀ r ∈ xs.map E.f, r.length = E.n := fun r hr => by obtain ⟨k, _, rfl⟩ := List.mem_map.1 hr; exact E.len k
theorem Elt.ones (xs : List α) : ∀ u ∈ (xs.map E.f).flatten, u.oneCell' = true := fun u hu => by
  obtain ⟨r, hr, hu⟩ := List.mem_flatten.1 hu
  obtain ⟨x, _, rfl⟩ := List.mem_map.1 hr
  exact E.one x u hu
theorem Elt.flat (xs : List α) : (xs.map E.f).flatten.length = xs.length * E.n := by rw [flat_len _ (E.lens xs)]; simp
/-- A list that the call itself fills. -/
def Elt.Own (w : World) (base : Nat) (xs : List α) (v : Value) : Prop := w.ownsRow base E.e E.n v xs.length (xs.map E.f).flatten
/-- A list to be read. -/
def Elt.Rd (w : World) (xs : List α) (v : Value) : Prop := ∃ A c, v = .slice A xs.length c ∧ IsRows w.heap.size w E.n (xs.map E.f) A ∧ (A = none → c = 0 ∧ xs.length = 0)
variable {E}
theorem Elt.Own.nil (w : World) (base : Nat) : E.Own w base [] (.slice none 0 0) := ⟨by simp, .inl ⟨rfl, rfl⟩⟩
theorem Elt.Rd.nil (w : World) : E.Rd w [] (.slice none 0 0) := ⟨none, 0, rfl, fun h => by simp at h, fun _ => ⟨rfl, rfl⟩⟩
theorem Elt.Own.lt {w : World} {base : Nat} {xs : List α} {v : Value} (h : E.Own w base xs v) : ∀ k, v.ownBlock = some k → base ≤ k ∧ k < w.heap.size := World.ownsRow.lt h
theorem Elt.Own.carry {w w' : World} {base : Nat} {xs : List α} {v : Value} (h : E.Own w base xs v) (hb : ∀ k, v.ownBlock = some k → w'.heap[k]? = w.heap[k]?) : E.Own w' base xs v := by
  obtain ⟨hl, h | ⟨g, cap, cur, hv, hbg, hg, h1⟩⟩ := h
  · exact ⟨hl, .inl h⟩
  · exact ⟨hl, .inr ⟨g, cap, cur, hv, hbg, (hb g (by rw [hv]; rfl)).trans hg, h1⟩⟩
theorem Elt.Own.lat {w w' : World} {base : Nat} {xs : List α} {v : Value} (h : E.Own w base xs v) (hl : Lat w w') : E.Own w' base xs v := h.carry (fun k hk => hl.block k (h.lt k hk).2)
theorem Elt.Own.al {w : World} {base : Nat} {xs : List α} {v : Value} (h : E.Own w base xs v) (o : Obj) : E.Own (w.alloc o) base xs v := h.lat (Lat.al _ _)
theorem Elt.Own.mono {w : World} {base base' : Nat} {xs : List α} {v : Value} (h : E.Own w base xs v) (hb : base' ≤ base) : E.Own w base' xs v := by
  obtain ⟨hl, h | ⟨g, cap, cur, hv, hbg, h1⟩⟩ := h
  · exact ⟨hl, .inl h⟩
  · exact ⟨hl, .inr ⟨g, cap, cur, hv, Nat.le_trans hb hbg, h1⟩⟩
theorem Elt.Own.slice {w : World} {base : Nat} {xs : List α} {v : Value} (h : E.Own w base xs v) : ∃ A c, v = .slice A xs.length c := by
  obtain ⟨hl, ⟨hv, h0⟩ | ⟨g, cap, cur, hv, r⟩⟩ := h
  · exact ⟨none, 0, by rw [h0]; exact hv⟩
  · exact ⟨_, cap, hv⟩
theorem Elt.Own.rd {w : World} {base : Nat} {xs : List α} {v : Value} (h : E.Own w base xs v) : E.Rd w xs v := by
  obtain ⟨A, c, hv, hr⟩ := ownsRow_rows h (E.lens xs) (by simp)
  refine ⟨A, c, by simpa using hv, hr w (Nat.le_refl _) (fun _ _ _ => rfl), fun hA => ?_⟩
  obtain ⟨hl, ⟨hv', h0⟩ | ⟨g, cap, cur, hv', r⟩⟩ := h
  · rw [hv] at hv'; injection hv' with _ _ h3; exact ⟨h3, h0⟩
  · rw [hv, hA] at hv'; cases hv'
theorem Elt.Rd.lat {w w' : World} {xs : List α} {v : Value} (h : E.Rd w xs v) (hl : Lat w w') : E.Rd w' xs v := by
  obtain ⟨A, c, hv, hr, hn⟩ := h
  exact ⟨A, c, hv, (hr.carry hl).mono hl.size, hn⟩
theorem Elt.Rd.of {w : World} {B : Nat} {xs : List α} {A : Option Addr} {c : Nat} (hB : B ≤ w.heap.size) (h : IsRows B w E.n (xs.map E.f) A) (hn : A = none → c = 0 ∧ xs.length = 0) : E.Rd w xs (.slice A xs.length c) := ⟨A, c, rfl, h.mono hB, hn⟩
theorem Elt.Rd.row {w : World} {xs : List α} {A : Option Addr} {n c : Nat} (h : E.Rd w xs (.slice A n c)) (j : Nat) (hj : j < xs.length) : ∃ b off, A = some ⟨b, off, none⟩ ∧ b < w.heap.size ∧ RowAt w b (off + j * E.n) (E.f xs[j]) := by
  obtain ⟨A', c', hv, hr, hn⟩ := h
  injection hv with e1 e2 e3
  subst e1
  obtain ⟨b, off, hA, hb, hrow⟩ := hr (by simpa using (by omega : 0 < xs.length))
  exact ⟨b, off, hA, hb, by have h1 := hrow j (by simpa using hj); rw [List.getElem_map] at h1; exact h1⟩
/-- One element more. -/
theorem Elt.append {w : World} {ops : Array Oper} {rest : List Oper} {o : Oper} {a : Act} {Q : Exit → Act → World → Prop} (E : Elt α) (hgd : o.guard = none) (s x : Operand)
    (ho : o.op = .call { callee := .builtin .append, args := #[s, x], argTypes := #[E.t, E.t] })
    (base : Nat) (xs : List α) (v : Value) (hs : a.eval s = v) (hown : E.Own w base xs v)
    (g1 c1 : Nat) (k : α) (hx : a.eval x = .slice (some ⟨g1, 0, none⟩) 1 c1) (t : TypeId) (hb : Blk w g1 t (E.f k).toArray)
    (hmax : xs.length + 1 ≤ maxLen) (hlen : (xs.length + 1) * E.bytes ≤ 140737488355328) (hbase : base ≤ w.heap.size)
    (h : ∀ v' w', E.Own w' base (xs ++ [k]) v' → w.grownBy w' v.ownBlock → (v'.ownBlock = v.ownBlock ∨ v'.ownBlock = some w.heap.size) → wpList Tryd.prog ops Q rest (a.put o.dst v') w') : wpList Tryd.prog ops Q (o :: rest) a w := by
  have hnews : ∀ j u, (E.f k)[j]? = some u → w.cell? ((⟨g1, 0, none⟩ : Addr).add j) = some u := fun j u hj => by
    have hadd : (⟨g1, 0, none⟩ : Addr).add j = ⟨g1, j, none⟩ := by unfold Addr.add; split <;> simp_all
    rw [hadd, hb.cell]; simpa using hj
  refine wpList_plain hgd fun K hK => ?_
  obtain ⟨v', w', hr, g2, g3, _⟩ := run_append_own (P := Tryd.prog) w base E.t o.type E.e E.i E.z E.n E.bytes E.ht E.hi E.hz E.hs E.hb E.hzs E.hn v xs.length (xs.map E.f).flatten hown ⟨g1, 0, none⟩ 1 c1 (E.f k) (by rw [E.len]; omega) hnews (E.one k) hmax hlen hbase
  have hw := append_where base E.t o.type E.e E.i E.z E.n E.bytes E.ht E.hi E.hz E.hs E.hb E.hn v xs.length (xs.map E.f).flatten hown ⟨g1, 0, none⟩ 1 c1 (by decide) (E.f k) (by rw [E.len]; omega) hnews (E.one k) hmax hlen v' w' hr
  unfold Oper.wp execOp
  simp only [ho, resolve, invoke, builtin, Sem.run_bind, Sem.run_pure, Result.andThen_ok, List.map_toArray, List.map_cons, List.map_nil, hs, hx, hr]
  exact hK _ _ (h v' w' (by simpa [Elt.Own] using g2) g3 hw)
/-- Several elements more. -/
theorem Elt.appends {w : World} {ops : Array Oper} {rest : List Oper} {o : Oper} {a : Act} {Q : Exit → Act → World → Prop} (E : Elt α) (hgd : o.guard = none) (s x : Operand)
    (ho : o.op = .call { callee := .builtin .append, args := #[s, x], argTypes := #[E.t, E.t] })
    (base : Nat) (xs : List α) (v : Value) (hs : a.eval s = v) (hown : E.Own w base xs v)
    (A : Option Addr) (n c : Nat) (ys : List α) (hx : a.eval x = .slice A n c) (hn : n = ys.length) (hnil : A = none → c = 0 ∧ n = 0) (hr : IsRows w.heap.size w E.n (ys.map E.f) A)
    (hmax : xs.length + ys.length ≤ maxLen) (hlen : (xs.length + ys.length) * E.bytes ≤ 140737488355328) (hbase : base ≤ w.heap.size)
    (h : ∀ v' w', E.Own w' base (xs ++ ys) v' → w.grownBy w' v.ownBlock → wpList Tryd.prog ops Q rest (a.put o.dst v') w') : wpList Tryd.prog ops Q (o :: rest) a w := by
  refine append_rows hgd s x E.t ho base E.e E.i E.z E.n E.bytes E.ht E.hi E.hz E.hs E.hb E.hzs E.hn v (xs.map E.f) hs (by simpa [Elt.Own] using hown) A n c w.heap.size (ys.map E.f) hx (by simpa using hn) hnil hr (E.lens ys) (E.ones ys) (by simpa using hmax) (by simpa using hlen) hbase ?_
  intro v' w' g2 g3
  exact h v' w' (by simpa [Elt.Own] using g2) g3
end

theorem infoW : (Tryd.prog.info? 29).map (fun i => (i.zero, i.size, i.bytes)) = some (some (.agg #[.int .i64 0, .string { data := #[] }, .string { data := #[] }, .int .i64 0, .int .i64 0, .string { data := #[] }, .int .i64 0, .string { data := #[] }, .int .i64 0, .int .i64 0]), 10, 112) := by kernel_rfl
/-- Writes. -/
noncomputable def EW : Elt LW where
  e := 29
  t := 33
  n := 10
  bytes := 112
  f := wC
  i := (info_parts infoW).choose
  z := _
  ht := Tryd.underlying33
  hi := (info_parts infoW).choose_spec.1
  hz := (info_parts infoW).choose_spec.2.1
  hs := (info_parts infoW).choose_spec.2.2.1
  hb := (info_parts infoW).choose_spec.2.2.2
  hzs := rfl
  hn := by decide
  len := fun x => rfl
  one := fun x u hu => by
    simp only [wC, List.mem_cons, List.not_mem_nil, or_false] at hu
    rcases hu with rfl | rfl | rfl | rfl | rfl | rfl | rfl | rfl | rfl | rfl <;> rfl
/-- A decision's cells. -/
structure DR where
  key : LKey
  win : LW
  A : Option Addr
  n : Nat
  c : Nat
  err : Int
def DR.cells (d : DR) : List Value := kC d.key ++ wC d.win ++ [.slice d.A d.n d.c, .int .i64 d.err]
theorem infoD : (Tryd.prog.info? 44).map (fun i => (i.zero, i.size, i.bytes)) = some (some (.agg #[.int .i64 0, .string { data := #[] }, .string { data := #[] }, .int .i64 0, .string { data := #[] }, .string { data := #[] }, .int .i64 0, .int .i64 0, .string { data := #[] }, .int .i64 0, .string { data := #[] }, .int .i64 0, .int .i64 0, .slice none 0 0, .int .i64 0]), 15, 184) := by kernel_rfl
/-- Decisions. -/
noncomputable def ED : Elt DR where
  e := 44
  t := 36
  n := 15
  bytes := 184
  f := DR.cells
  i := (info_parts infoD).choose
  z := _
  ht := Tryd.underlying36
  hi := (info_parts infoD).choose_spec.1
  hz := (info_parts infoD).choose_spec.2.1
  hs := (info_parts infoD).choose_spec.2.2.1
  hb := (info_parts infoD).choose_spec.2.2.2
  hzs := rfl
  hn := by decide
  len := fun x => rfl
  one := fun x u hu => by
    simp only [DR.cells, kC, wC, List.cons_append, List.nil_append, List.mem_cons, List.not_mem_nil, or_false] at hu
    rcases hu with rfl | rfl | rfl | rfl | rfl | rfl | rfl | rfl | rfl | rfl | rfl | rfl | rfl | rfl | rfl <;> rfl
/-- What a decision's cells say. -/
def DR.says (w : World) (r : DR) (d : LD) : Prop := r.key = d.key ∧ r.win = d.win ∧ r.err = d.err ∧ EW.Rd w d.los (.slice r.A r.n r.c)
theorem DR.says.lat {w w' : World} {r : DR} {d : LD} (h : r.says w d) (hl : Lat w w') : r.says w' d := ⟨h.1, h.2.1, h.2.2.1, h.2.2.2.lat hl⟩
/-- A list of decisions to be read. -/
def RdD (w : World) (ds : List LD) (v : Value) : Prop := ∃ rs : List DR, rs.length = ds.length ∧ ED.Rd w rs v ∧ ∀ (i : Nat) (h1 : i < rs.length) (h2 : i < ds.length), rs[i].says w ds[i]
theorem RdD.lat {w w' : World} {ds : List LD} {v : Value} (h : RdD w ds v) (hl : Lat w w') : RdD w' ds v := by
  obtain ⟨rs, h1, h2, h3⟩ := h
  exact ⟨rs, h1, h2.lat hl, fun i a b => (h3 i a b).lat hl⟩
end Go.Proofs.YtgjoojailghilaaDoor
