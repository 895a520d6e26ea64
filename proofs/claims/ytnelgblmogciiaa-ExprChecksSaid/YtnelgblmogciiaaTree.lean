/- Expressions in memory, with a word on the blocks in which their rows lie; slices of expressions that the call itself fills. -/
import Derived.Test.YtnelgblmogciiaaFlat
import Derived.Test.YtnelgblmogciiaaRely4
set_option linter.unusedSimpArgs false
set_option linter.unusedVariables false
namespace Go.Proofs.Ytnelgblmogciiaa
open Go.RowKit

/-- A list of cells reads as an expression, all of whose rows lie in blocks of which ok holds. -/
inductive IsExprP (ok : Nat → Prop) (w : World) : LExpr → List Value → Prop where
  | mk (h : Hd) (ks : List LExpr) (A : Option Addr) (c b off : Nat) (cs : Nat → List Value) (hok : h.ok) (hlen : ks.length * 136 ≤ 140737488351232)
      (hA : 0 < ks.length → A = some ⟨b, off, none⟩ ∧ ok b)
      (hsz : ∀ i, (cs i).length = 11) (hrow : ∀ i (hi : i < ks.length), RowAt w b (off + i * 11) (cs i)) (hk : ∀ i (hi : i < ks.length), IsExprP ok w ks[i] (cs i)) :
      IsExprP ok w (.mk h ks) (h.cells (.slice A ks.length c))

theorem IsExpr.toP {B : Nat} {w : World} {e : LExpr} {cs : List Value} (h : IsExpr B w e cs) : IsExprP (· < B) w e cs := by
  induction h with
  | mk h ks A c b off cs ok hlen hA hsz hrow hk ih => exact .mk h ks A c b off cs ok hlen hA hsz hrow ih
theorem IsExprP.len {ok : Nat → Prop} {w : World} {e : LExpr} {cs : List Value} (h : IsExprP ok w e cs) : cs.length = 11 := by
  cases h; simp [Hd.cells]
theorem IsExprP.one {ok : Nat → Prop} {w : World} {e : LExpr} {cs : List Value} (h : IsExprP ok w e cs) : ∀ u ∈ cs, u.oneCell' = true := by
  cases h with
  | mk h ks A c b off cs ok hlen hA hsz hrow hk =>
    intro u hu
    have := cells_one h A ks.length c
    exact Array.all_eq_true_iff_forall_mem.1 this u (by simpa using hu)

theorem IsExprP.form {ok : Nat → Prop} {w : World} {e : LExpr} {cs : List Value} (h : IsExprP ok w e cs) : ∃ (hd : Hd) (n : Nat) (A : Option Addr) (c : Nat), cs = hd.cells (.slice A n c) := by
  cases h with
  | mk h ks A c b off cs ok hlen hA hsz hrow hk => exact ⟨h, ks.length, A, c, rfl⟩
theorem rowAt_lt {w : World} {b off : Nat} {cs : List Value} (h : RowAt w b off cs) (hl : 0 < cs.length) : b < w.heap.size := by
  have := h 0 cs[0] (List.getElem?_eq_getElem hl)
  exact World.block_lt_of_cell? w _ this
theorem rowAt_block {w w' : World} {b off : Nat} {cs : List Value} (h : RowAt w b off cs) (hb : w'.heap[b]? = w.heap[b]?) : RowAt w' b off cs :=
  fun j v hj => (World.cell?_of_block (w := w) (a := ⟨b, off + j, none⟩) hb).trans (h j v hj)

theorem IsExprP.mono {ok ok' : Nat → Prop} {w : World} {e : LExpr} {cs : List Value} (h : IsExprP ok w e cs) (hm : ∀ b, ok b → b < w.heap.size → ok' b) : IsExprP ok' w e cs := by
  induction h with
  | mk h ks A c b off cs hok hlen hA hsz hrow hk ih =>
    exact .mk h ks A c b off cs hok hlen (fun h0 => ⟨(hA h0).1, hm b (hA h0).2 (rowAt_lt (hrow 0 h0) (by rw [hsz]; omega))⟩) hsz hrow ih
theorem IsExprP.carry {ok : Nat → Prop} {w w' : World} {e : LExpr} {cs : List Value} (h : IsExprP ok w e cs) (hb : ∀ b, ok b → b < w.heap.size → w'.heap[b]? = w.heap[b]?) : IsExprP ok w' e cs := by
  induction h with
  | mk h ks A c b off cs hok hlen hA hsz hrow hk ih =>
    exact .mk h ks A c b off cs hok hlen hA hsz (fun i hi => rowAt_block (hrow i hi) (hb b (hA (by omega)).2 (rowAt_lt (hrow i hi) (by rw [hsz]; omega)))) ih
theorem IsExprP.toB {ok : Nat → Prop} {w : World} {e : LExpr} {cs : List Value} (h : IsExprP ok w e cs) {B : Nat} (hm : ∀ b, ok b → b < w.heap.size → b < B) : IsExpr B w e cs := by
  induction h with
  | mk h ks A c b off cs hok hlen hA hsz hrow hk ih =>
    exact .mk h ks A c b off cs hok hlen (fun h0 => ⟨(hA h0).1, hm b (hA h0).2 (rowAt_lt (hrow 0 h0) (by rw [hsz]; omega))⟩) hsz hrow ih
theorem IsExprP.lat {ok : Nat → Prop} {w w' : World} {e : LExpr} {cs : List Value} (h : IsExprP ok w e cs) (hl : Lat w w') : IsExprP ok w' e cs := h.carry (fun b _ hb => hl.block b hb)
theorem IsExprP.toIs {ok : Nat → Prop} {w : World} {e : LExpr} {cs : List Value} (h : IsExprP ok w e cs) : IsExpr w.heap.size w e cs := h.toB (fun _ _ hb => hb)

/-- A value that reads as an expression. -/
def Ex (ok : Nat → Prop) (e : LExpr) (v : Value) (w : World) : Prop := ∃ cs : List Value, v = .agg cs.toArray ∧ IsExprP ok w e cs
theorem Ex.lat {ok : Nat → Prop} {e : LExpr} {v : Value} {w w' : World} (h : Ex ok e v w) (hl : Lat w w') : Ex ok e v w' := by
  obtain ⟨cs, hv, he⟩ := h; exact ⟨cs, hv, he.lat hl⟩
theorem Ex.mono {ok ok' : Nat → Prop} {e : LExpr} {v : Value} {w : World} (h : Ex ok e v w) (hm : ∀ b, ok b → b < w.heap.size → ok' b) : Ex ok' e v w := by
  obtain ⟨cs, hv, he⟩ := h; exact ⟨cs, hv, he.mono hm⟩

section
variable {P : Program} {w : World}
/-- Where the slice lies that an append hands back. -/
theorem append_where (base : Nat) (t ty e : TypeId) (i : TypeInfo) (z : Value) (size bytes : Nat) (ht : P.underlying t = some (.slice e)) (hi : P.info? e = some i) (hz : i.zero = some z)
    (hsize : i.size = size) (hby : i.bytes = bytes) (hsz : 0 < size) (v : Value) (n : Nat) (xs : List Value) (hown : w.ownsRow base e size v n xs)
    (a : Addr) (m c : Nat) (hm : 0 < m) (news : List Value) (hl : news.length = m * size) (hnews : ∀ j u, news[j]? = some u → w.cell? (a.add j) = some u) (h1 : ∀ u ∈ news, u.oneCell' = true)
    (h63 : n + m ≤ maxLen) (hbytes : (n + m) * bytes ≤ 140737488355328) (v' : Value) (w' : World)
    (hr : (Builtin.append_ #[t, t] ty #[v, .slice (some a) m c]).run P w = .ok v' w') : v'.ownBlock = v.ownBlock ∨ v'.ownBlock = some w.heap.size := by
  subst hsize
  subst hby
  simp only [maxLen] at h63
  rcases hown.2 with ⟨rfl, rfl⟩ | ⟨g, cap, cur, rfl, hbg, hg, hnc, hcm, hcs, htake⟩
  · rw [run_append_nil (P := P) w t ty e i z ht hi hz a m c news hl hnews hm (by omega) (by rw [Nat.zero_add] at hbytes; omega)] at hr
    injection hr with hr _
    exact .inr (by rw [← hr]; rfl)
  · by_cases hroom : n + m ≤ cap
    · have hfit : n * i.size + news.length ≤ cur.size := by rw [hl, hcs, ← Nat.add_mul]; exact Nat.mul_le_mul_right _ hroom
      rw [run_append_room (P := P) w t ty e i ht hi g n cap cur hg a m c news hl hnews h1 hroom hfit] at hr
      injection hr with hr _
      exact .inl (by rw [← hr]; rfl)
    · have holds : ∀ j u, xs[j]? = some u → w.cell? ((⟨g, 0, none⟩ : Addr).add j) = some u := hown.cells (g := g) rfl
      rw [run_append_grow (P := P) w t ty e i z ht hi hz ⟨g, 0, none⟩ n cap xs hown.1 holds a m c news hl hnews (by omega) (by omega) (growslice_fits (by omega) hbytes)] at hr
      injection hr with hr _
      exact .inr (by rw [← hr]; rfl)
end

theorem infoExpr : (Try.prog.info? 32).map (fun i => (i.zero, i.size, i.bytes)) = some (some (.agg zero11), 11, 136) := by kernel_rfl

/-- A slice that the call itself fills with expressions. -/
def OwnEx (w : World) (base : Nat) (es : List LExpr) (v : Value) : Prop :=
  ∃ rows : List (List Value), rows.length = es.length ∧ (∀ r ∈ rows, r.length = 11) ∧ w.ownsRow base 32 11 v es.length rows.flatten ∧
    ∀ (i : Nat) (hi : i < es.length) (hr : i < rows.length), IsExprP (fun b => base ≤ b ∧ some b ≠ v.ownBlock) w es[i] rows[i]

theorem OwnEx.nil (w : World) (base : Nat) : OwnEx w base [] (.slice none 0 0) :=
  ⟨[], rfl, fun r hr => by simp at hr, World.ownsRow_nil _ _ _ _, fun i hi => by simp at hi⟩
theorem OwnEx.size {w : World} {base : Nat} {es : List LExpr} {v : Value} (h : OwnEx w base es v) : ∀ k, v.ownBlock = some k → base ≤ k ∧ k < w.heap.size := by
  obtain ⟨_, _, _, ho, _⟩ := h; exact ho.lt
/-- Nothing has turned from base on. -/
theorem OwnEx.carry {w w' : World} {base : Nat} {es : List LExpr} {v : Value} (h : OwnEx w base es v) (hb : ∀ k, base ≤ k → k < w.heap.size → w'.heap[k]? = w.heap[k]?) : OwnEx w' base es v := by
  obtain ⟨rows, h1, h2, ho, hk⟩ := h
  refine ⟨rows, h1, h2, ?_, fun i hi hr => (hk i hi hr).carry (fun b hb' hl => hb b hb'.1 hl)⟩
  obtain ⟨hl, ho | ⟨g, cap, cur, hv, hbg, hg, r⟩⟩ := ho
  · exact ⟨hl, .inl ho⟩
  · exact ⟨hl, .inr ⟨g, cap, cur, hv, hbg, (hb g hbg (Array.getElem?_eq_some_iff.1 hg).1).trans hg, r⟩⟩
theorem OwnEx.lat {w w' : World} {base : Nat} {es : List LExpr} {v : Value} (h : OwnEx w base es v) (hl : Lat w w') : OwnEx w' base es v := h.carry (fun k _ hk => hl.block k hk)
theorem OwnEx.slice {w : World} {base : Nat} {es : List LExpr} {v : Value} (h : OwnEx w base es v) : ∃ A c, v = .slice A es.length c := by
  obtain ⟨rows, h1, h2, ⟨hl, ⟨hv, h0⟩ | ⟨g, cap, cur, hv, r⟩⟩, hk⟩ := h
  · exact ⟨none, 0, by rw [h0]; exact hv⟩
  · exact ⟨_, cap, hv⟩
/-- A node with these kids. -/
theorem OwnEx.node {w : World} {base : Nat} {es : List LExpr} {A : Option Addr} {n c : Nat} (h : OwnEx w base es (.slice A n c)) (hd : Hd) (hok : hd.ok) (hlen : es.length * 136 ≤ 140737488351232) : IsExprP (base ≤ ·) w (.mk hd es) (hd.cells (.slice A n c)) := by
  obtain ⟨rows, h1, h2, ho, hk⟩ := h
  obtain ⟨A', c', hv, hr⟩ := ownsRow_rows ho h2 h1.symm
  injection hv with e1 e2 e3
  subst e1 e2 e3
  have hr0 := hr w (Nat.le_refl _) (fun _ _ _ => rfl)
  rw [h1]
  have hbase : ∀ b off, A = some ⟨b, off, none⟩ → base ≤ b := fun b off hA => by
    obtain ⟨hl, ⟨hv, h0⟩ | ⟨g, cap, cur, hv, hbg, r⟩⟩ := ho
    · injection hv with e1; rw [hA] at e1; cases e1
    · injection hv with e1; rw [hA] at e1; injection e1 with e1; injection e1 with e1; omega
  by_cases h0 : 0 < es.length
  · obtain ⟨b, off, hA, _, hrow⟩ := hr0 (by omega)
    refine .mk hd es A c b off (fun i => if h : i < rows.length then rows[i] else List.replicate 11 undef) hok hlen (fun _ => ⟨hA, hbase b off hA⟩) (fun i => ?_) (fun i hi => ?_) (fun i hi => ?_)
    · split
      · exact h2 _ (List.getElem_mem _)
      · simp
    · rw [dif_pos (by omega)]; exact hrow i (by omega)
    · rw [dif_pos (by omega)]; exact (hk i hi (by omega)).mono (fun b hb _ => hb.1)
  · have he : es = [] := List.eq_nil_of_length_eq_zero (by omega)
    subst he
    exact .mk hd [] A c 0 0 (fun _ => List.replicate 11 undef) hok hlen (fun h0 => by simp at h0) (fun _ => by simp) (fun i hi => by simp at hi) (fun i hi => by simp at hi)

/-- One expression more. -/
theorem append_ex {w : World} {ops : Array Oper} {rest : List Oper} {o : Oper} {a : Act} {Q : Exit → Act → World → Prop} (hgd : o.guard = none) (s x : Operand)
    (ho : o.op = .call { callee := .builtin .append, args := #[s, x], argTypes := #[30, 30] })
    (base : Nat) (es : List LExpr) (v : Value) (hs : a.eval s = v) (hown : OwnEx w base es v)
    (g1 c1 : Nat) (e : LExpr) (cs : List Value) (hx : a.eval x = .slice (some ⟨g1, 0, none⟩) 1 c1) (t : TypeId) (hb : Blk w g1 t cs.toArray) (he : IsExprP (fun b => base ≤ b ∧ some b ≠ v.ownBlock) w e cs)
    (hlen : (es.length + 1) * 136 ≤ 140737488351232) (hbase : base ≤ w.heap.size)
    (h : ∀ v' w', OwnEx w' base (es ++ [e]) v' → w.grownBy w' v.ownBlock → wpList Try.prog ops Q rest (a.put o.dst v') w') : wpList Try.prog ops Q (o :: rest) a w := by
  obtain ⟨rows, h1, h2, hown, hk⟩ := hown
  obtain ⟨i0, hi, hz0, hz1, hz2⟩ := info_parts infoExpr
  have hnews : ∀ j u, cs[j]? = some u → w.cell? ((⟨g1, 0, none⟩ : Addr).add j) = some u := fun j u hj => by
    have hadd : (⟨g1, 0, none⟩ : Addr).add j = ⟨g1, j, none⟩ := by unfold Addr.add; split <;> simp_all
    rw [hadd, hb.cell]; simpa using hj
  have hcl : cs.length = 1 * 11 := by rw [he.len]
  refine wpList_plain hgd fun K hK => ?_
  obtain ⟨v', w', hr, g2, g3, _⟩ := run_append_own (P := Try.prog) w base 30 o.type 32 i0 _ 11 136 Try.underlying30 hi hz0 hz1 hz2 rfl (by decide) v es.length rows.flatten hown ⟨g1, 0, none⟩ 1 c1 cs hcl hnews he.one (by simp only [maxLen]; omega) (by omega) hbase
  have hw := append_where base 30 o.type 32 i0 _ 11 136 Try.underlying30 hi hz0 hz1 hz2 (by decide) v es.length rows.flatten hown ⟨g1, 0, none⟩ 1 c1 (by decide) cs hcl hnews he.one (by simp only [maxLen]; omega) (by omega) v' w' hr
  unfold Oper.wp execOp
  simp only [ho, resolve, invoke, builtin, Sem.run_bind, Sem.run_pure, Result.andThen_ok, List.map_toArray, List.map_cons, List.map_nil, hs, hx, hr]
  refine hK _ _ (h v' w' ⟨rows ++ [cs], by simp [h1], fun r hr => ?_, by simpa using g2, fun i hi' hr' => ?_⟩ g3)
  · rcases List.mem_append.1 hr with hr | hr
    · exact h2 r hr
    · simp at hr; subst hr; exact he.len
  · have key : ∀ {e' : LExpr} {cs' : List Value}, IsExprP (fun b => base ≤ b ∧ some b ≠ v.ownBlock) w e' cs' → IsExprP (fun b => base ≤ b ∧ some b ≠ v'.ownBlock) w' e' cs' := fun {e' cs'} hx => by
      refine (hx.mono (ok' := fun b => base ≤ b ∧ some b ≠ v.ownBlock ∧ b < w.heap.size) (fun b hb hl => ⟨hb.1, hb.2, hl⟩)).carry (fun b hb hl => g3.block b hl hb.2.1) |>.mono (fun b hb _ => ⟨hb.1, fun hc => ?_⟩)
      rcases hw with hw | hw
      · rw [hw] at hc; exact hb.2.1 hc
      · rw [hw] at hc; injection hc with hc; have := hb.2.2; omega
    by_cases hlt : i < es.length
    · have := key (hk i hlt (by omega))
      simpa [List.getElem_append_left hlt, List.getElem_append_left (show i < rows.length by omega)] using this
    · have hi2 : i = es.length := by simp at hi'; omega
      subst hi2
      have := key he
      simpa [h1] using this

end Go.Proofs.Ytnelgblmogciiaa
