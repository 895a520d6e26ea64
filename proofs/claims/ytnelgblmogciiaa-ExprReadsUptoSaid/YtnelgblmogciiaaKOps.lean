/- Keys: the comparison of two keys as one operation; a list of keys that the call itself fills, and one key more. -/
import Derived.Test.YtnelgblmogciiaaKPlain
import Derived.Test.YtnelgblmogciiaaShapes
import Derived.Laws.StructEq
set_option linter.unusedSimpArgs false
set_option linter.unusedVariables false
namespace Go.Proofs.Ytnelgblmogciiaa
open Go.RowKit

theorem eql_key (p q : LKey) (w : World) : (binOp .eql 29 (.agg (kcells p).toArray) (.agg (kcells q).toArray)).run Try.prog w = .ok (.bool (decide (p = q))) w := by
  have hS : Try.prog.underlying 29 = some (.struct (Try.prog.fieldsOf 29)) := by kernel_rfl
  have hp : Try.prog.stoodInHeld 29 = false := by kernel_rfl
  have hF : (Try.prog.fieldsOf 29).toList = (Try.prog.fieldsOf 29).toList := rfl
  obtain ⟨p1, p2, p3⟩ := p
  obtain ⟨q1, q2, q3⟩ := q
  simp only [kcells]
  rw [run_eql_struct, show (10000 : Nat) = 9999 + 1 from rfl, run_equalIn_agg w 9999 29 _ _ hS hp]
  simp only [Program.fieldsOf, Try.underlying29]
  go_simp

  by_cases h1 : p1 = q1 <;> by_cases h2 : p2 = q2 <;> by_cases h3 : p3 = q3 <;> simp [h1, h2, h3, toList_inj]
theorem neq_key (p q : LKey) (w : World) : (binOp .neq 29 (.agg (kcells p).toArray) (.agg (kcells q).toArray)).run Try.prog w = .ok (.bool (!decide (p = q))) w := by
  have h := eql_key p q w
  rw [run_eql_struct] at h
  rw [run_neq_struct]
  generalize (Op.equalIn 10000 29 (.agg (kcells p).toArray) (.agg (kcells q).toArray)).run Try.prog w = R at *
  cases R with
  | ok b w' => simp only [Result.andThen] at h ⊢; injection h with h1 h2; injection h1 with h1; rw [h1, h2]
  | halt x w' => simp [Result.andThen] at h
set_option maxRecDepth 100000 in
theorem guard_key (op : BinOp) (a b : Operand) (p q : LKey) (w : World) : (eqGuard op 29 a b (.agg (kcells p).toArray) (.agg (kcells q).toArray)).run Try.prog w = .ok () w := run_eqGuard_agg w op 29 a b _ _ (by kernel_rfl)
theorem wp_eql_key {o : Oper} {a : Act} {w : World} {K : Act → World → Prop} {Q : Exit → Act → World → Prop} (x y : Operand) (T : TypeId) (ho : o.op = .binOp .eql 29 x y T) (p q : LKey) (hx : a.eval x = .agg (kcells p).toArray) (hy : a.eval y = .agg (kcells q).toArray) {E : Bool} (hE : decide (p = q) = E)
    (h : K (a.put o.dst (.bool E)) w) : o.wp Try.prog a w K Q := by
  unfold Oper.wp execOp
  simp only [ho, hx, hy, Sem.run_bind, guard_key, eql_key, Result.andThen_ok, Sem.run_pure, hE]
  exact h
theorem wp_neq_key {o : Oper} {a : Act} {w : World} {K : Act → World → Prop} {Q : Exit → Act → World → Prop} (x y : Operand) (T : TypeId) (ho : o.op = .binOp .neq 29 x y T) (p q : LKey) (hx : a.eval x = .agg (kcells p).toArray) (hy : a.eval y = .agg (kcells q).toArray) {E : Bool} (hE : decide (p = q) = E)
    (h : K (a.put o.dst (.bool (!E))) w) : o.wp Try.prog a w K Q := by
  unfold Oper.wp execOp
  simp only [ho, hx, hy, Sem.run_bind, guard_key, neq_key, Result.andThen_ok, Sem.run_pure, hE]
  exact h

theorem infoKey' : (Try.prog.info? 29).map (fun i => (i.zero, i.size, i.bytes)) = some (some (.agg #[.int .i64 0, .string { data := #[] }, .string { data := #[] }]), 3, 40) := by kernel_rfl
/-- A list of keys that the call itself fills. -/
def OwnK (w : World) (base : Nat) (ks : List LKey) (v : Value) : Prop := w.ownsRow base 29 3 v ks.length (ks.map kcells).flatten
theorem kcells_len (ks : List LKey) : ∀ r ∈ ks.map kcells, r.length = 3 := fun r hr => by obtain ⟨k, _, rfl⟩ := List.mem_map.1 hr; rfl
theorem kcells_one (k : LKey) : ∀ u ∈ kcells k, u.oneCell' = true := fun u hu => by
  simp only [kcells, List.mem_cons, List.not_mem_nil, or_false] at hu
  rcases hu with rfl | rfl | rfl <;> rfl
theorem OwnK.nil (w : World) (base : Nat) : OwnK w base [] (.slice none 0 0) := ⟨rfl, .inl ⟨rfl, rfl⟩⟩
theorem OwnK.lt {w : World} {base : Nat} {ks : List LKey} {v : Value} (h : OwnK w base ks v) : ∀ k, v.ownBlock = some k → base ≤ k ∧ k < w.heap.size := World.ownsRow.lt h
theorem OwnK.carry {w w' : World} {base : Nat} {ks : List LKey} {v : Value} (h : OwnK w base ks v) (hb : ∀ k, base ≤ k → k < w.heap.size → w'.heap[k]? = w.heap[k]?) : OwnK w' base ks v := by
  obtain ⟨hl, h | ⟨g, cap, cur, hv, hbg, hg, h1⟩⟩ := h
  · exact ⟨hl, .inl h⟩
  · exact ⟨hl, .inr ⟨g, cap, cur, hv, hbg, (hb g hbg (Array.getElem?_eq_some_iff.1 hg).1).trans hg, h1⟩⟩
theorem OwnK.lat {w w' : World} {base : Nat} {ks : List LKey} {v : Value} (h : OwnK w base ks v) (hl : Lat w w') : OwnK w' base ks v := h.carry (fun k _ hk => hl.block k hk)
theorem OwnK.al {w : World} {base : Nat} {ks : List LKey} {v : Value} (h : OwnK w base ks v) (o : Obj) : OwnK (w.alloc o) base ks v := h.lat (Lat.al _ _)
theorem OwnK.slice {w : World} {base : Nat} {ks : List LKey} {v : Value} (h : OwnK w base ks v) : ∃ A c, v = .slice A ks.length c := by
  obtain ⟨hl, ⟨hv, h0⟩ | ⟨g, cap, cur, hv, r⟩⟩ := h
  · exact ⟨none, 0, by rw [h0]; exact hv⟩
  · exact ⟨_, cap, hv⟩
/-- What the call has filled reads as rows. -/
theorem OwnK.rows {w : World} {base : Nat} {ks : List LKey} {v : Value} (h : OwnK w base ks v) : ∃ A c, v = .slice A ks.length c ∧ IsRows w.heap.size w 3 (ks.map kcells) A := by
  obtain ⟨A, c, hv, hr⟩ := ownsRow_rows h (kcells_len ks) (by simp)
  exact ⟨A, c, by simpa using hv, hr w (Nat.le_refl _) (fun _ _ _ => rfl)⟩
/-- One key more. -/
theorem append_key {w : World} {ops : Array Oper} {rest : List Oper} {o : Oper} {a : Act} {Q : Exit → Act → World → Prop} (hgd : o.guard = none) (s x : Operand)
    (ho : o.op = .call { callee := .builtin .append, args := #[s, x], argTypes := #[48, 48] })
    (base : Nat) (ks : List LKey) (v : Value) (hs : a.eval s = v) (hown : OwnK w base ks v)
    (g1 c1 : Nat) (k : LKey) (hx : a.eval x = .slice (some ⟨g1, 0, none⟩) 1 c1) (t : TypeId) (hb : Blk w g1 t (kcells k).toArray)
    (hlen : (ks.length + 1) * 40 ≤ 140737488355328) (hbase : base ≤ w.heap.size)
    (h : ∀ v' w', OwnK w' base (ks ++ [k]) v' → w.grownBy w' v.ownBlock → wpList Try.prog ops Q rest (a.put o.dst v') w') : wpList Try.prog ops Q (o :: rest) a w := by
  obtain ⟨i0, hi, hz0, hz1, hz2⟩ := info_parts infoKey'
  have hnews : ∀ j u, (kcells k)[j]? = some u → w.cell? ((⟨g1, 0, none⟩ : Addr).add j) = some u := fun j u hj => by
    have hadd : (⟨g1, 0, none⟩ : Addr).add j = ⟨g1, j, none⟩ := by unfold Addr.add; split <;> simp_all
    rw [hadd, hb.cell]; simpa using hj
  refine wpList_append_own w hgd s x 48 ho base 29 i0 _ 3 40 Try.underlying48 hi hz0 hz1 hz2 rfl (by decide) v ks.length (ks.map kcells).flatten hs hown ⟨g1, 0, none⟩ 1 c1 (kcells k) hx rfl hnews (kcells_one k) (by simp only [maxLen]; omega) (by omega) hbase ?_
  intro v' w' g2 g3 _
  exact h v' w' (by simpa [OwnK] using g2) g3
end Go.Proofs.Ytnelgblmogciiaa
