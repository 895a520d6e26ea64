/- Hold: maps from names that the call makes, as functions from names. -/
import Derived.Maps.OwnSet
import Derived.Maps.OwnOps
import Derived.Test.YtafodibbcfoclaaGreatHMem
set_option linter.unusedSimpArgs false
set_option linter.unusedVariables false
namespace Go.Proofs.YtafodibbcfoclaaGreat
open Go.RowKit Go.Maps

/-- An element is read as itself. -/
def rdV (v : Value) : Option (DataW Value × List MemPlace) := some (.held v, [])
def kyS (s : ByteArray) : Lit := .string s.data.toList
theorem kyS_inj {s t : ByteArray} (h : kyS s = kyS t) : s = t := by
  unfold kyS at h
  injection h with h
  cases s; cases t
  congr 1
  exact Array.toList_inj.1 h
theorem kyS_lit (s : ByteArray) : WideAt.IsKeyLit (kyS s) := by unfold kyS; simp [WideAt.IsKeyLit]
theorem kdS : Keyed Tryz.prog 9 := string_keyed Tryz.underlying9
theorem kyS_of {s : ByteArray} (h : s.size ≤ maxLen) : keyOf Tryz.prog 9 (.string s) = some (kyS s) := Go.WideMaps.keyOf_string_mk Tryz.underlying9 h
theorem rdV_inv {v x : Value} {ps : List MemPlace} (h : rdV v = some (.held x, ps)) : v = x := by
  simp only [rdV, Option.some.injEq, Prod.mk.injEq, DataW.held.injEq] at h
  exact h.1
/-- A map of the call's own: what it gives for each name. -/
def OMap (w : World) (b n : Nat) (f : ByteArray → Option Value) : Prop :=
  ∃ D : DataW Value, w.ownsMap Tryz.prog 9 rdV b n D ∧ (∀ s, Maps.has D (kyS s) = (f s).isSome) ∧ ∀ s z, D.atKey (kyS s) (.held z) = .held ((f s).getD z)
theorem OMap.made (w : World) : OMap (w.alloc (.map #[] 0)) w.heap.size 0 (fun _ => none) :=
  ⟨.map [], World.ownsMap_made _ _ _ _, fun s => rfl, fun s z => rfl⟩
theorem OMap.lt {w : World} {b n : Nat} {f : ByteArray → Option Value} (h : OMap w b n f) : b < w.heap.size := by
  obtain ⟨D, h1, _⟩ := h; exact h1.lt
theorem OMap.carry {w w' : World} {b n : Nat} {f : ByteArray → Option Value} (h : OMap w b n f) (hb : w'.heap[b]? = w.heap[b]?) : OMap w' b n f := by
  obtain ⟨D, ⟨es, clock, h1, h2⟩, h3⟩ := h
  exact ⟨D, ⟨es, clock, hb.trans h1, h2⟩, h3⟩
theorem OMap.mono {w : World} {b n n' : Nat} {f : ByteArray → Option Value} (h : OMap w b n f) (hn : n ≤ n') : OMap w b n' f := by
  obtain ⟨D, h1, h2⟩ := h
  exact ⟨D, h1.mono hn, h2⟩
theorem OMap.lat {w w' : World} {b n : Nat} {f : ByteArray → Option Value} (h : OMap w b n f) (hl : Lat w w') : OMap w' b n f := h.carry (hl.block b h.lt)
theorem OMap.grown {w w' : World} {b n : Nat} {f : ByteArray → Option Value} {row : Option Nat} (h : OMap w b n f) (hg : w.grownBy w' row) (hne : some b ≠ row) : OMap w' b n f := h.carry (hg.block b h.lt hne)
section
variable (w : World) {ops : Array Oper} {rest : List Oper} {o : Oper} {a : Act} {Q : Exit → Act → World → Prop}
/-- 'v, ok := m[s]'. -/
theorem wpl_look_ok (hg : o.guard = none) (m x : Operand) (t e : TypeId) (hop : o.op = Op.lookup t m x true) (ht : Tryz.prog.underlying t = some (.map 9 e)) {z : Value} (hz : (zeroValue e).run Tryz.prog w = .ok z w)
    (b n : Nat) (f : ByteArray → Option Value) (hm : a.eval m = .map (some b)) (hown : OMap w b n f) (s : ByteArray) (hx : a.eval x = .string s) (hs : s.size ≤ maxLen) (u : Value) (k : Bool) (hu : (f s).getD z = u) (hk : (f s).isSome = k)
    (hK : wpList Tryz.prog ops Q rest (a.put o.dst (.tuple #[u, .bool k])) w) : wpList Tryz.prog ops Q (o :: rest) a w := by
  obtain ⟨D, h1, h2, h3⟩ := hown
  refine wpList_lookup_own_ok w hg m x t hop 9 e kdS ht rdV hz (.held z) [] rfl b n D hm h1 (.string s) (kyS s) hx (kyS_of hs) (fun v ps hv => ?_)
  have e1 : v = (f s).getD z := rdV_inv (hv.trans (by rw [h3]))
  rw [h2, e1, hu, hk]; exact hK
/-- 'm[s]'. -/
theorem wpl_look (hg : o.guard = none) (m x : Operand) (t e : TypeId) (hop : o.op = Op.lookup t m x false) (ht : Tryz.prog.underlying t = some (.map 9 e)) {z : Value} (hz : (zeroValue e).run Tryz.prog w = .ok z w)
    (b n : Nat) (f : ByteArray → Option Value) (hm : a.eval m = .map (some b)) (hown : OMap w b n f) (s : ByteArray) (hx : a.eval x = .string s) (hs : s.size ≤ maxLen) (u : Value) (hu : (f s).getD z = u)
    (hK : wpList Tryz.prog ops Q rest (a.put o.dst u) w) : wpList Tryz.prog ops Q (o :: rest) a w := by
  obtain ⟨D, h1, h2, h3⟩ := hown
  obtain ⟨v, ps, hrun, hv⟩ := h1.lookup kdS ht hz (zd := .held z) (zp := []) rfl (kyS_of hs)
  have e1 : v = (f s).getD z := rdV_inv (hv.trans (by rw [h3]))
  refine wpList_plain hg fun K' hK' => ?_
  unfold Oper.wp
  simp [execOp, hop, hm, hx, hrun, Result.andThen]
  rw [e1, hu]
  exact hK' _ _ hK
/-- 'm[s] = v'. -/
theorem wpl_put (hg : o.guard = none) (m x v : Operand) (t e : TypeId) (hop : o.op = Op.mapUpdate t m x v) (ht : Tryz.prog.underlying t = some (.map 9 e))
    (b n : Nat) (f : ByteArray → Option Value) (hm : a.eval m = .map (some b)) (hown : OMap w b n f) (hn : n < maxLen) (s : ByteArray) (hx : a.eval x = .string s) (hs : s.size ≤ maxLen) (u : Value) (hv : a.eval v = u)
    (hK : ∀ w', OMap w' b (n + 1) (fun q => if q = s then some u else f q) → w.grownBy w' (some b) → wpList Tryz.prog ops Q rest (a.put o.dst undef) w') : wpList Tryz.prog ops Q (o :: rest) a w := by
  obtain ⟨D, h1, h2, h3⟩ := hown
  have hmap := h1.isMap
  refine wpList_mapUpdate_in w hg m x v t hop 9 e kdS ht rdV b n D hm h1 hn (.string s) u (kyS s) hx hv (kyS_of hs) (.held u) [] rfl (fun w' ho ht' => hK w' ⟨_, ho, fun q => ?_, fun q z => ?_⟩ ht'.grown)
  · by_cases hq : q = s
    · subst hq; rw [has_put_same hmap (kyS_lit q)]; simp
    · rw [has_put_other (fun e => hq (kyS_inj e))]; simpa [hq] using h2 q
  · by_cases hq : q = s
    · subst hq; rw [atKey_put_same hmap (kyS_lit q)]; simp
    · rw [atKey_put_other (fun e => hq (kyS_inj e))]; simpa [hq] using h3 q z
/-- 'delete(m, s)'. -/
theorem wpl_del (hg : o.guard = none) (m x : Operand) (t e : TypeId) (hop : o.op = Op.call { callee := Callee.builtin Builtin.delete, args := #[m, x], argTypes := #[t, 9] }) (ht : Tryz.prog.underlying t = some (.map 9 e))
    (b n : Nat) (f : ByteArray → Option Value) (hm : a.eval m = .map (some b)) (hown : OMap w b n f) (s : ByteArray) (hx : a.eval x = .string s) (hs : s.size ≤ maxLen)
    (hK : ∀ w', OMap w' b n (fun q => if q = s then none else f q) → w.grownBy w' (some b) → wpList Tryz.prog ops Q rest (a.put o.dst (.tuple #[])) w') : wpList Tryz.prog ops Q (o :: rest) a w := by
  obtain ⟨D, h1, h2, h3⟩ := hown
  refine wpList_delete_own w hg m x t 9 hop e kdS ht rdV b n D hm h1 (.string s) (kyS s) hx (kyS_of hs) (fun w' ho ht' => hK w' ⟨_, ho, fun q => ?_, fun q z => ?_⟩ ht'.grown)
  · by_cases hq : q = s
    · subst hq; rw [has_del_same]; simp
    · rw [has_del_other (fun e => hq (kyS_inj e))]; simpa [hq] using h2 q
  · by_cases hq : q = s
    · subst hq; rw [atKey_del_same]; simp
    · rw [atKey_del_other (fun e => hq (kyS_inj e))]; simpa [hq] using h3 q z
end
end Go.Proofs.YtafodibbcfoclaaGreat
