/- The walk over the nodes of an expression, whatever the visitor does. -/
import Derived.Test.YtnelgblmogciiaaBase
set_option linter.unusedSimpArgs false
set_option linter.unusedVariables false
namespace Go.Proofs.Ytnelgblmogciiaa
open Go.RowKit

/-- Below block B nothing has turned, and no row of expressions or of functions has turned anywhere. -/
structure Fr (B : Nat) (w w' : World) : Prop where
  low : Below B w w'
  row : ∀ (k : Nat) (cs : Array Value) (t : TypeId) (fr : Nat × Nat), (t = 32 ∨ t = 61) → w.heap[k]? = some (.cells cs t fr) → w'.heap[k]? = some (.cells cs t fr)
theorem Fr.refl (B : Nat) (w : World) : Fr B w w := ⟨Below.refl _ _, fun _ _ _ _ _ h => h⟩
theorem Fr.trans {B : Nat} {a b c : World} (h : Fr B a b) (h' : Fr B b c) : Fr B a c := ⟨h.low.trans h'.low, fun k cs t fr ht hk => h'.row k cs t fr ht (h.row k cs t fr ht hk)⟩
theorem Fr.alloc {B : Nat} {a w : World} (h : Fr B a w) (hB : B ≤ w.heap.size) (o : Obj) : Fr B a (w.alloc o) :=
  ⟨h.low.alloc hB o, fun k cs t fr ht hk => by
    have h1 := h.row k cs t fr ht hk
    rw [Below.heap_alloc _ _ _ (Array.getElem?_eq_some_iff.1 h1).1]; exact h1⟩
theorem Fr.of_below {B : Nat} {w w' : World} (hb : Below w.heap.size w w') (hB : B ≤ w.heap.size) : Fr B w w' :=
  ⟨hb.mono hB, fun k cs t fr _ hk => (hb.block k (Array.getElem?_eq_some_iff.1 hk).1).trans hk⟩
theorem Fr.size {B : Nat} {w w' : World} (h : Fr B w w') : w.heap.size ≤ w'.heap.size := h.low.size
theorem Fr.cell {B : Nat} {w w' : World} (h : Fr B w w') {k : Nat} {cs : Array Value} {t : TypeId} {fr : Nat × Nat} (ht : t = 32 ∨ t = 61) (hk : w.heap[k]? = some (.cells cs t fr)) (i : Nat) :
    w'.cell? ⟨k, i, none⟩ = cs[i]? := cell_of_row _ _ _ _ _ _ (h.row k cs t fr ht hk)

/-- The cells of an expression, laid open. -/
theorem IsExpr.form {B : Nat} {w : World} {e : LExpr} {cs : List Value} (h : IsExpr B w e cs) : ∃ (hd : Hd) (ks : List LExpr) (A : Option Addr) (c : Nat), e = .mk hd ks ∧ cs = hd.cells (.slice A ks.length c) ∧ ks.length * 136 ≤ 140737488351232 := by
  cases h with
  | mk hd ks A c b off cs ok hlen hA hsz hrow hk => exact ⟨hd, ks, A, c, rfl, rfl, hlen⟩

section
variable {σ : Type} (vis : LExpr → Int → σ → σ × Bool)
mutual
/-- The walk: the visitor's state behind it, and whether it came to the end. -/
def walkS : LExpr → Int → σ → σ × Bool
  | .mk h ks, lv, s => if (vis (.mk h ks) lv s).2 then walkL ks (wrap64 (lv + 1)) (vis (.mk h ks) lv s).1 else ((vis (.mk h ks) lv s).1, false)
def walkL : List LExpr → Int → σ → σ × Bool
  | [], _, s => (s, true)
  | k :: ks, lv, s => if (walkS k lv s).2 then walkL ks lv (walkS k lv s).1 else ((walkS k lv s).1, false)
end
end

set_option maxHeartbeats 1000000 in
theorem step_any {σ : Type} (vis : LExpr → Int → σ → σ × Bool) (R : σ → World → Prop) (B g : Nat) (caps : Array Value)
    (hcall : ∀ (args : Array Value) (w : World), (callFunc g args).run Try.prog w = .ok (.enter g args) w)
    (hRa : ∀ s w o, R s w → R s (w.alloc o))
    (hv : ∀ e cs lv w s, B ≤ w.heap.size → IsExpr B w e cs → R s w → Calls Try.prog g (#[.agg cs.toArray, .int .i64 lv] ++ caps) w fun r w' => r = .returned (.bool (vis e lv s).2) ∧ R (vis e lv s).1 w' ∧ Fr B w w')
    (bv bs : Nat) (e : LExpr) : ∀ (cs : List Value) (lv : Int) (w : World) (s : σ), B ≤ w.heap.size → IsExpr B w e cs → R s w →
      w.heap[bv]? = some (.cells #[.func (.func g) #[] caps] 61 (0, 0)) →
      w.heap[bs]? = some (.cells #[.func (.func 85) #[] #[.pointer (some ⟨bv, 0, none⟩), .pointer (some ⟨bs, 0, none⟩)]] 61 (0, 0)) →
      Calls Try.prog 85 #[.agg cs.toArray, .int .i64 lv, .pointer (some ⟨bv, 0, none⟩), .pointer (some ⟨bs, 0, none⟩)] w fun r w' =>
        r = .returned (.bool (walkS vis e lv s).2) ∧ R (walkS vis e lv s).1 w' ∧ Fr B w w' := by
  induction e using LExpr.ind with | _ hd ks ih => ?_
  intro cs lv w s hB he hR hbv hbs
  cases he with
  | mk _ _ A c b off cs ok hlen hA hsz hrow hk =>
  go_enter Try.func85, Try.ntmps85
  have cv : ∀ o, (w.alloc o).cell? ⟨bv, 0, none⟩ = some (.func (.func g) #[] caps) := fun o => by
    rw [World.cell?_alloc_lt _ _ _ (Array.getElem?_eq_some_iff.1 hbv).1]; exact cell_of_row _ _ _ _ _ _ hbv
  have he1 : IsExpr B (w.alloc (.cells (hd.cells (.slice A ks.length c)).toArray 32)) (.mk hd ks) (hd.cells (.slice A ks.length c)) :=
    (IsExpr.mk hd ks A c b off cs ok hlen hA hsz hrow hk).carry ((Below.refl B w).alloc hB _)
  have HV := Lib.hid (hv (.mk hd ks) _ lv _ s (by simp; omega) he1 (hRa _ _ _ hR))
  have hbk := heap_alloc_new w (.cells (hd.cells (.slice A ks.length c)).toArray 32)
  have hbv1 := (Below.heap_alloc w (.cells (hd.cells (.slice A ks.length c)).toArray 32) bv (Array.getElem?_eq_some_iff.1 hbv).1).trans hbv
  have hbs1 := (Below.heap_alloc w (.cells (hd.cells (.slice A ks.length c)).toArray 32) bs (Array.getElem?_eq_some_iff.1 hbs).1).trans hbs
  have F0 : Fr B w (w.alloc (.cells (hd.cells (.slice A ks.length c)).toArray 32)) := (Fr.refl B w).alloc hB _
  have hws : walkS vis (.mk hd ks) lv s = if (vis (.mk hd ks) lv s).2 then walkL vis ks (wrap64 (lv + 1)) (vis (.mk hd ks) lv s).1 else ((vis (.mk hd ks) lv s).1, false) := by rw [walkS]
  have HWS := Lib.hid hws
  clear hws
  clear he1
  unfold Hd.cells
  go_wp2_with fail
  refine (HV.out).mono ?_
  rintro r w1 ⟨rfl, hR1, F1⟩
  have F01 := F0.trans F1
  have c10 := F1.cell (.inl rfl) hbk 10
  have kbv := F1.row _ _ _ _ (.inr rfl) hbv1
  have kbs := F1.row _ _ _ _ (.inr rfl) hbs1
  clear HV hbk hbv1 hbs1 F0 cv
  generalize vis (.mk hd ks) lv s = V at *
  obtain ⟨s1, bb⟩ := V
  have c10' : w1.cell? ⟨w.heap.size, 10, none⟩ = some (.slice A ks.length c) := c10
  clear c10
  dsimp only at hR1 HWS ⊢
  cases bb with
  | false =>
    go_wp2_with fail
    go_ret
    rw [HWS.out]
    exact ⟨rfl, hR1, F01⟩
  | true =>
    clear hR hbv hbs F1 hv
    go_wp2_with fail
    go_loopw [8, 17] (fun _ i wr => ∃ (k : Nat) (s' : σ), k ≤ ks.length ∧ i = .int .i64 k ∧ Hid (walkS vis (.mk hd ks) lv s = walkL vis (ks.drop k) (wrap64 (lv + 1)) s') ∧ R s' wr ∧ Fr B w wr ∧
        wr.heap[bv]? = some (.cells #[.func (.func g) #[] caps] 61 (0, 0)) ∧
        wr.heap[bs]? = some (.cells #[.func (.func 85) #[] #[.pointer (some ⟨bv, 0, none⟩), .pointer (some ⟨bs, 0, none⟩)]] 61 (0, 0))) (fun _ i _ => ks.length - (intOf i).toNat)
    case atStart => exact ⟨0, s1, Nat.zero_le _, rfl, Lib.hid (by have := HWS.out; simpa using this), hR1, F01, kbv, kbs⟩
    case round =>
      clear HWS hR1 F01 kbv kbs c10'
      obtain ⟨k, s', hkl, rfl, HW, hRr, Fw, kbv, kbs⟩ := hrel
      by_cases hlk : k < ks.length
      · obtain ⟨rfl, hbB⟩ := hA (by omega)
        have hdrop : ks.drop k = ks[k] :: ks.drop (k + 1) := List.drop_eq_getElem_cons hlk
        have hstep : walkL vis (ks.drop k) (wrap64 (lv + 1)) s' = if (walkS vis ks[k] (wrap64 (lv + 1)) s').2 then walkL vis (ks.drop (k + 1)) (wrap64 (lv + 1)) (walkS vis ks[k] (wrap64 (lv + 1)) s').1 else ((walkS vis ks[k] (wrap64 (lv + 1)) s').1, false) := by rw [hdrop, walkL]
        have HST := Lib.hid (HW.out.trans hstep)
        clear hstep hdrop HW
        have hr := (hrow k hlk).below Fw.low hbB
        obtain ⟨hd', ks', A', c', hek, hcs, hl'⟩ := (hk k hlk).form
        have hsz' : (cs k).length = 11 := hsz k
        have he2 : ∀ o, IsExpr B (wr.alloc o) ks[k] (cs k) := fun o => ((hk k hlk).carry (w' := wr) Fw.low).carry ((Below.refl B wr).alloc (Nat.le_trans hB Fw.size) o)
        rw [hcs] at hr he2 hsz'
        clear hek hcs hA hrow hk hsz
        have HI := fun o => Lib.hid (ih k hlk _ (wrap64 (lv + 1)) (wr.alloc o) s' (by have := Fw.size; simp; omega) (he2 o) (hRa _ _ _ hRr) ((Below.heap_alloc wr o bv (Array.getElem?_eq_some_iff.1 kbv).1).trans kbv) ((Below.heap_alloc wr o bs (Array.getElem?_eq_some_iff.1 kbs).1).trans kbs))
        have kbv1 := fun o => (Below.heap_alloc wr o bv (Array.getElem?_eq_some_iff.1 kbv).1).trans kbv
        have kbs1 := fun o => (Below.heap_alloc wr o bs (Array.getElem?_eq_some_iff.1 kbs).1).trans kbs
        have cs1 : ∀ o, (wr.alloc o).cell? ⟨bs, 0, none⟩ = some (.func (.func 85) #[] #[.pointer (some ⟨bv, 0, none⟩), .pointer (some ⟨bs, 0, none⟩)]) := fun o => cell_of_row _ _ _ _ _ _ (kbs1 o)
        have FA : ∀ o, Fr B w (wr.alloc o) := fun o => Fw.alloc (Nat.le_trans hB Fw.size) o
        clear ih he2 hRr Fw
        unfold Hd.cells at hr
        go_wp2_with (first | (with_reducible refine wpList_load_at rfl 32 _ rfl b (off + k * 11) rfl _ _ hr Try.underlying32 rfl (by kernel_rfl) ?_))
        refine (HI _).out.mono ?_
        rintro r w2 ⟨rfl, hR2, F2⟩
        have F3 := (FA _).trans F2
        have kbv2 := F2.row _ _ _ _ (.inr rfl) (kbv1 _)
        have kbs2 := F2.row _ _ _ _ (.inr rfl) (kbs1 _)
        clear HI FA kbv1 kbs1 cs1 F2 kbv kbs hr hcall
        generalize walkS vis ks[k] (wrap64 (lv + 1)) s' = V at *
        obtain ⟨s2, bb⟩ := V
        dsimp only at hR2 HST
        cases bb with
        | false =>
          go_wp2_with fail
          go_ret
          rw [HST.out]
          exact ⟨rfl, hR2, F3⟩
        | true =>
          go_wp2_with fail
          go_roundw
          case rel => exact ⟨k + 1, s2, by omega, by go_num, Lib.hid (by have := HST.out; simpa using this), hR2, F3, kbv2, kbs2⟩
          case measure => simp [intOf]; omega
      · go_wp2_with fail
        go_ret
        rw [HW.out, List.drop_of_length_le (by omega)]
        exact ⟨rfl, hRr, Fw⟩

end Go.Proofs.Ytnelgblmogciiaa
