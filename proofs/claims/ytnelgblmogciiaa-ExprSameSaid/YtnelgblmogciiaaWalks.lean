/- The walk over the nodes of an expression, whatever the visitor does. The walk over the nodes of an expression: its entry. The walk over the nodes of an expression, for visitors that bear only so much. The check of an expression by the program: its visitor, and the whole. The check of an expression by the reference, and that it is the program's. -/
import Derived.Test.YtnelgblmogciiaaGround
import Derived.Laws.EntriesVeiled
import Derived.Test.YtnelgblmogciiaaNodes
namespace Go.Proofs.Ytnelgblmogciiaa
section
set_option linter.unusedSimpArgs false
set_option linter.unusedVariables false
open Go.RowKit

/-- Below block B nothing has turned, and no row of expressions or of functions has turned anywhere. -/
structure Fr (B : Nat) (w w' : World) : Prop where
  low : Below B w w'
  row : ∀ (k : Nat) (cs : Array Value) (t : TypeId) (fr : Nat × Nat), (t = 32 ∨ t = 61) → w.heap[k]? = some (.cells cs t fr) → w'.heap[k]? = some (.cells cs t fr)
theorem Fr.refl (B : Nat) (w : World) : Fr B w w := ⟨Below.refl _ _, fun _ _ _ _ _ h => h⟩
theorem Fr.trans {B : Nat} {a b c : World} (h : Fr B a b) (h' : Fr B b c) : Fr B a c := ⟨h.low.trans h'.low, fun k cs t fr ht hk => h'.row k cs t fr ht (h.row k cs t fr ht hk)⟩
theorem Fr.alloc {B : Nat} {a w : World} (h : Fr B a w) (hB : B ≤ w.heap.size) (o : Obj) : Fr B a (w.alloc o) :=
  ⟨h.low.alloc hB o, fun k cs t fr ht hk => by
    have h1 := h.row k cs t fr ht hk
    rw [Below.heap_alloc _ _ _ (Array.getElem?_eq_some_iff.1 h1).1]; exact h1⟩
theorem Fr.of_below {B : Nat} {w w' : World} (hb : Below w.heap.size w w') (hB : B ≤ w.heap.size) : Fr B w w' :=
  ⟨hb.mono hB, fun k cs t fr _ hk => (hb.block k (Array.getElem?_eq_some_iff.1 hk).1).trans hk⟩
theorem Fr.size {B : Nat} {w w' : World} (h : Fr B w w') : w.heap.size ≤ w'.heap.size := h.low.size
theorem Fr.cell {B : Nat} {w w' : World} (h : Fr B w w') {k : Nat} {cs : Array Value} {t : TypeId} {fr : Nat × Nat} (ht : t = 32 ∨ t = 61) (hk : w.heap[k]? = some (.cells cs t fr)) (i : Nat) :
    w'.cell? ⟨k, i, none⟩ = cs[i]? := cell_of_row _ _ _ _ _ _ (h.row k cs t fr ht hk)

/-- The cells of an expression, laid open. -/
theorem IsExpr.form {B : Nat} {w : World} {e : LExpr} {cs : List Value} (h : IsExpr B w e cs) : ∃ (hd : Hd) (ks : List LExpr) (A : Option Addr) (c : Nat), e = .mk hd ks ∧ cs = hd.cells (.slice A ks.length c) ∧ ks.length * 136 ≤ 140737488351232 := by
  cases h with
  | mk hd ks A c b off cs ok hlen hA hsz hrow hk => exact ⟨hd, ks, A, c, rfl, rfl, hlen⟩

section
variable {σ : Type} (vis : LExpr → Int → σ → σ × Bool)
mutual
/-- The walk: the visitor's state behind it, and whether it came to the end. -/
def walkS : LExpr → Int → σ → σ × Bool
  | .mk h ks, lv, s => if (vis (.mk h ks) lv s).2 then walkL ks (wrap64 (lv + 1)) (vis (.mk h ks) lv s).1 else ((vis (.mk h ks) lv s).1, false)
def walkL : List LExpr → Int → σ → σ × Bool
  | [], _, s => (s, true)
  | k :: ks, lv, s => if (walkS k lv s).2 then walkL ks lv (walkS k lv s).1 else ((walkS k lv s).1, false)
end
end

set_option maxHeartbeats 1000000 in
theorem step_any {σ : Type} (vis : LExpr → Int → σ → σ × Bool) (R : σ → World → Prop) (B g : Nat) (caps : Array Value)
    (hcall : ∀ (args : Array Value) (w : World), (callFunc g args).run Try.prog w = .ok (.enter g args) w)
    (hRa : ∀ s w o, R s w → R s (w.alloc o))
    (hv : ∀ e cs lv w s, B ≤ w.heap.size → IsExpr B w e cs → R s w → Calls Try.prog g (#[.agg cs.toArray, .int .i64 lv] ++ caps) w fun r w' => r = .returned (.bool (vis e lv s).2) ∧ R (vis e lv s).1 w' ∧ Fr B w w')
    (bv bs : Nat) (e : LExpr) : ∀ (cs : List Value) (lv : Int) (w : World) (s : σ), B ≤ w.heap.size → IsExpr B w e cs → R s w →
      w.heap[bv]? = some (.cells #[.func (.func g) #[] caps] 61 (0, 0)) →
      w.heap[bs]? = some (.cells #[.func (.func 85) #[] #[.pointer (some ⟨bv, 0, none⟩), .pointer (some ⟨bs, 0, none⟩)]] 61 (0, 0)) →
      Calls Try.prog 85 #[.agg cs.toArray, .int .i64 lv, .pointer (some ⟨bv, 0, none⟩), .pointer (some ⟨bs, 0, none⟩)] w fun r w' =>
        r = .returned (.bool (walkS vis e lv s).2) ∧ R (walkS vis e lv s).1 w' ∧ Fr B w w' := by
  induction e using LExpr.ind with | _ hd ks ih => ?_
  intro cs lv w s hB he hR hbv hbs
  cases he with
  | mk _ _ A c b off cs ok hlen hA hsz hrow hk =>
  go_enter Try.func85, Try.ntmps85
  have cv : ∀ o, (w.alloc o).cell? ⟨bv, 0, none⟩ = some (.func (.func g) #[] caps) := fun o => by
    rw [World.cell?_alloc_lt _ _ _ (Array.getElem?_eq_some_iff.1 hbv).1]; exact cell_of_row _ _ _ _ _ _ hbv
  have he1 : IsExpr B (w.alloc (.cells (hd.cells (.slice A ks.length c)).toArray 32)) (.mk hd ks) (hd.cells (.slice A ks.length c)) :=
    (IsExpr.mk hd ks A c b off cs ok hlen hA hsz hrow hk).carry ((Below.refl B w).alloc hB _)
  have HV := Lib.hid (hv (.mk hd ks) _ lv _ s (by simp; omega) he1 (hRa _ _ _ hR))
  have hbk := heap_alloc_new w (.cells (hd.cells (.slice A ks.length c)).toArray 32)
  have hbv1 := (Below.heap_alloc w (.cells (hd.cells (.slice A ks.length c)).toArray 32) bv (Array.getElem?_eq_some_iff.1 hbv).1).trans hbv
  have hbs1 := (Below.heap_alloc w (.cells (hd.cells (.slice A ks.length c)).toArray 32) bs (Array.getElem?_eq_some_iff.1 hbs).1).trans hbs
  have F0 : Fr B w (w.alloc (.cells (hd.cells (.slice A ks.length c)).toArray 32)) := (Fr.refl B w).alloc hB _
  have hws : walkS vis (.mk hd ks) lv s = if (vis (.mk hd ks) lv s).2 then walkL vis ks (wrap64 (lv + 1)) (vis (.mk hd ks) lv s).1 else ((vis (.mk hd ks) lv s).1, false) := by rw [walkS]
  have HWS := Lib.hid hws
  clear hws
  clear he1
  unfold Hd.cells
  go_wp2_with fail
  refine (HV.out).mono ?_
  rintro r w1 ⟨rfl, hR1, F1⟩
  have F01 := F0.trans F1
  have c10 := F1.cell (.inl rfl) hbk 10
  have kbv := F1.row _ _ _ _ (.inr rfl) hbv1
  have kbs := F1.row _ _ _ _ (.inr rfl) hbs1
  clear HV hbk hbv1 hbs1 F0 cv
  generalize vis (.mk hd ks) lv s = V at *
  obtain ⟨s1, bb⟩ := V
  have c10' : w1.cell? ⟨w.heap.size, 10, none⟩ = some (.slice A ks.length c) := c10
  clear c10
  dsimp only at hR1 HWS ⊢
  cases bb with
  | false =>
    go_wp2_with fail
    go_ret
    rw [HWS.out]
    exact ⟨rfl, hR1, F01⟩
  | true =>
    clear hR hbv hbs F1 hv
    go_wp2_with fail
    go_loopw [8, 17] (fun _ i wr => ∃ (k : Nat) (s' : σ), k ≤ ks.length ∧ i = .int .i64 k ∧ Hid (walkS vis (.mk hd ks) lv s = walkL vis (ks.drop k) (wrap64 (lv + 1)) s') ∧ R s' wr ∧ Fr B w wr ∧
        wr.heap[bv]? = some (.cells #[.func (.func g) #[] caps] 61 (0, 0)) ∧
        wr.heap[bs]? = some (.cells #[.func (.func 85) #[] #[.pointer (some ⟨bv, 0, none⟩), .pointer (some ⟨bs, 0, none⟩)]] 61 (0, 0))) (fun _ i _ => ks.length - (intOf i).toNat)
    case atStart => exact ⟨0, s1, Nat.zero_le _, rfl, Lib.hid (by have := HWS.out; simpa using this), hR1, F01, kbv, kbs⟩
    case round =>
      clear HWS hR1 F01 kbv kbs c10'
      obtain ⟨k, s', hkl, rfl, HW, hRr, Fw, kbv, kbs⟩ := hrel
      by_cases hlk : k < ks.length
      · obtain ⟨rfl, hbB⟩ := hA (by omega)
        have hdrop : ks.drop k = ks[k] :: ks.drop (k + 1) := List.drop_eq_getElem_cons hlk
        have hstep : walkL vis (ks.drop k) (wrap64 (lv + 1)) s' = if (walkS vis ks[k] (wrap64 (lv + 1)) s').2 then walkL vis (ks.drop (k + 1)) (wrap64 (lv + 1)) (walkS vis ks[k] (wrap64 (lv + 1)) s').1 else ((walkS vis ks[k] (wrap64 (lv + 1)) s').1, false) := by rw [hdrop, walkL]
        have HST := Lib.hid (HW.out.trans hstep)
        clear hstep hdrop HW
        have hr := (hrow k hlk).below Fw.low hbB
        obtain ⟨hd', ks', A', c', hek, hcs, hl'⟩ := (hk k hlk).form
        have hsz' : (cs k).length = 11 := hsz k
        have he2 : ∀ o, IsExpr B (wr.alloc o) ks[k] (cs k) := fun o => ((hk k hlk).carry (w' := wr) Fw.low).carry ((Below.refl B wr).alloc (Nat.le_trans hB Fw.size) o)
        rw [hcs] at hr he2 hsz'
        clear hek hcs hA hrow hk hsz
        have HI := fun o => Lib.hid (ih k hlk _ (wrap64 (lv + 1)) (wr.alloc o) s' (by have := Fw.size; simp; omega) (he2 o) (hRa _ _ _ hRr) ((Below.heap_alloc wr o bv (Array.getElem?_eq_some_iff.1 kbv).1).trans kbv) ((Below.heap_alloc wr o bs (Array.getElem?_eq_some_iff.1 kbs).1).trans kbs))
        have kbv1 := fun o => (Below.heap_alloc wr o bv (Array.getElem?_eq_some_iff.1 kbv).1).trans kbv
        have kbs1 := fun o => (Below.heap_alloc wr o bs (Array.getElem?_eq_some_iff.1 kbs).1).trans kbs
        have cs1 : ∀ o, (wr.alloc o).cell? ⟨bs, 0, none⟩ = some (.func (.func 85) #[] #[.pointer (some ⟨bv, 0, none⟩), .pointer (some ⟨bs, 0, none⟩)]) := fun o => cell_of_row _ _ _ _ _ _ (kbs1 o)
        have FA : ∀ o, Fr B w (wr.alloc o) := fun o => Fw.alloc (Nat.le_trans hB Fw.size) o
        clear ih he2 hRr Fw
        unfold Hd.cells at hr
        go_wp2_with (first | (with_reducible refine wpList_load_at rfl 32 _ rfl b (off + k * 11) rfl _ _ hr Try.underlying32 rfl (by kernel_rfl) ?_))
        refine (HI _).out.mono ?_
        rintro r w2 ⟨rfl, hR2, F2⟩
        have F3 := (FA _).trans F2
        have kbv2 := F2.row _ _ _ _ (.inr rfl) (kbv1 _)
        have kbs2 := F2.row _ _ _ _ (.inr rfl) (kbs1 _)
        clear HI FA kbv1 kbs1 cs1 F2 kbv kbs hr hcall
        generalize walkS vis ks[k] (wrap64 (lv + 1)) s' = V at *
        obtain ⟨s2, bb⟩ := V
        dsimp only at hR2 HST
        cases bb with
        | false =>
          go_wp2_with fail
          go_ret
          rw [HST.out]
          exact ⟨rfl, hR2, F3⟩
        | true =>
          go_wp2_with fail
          go_roundw
          case rel => exact ⟨k + 1, s2, by omega, by go_num, Lib.hid (by have := HST.out; simpa using this), hR2, F3, kbv2, kbs2⟩
          case measure => simp [intOf]; omega
      · go_wp2_with fail
        go_ret
        rw [HW.out, List.drop_of_length_le (by omega)]
        exact ⟨rfl, hRr, Fw⟩
end

section
set_option linter.unusedSimpArgs false
set_option linter.unusedVariables false
open Go.RowKit

theorem alloc3_at1 (w : World) (o1 o2 o3 : Obj) : (((w.alloc o1).alloc o2).alloc o3).heap[w.heap.size + 1]? = some o2 := by
  rw [Below.heap_alloc _ _ _ (by simp)]
  have h := heap_alloc_new (w.alloc o1) o2
  rwa [World.size_alloc] at h
theorem alloc3_at2 (w : World) (o1 o2 o3 : Obj) : (((w.alloc o1).alloc o2).alloc o3).heap[w.heap.size + 1 + 1]? = some o3 := by
  have h := heap_alloc_new ((w.alloc o1).alloc o2) o3
  rwa [World.size_alloc, World.size_alloc] at h

set_option maxHeartbeats 1000000 in
theorem walk_any {σ : Type} (vis : LExpr → Int → σ → σ × Bool) (R : σ → World → Prop) (B g : Nat) (caps : Array Value)
    (hcall : ∀ (args : Array Value) (w : World), (callFunc g args).run Try.prog w = .ok (.enter g args) w)
    (hRa : ∀ s w o, R s w → R s (w.alloc o))
    (hv : ∀ e cs lv w s, B ≤ w.heap.size → IsExpr B w e cs → R s w → Calls Try.prog g (#[.agg cs.toArray, .int .i64 lv] ++ caps) w fun r w' => r = .returned (.bool (vis e lv s).2) ∧ R (vis e lv s).1 w' ∧ Fr B w w')
    (e : LExpr) (cs : List Value) (w : World) (s : σ) (hB : B ≤ w.heap.size) (he : IsExpr B w e cs) (hR : R s w) :
      Calls Try.prog 48 #[.agg cs.toArray, .func (.func g) #[] caps] w fun r w' =>
        r = .returned (.bool (walkS vis e 1 s).2) ∧ R (walkS vis e 1 s).1 w' ∧ Fr B w w' := by
  obtain ⟨hd, ks, A, c, rfl, rfl, hlen⟩ := he.form
  have HI : ∀ o1 o2 bv bs, (((w.alloc o1).alloc o2).alloc (.cells #[.func (.func 85) #[] #[.pointer (some ⟨bv, 0, none⟩), .pointer (some ⟨bs, 0, none⟩)]] 61)).heap[bv]? = _ → _ → Calls Try.prog 85 _ _ _ := fun o1 o2 bv bs =>
    step_any vis R B g caps hcall hRa hv bv bs (.mk hd ks) (hd.cells (.slice A ks.length c)) 1
      (((w.alloc o1).alloc o2).alloc (.cells #[.func (.func 85) #[] #[.pointer (some ⟨bv, 0, none⟩), .pointer (some ⟨bs, 0, none⟩)]] 61)) s (by simp; omega)
      (he.carry (((Below.refl B w).alloc hB _).alloc (by simp; omega) _ |>.alloc (by simp; omega) _)) (hRa _ _ _ (hRa _ _ _ (hRa _ _ _ hR)))
  have FA : ∀ o1 o2 o3, Fr B w (((w.alloc o1).alloc o2).alloc o3) := fun o1 o2 o3 => (((Fr.refl B w).alloc hB _).alloc (by simp; omega) _).alloc (by simp; omega) _
  have HJ := Lib.hid HI
  clear HI hv hRa hR he
  go_enter Try.func48, Try.ntmps48
  unfold Hd.cells
  go_wp2_with fail
  refine (HJ.out _ _ (w.heap.size + 1) (w.heap.size + 1 + 1) ?_ ?_).mono ?_
  · exact alloc3_at1 _ _ _ _
  · exact alloc3_at2 _ _ _ _
  rintro r w1 ⟨rfl, hR1, F1⟩
  have F01 := (FA _ _ _).trans F1
  clear HJ FA F1
  go_wp2_with fail
  go_ret
  exact ⟨rfl, hR1, F01⟩
end

section
set_option linter.unusedSimpArgs false
set_option linter.unusedVariables false
open Go.RowKit

mutual
/-- What the nodes of a tree cost together. -/
def costE (cst : Hd → Nat) : LExpr → Nat
  | .mk h ks => cst h + costL cst ks
def costL (cst : Hd → Nat) : List LExpr → Nat
  | [] => 0
  | k :: ks => costE cst k + costL cst ks
end
theorem costE_mk (cst : Hd → Nat) (h : Hd) (ks : List LExpr) : costE cst (.mk h ks) = cst h + costL cst ks := by rw [costE]
theorem costL_drop (cst : Hd → Nat) (ks : List LExpr) (k : Nat) (hk : k < ks.length) : costL cst (ks.drop k) = costE cst ks[k] + costL cst (ks.drop (k + 1)) := by
  rw [List.drop_eq_getElem_cons hk, costL]
theorem walk_cost {σ : Type} (vis : LExpr → Int → σ → σ × Bool) (m : σ → Nat) (cst : Hd → Nat) (hm : ∀ e lv s, m (vis e lv s).1 ≤ m s + cst e.hd) (e : LExpr) :
    ∀ (lv : Int) (s : σ), m (walkS vis e lv s).1 ≤ m s + costE cst e := by
  induction e using LExpr.ind with | _ hd ks ih => ?_
  have hL : ∀ (l : List LExpr), (∀ (i : Nat) (hi : i < l.length), ∀ (lv : Int) (s : σ), m (walkS vis l[i] lv s).1 ≤ m s + costE cst l[i]) → ∀ (lv : Int) (s : σ), m (walkL vis l lv s).1 ≤ m s + costL cst l := by
    intro l
    induction l with
    | nil => intro _ lv s; simp [walkL]
    | cons k l ihl =>
      intro h lv s
      have h0 := h 0 (by simp) lv s
      simp only [List.getElem_cons_zero] at h0
      have hr := ihl (fun i hi => by have := h (i + 1) (by simpa using hi); simpa using this) lv (walkS vis k lv s).1
      rw [walkL, costL]
      split
      · omega
      · dsimp only; omega
  intro lv s
  have h1 := hm (.mk hd ks) lv s
  have h2 := hL ks ih (wrap64 (lv + 1)) (vis (.mk hd ks) lv s).1
  rw [walkS, costE]
  change m (vis (.mk hd ks) lv s).1 ≤ m s + cst hd at h1
  split
  · omega
  · dsimp only; omega

set_option maxHeartbeats 1000000 in
theorem stepM_any {σ : Type} (vis : LExpr → Int → σ → σ × Bool) (R : σ → World → Prop) (B g : Nat) (caps : Array Value)
    (hcall : ∀ (args : Array Value) (w : World), (callFunc g args).run Try.prog w = .ok (.enter g args) w)
    (hRa : ∀ s w o, R s w → R s (w.alloc o))
    (m : σ → Nat) (cst : Hd → Nat) (M : Nat) (hm : ∀ e lv s, m (vis e lv s).1 ≤ m s + cst e.hd)
    (hv : ∀ e cs lv w s, B ≤ w.heap.size → IsExpr B w e cs → R s w → m s + cst e.hd ≤ M → Calls Try.prog g (#[.agg cs.toArray, .int .i64 lv] ++ caps) w fun r w' => r = .returned (.bool (vis e lv s).2) ∧ R (vis e lv s).1 w' ∧ Fr B w w')
    (bv bs : Nat) (e : LExpr) : ∀ (cs : List Value) (lv : Int) (w : World) (s : σ), m s + costE cst e ≤ M → B ≤ w.heap.size → IsExpr B w e cs → R s w →
      w.heap[bv]? = some (.cells #[.func (.func g) #[] caps] 61 (0, 0)) →
      w.heap[bs]? = some (.cells #[.func (.func 85) #[] #[.pointer (some ⟨bv, 0, none⟩), .pointer (some ⟨bs, 0, none⟩)]] 61 (0, 0)) →
      Calls Try.prog 85 #[.agg cs.toArray, .int .i64 lv, .pointer (some ⟨bv, 0, none⟩), .pointer (some ⟨bs, 0, none⟩)] w fun r w' =>
        r = .returned (.bool (walkS vis e lv s).2) ∧ R (walkS vis e lv s).1 w' ∧ Fr B w w' := by
  induction e using LExpr.ind with | _ hd ks ih => ?_
  intro cs lv w s hM hB he hR hbv hbs
  rw [costE_mk] at hM
  have hM1 := hm (.mk hd ks) lv s
  change _ ≤ m s + cst hd at hM1
  cases he with
  | mk _ _ A c b off cs ok hlen hA hsz hrow hk =>
  go_enter Try.func85, Try.ntmps85
  have cv : ∀ o, (w.alloc o).cell? ⟨bv, 0, none⟩ = some (.func (.func g) #[] caps) := fun o => by
    rw [World.cell?_alloc_lt _ _ _ (Array.getElem?_eq_some_iff.1 hbv).1]; exact cell_of_row _ _ _ _ _ _ hbv
  have he1 : IsExpr B (w.alloc (.cells (hd.cells (.slice A ks.length c)).toArray 32)) (.mk hd ks) (hd.cells (.slice A ks.length c)) :=
    (IsExpr.mk hd ks A c b off cs ok hlen hA hsz hrow hk).carry ((Below.refl B w).alloc hB _)
  have HV := Lib.hid (hv (.mk hd ks) _ lv _ s (by simp; omega) he1 (hRa _ _ _ hR) (show m s + cst hd ≤ M by omega))
  have hbk := heap_alloc_new w (.cells (hd.cells (.slice A ks.length c)).toArray 32)
  have hbv1 := (Below.heap_alloc w (.cells (hd.cells (.slice A ks.length c)).toArray 32) bv (Array.getElem?_eq_some_iff.1 hbv).1).trans hbv
  have hbs1 := (Below.heap_alloc w (.cells (hd.cells (.slice A ks.length c)).toArray 32) bs (Array.getElem?_eq_some_iff.1 hbs).1).trans hbs
  have F0 : Fr B w (w.alloc (.cells (hd.cells (.slice A ks.length c)).toArray 32)) := (Fr.refl B w).alloc hB _
  have hws : walkS vis (.mk hd ks) lv s = if (vis (.mk hd ks) lv s).2 then walkL vis ks (wrap64 (lv + 1)) (vis (.mk hd ks) lv s).1 else ((vis (.mk hd ks) lv s).1, false) := by rw [walkS]
  have HWS := Lib.hid hws
  clear hws
  clear he1
  unfold Hd.cells
  go_wp2_with fail
  refine (HV.out).mono ?_
  rintro r w1 ⟨rfl, hR1, F1⟩
  have F01 := F0.trans F1
  have c10 := F1.cell (.inl rfl) hbk 10
  have kbv := F1.row _ _ _ _ (.inr rfl) hbv1
  have kbs := F1.row _ _ _ _ (.inr rfl) hbs1
  clear HV hbk hbv1 hbs1 F0 cv
  generalize vis (.mk hd ks) lv s = V at *
  obtain ⟨s1, bb⟩ := V
  have hM2 : m s1 + costL cst ks ≤ M := by dsimp only at hM1; omega
  have HM2 := Lib.hid hM2
  clear hM2 hM1 hM
  have c10' : w1.cell? ⟨w.heap.size, 10, none⟩ = some (.slice A ks.length c) := c10
  clear c10
  dsimp only at hR1 HWS ⊢
  cases bb with
  | false =>
    go_wp2_with fail
    go_ret
    rw [HWS.out]
    exact ⟨rfl, hR1, F01⟩
  | true =>
    clear hR hbv hbs F1 hv
    go_wp2_with fail
    go_loopw [8, 17] (fun _ i wr => ∃ (k : Nat) (s' : σ), k ≤ ks.length ∧ i = .int .i64 k ∧ Hid (walkS vis (.mk hd ks) lv s = walkL vis (ks.drop k) (wrap64 (lv + 1)) s') ∧ Hid (m s' + costL cst (ks.drop k) ≤ M) ∧ R s' wr ∧ Fr B w wr ∧
        wr.heap[bv]? = some (.cells #[.func (.func g) #[] caps] 61 (0, 0)) ∧
        wr.heap[bs]? = some (.cells #[.func (.func 85) #[] #[.pointer (some ⟨bv, 0, none⟩), .pointer (some ⟨bs, 0, none⟩)]] 61 (0, 0))) (fun _ i _ => ks.length - (intOf i).toNat)
    case atStart => exact ⟨0, s1, Nat.zero_le _, rfl, Lib.hid (by have := HWS.out; simpa using this), Lib.hid (by have := HM2.out; simpa using this), hR1, F01, kbv, kbs⟩
    case round =>
      clear HWS hR1 F01 kbv kbs c10'
      obtain ⟨k, s', hkl, rfl, HW, HMr, hRr, Fw, kbv, kbs⟩ := hrel
      by_cases hlk : k < ks.length
      · obtain ⟨rfl, hbB⟩ := hA (by omega)
        have hdrop : ks.drop k = ks[k] :: ks.drop (k + 1) := List.drop_eq_getElem_cons hlk
        have hstep : walkL vis (ks.drop k) (wrap64 (lv + 1)) s' = if (walkS vis ks[k] (wrap64 (lv + 1)) s').2 then walkL vis (ks.drop (k + 1)) (wrap64 (lv + 1)) (walkS vis ks[k] (wrap64 (lv + 1)) s').1 else ((walkS vis ks[k] (wrap64 (lv + 1)) s').1, false) := by rw [hdrop, walkL]
        have HST := Lib.hid (HW.out.trans hstep)
        clear hstep hdrop HW
        have hc1 := HMr.out
        rw [costL_drop cst ks k hlk] at hc1
        have HN := Lib.hid (walk_cost vis m cst hm ks[k] (wrap64 (lv + 1)) s')
        have HC1 := Lib.hid hc1
        have hr := (hrow k hlk).below Fw.low hbB
        obtain ⟨hd', ks', A', c', hek, hcs, hl'⟩ := (hk k hlk).form
        have hsz' : (cs k).length = 11 := hsz k
        have he2 : ∀ o, IsExpr B (wr.alloc o) ks[k] (cs k) := fun o => ((hk k hlk).carry (w' := wr) Fw.low).carry ((Below.refl B wr).alloc (Nat.le_trans hB Fw.size) o)
        rw [hcs] at hr he2 hsz'
        clear hek hcs hA hrow hk hsz
        have HI := fun o => Lib.hid (ih k hlk _ (wrap64 (lv + 1)) (wr.alloc o) s' (by omega) (by have := Fw.size; simp; omega) (he2 o) (hRa _ _ _ hRr) ((Below.heap_alloc wr o bv (Array.getElem?_eq_some_iff.1 kbv).1).trans kbv) ((Below.heap_alloc wr o bs (Array.getElem?_eq_some_iff.1 kbs).1).trans kbs))
        have kbv1 := fun o => (Below.heap_alloc wr o bv (Array.getElem?_eq_some_iff.1 kbv).1).trans kbv
        have kbs1 := fun o => (Below.heap_alloc wr o bs (Array.getElem?_eq_some_iff.1 kbs).1).trans kbs
        have cs1 : ∀ o, (wr.alloc o).cell? ⟨bs, 0, none⟩ = some (.func (.func 85) #[] #[.pointer (some ⟨bv, 0, none⟩), .pointer (some ⟨bs, 0, none⟩)]) := fun o => cell_of_row _ _ _ _ _ _ (kbs1 o)
        have FA : ∀ o, Fr B w (wr.alloc o) := fun o => Fw.alloc (Nat.le_trans hB Fw.size) o
        clear ih he2 hRr Fw hc1 HMr hm
        unfold Hd.cells at hr
        go_wp2_with (first | (with_reducible refine wpList_load_at rfl 32 _ rfl b (off + k * 11) rfl _ _ hr Try.underlying32 rfl (by kernel_rfl) ?_))
        refine (HI _).out.mono ?_
        rintro r w2 ⟨rfl, hR2, F2⟩
        have F3 := (FA _).trans F2
        have kbv2 := F2.row _ _ _ _ (.inr rfl) (kbv1 _)
        have kbs2 := F2.row _ _ _ _ (.inr rfl) (kbs1 _)
        clear HI FA kbv1 kbs1 cs1 F2 kbv kbs hr hcall
        generalize walkS vis ks[k] (wrap64 (lv + 1)) s' = V at *
        obtain ⟨s2, bb⟩ := V
        dsimp only at hR2 HST HN
        cases bb with
        | false =>
          go_wp2_with fail
          go_ret
          rw [HST.out]
          exact ⟨rfl, hR2, F3⟩
        | true =>
          have HMn := Lib.hid (show m s2 + costL cst (ks.drop (k + 1)) ≤ M by have := HN.out; have := HC1.out; omega)
          clear HN HC1
          go_wp2_with fail
          go_roundw
          case rel => exact ⟨k + 1, s2, by omega, by go_num, Lib.hid (by have := HST.out; simpa using this), HMn, hR2, F3, kbv2, kbs2⟩
          case measure => simp [intOf]; omega
      · go_wp2_with fail
        go_ret
        rw [HW.out, List.drop_of_length_le (by omega)]
        exact ⟨rfl, hRr, Fw⟩

set_option maxHeartbeats 1000000 in
theorem walkM_any {σ : Type} (vis : LExpr → Int → σ → σ × Bool) (R : σ → World → Prop) (B g : Nat) (caps : Array Value)
    (hcall : ∀ (args : Array Value) (w : World), (callFunc g args).run Try.prog w = .ok (.enter g args) w)
    (hRa : ∀ s w o, R s w → R s (w.alloc o))
    (m : σ → Nat) (cst : Hd → Nat) (M : Nat) (hm : ∀ e lv s, m (vis e lv s).1 ≤ m s + cst e.hd)
    (hv : ∀ e cs lv w s, B ≤ w.heap.size → IsExpr B w e cs → R s w → m s + cst e.hd ≤ M → Calls Try.prog g (#[.agg cs.toArray, .int .i64 lv] ++ caps) w fun r w' => r = .returned (.bool (vis e lv s).2) ∧ R (vis e lv s).1 w' ∧ Fr B w w')
    (e : LExpr) (cs : List Value) (w : World) (s : σ) (hM : m s + costE cst e ≤ M) (hB : B ≤ w.heap.size) (he : IsExpr B w e cs) (hR : R s w) :
      Calls Try.prog 48 #[.agg cs.toArray, .func (.func g) #[] caps] w fun r w' =>
        r = .returned (.bool (walkS vis e 1 s).2) ∧ R (walkS vis e 1 s).1 w' ∧ Fr B w w' := by
  obtain ⟨hd, ks, A, c, rfl, rfl, hlen⟩ := he.form
  have HI : ∀ o1 o2 bv bs, (((w.alloc o1).alloc o2).alloc (.cells #[.func (.func 85) #[] #[.pointer (some ⟨bv, 0, none⟩), .pointer (some ⟨bs, 0, none⟩)]] 61)).heap[bv]? = _ → _ → Calls Try.prog 85 _ _ _ := fun o1 o2 bv bs =>
    stepM_any vis R B g caps hcall hRa m cst M hm hv bv bs (.mk hd ks) (hd.cells (.slice A ks.length c)) 1
      (((w.alloc o1).alloc o2).alloc (.cells #[.func (.func 85) #[] #[.pointer (some ⟨bv, 0, none⟩), .pointer (some ⟨bs, 0, none⟩)]] 61)) s hM (by simp; omega)
      (he.carry (((Below.refl B w).alloc hB _).alloc (by simp; omega) _ |>.alloc (by simp; omega) _)) (hRa _ _ _ (hRa _ _ _ (hRa _ _ _ hR)))
  have FA : ∀ o1 o2 o3, Fr B w (((w.alloc o1).alloc o2).alloc o3) := fun o1 o2 o3 => (((Fr.refl B w).alloc hB _).alloc (by simp; omega) _).alloc (by simp; omega) _
  have HJ := Lib.hid HI
  clear HI hv hRa hR he
  go_enter Try.func48, Try.ntmps48
  unfold Hd.cells
  go_wp2_with fail
  refine (HJ.out _ _ (w.heap.size + 1) (w.heap.size + 1 + 1) ?_ ?_).mono ?_
  · exact alloc3_at1 _ _ _ _
  · exact alloc3_at2 _ _ _ _
  rintro r w1 ⟨rfl, hR1, F1⟩
  have F01 := (FA _ _ _).trans F1
  clear HJ FA F1
  go_wp2_with fail
  go_ret
  exact ⟨rfl, hR1, F01⟩
end

section
set_option linter.unusedSimpArgs false
set_option linter.unusedVariables false
open Go.RowKit

/-- A variable that a function literal has captured. -/
def Var (w : World) (b : Nat) (t : TypeId) (v : Value) : Prop := w.heap[b]? = some (.cells #[v] t (0, 0))
theorem Var.lt {w : World} {b : Nat} {t : TypeId} {v : Value} (h : Var w b t v) : b < w.heap.size := (Array.getElem?_eq_some_iff.1 h).1
theorem Var.cell {w : World} {b : Nat} {t : TypeId} {v : Value} (h : Var w b t v) : w.cell? ⟨b, 0, none⟩ = some v := cell_of_row _ _ _ _ _ _ h
theorem Var.free {w : World} {b : Nat} {t : TypeId} {v : Value} (h : Var w b t v) : w.frozen? ⟨b, 0, none⟩ = false := frozen_of_row _ _ _ _ _ h
theorem Var.alloc {w : World} {b : Nat} {t : TypeId} {v : Value} (h : Var w b t v) (o : Obj) : Var (w.alloc o) b t v := (Below.heap_alloc w o b h.lt).trans h
theorem Var.set {w : World} {b : Nat} {t : TypeId} {v : Value} (h : Var w b t v) (u : Value) : Var (w.setCell ⟨b, 0, none⟩ u) b t u := heap_setCell_same w b 0 _ t u h
theorem Var.far {w : World} {b b' : Nat} {t : TypeId} {v : Value} (h : Var w b t v) (hb : b ≠ b') (u : Value) : Var (w.setCell ⟨b', 0, none⟩ u) b t v := (heap_setCell_other w ⟨b', 0, none⟩ b u hb).trans h
theorem Var.below {w w' : World} {b : Nat} {t : TypeId} {v : Value} (h : Var w b t v) (hb : Below w.heap.size w w') : Var w' b t v := (hb.block b h.lt).trans h
theorem Var.ne {w : World} {b b' : Nat} {t t' : TypeId} {v v' : Value} (h : Var w b t v) (h' : Var w b' t' v') (ht : t ≠ t') : b ≠ b' := by
  rintro rfl; unfold Var at h h'; rw [h] at h'; injection h' with h'; injection h' with _ h2; exact ht h2
theorem Fr.set {B : Nat} {a w : World} (h : Fr B a w) {b : Nat} {t : TypeId} {v : Value} (hv : Var w b t v) (ht : t ≠ 32 ∧ t ≠ 61) (hB : B ≤ b) (u : Value) : Fr B a (w.setCell ⟨b, 0, none⟩ u) :=
  ⟨h.low.setCell (p := ⟨b, 0, none⟩) hB u, fun k cs t' fr ht' hk => by
    have h1 := h.row k cs t' fr ht' hk
    have hne : k ≠ b := by
      rintro rfl; unfold Var at hv; rw [hv] at h1; injection h1 with h1; injection h1 with _ h2; subst h2; rcases ht' with e | e
      · exact ht.1 e
      · exact ht.2 e
    exact (heap_setCell_other w ⟨b, 0, none⟩ k u hne).trans h1⟩

/-- The visitor of Check. -/
def visCheck (e : LExpr) (lv : Int) (s : Int × Int) : (Int × Int) × Bool :=
  let f := if 24 < lv then 22 else if 200 < wrap64 (s.1 + 1) then 3 else nodeCheck e.hd e.kids.length
  ((wrap64 (s.1 + 1), f), f == 0)

def RCheck (bc bf : Nat) (s : Int × Int) (w : World) : Prop := Var w bc 3 (.int .i64 s.1) ∧ Var w bf 38 (.int .i64 s.2)

set_option maxHeartbeats 1000000 in
theorem check1_any (B bc bf : Nat) (hbc : B ≤ bc) (hbf : B ≤ bf) (e : LExpr) (cs : List Value) (lv : Int) (w : World) (s : Int × Int) (hB : B ≤ w.heap.size) (he : IsExpr B w e cs) (hR : RCheck bc bf s w) :
    Calls Try.prog 49 #[.agg cs.toArray, .int .i64 lv, .pointer (some ⟨bc, 0, none⟩), .pointer (some ⟨bf, 0, none⟩)] w fun r w' =>
      r = .returned (.bool (visCheck e lv s).2) ∧ RCheck bc bf (visCheck e lv s).1 w' ∧ Fr B w w' := by
  obtain ⟨hd, ks, A, c, rfl, rfl, hlen⟩ := he.form
  obtain ⟨h1, h2⟩ := hR
  obtain ⟨cn, fd⟩ := s
  dsimp only at h1 h2
  have hne : bc ≠ bf := h1.ne h2 (by decide)
  have l1 := h1.lt
  have l2 := h2.lt
  have a1 := h1.cell
  have a2 := h2.cell
  have f1 := h1.free
  have f2 := h2.free
  clear he
  have hn1 : (⟨bc, 0, none⟩ : Addr) ≠ ⟨bf, 0, none⟩ := fun h => hne (by injection h)
  go_enter Try.func49, Try.ntmps49
  unfold Hd.cells
  go_wp2_with (go_at_call 50; refine (node_any hd A ks.length c _ (by omega)).mono ?_; rintro r w2 ⟨rfl, hb2⟩; go_must (have hv1 := ((h1.set (.int .i64 (wrap64 (cn + 1)))).alloc _).below hb2; have hv2 := ((h2.far hne.symm (.int .i64 (wrap64 (cn + 1)))).alloc _).below hb2; have b2 := hv2.cell; have g2 := hv2.free; have hF := (((Fr.refl B w).set h1 (by decide) hbc (.int .i64 (wrap64 (cn + 1)))).alloc (by simpa using hB) _).trans (Fr.of_below hb2 (by simp only [World.size_alloc, World.size_setCell]; omega))))
  all_goals go_ret
  · have e1 : visCheck (.mk hd ks) lv (cn, fd) = ((wrap64 (cn + 1), 22), false) := by simp [visCheck, *]
    rw [e1]
    exact ⟨rfl, ⟨((h1.set _).far hne _).alloc _, ((h2.far hne.symm _).set _).alloc _⟩, ((((Fr.refl B w).set h1 (by decide) hbc _).set (h2.far hne.symm _) (by decide) hbf _).alloc (by simpa using hB) _)⟩
  · have e1 : visCheck (.mk hd ks) lv (cn, fd) = ((wrap64 (cn + 1), 3), false) := by
      have : ¬ 24 < lv := by omega
      simp [visCheck, *]
    rw [e1]
    exact ⟨rfl, ⟨((h1.set _).far hne _).alloc _, ((h2.far hne.symm _).set _).alloc _⟩, ((((Fr.refl B w).set h1 (by decide) hbc _).set (h2.far hne.symm _) (by decide) hbf _).alloc (by simpa using hB) _)⟩
  · have e1 : visCheck (.mk hd ks) lv (cn, fd) = ((wrap64 (cn + 1), nodeCheck hd ks.length), nodeCheck hd ks.length == 0) := by
      have h24 : ¬ 24 < lv := by omega
      have h200 : ¬ 200 < wrap64 (cn + 1) := by omega
      simp only [visCheck, if_neg h24, if_neg h200]; rfl
    rw [e1]
    exact ⟨rfl, ⟨hv1.far hne _, hv2.set _⟩, hF.set hv2 (by decide) hbf _⟩

set_option maxHeartbeats 1000000 in
/-- The check by the program. -/
theorem checkE_any (e : LExpr) (cs : List Value) (B : Nat) (w : World) (hB : B ≤ w.heap.size) (he : IsExpr B w e cs) :
    Calls Try.prog 29 #[.agg cs.toArray] w fun r w' => r = .returned (.int .i64 (walkS visCheck e 1 (0, 0)).1.2) ∧ Below w.heap.size w w' := by
  obtain ⟨hd, ks, A, c, rfl, rfl, hlen⟩ := he.form
  have hcall : ∀ (args : Array Value) (w : World), (callFunc 49 args).run Try.prog w = .ok (.enter 49 args) w := fun args w => by kernel_rfl
  have HW := fun W s hB' he' hR' => Lib.hid (walk_any visCheck (RCheck (w.heap.size + 1 + 1) (w.heap.size + 1)) w.heap.size 49 #[.pointer (some ⟨w.heap.size + 1 + 1, 0, none⟩), .pointer (some ⟨w.heap.size + 1, 0, none⟩)] hcall
    (fun s w o h => ⟨h.1.alloc o, h.2.alloc o⟩) (fun e cs lv w' s hB he hR => check1_any w.heap.size (w.heap.size + 1 + 1) (w.heap.size + 1) (by omega) (by omega) e cs lv w' s hB he hR)
    (.mk hd ks) (hd.cells (.slice A ks.length c)) W s hB' he' hR')
  clear hcall
  have he1 := he.mono hB
  clear he
  go_enter Try.func29, Try.ntmps29
  unfold Hd.cells
  go_wp2_with fail
  refine (HW _ (0, 0) ?_ ?_ ?_).out.mono ?_
  · simp; omega
  · exact he1.carry ((((Below.refl _ _).al _).al _).al _)
  · exact ⟨alloc3_at2 _ _ _ _, alloc3_at1 _ _ _ _⟩
  rintro r w1 ⟨rfl, ⟨hR1, hR2⟩, F1⟩
  have b1 := hR2.cell
  clear HW he1
  go_wp2_with fail
  go_ret
  exact ⟨rfl, (((Below.refl _ _).al _).al _).al _ |>.trans F1.low⟩
end

section
set_option linter.unusedSimpArgs false
set_option linter.unusedVariables false
open Go.RowKit

mutual
/-- The reference's walk: the number of nodes behind it, and the error. -/
def rwalk : LExpr → Int → Int → Int × Int
  | .mk h ks, lv, bf => if 24 < lv then (bf, 22) else if 200 ≤ bf then (bf, 3) else if nodeCheck h ks.length ≠ 0 then (bf, nodeCheck h ks.length) else rwalkL ks (lv + 1) (bf + 1)
def rwalkL : List LExpr → Int → Int → Int × Int
  | [], _, n => (n, 0)
  | k :: ks, lv, n => if (rwalk k lv n).2 ≠ 0 then rwalk k lv n else rwalkL ks lv (rwalk k lv n).1
end

theorem rwalk_bd (e : LExpr) : ∀ lv bf, 0 ≤ bf → bf ≤ 200 → 0 ≤ (rwalk e lv bf).1 ∧ (rwalk e lv bf).1 ≤ 200 := by
  induction e using LExpr.ind with | _ hd ks ih => ?_
  have hL : ∀ (l : List LExpr), (∀ (i : Nat) (hi : i < l.length), ∀ lv bf, 0 ≤ bf → bf ≤ 200 → 0 ≤ (rwalk l[i] lv bf).1 ∧ (rwalk l[i] lv bf).1 ≤ 200) → ∀ lv bf, 0 ≤ bf → bf ≤ 200 → 0 ≤ (rwalkL l lv bf).1 ∧ (rwalkL l lv bf).1 ≤ 200 := by
    intro l
    induction l with
    | nil => intro _ lv bf h0 h1; simp only [rwalkL]; exact ⟨h0, h1⟩
    | cons k ks ihl =>
      intro h lv bf h0 h1
      have hk := h 0 (by simp) lv bf h0 h1
      simp only [List.getElem_cons_zero] at hk
      simp only [rwalkL]
      split
      · exact hk
      · exact ihl (fun i hi => by have := h (i + 1) (by simpa using hi); simpa using this) lv _ hk.1 hk.2
  intro lv bf h0 h1
  simp only [rwalk]
  repeat' split
  · exact ⟨h0, h1⟩
  · exact ⟨h0, h1⟩
  · exact ⟨h0, h1⟩
  · exact hL ks ih _ _ (by omega) (by omega)

set_option maxRecDepth 100000 in
set_option maxHeartbeats 1000000 in
theorem rwalk_any (e : LExpr) : ∀ (cs : List Value) (B : Nat) (lv bf : Int) (w : World), 1 ≤ lv → lv ≤ 25 → 0 ≤ bf → bf ≤ 200 → B ≤ w.heap.size → IsExpr B w e cs →
    Calls Try.prog 47 #[.agg cs.toArray, .int .i64 lv, .int .i64 bf] w fun r w' => r = .returned (.tuple #[.int .i64 (rwalk e lv bf).1, .int .i64 (rwalk e lv bf).2]) ∧ Below w.heap.size w w' := by
  induction e using LExpr.ind with | _ hd ks ih => ?_
  intro cs B lv bf w hl1 hl2 hb1 hb2 hB he
  cases he with
  | mk _ _ A c b off cs ok hlen hA hsz hrow hk =>
  have hN := fun W => Lib.hid (rnode_any hd A ks.length c W (by omega))
  have hw : rwalk (.mk hd ks) lv bf = if 24 < lv then (bf, 22) else if 200 ≤ bf then (bf, 3) else if nodeCheck hd ks.length ≠ 0 then (bf, nodeCheck hd ks.length) else rwalkL ks (lv + 1) (bf + 1) := by rw [rwalk]
  have HW := Lib.hid hw
  clear hw
  by_cases h24 : 24 < lv
  · go_enter Try.func47, Try.ntmps47
    unfold Hd.cells
    go_wp2_with fail
    go_ret2
    rw [HW.out, if_pos (by omega)]
    exact ⟨rfl, (Below.refl _ _).al _⟩
  by_cases h200 : 200 ≤ bf
  · go_enter Try.func47, Try.ntmps47
    unfold Hd.cells
    go_wp2_with fail
    go_ret2
    rw [HW.out, if_neg (by omega), if_pos (by omega)]
    exact ⟨rfl, (Below.refl _ _).al _⟩
  have hw2 := HW.out
  rw [if_neg h24, if_neg h200] at hw2
  have HW2 := Lib.hid hw2
  clear hw2 HW
  cases hn : nodeCheck hd ks.length != 0 with
  | true =>
    have HN : nodeCheck hd ks.length ≠ 0 := by simpa using hn
    have HN2 := Lib.hid HN
    clear HN
    go_enter Try.func47, Try.ntmps47
    unfold Hd.cells
    go_wp2_with fail
    refine (hN _).out.mono ?_
    rintro r w2 ⟨rfl, hb⟩
    go_wp2_with fail
    go_ret2
    rw [HW2.out, if_pos HN2.out]
    exact ⟨rfl, ((Below.refl _ _).al _).th hb⟩
  | false =>
    have HN : ¬ nodeCheck hd ks.length ≠ 0 := by simpa using hn
    rw [if_neg HN] at HW2
    clear HN
    go_enter Try.func47, Try.ntmps47
    unfold Hd.cells
    go_wp2_with fail
    refine (hN _).out.mono ?_
    rintro r w2 ⟨rfl, hb⟩
    have hc2 := (hb.cell (p := ⟨w.heap.size, 10, none⟩) (by simp)).trans (World.cell?_alloc_new _ _ _ 10)
    have hs2 : w.heap.size < w2.heap.size := by have := hb.size; simp only [World.size_alloc] at this; omega
    have hB2 := ((Below.refl w.heap.size w).al (.cells (hd.cells (.slice A ks.length c)).toArray 32)).th hb
    clear hN hb
    simp only [List.getElem?_toArray, List.getElem?_cons_succ, List.getElem?_cons_zero] at hc2
    go_wp2_with fail
    go_loopw [9, 10] (fun n i wr => ∃ (k : Nat) (q : Int), k ≤ ks.length ∧ i = .int .i64 k ∧ n = .int .i64 q ∧ 0 ≤ q ∧ q ≤ 200 ∧ Hid (rwalk (.mk hd ks) lv bf = rwalkL (ks.drop k) (lv + 1) q) ∧ Below w.heap.size w wr ∧ w.heap.size < wr.heap.size ∧ wr.cell? ⟨w.heap.size, 10, none⟩ = some (.slice A ks.length c)) (fun _ i _ => ks.length - (intOf i).toNat)
    case atStart => exact ⟨0, bf + 1, Nat.zero_le _, rfl, rfl, by omega, by omega, HW2, hB2, hs2, hc2⟩
    case round =>
      clear HW2 hB2 hs2 hc2
      obtain ⟨k, q, hkl, rfl, rfl, hq1, hq2, HQ, hbw, hsz2, hc⟩ := hrel
      by_cases hlk : k < ks.length
      · obtain ⟨rfl, hbB⟩ := hA (by omega)
        have hr := (hrow k hlk).below hbw (Nat.lt_of_lt_of_le hbB hB)
        have hdrop : ks.drop k = ks[k] :: ks.drop (k + 1) := List.drop_eq_getElem_cons hlk
        have hstep : rwalkL (ks.drop k) (lv + 1) q = if (rwalk ks[k] (lv + 1) q).2 ≠ 0 then rwalk ks[k] (lv + 1) q else rwalkL (ks.drop (k + 1)) (lv + 1) (rwalk ks[k] (lv + 1) q).1 := by rw [hdrop, rwalkL]
        have HST := Lib.hid (HQ.out.trans hstep)
        have hbd := rwalk_bd ks[k] (lv + 1) q hq1 hq2
        have HI := Lib.hid (ih k hlk (cs k) B (lv + 1) q wr (by omega) (by omega) hq1 hq2 (by omega) ((hk k hlk).carry (hbw.mono hB)))
        clear hstep hdrop HQ ih hA hrow hk
        generalize rwalk ks[k] (lv + 1) q = V at *
        obtain ⟨v1, v2⟩ := V
        dsimp only at hbd HST HI
        go_wp2_with (first | (with_reducible refine wpList_load_at rfl 32 _ rfl b (off + k * 11) rfl (cs k) _ hr Try.underlying32 rfl (by rw [hsz]; kernel_rfl) ?_) | (go_at_call 47; refine HI.out.mono ?_; rintro r w3 ⟨rfl, hb3⟩; have hc3 := (hb3.cell (p := ⟨w.heap.size, 10, none⟩) hsz2).trans hc; have hs3 := Nat.lt_of_lt_of_le hsz2 hb3.size))
        · go_ret2
          have e1 : rwalk (.mk hd ks) lv bf = (v1, v2) := by rw [HST.out, if_pos (by simpa using ‹(v2 != 0) = true›)]
          rw [e1]
          exact ⟨rfl, hbw.th hb3⟩
        · have e2 : v2 = 0 := by simpa using ‹(v2 != 0) = false›
          refine ⟨⟨k + 1, v1, by omega, by go_num, rfl, hbd.1, hbd.2, Lib.hid ?_, hbw.th hb3, hs3, hc3⟩, by simp [intOf]; omega⟩
          rw [HST.out, if_neg (by simp [e2])]
      · go_wp2_with fail
        go_ret2
        have e1 : rwalk (.mk hd ks) lv bf = (q, 0) := by rw [HQ.out, List.drop_of_length_le (by omega), rwalkL]
        rw [e1]
        exact ⟨rfl, hbw⟩

/-- The error of an expression's check. -/
def checkE (e : LExpr) : Int := (rwalk e 1 0).2

set_option maxHeartbeats 1000000 in
theorem rcheckE_any (e : LExpr) (cs : List Value) (B : Nat) (w : World) (hB : B ≤ w.heap.size) (he : IsExpr B w e cs) :
    Calls Try.prog 24 #[.agg cs.toArray] w fun r w' => r = .returned (.int .i64 (checkE e)) ∧ Below w.heap.size w w' := by
  have HI := fun o => Lib.hid (rwalk_any e cs B 1 0 (w.alloc o) (by omega) (by omega) (by omega) (by omega) (by simp; omega) (he.carry ((Below.refl B w).alloc hB o)))
  obtain ⟨hd, ks, A, c, rfl, rfl, hlen⟩ := he.form
  go_enter Try.func24, Try.ntmps24
  unfold Hd.cells
  go_wp2_with fail
  refine (HI _).out.mono ?_
  rintro r w2 ⟨rfl, hb⟩
  go_wp2_with fail
  go_ret
  exact ⟨rfl, ((Below.refl _ _).al _).th hb⟩

/-- The program's walk and the reference's come to the same error. -/
theorem walk_same (e : LExpr) : ∀ (lv bf : Int) (f : Int), 1 ≤ lv → lv ≤ 25 → 0 ≤ bf → bf ≤ 200 →
    (walkS visCheck e lv (bf, f)).1.2 = (rwalk e lv bf).2 ∧ ((walkS visCheck e lv (bf, f)).2 = true ↔ (rwalk e lv bf).2 = 0) ∧ ((rwalk e lv bf).2 = 0 → (walkS visCheck e lv (bf, f)).1.1 = (rwalk e lv bf).1) := by
  induction e using LExpr.ind with | _ hd ks ih => ?_
  have hL : ∀ (l : List LExpr), (∀ (i : Nat) (hi : i < l.length), ∀ (lv bf : Int) (f : Int), 1 ≤ lv → lv ≤ 25 → 0 ≤ bf → bf ≤ 200 →
      (walkS visCheck l[i] lv (bf, f)).1.2 = (rwalk l[i] lv bf).2 ∧ ((walkS visCheck l[i] lv (bf, f)).2 = true ↔ (rwalk l[i] lv bf).2 = 0) ∧ ((rwalk l[i] lv bf).2 = 0 → (walkS visCheck l[i] lv (bf, f)).1.1 = (rwalk l[i] lv bf).1)) →
      ∀ (lv bf : Int), 1 ≤ lv → lv ≤ 25 → 0 ≤ bf → bf ≤ 200 →
      (walkL visCheck l lv (bf, 0)).1.2 = (rwalkL l lv bf).2 ∧ ((walkL visCheck l lv (bf, 0)).2 = true ↔ (rwalkL l lv bf).2 = 0) ∧ ((rwalkL l lv bf).2 = 0 → (walkL visCheck l lv (bf, 0)).1.1 = (rwalkL l lv bf).1) := by
    intro l
    induction l with
    | nil => intro _ lv bf _ _ _ _; simp [walkL, rwalkL]
    | cons k ks ihl =>
      intro h lv bf h1 h2 h3 h4
      have hk := h 0 (by simp) lv bf 0 h1 h2 h3 h4
      simp only [List.getElem_cons_zero] at hk
      have hbd := rwalk_bd k lv bf h3 h4
      obtain ⟨k1, k2, k3⟩ := hk
      simp only [walkL, rwalkL]
      by_cases h0 : (rwalk k lv bf).2 = 0
      · rw [if_pos (k2.2 h0), if_neg (by simp [h0])]
        have e1 : (walkS visCheck k lv (bf, 0)).1 = ((rwalk k lv bf).1, 0) := Prod.ext (k3 h0) (by rw [k1, h0])
        rw [e1]
        exact ihl (fun i hi => by have := h (i + 1) (by simpa using hi); simpa using this) lv _ h1 h2 hbd.1 hbd.2
      · have hf : ¬ (walkS visCheck k lv (bf, 0)).2 = true := fun hh => h0 (k2.1 hh)
        rw [if_neg hf, if_pos h0]
        exact ⟨k1, by simp [h0], fun hh => absurd hh h0⟩
  intro lv bf f h1 h2 h3 h4
  have hwr : wrap64 (bf + 1) = bf + 1 := by unfold wrap64; omega
  have hwl : wrap64 (lv + 1) = lv + 1 := by unfold wrap64; omega
  simp only [walkS, rwalk, visCheck, LExpr.hd, LExpr.kids, hwr, hwl]
  by_cases h24 : 24 < lv
  · simp [h24]
  by_cases h200 : 200 ≤ bf
  · have : 200 < bf + 1 := by omega
    simp [h24, h200, this]
  have h201 : ¬ 200 < bf + 1 := by omega
  simp only [h24, h200, h201, if_false]
  by_cases hn : nodeCheck hd ks.length = 0
  · simp only [hn, beq_self_eq_true, if_true, ne_eq, not_true, if_false]
    exact hL ks ih (lv + 1) (bf + 1) (by omega) (by omega) (by omega) (by omega)
  · simp [hn]

theorem checkE_is (e : LExpr) : (walkS visCheck e 1 (0, 0)).1.2 = checkE e := (walk_same e 1 0 0 (by omega) (by omega) (by omega) (by omega)).1
end

end Go.Proofs.Ytnelgblmogciiaa
