/- The walk over the nodes of an expression, for visitors that bear only so much. -/
import Derived.Test.YtnelgblmogciiaaWalk2
set_option linter.unusedSimpArgs false
set_option linter.unusedVariables false
namespace Go.Proofs.Ytnelgblmogciiaa
open Go.RowKit

mutual
/-- What the nodes of a tree cost together. -/
def costE (cst : Hd → Nat) : LExpr → Nat
  | .mk h ks => cst h + costL cst ks
def costL (cst : Hd → Nat) : List LExpr → Nat
  | [] => 0
  | k :: ks => costE cst k + costL cst ks
end
theorem costE_mk (cst : Hd → Nat) (h : Hd) (ks : List LExpr) : costE cst (.mk h ks) = cst h + costL cst ks := by rw [costE]
theorem costL_drop (cst : Hd → Nat) (ks : List LExpr) (k : Nat) (hk : k < ks.length) : costL cst (ks.drop k) = costE cst ks[k] + costL cst (ks.drop (k + 1)) := by
  rw [List.drop_eq_getElem_cons hk, costL]
theorem walk_cost {σ : Type} (vis : LExpr → Int → σ → σ × Bool) (m : σ → Nat) (cst : Hd → Nat) (hm : ∀ e lv s, m (vis e lv s).1 ≤ m s + cst e.hd) (e : LExpr) :
    ∀ (lv : Int) (s : σ), m (walkS vis e lv s).1 ≤ m s + costE cst e := by
  induction e using LExpr.ind with | _ hd ks ih => ?_
  have hL : ∀ (l : List LExpr), (∀ (i : Nat) (hi : i < l.length), ∀ (lv : Int) (s : σ), m (walkS vis l[i] lv s).1 ≤ m s + costE cst l[i]) → ∀ (lv : Int) (s : σ), m (walkL vis l lv s).1 ≤ m s + costL cst l := by
    intro l
    induction l with
    | nil => intro _ lv s; simp [walkL]
    | cons k l ihl =>
      intro h lv s
      have h0 := h 0 (by simp) lv s
      simp only [List.getElem_cons_zero] at h0
      have hr := ihl (fun i hi => by have := h (i + 1) (by simpa using hi); simpa using this) lv (walkS vis k lv s).1
      rw [walkL, costL]
      split
      · omega
      · dsimp only; omega
  intro lv s
  have h1 := hm (.mk hd ks) lv s
  have h2 := hL ks ih (wrap64 (lv + 1)) (vis (.mk hd ks) lv s).1
  rw [walkS, costE]
  change m (vis (.mk hd ks) lv s).1 ≤ m s + cst hd at h1
  split
  · omega
  · dsimp only; omega

set_option maxHeartbeats 1000000 in
theorem stepM_any {σ : Type} (vis : LExpr → Int → σ → σ × Bool) (R : σ → World → Prop) (B g : Nat) (caps : Array Value)
    (hcall : ∀ (args : Array Value) (w : World), (callFunc g args).run Try.prog w = .ok (.enter g args) w)
    (hRa : ∀ s w o, R s w → R s (w.alloc o))
    (m : σ → Nat) (cst : Hd → Nat) (M : Nat) (hm : ∀ e lv s, m (vis e lv s).1 ≤ m s + cst e.hd)
    (hv : ∀ e cs lv w s, B ≤ w.heap.size → IsExpr B w e cs → R s w → m s + cst e.hd ≤ M → Calls Try.prog g (#[.agg cs.toArray, .int .i64 lv] ++ caps) w fun r w' => r = .returned (.bool (vis e lv s).2) ∧ R (vis e lv s).1 w' ∧ Fr B w w')
    (bv bs : Nat) (e : LExpr) : ∀ (cs : List Value) (lv : Int) (w : World) (s : σ), m s + costE cst e ≤ M → B ≤ w.heap.size → IsExpr B w e cs → R s w →
      w.heap[bv]? = some (.cells #[.func (.func g) #[] caps] 61 (0, 0)) →
      w.heap[bs]? = some (.cells #[.func (.func 85) #[] #[.pointer (some ⟨bv, 0, none⟩), .pointer (some ⟨bs, 0, none⟩)]] 61 (0, 0)) →
      Calls Try.prog 85 #[.agg cs.toArray, .int .i64 lv, .pointer (some ⟨bv, 0, none⟩), .pointer (some ⟨bs, 0, none⟩)] w fun r w' =>
        r = .returned (.bool (walkS vis e lv s).2) ∧ R (walkS vis e lv s).1 w' ∧ Fr B w w' := by
  induction e using LExpr.ind with | _ hd ks ih => ?_
  intro cs lv w s hM hB he hR hbv hbs
  rw [costE_mk] at hM
  have hM1 := hm (.mk hd ks) lv s
  change _ ≤ m s + cst hd at hM1
  cases he with
  | mk _ _ A c b off cs ok hlen hA hsz hrow hk =>
  go_enter Try.func85, Try.ntmps85
  have cv : ∀ o, (w.alloc o).cell? ⟨bv, 0, none⟩ = some (.func (.func g) #[] caps) := fun o => by
    rw [World.cell?_alloc_lt _ _ _ (Array.getElem?_eq_some_iff.1 hbv).1]; exact cell_of_row _ _ _ _ _ _ hbv
  have he1 : IsExpr B (w.alloc (.cells (hd.cells (.slice A ks.length c)).toArray 32)) (.mk hd ks) (hd.cells (.slice A ks.length c)) :=
    (IsExpr.mk hd ks A c b off cs ok hlen hA hsz hrow hk).carry ((Below.refl B w).alloc hB _)
  have HV := Lib.hid (hv (.mk hd ks) _ lv _ s (by simp; omega) he1 (hRa _ _ _ hR) (show m s + cst hd ≤ M by omega))
  have hbk := heap_alloc_new w (.cells (hd.cells (.slice A ks.length c)).toArray 32)
  have hbv1 := (Below.heap_alloc w (.cells (hd.cells (.slice A ks.length c)).toArray 32) bv (Array.getElem?_eq_some_iff.1 hbv).1).trans hbv
  have hbs1 := (Below.heap_alloc w (.cells (hd.cells (.slice A ks.length c)).toArray 32) bs (Array.getElem?_eq_some_iff.1 hbs).1).trans hbs
  have F0 : Fr B w (w.alloc (.cells (hd.cells (.slice A ks.length c)).toArray 32)) := (Fr.refl B w).alloc hB _
  have hws : walkS vis (.mk hd ks) lv s = if (vis (.mk hd ks) lv s).2 then walkL vis ks (wrap64 (lv + 1)) (vis (.mk hd ks) lv s).1 else ((vis (.mk hd ks) lv s).1, false) := by rw [walkS]
  have HWS := Lib.hid hws
  clear hws
  clear he1
  unfold Hd.cells
  go_wp2_with fail
  refine (HV.out).mono ?_
  rintro r w1 ⟨rfl, hR1, F1⟩
  have F01 := F0.trans F1
  have c10 := F1.cell (.inl rfl) hbk 10
  have kbv := F1.row _ _ _ _ (.inr rfl) hbv1
  have kbs := F1.row _ _ _ _ (.inr rfl) hbs1
  clear HV hbk hbv1 hbs1 F0 cv
  generalize vis (.mk hd ks) lv s = V at *
  obtain ⟨s1, bb⟩ := V
  have hM2 : m s1 + costL cst ks ≤ M := by dsimp only at hM1; omega
  have HM2 := Lib.hid hM2
  clear hM2 hM1 hM
  have c10' : w1.cell? ⟨w.heap.size, 10, none⟩ = some (.slice A ks.length c) := c10
  clear c10
  dsimp only at hR1 HWS ⊢
  cases bb with
  | false =>
    go_wp2_with fail
    go_ret
    rw [HWS.out]
    exact ⟨rfl, hR1, F01⟩
  | true =>
    clear hR hbv hbs F1 hv
    go_wp2_with fail
    go_loopw [8, 17] (fun _ i wr => ∃ (k : Nat) (s' : σ), k ≤ ks.length ∧ i = .int .i64 k ∧ Hid (walkS vis (.mk hd ks) lv s = walkL vis (ks.drop k) (wrap64 (lv + 1)) s') ∧ Hid (m s' + costL cst (ks.drop k) ≤ M) ∧ R s' wr ∧ Fr B w wr ∧
        wr.heap[bv]? = some (.cells #[.func (.func g) #[] caps] 61 (0, 0)) ∧
        wr.heap[bs]? = some (.cells #[.func (.func 85) #[] #[.pointer (some ⟨bv, 0, none⟩), .pointer (some ⟨bs, 0, none⟩)]] 61 (0, 0))) (fun _ i _ => ks.length - (intOf i).toNat)
    case atStart => exact ⟨0, s1, Nat.zero_le _, rfl, Lib.hid (by have := HWS.out; simpa using this), Lib.hid (by have := HM2.out; simpa using this), hR1, F01, kbv, kbs⟩
    case round =>
      clear HWS hR1 F01 kbv kbs c10'
      obtain ⟨k, s', hkl, rfl, HW, HMr, hRr, Fw, kbv, kbs⟩ := hrel
      by_cases hlk : k < ks.length
      · obtain ⟨rfl, hbB⟩ := hA (by omega)
        have hdrop : ks.drop k = ks[k] :: ks.drop (k + 1) := List.drop_eq_getElem_cons hlk
        have hstep : walkL vis (ks.drop k) (wrap64 (lv + 1)) s' = if (walkS vis ks[k] (wrap64 (lv + 1)) s').2 then walkL vis (ks.drop (k + 1)) (wrap64 (lv + 1)) (walkS vis ks[k] (wrap64 (lv + 1)) s').1 else ((walkS vis ks[k] (wrap64 (lv + 1)) s').1, false) := by rw [hdrop, walkL]
        have HST := Lib.hid (HW.out.trans hstep)
        clear hstep hdrop HW
        have hc1 := HMr.out
        rw [costL_drop cst ks k hlk] at hc1
        have HN := Lib.hid (walk_cost vis m cst hm ks[k] (wrap64 (lv + 1)) s')
        have HC1 := Lib.hid hc1
        have hr := (hrow k hlk).below Fw.low hbB
        obtain ⟨hd', ks', A', c', hek, hcs, hl'⟩ := (hk k hlk).form
        have hsz' : (cs k).length = 11 := hsz k
        have he2 : ∀ o, IsExpr B (wr.alloc o) ks[k] (cs k) := fun o => ((hk k hlk).carry (w' := wr) Fw.low).carry ((Below.refl B wr).alloc (Nat.le_trans hB Fw.size) o)
        rw [hcs] at hr he2 hsz'
        clear hek hcs hA hrow hk hsz
        have HI := fun o => Lib.hid (ih k hlk _ (wrap64 (lv + 1)) (wr.alloc o) s' (by omega) (by have := Fw.size; simp; omega) (he2 o) (hRa _ _ _ hRr) ((Below.heap_alloc wr o bv (Array.getElem?_eq_some_iff.1 kbv).1).trans kbv) ((Below.heap_alloc wr o bs (Array.getElem?_eq_some_iff.1 kbs).1).trans kbs))
        have kbv1 := fun o => (Below.heap_alloc wr o bv (Array.getElem?_eq_some_iff.1 kbv).1).trans kbv
        have kbs1 := fun o => (Below.heap_alloc wr o bs (Array.getElem?_eq_some_iff.1 kbs).1).trans kbs
        have cs1 : ∀ o, (wr.alloc o).cell? ⟨bs, 0, none⟩ = some (.func (.func 85) #[] #[.pointer (some ⟨bv, 0, none⟩), .pointer (some ⟨bs, 0, none⟩)]) := fun o => cell_of_row _ _ _ _ _ _ (kbs1 o)
        have FA : ∀ o, Fr B w (wr.alloc o) := fun o => Fw.alloc (Nat.le_trans hB Fw.size) o
        clear ih he2 hRr Fw hc1 HMr hm
        unfold Hd.cells at hr
        go_wp2_with (first | (with_reducible refine wpList_load_at rfl 32 _ rfl b (off + k * 11) rfl _ _ hr Try.underlying32 rfl (by kernel_rfl) ?_))
        refine (HI _).out.mono ?_
        rintro r w2 ⟨rfl, hR2, F2⟩
        have F3 := (FA _).trans F2
        have kbv2 := F2.row _ _ _ _ (.inr rfl) (kbv1 _)
        have kbs2 := F2.row _ _ _ _ (.inr rfl) (kbs1 _)
        clear HI FA kbv1 kbs1 cs1 F2 kbv kbs hr hcall
        generalize walkS vis ks[k] (wrap64 (lv + 1)) s' = V at *
        obtain ⟨s2, bb⟩ := V
        dsimp only at hR2 HST HN
        cases bb with
        | false =>
          go_wp2_with fail
          go_ret
          rw [HST.out]
          exact ⟨rfl, hR2, F3⟩
        | true =>
          have HMn := Lib.hid (show m s2 + costL cst (ks.drop (k + 1)) ≤ M by have := HN.out; have := HC1.out; omega)
          clear HN HC1
          go_wp2_with fail
          go_roundw
          case rel => exact ⟨k + 1, s2, by omega, by go_num, Lib.hid (by have := HST.out; simpa using this), HMn, hR2, F3, kbv2, kbs2⟩
          case measure => simp [intOf]; omega
      · go_wp2_with fail
        go_ret
        rw [HW.out, List.drop_of_length_le (by omega)]
        exact ⟨rfl, hRr, Fw⟩

set_option maxHeartbeats 1000000 in
theorem walkM_any {σ : Type} (vis : LExpr → Int → σ → σ × Bool) (R : σ → World → Prop) (B g : Nat) (caps : Array Value)
    (hcall : ∀ (args : Array Value) (w : World), (callFunc g args).run Try.prog w = .ok (.enter g args) w)
    (hRa : ∀ s w o, R s w → R s (w.alloc o))
    (m : σ → Nat) (cst : Hd → Nat) (M : Nat) (hm : ∀ e lv s, m (vis e lv s).1 ≤ m s + cst e.hd)
    (hv : ∀ e cs lv w s, B ≤ w.heap.size → IsExpr B w e cs → R s w → m s + cst e.hd ≤ M → Calls Try.prog g (#[.agg cs.toArray, .int .i64 lv] ++ caps) w fun r w' => r = .returned (.bool (vis e lv s).2) ∧ R (vis e lv s).1 w' ∧ Fr B w w')
    (e : LExpr) (cs : List Value) (w : World) (s : σ) (hM : m s + costE cst e ≤ M) (hB : B ≤ w.heap.size) (he : IsExpr B w e cs) (hR : R s w) :
      Calls Try.prog 48 #[.agg cs.toArray, .func (.func g) #[] caps] w fun r w' =>
        r = .returned (.bool (walkS vis e 1 s).2) ∧ R (walkS vis e 1 s).1 w' ∧ Fr B w w' := by
  obtain ⟨hd, ks, A, c, rfl, rfl, hlen⟩ := he.form
  have HI : ∀ o1 o2 bv bs, (((w.alloc o1).alloc o2).alloc (.cells #[.func (.func 85) #[] #[.pointer (some ⟨bv, 0, none⟩), .pointer (some ⟨bs, 0, none⟩)]] 61)).heap[bv]? = _ → _ → Calls Try.prog 85 _ _ _ := fun o1 o2 bv bs =>
    stepM_any vis R B g caps hcall hRa m cst M hm hv bv bs (.mk hd ks) (hd.cells (.slice A ks.length c)) 1
      (((w.alloc o1).alloc o2).alloc (.cells #[.func (.func 85) #[] #[.pointer (some ⟨bv, 0, none⟩), .pointer (some ⟨bs, 0, none⟩)]] 61)) s hM (by simp; omega)
      (he.carry (((Below.refl B w).alloc hB _).alloc (by simp; omega) _ |>.alloc (by simp; omega) _)) (hRa _ _ _ (hRa _ _ _ (hRa _ _ _ hR)))
  have FA : ∀ o1 o2 o3, Fr B w (((w.alloc o1).alloc o2).alloc o3) := fun o1 o2 o3 => (((Fr.refl B w).alloc hB _).alloc (by simp; omega) _).alloc (by simp; omega) _
  have HJ := Lib.hid HI
  clear HI hv hRa hR he
  go_enter Try.func48, Try.ntmps48
  unfold Hd.cells
  go_wp2_with fail
  refine (HJ.out _ _ (w.heap.size + 1) (w.heap.size + 1 + 1) ?_ ?_).mono ?_
  · exact alloc3_at1 _ _ _ _
  · exact alloc3_at2 _ _ _ _
  rintro r w1 ⟨rfl, hR1, F1⟩
  have F01 := (FA _ _ _).trans F1
  clear HJ FA F1
  go_wp2_with fail
  go_ret
  exact ⟨rfl, hR1, F01⟩

end Go.Proofs.Ytnelgblmogciiaa
