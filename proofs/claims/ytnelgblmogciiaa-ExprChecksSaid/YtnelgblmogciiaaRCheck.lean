/- The check of an expression by the reference, and that it is the program's. -/
import Derived.Test.YtnelgblmogciiaaCheck
set_option linter.unusedSimpArgs false
set_option linter.unusedVariables false
namespace Go.Proofs.Ytnelgblmogciiaa
open Go.RowKit

mutual
/-- The reference's walk: the number of nodes behind it, and the error. -/
def rwalk : LExpr → Int → Int → Int × Int
  | .mk h ks, lv, bf => if 24 < lv then (bf, 22) else if 200 ≤ bf then (bf, 3) else if nodeCheck h ks.length ≠ 0 then (bf, nodeCheck h ks.length) else rwalkL ks (lv + 1) (bf + 1)
def rwalkL : List LExpr → Int → Int → Int × Int
  | [], _, n => (n, 0)
  | k :: ks, lv, n => if (rwalk k lv n).2 ≠ 0 then rwalk k lv n else rwalkL ks lv (rwalk k lv n).1
end

theorem rwalk_bd (e : LExpr) : ∀ lv bf, 0 ≤ bf → bf ≤ 200 → 0 ≤ (rwalk e lv bf).1 ∧ (rwalk e lv bf).1 ≤ 200 := by
  induction e using LExpr.ind with | _ hd ks ih => ?_
  have hL : ∀ (l : List LExpr), (∀ (i : Nat) (hi : i < l.length), ∀ lv bf, 0 ≤ bf → bf ≤ 200 → 0 ≤ (rwalk l[i] lv bf).1 ∧ (rwalk l[i] lv bf).1 ≤ 200) → ∀ lv bf, 0 ≤ bf → bf ≤ 200 → 0 ≤ (rwalkL l lv bf).1 ∧ (rwalkL l lv bf).1 ≤ 200 := by
    intro l
    induction l with
    | nil => intro _ lv bf h0 h1; simp only [rwalkL]; exact ⟨h0, h1⟩
    | cons k ks ihl =>
      intro h lv bf h0 h1
      have hk := h 0 (by simp) lv bf h0 h1
      simp only [List.getElem_cons_zero] at hk
      simp only [rwalkL]
      split
      · exact hk
      · exact ihl (fun i hi => by have := h (i + 1) (by simpa using hi); simpa using this) lv _ hk.1 hk.2
  intro lv bf h0 h1
  simp only [rwalk]
  repeat' split
  · exact ⟨h0, h1⟩
  · exact ⟨h0, h1⟩
  · exact ⟨h0, h1⟩
  · exact hL ks ih _ _ (by omega) (by omega)

set_option maxRecDepth 100000 in
set_option maxHeartbeats 1000000 in
theorem rwalk_any (e : LExpr) : ∀ (cs : List Value) (B : Nat) (lv bf : Int) (w : World), 1 ≤ lv → lv ≤ 25 → 0 ≤ bf → bf ≤ 200 → B ≤ w.heap.size → IsExpr B w e cs →
    Calls Try.prog 47 #[.agg cs.toArray, .int .i64 lv, .int .i64 bf] w fun r w' => r = .returned (.tuple #[.int .i64 (rwalk e lv bf).1, .int .i64 (rwalk e lv bf).2]) ∧ Below w.heap.size w w' := by
  induction e using LExpr.ind with | _ hd ks ih => ?_
  intro cs B lv bf w hl1 hl2 hb1 hb2 hB he
  cases he with
  | mk _ _ A c b off cs ok hlen hA hsz hrow hk =>
  have hN := fun W => Lib.hid (rnode_any hd A ks.length c W (by omega))
  have hw : rwalk (.mk hd ks) lv bf = if 24 < lv then (bf, 22) else if 200 ≤ bf then (bf, 3) else if nodeCheck hd ks.length ≠ 0 then (bf, nodeCheck hd ks.length) else rwalkL ks (lv + 1) (bf + 1) := by rw [rwalk]
  have HW := Lib.hid hw
  clear hw
  by_cases h24 : 24 < lv
  · go_enter Try.func47, Try.ntmps47
    unfold Hd.cells
    go_wp2_with fail
    go_ret2
    rw [HW.out, if_pos (by omega)]
    exact ⟨rfl, (Below.refl _ _).al _⟩
  by_cases h200 : 200 ≤ bf
  · go_enter Try.func47, Try.ntmps47
    unfold Hd.cells
    go_wp2_with fail
    go_ret2
    rw [HW.out, if_neg (by omega), if_pos (by omega)]
    exact ⟨rfl, (Below.refl _ _).al _⟩
  have hw2 := HW.out
  rw [if_neg h24, if_neg h200] at hw2
  have HW2 := Lib.hid hw2
  clear hw2 HW
  cases hn : nodeCheck hd ks.length != 0 with
  | true =>
    have HN : nodeCheck hd ks.length ≠ 0 := by simpa using hn
    have HN2 := Lib.hid HN
    clear HN
    go_enter Try.func47, Try.ntmps47
    unfold Hd.cells
    go_wp2_with fail
    refine (hN _).out.mono ?_
    rintro r w2 ⟨rfl, hb⟩
    go_wp2_with fail
    go_ret2
    rw [HW2.out, if_pos HN2.out]
    exact ⟨rfl, ((Below.refl _ _).al _).th hb⟩
  | false =>
    have HN : ¬ nodeCheck hd ks.length ≠ 0 := by simpa using hn
    rw [if_neg HN] at HW2
    clear HN
    go_enter Try.func47, Try.ntmps47
    unfold Hd.cells
    go_wp2_with fail
    refine (hN _).out.mono ?_
    rintro r w2 ⟨rfl, hb⟩
    have hc2 := (hb.cell (p := ⟨w.heap.size, 10, none⟩) (by simp)).trans (World.cell?_alloc_new _ _ _ 10)
    have hs2 : w.heap.size < w2.heap.size := by have := hb.size; simp only [World.size_alloc] at this; omega
    have hB2 := ((Below.refl w.heap.size w).al (.cells (hd.cells (.slice A ks.length c)).toArray 32)).th hb
    clear hN hb
    simp only [List.getElem?_toArray, List.getElem?_cons_succ, List.getElem?_cons_zero] at hc2
    go_wp2_with fail
    go_loopw [9, 10] (fun n i wr => ∃ (k : Nat) (q : Int), k ≤ ks.length ∧ i = .int .i64 k ∧ n = .int .i64 q ∧ 0 ≤ q ∧ q ≤ 200 ∧ Hid (rwalk (.mk hd ks) lv bf = rwalkL (ks.drop k) (lv + 1) q) ∧ Below w.heap.size w wr ∧ w.heap.size < wr.heap.size ∧ wr.cell? ⟨w.heap.size, 10, none⟩ = some (.slice A ks.length c)) (fun _ i _ => ks.length - (intOf i).toNat)
    case atStart => exact ⟨0, bf + 1, Nat.zero_le _, rfl, rfl, by omega, by omega, HW2, hB2, hs2, hc2⟩
    case round =>
      clear HW2 hB2 hs2 hc2
      obtain ⟨k, q, hkl, rfl, rfl, hq1, hq2, HQ, hbw, hsz2, hc⟩ := hrel
      by_cases hlk : k < ks.length
      · obtain ⟨rfl, hbB⟩ := hA (by omega)
        have hr := (hrow k hlk).below hbw (Nat.lt_of_lt_of_le hbB hB)
        have hdrop : ks.drop k = ks[k] :: ks.drop (k + 1) := List.drop_eq_getElem_cons hlk
        have hstep : rwalkL (ks.drop k) (lv + 1) q = if (rwalk ks[k] (lv + 1) q).2 ≠ 0 then rwalk ks[k] (lv + 1) q else rwalkL (ks.drop (k + 1)) (lv + 1) (rwalk ks[k] (lv + 1) q).1 := by rw [hdrop, rwalkL]
        have HST := Lib.hid (HQ.out.trans hstep)
        have hbd := rwalk_bd ks[k] (lv + 1) q hq1 hq2
        have HI := Lib.hid (ih k hlk (cs k) B (lv + 1) q wr (by omega) (by omega) hq1 hq2 (by omega) ((hk k hlk).carry (hbw.mono hB)))
        clear hstep hdrop HQ ih hA hrow hk
        generalize rwalk ks[k] (lv + 1) q = V at *
        obtain ⟨v1, v2⟩ := V
        dsimp only at hbd HST HI
        go_wp2_with (first | (with_reducible refine wpList_load_at rfl 32 _ rfl b (off + k * 11) rfl (cs k) _ hr Try.underlying32 rfl (by rw [hsz]; kernel_rfl) ?_) | (go_at_call 47; refine HI.out.mono ?_; rintro r w3 ⟨rfl, hb3⟩; have hc3 := (hb3.cell (p := ⟨w.heap.size, 10, none⟩) hsz2).trans hc; have hs3 := Nat.lt_of_lt_of_le hsz2 hb3.size))
        · go_ret2
          have e1 : rwalk (.mk hd ks) lv bf = (v1, v2) := by rw [HST.out, if_pos (by simpa using ‹(v2 != 0) = true›)]
          rw [e1]
          exact ⟨rfl, hbw.th hb3⟩
        · have e2 : v2 = 0 := by simpa using ‹(v2 != 0) = false›
          refine ⟨⟨k + 1, v1, by omega, by go_num, rfl, hbd.1, hbd.2, Lib.hid ?_, hbw.th hb3, hs3, hc3⟩, by simp [intOf]; omega⟩
          rw [HST.out, if_neg (by simp [e2])]
      · go_wp2_with fail
        go_ret2
        have e1 : rwalk (.mk hd ks) lv bf = (q, 0) := by rw [HQ.out, List.drop_of_length_le (by omega), rwalkL]
        rw [e1]
        exact ⟨rfl, hbw⟩

/-- The error of an expression's check. -/
def checkE (e : LExpr) : Int := (rwalk e 1 0).2

set_option maxHeartbeats 1000000 in
theorem rcheckE_any (e : LExpr) (cs : List Value) (B : Nat) (w : World) (hB : B ≤ w.heap.size) (he : IsExpr B w e cs) :
    Calls Try.prog 24 #[.agg cs.toArray] w fun r w' => r = .returned (.int .i64 (checkE e)) ∧ Below w.heap.size w w' := by
  have HI := fun o => Lib.hid (rwalk_any e cs B 1 0 (w.alloc o) (by omega) (by omega) (by omega) (by omega) (by simp; omega) (he.carry ((Below.refl B w).alloc hB o)))
  obtain ⟨hd, ks, A, c, rfl, rfl, hlen⟩ := he.form
  go_enter Try.func24, Try.ntmps24
  unfold Hd.cells
  go_wp2_with fail
  refine (HI _).out.mono ?_
  rintro r w2 ⟨rfl, hb⟩
  go_wp2_with fail
  go_ret
  exact ⟨rfl, ((Below.refl _ _).al _).th hb⟩

/-- The program's walk and the reference's come to the same error. -/
theorem walk_same (e : LExpr) : ∀ (lv bf : Int) (f : Int), 1 ≤ lv → lv ≤ 25 → 0 ≤ bf → bf ≤ 200 →
    (walkS visCheck e lv (bf, f)).1.2 = (rwalk e lv bf).2 ∧ ((walkS visCheck e lv (bf, f)).2 = true ↔ (rwalk e lv bf).2 = 0) ∧ ((rwalk e lv bf).2 = 0 → (walkS visCheck e lv (bf, f)).1.1 = (rwalk e lv bf).1) := by
  induction e using LExpr.ind with | _ hd ks ih => ?_
  have hL : ∀ (l : List LExpr), (∀ (i : Nat) (hi : i < l.length), ∀ (lv bf : Int) (f : Int), 1 ≤ lv → lv ≤ 25 → 0 ≤ bf → bf ≤ 200 →
      (walkS visCheck l[i] lv (bf, f)).1.2 = (rwalk l[i] lv bf).2 ∧ ((walkS visCheck l[i] lv (bf, f)).2 = true ↔ (rwalk l[i] lv bf).2 = 0) ∧ ((rwalk l[i] lv bf).2 = 0 → (walkS visCheck l[i] lv (bf, f)).1.1 = (rwalk l[i] lv bf).1)) →
      ∀ (lv bf : Int), 1 ≤ lv → lv ≤ 25 → 0 ≤ bf → bf ≤ 200 →
      (walkL visCheck l lv (bf, 0)).1.2 = (rwalkL l lv bf).2 ∧ ((walkL visCheck l lv (bf, 0)).2 = true ↔ (rwalkL l lv bf).2 = 0) ∧ ((rwalkL l lv bf).2 = 0 → (walkL visCheck l lv (bf, 0)).1.1 = (rwalkL l lv bf).1) := by
    intro l
    induction l with
    | nil => intro _ lv bf _ _ _ _; simp [walkL, rwalkL]
    | cons k ks ihl =>
      intro h lv bf h1 h2 h3 h4
      have hk := h 0 (by simp) lv bf 0 h1 h2 h3 h4
      simp only [List.getElem_cons_zero] at hk
      have hbd := rwalk_bd k lv bf h3 h4
      obtain ⟨k1, k2, k3⟩ := hk
      simp only [walkL, rwalkL]
      by_cases h0 : (rwalk k lv bf).2 = 0
      · rw [if_pos (k2.2 h0), if_neg (by simp [h0])]
        have e1 : (walkS visCheck k lv (bf, 0)).1 = ((rwalk k lv bf).1, 0) := Prod.ext (k3 h0) (by rw [k1, h0])
        rw [e1]
        exact ihl (fun i hi => by have := h (i + 1) (by simpa using hi); simpa using this) lv _ h1 h2 hbd.1 hbd.2
      · have hf : ¬ (walkS visCheck k lv (bf, 0)).2 = true := fun hh => h0 (k2.1 hh)
        rw [if_neg hf, if_pos h0]
        exact ⟨k1, by simp [h0], fun hh => absurd hh h0⟩
  intro lv bf f h1 h2 h3 h4
  have hwr : wrap64 (bf + 1) = bf + 1 := by unfold wrap64; omega
  have hwl : wrap64 (lv + 1) = lv + 1 := by unfold wrap64; omega
  simp only [walkS, rwalk, visCheck, LExpr.hd, LExpr.kids, hwr, hwl]
  by_cases h24 : 24 < lv
  · simp [h24]
  by_cases h200 : 200 ≤ bf
  · have : 200 < bf + 1 := by omega
    simp [h24, h200, this]
  have h201 : ¬ 200 < bf + 1 := by omega
  simp only [h24, h200, h201, if_false]
  by_cases hn : nodeCheck hd ks.length = 0
  · simp only [hn, beq_self_eq_true, if_true, ne_eq, not_true, if_false]
    exact hL ks ih (lv + 1) (bf + 1) (by omega) (by omega) (by omega) (by omega)
  · simp [hn]

theorem checkE_is (e : LExpr) : (walkS visCheck e 1 (0, 0)).1.2 = checkE e := (walk_same e 1 0 0 (by omega) (by omega) (by omega) (by omega)).1

end Go.Proofs.Ytnelgblmogciiaa
