/- How many nodes has an expression? -/
import Derived.Test.YtnelgblmogciiaaOrder0
set_option linter.unusedSimpArgs false
set_option linter.unusedVariables false
namespace Go.Proofs.Ytnelgblmogciiaa
open Go.RowKit

theorem sizeL_take (l : List LExpr) : ∀ (k : Nat) (hk : k < l.length), sizeL (l.take (k + 1)) = sizeL (l.take k) + sizeE l[k] := by
  induction l with
  | nil => intro k hk; simp at hk
  | cons x l ih =>
    intro k hk
    cases k with
    | zero => simp [sizeL]
    | succ k => simp only [List.take_succ_cons, sizeL, List.getElem_cons_succ]; rw [ih k (by simpa using hk)]; omega

theorem sizeL_take_le (l : List LExpr) : ∀ k, sizeL (l.take k) ≤ sizeL l := by
  induction l with
  | nil => intro k; simp
  | cons x l ih =>
    intro k
    cases k with
    | zero => simp [sizeL]
    | succ k => simp only [List.take_succ_cons, sizeL]; have := ih k; omega

set_option maxRecDepth 100000 in
set_option maxHeartbeats 1000000 in
/-- The number of nodes, as far as it is asked for. -/
theorem nodesTo_any (e : LExpr) : ∀ (cs : List Value) (B : Nat) (m : Int) (w : World), B ≤ w.heap.size → IsExpr B w e cs → 0 ≤ m → m ≤ 1000 →
    Calls Try.prog 23 #[.agg cs.toArray, .int .i64 m] w fun r w' => r = .returned (.int .i64 (min (sizeE e : Int) (m + 1))) ∧ Below w.heap.size w w' := by
  induction e using LExpr.ind with | _ hd ks ih => ?_
  intro cs B m w hB he hm0 hm1
  cases he with
  | mk _ _ A c b off cs ok hlen hA hsz hrow hk =>
  go_enter Try.func23, Try.ntmps23
  unfold Hd.cells
  go_wp2_with fail
  go_loopw [5, 6] (fun n i wr => ∃ (k : Nat) (q : Int), k ≤ ks.length ∧ i = .int .i64 k ∧ n = .int .i64 q ∧ 1 ≤ q ∧ q ≤ m + 1 ∧ Hid (q = min (1 + (sizeL (ks.take k) : Int)) (m + 1)) ∧ Below w.heap.size w wr ∧ w.heap.size < wr.heap.size ∧ wr.cell? ⟨w.heap.size, 10, none⟩ = some (.slice A ks.length c)) (fun _ i _ => ks.length - (intOf i).toNat)
  case atStart => exact ⟨0, 1, Nat.zero_le _, rfl, rfl, by omega, by omega, Lib.hid (by simp [sizeL]; omega), (Below.refl _ _).al _, by simp, by simp [World.cell?_alloc_new]⟩
  case round =>
    obtain ⟨k, q, hkl, rfl, rfl, hq1, hq2, HQ, hbw, hsz2, hc⟩ := hrel
    by_cases hlk : k < ks.length
    · by_cases hqm : q ≤ m
      · obtain ⟨rfl, hbB⟩ := hA (by omega)
        have hr := (hrow k hlk).below hbw (Nat.lt_of_lt_of_le hbB hB)
        have HI := Lib.hid (ih k hlk (cs k) B (m - q) wr (by omega) ((hk k hlk).carry (hbw.mono hB)) (by omega) (by omega))
        have hst := sizeL_take ks k hlk
        have hpos : 1 ≤ min (sizeE ks[k] : Int) (m - q + 1) ∧ min (sizeE ks[k] : Int) (m - q + 1) ≤ m - q + 1 := by
          have : 1 ≤ sizeE ks[k] := by cases ks[k]; simp [sizeE]
          omega
        have hnx : q + min (sizeE ks[k] : Int) (m - q + 1) = min (1 + (sizeL (ks.take (k + 1)) : Int)) (m + 1) := by
          have := HQ.out; omega
        have HX := Lib.hid hnx
        clear ih hA hrow hk HQ hst hnx
        generalize min (sizeE ks[k] : Int) (m - q + 1) = v at *
        obtain ⟨hv1, hv2⟩ := hpos
        go_wp2_with (first | (with_reducible refine wpList_load_at rfl 32 _ rfl b (off + k * 11) rfl (cs k) _ hr Try.underlying32 rfl (by rw [hsz]; kernel_rfl) ?_))
        refine HI.out.mono ?_
        rintro r w3 ⟨rfl, hb3⟩
        have hc3 := (hb3.cell (p := ⟨w.heap.size, 10, none⟩) hsz2).trans hc
        have hs3 := Nat.lt_of_lt_of_le hsz2 hb3.size
        clear HI
        go_wp2_with fail
        exact ⟨⟨k + 1, q + v, by omega, by go_num, by first | rfl | (congr 1; omega), by omega, by omega, HX, hbw.th hb3, hs3, hc3⟩, by simp [intOf]; omega⟩
      · have hle := sizeL_take_le ks k
        have hfin : q = min (sizeE (.mk hd ks) : Int) (m + 1) := by
          have := HQ.out; simp only [sizeE]; push_cast; omega
        have HF := Lib.hid hfin
        clear hfin hle HQ
        go_wp2_with fail
        go_ret
        exact ⟨ret_int HF.out, hbw⟩
    · have hq3 := HQ.out
      rw [List.take_of_length_le (by omega)] at hq3
      have hfin : q = min (sizeE (.mk hd ks) : Int) (m + 1) := by simp only [sizeE]; push_cast; exact hq3
      have HF := Lib.hid hfin
      clear hfin hq3 HQ
      go_wp2_with fail
      go_ret
      exact ⟨ret_int HF.out, hbw⟩

/-- Is an input small? -/
def smallB (V : LView) (e : LExpr) : Bool := decide (V.items.length ≤ 80) && decide (V.members.length ≤ 30) && decide (sizeE e ≤ 250)

set_option maxRecDepth 100000 in
set_option maxHeartbeats 1000000 in
theorem smallB_any (V : LView) (e : LExpr) (vc cs : List Value) (B : Nat) (w : World) (hB : B ≤ w.heap.size) (hv : IsView B w V vc) (he : IsExpr B w e cs) :
    Calls Try.prog 17 #[.agg vc.toArray, .agg cs.toArray] w fun r w' => r = .returned (.bool (smallB V e)) ∧ Below w.heap.size w w' := by
  have HC := fun o1 o2 => Lib.hid (nodesTo_any e cs B 250 ((w.alloc o1).alloc o2) (by simp; omega) (he.carry (((Below.refl B w).alloc hB o1).alloc (by simp; omega) o2)) (by omega) (by omega))
  obtain ⟨hd, ks, A, c, q, rfl, hlen⟩ := he.form
  obtain ⟨IA, ic, MA, mc, rfl, _⟩ := hv
  clear he q
  unfold Hd.cells at HC ⊢
  have hsm : smallB V e = (decide (V.items.length ≤ 80) && decide (V.members.length ≤ 30) && decide (sizeE e ≤ 250)) := rfl
  have HS := Lib.hid hsm
  have hmin : (min (sizeE e : Int) (250 + 1) ≤ 250) ↔ sizeE e ≤ 250 := by omega
  have HM := Lib.hid hmin
  clear hsm hmin
  generalize smallB V e = R at *
  generalize min (sizeE e : Int) (250 + 1) = M at *
  by_cases h1 : V.items.length ≤ 80
  · by_cases h2 : V.members.length ≤ 30
    · go_enter Try.func17, Try.ntmps17
      go_wp2_with fail
      refine (HC _ _).out.mono ?_
      rintro r w2 ⟨rfl, hb2⟩
      clear HC
      go_wp2_with fail
      go_ret
      refine ⟨ret_bool ?_, (((Below.refl _ _).al _).al _).th hb2⟩
      rw [HS.out]
      simp [h1, h2, HM.out]
    · go_enter Try.func17, Try.ntmps17
      go_wp2_with fail
      go_ret
      refine ⟨ret_bool ?_, ((Below.refl _ _).al _).al _⟩
      rw [HS.out]
      have : ¬ V.members.length ≤ 30 := by omega
      simp [this]
  · go_enter Try.func17, Try.ntmps17
    go_wp2_with fail
    go_ret
    refine ⟨ret_bool ?_, ((Below.refl _ _).al _).al _⟩
    rw [HS.out]
    have : ¬ V.items.length ≤ 80 := by omega
    simp [this]

theorem depthL_take (l : List LExpr) : ∀ (k : Nat) (hk : k < l.length), depthL (l.take (k + 1)) = max (depthL (l.take k)) (depthE l[k]) := by
  induction l with
  | nil => intro k hk; simp at hk
  | cons x l ih =>
    intro k hk
    cases k with
    | zero => simp [depthL]
    | succ k => simp only [List.take_succ_cons, depthL, List.getElem_cons_succ]; rw [ih k (by simpa using hk)]; omega
theorem depthL_get (l : List LExpr) : ∀ (k : Nat) (hk : k < l.length), depthE l[k] ≤ depthL l := by
  induction l with
  | nil => intro k hk; simp at hk
  | cons x l ih =>
    intro k hk
    cases k with
    | zero => simp [depthL]; omega
    | succ k => simp only [depthL, List.getElem_cons_succ]; have := ih k (by simpa using hk); omega

set_option maxRecDepth 100000 in
set_option maxHeartbeats 1000000 in
theorem rdepth_any (e : LExpr) : ∀ (cs : List Value) (B : Nat) (w : World), B ≤ w.heap.size → IsExpr B w e cs → depthE e ≤ 1000 →
    Calls Try.prog 25 #[.agg cs.toArray] w fun r w' => r = .returned (.int .i64 (depthE e)) ∧ Below w.heap.size w w' := by
  induction e using LExpr.ind with | _ hd ks ih => ?_
  intro cs B w hB he hd0
  rw [depthE] at hd0
  cases he with
  | mk _ _ A c b off cs ok hlen hA hsz hrow hk =>
  go_enter Try.func25, Try.ntmps25
  unfold Hd.cells
  go_wp2_with fail
  go_loopw [3, 4, 5] (fun d i _ wr => ∃ (k q : Nat), k ≤ ks.length ∧ i = .int .i64 k ∧ d = .int .i64 q ∧ Hid (q = depthL (ks.take k)) ∧ q ≤ 1000 ∧ Below w.heap.size w wr ∧ w.heap.size < wr.heap.size ∧ wr.cell? ⟨w.heap.size, 10, none⟩ = some (.slice A ks.length c)) (fun _ i _ _ => ks.length - (intOf i).toNat)
  case atStart => exact ⟨0, 0, Nat.zero_le _, rfl, rfl, by simp [Hid, depthL], by omega, (Below.refl _ _).al _, by simp, by simp [World.cell?_alloc_new]⟩
  case round =>
    obtain ⟨k, q, hkl, rfl, rfl, HQ, hq, hbw, hsz2, hc⟩ := hrel
    by_cases hlk : k < ks.length
    · obtain ⟨rfl, hbB⟩ := hA (by omega)
      have hr := (hrow k hlk).below hbw (Nat.lt_of_lt_of_le hbB hB)
      have hdk := depthL_get ks k hlk
      have HI := Lib.hid (ih k hlk (cs k) B wr (by omega) ((hk k hlk).carry (hbw.mono hB)) (by omega))
      have HST := depthL_take ks k hlk
      rw [← HQ.out] at HST
      have hkb : depthE ks[k] ≤ 1000 := by omega
      have HS := Lib.hid HST
      clear ih hA hrow hk HQ HST hdk hd0
      generalize depthE ks[k] = D at *
      go_wp2_with (first | (with_reducible refine wpList_load_at rfl 32 _ rfl b (off + k * 11) rfl (cs k) _ hr Try.underlying32 rfl (by rw [hsz]; kernel_rfl) ?_))
      refine HI.out.mono ?_
      rintro r w3 ⟨rfl, hb3⟩
      have hc3 := (hb3.cell (p := ⟨w.heap.size, 10, none⟩) hsz2).trans hc
      have hs3 := Nat.lt_of_lt_of_le hsz2 hb3.size
      clear HI
      by_cases hgt : q < D
      · go_wp2_with fail
        refine ⟨⟨k + 1, D, by omega, by go_num, rfl, Lib.hid ?_, hkb, hbw.th hb3, hs3, hc3⟩, by simp [intOf]; omega⟩
        have := HS.out; omega
      · go_wp2_with fail
        refine ⟨⟨k + 1, q, by omega, by go_num, rfl, Lib.hid ?_, hq, hbw.th hb3, hs3, hc3⟩, by simp [intOf]; omega⟩
        have := HS.out; omega
    · have hq2 := HQ.out
      rw [List.take_of_length_le (by omega)] at hq2
      have HQ2 := Lib.hid hq2
      clear HQ hq2
      go_wp2_with fail
      go_ret
      refine ⟨ret_int ?_, hbw⟩
      have := HQ2.out
      rw [depthE]; push_cast; omega

end Go.Proofs.Ytnelgblmogciiaa
