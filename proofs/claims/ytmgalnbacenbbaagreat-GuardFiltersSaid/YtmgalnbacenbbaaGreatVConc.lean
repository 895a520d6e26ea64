/- Resolve: slices.Grow and slices.Concat for lists of decisions. -/
import Derived.Lib.AppendZerosOnto
import Derived.Lib.Walk
import Derived.Test.YtmgalnbacenbbaaGreatVDecs
set_option linter.unusedSimpArgs false
set_option linter.unusedVariables false
namespace Go.Proofs.YtmgalnbacenbbaaGreat
open Go.RowKit
namespace Dc

theorem zc_size (z : Array Value) : ∀ k, (Builtin.zeroCells z k).size = k * z.size := by
  intro k
  simp [Builtin.zeroCells]
set_option maxRecDepth 100000 in
set_option maxHeartbeats 1000000 in
theorem grow_any (n : Nat) (hn : n ≤ 100000) (w : World) :
    Calls Tryz.prog 57 #[.slice none 0 0, .int .i64 n] w fun r w' => ∃ v, r = .returned v ∧ ED.Own w' w.heap.size [] v ∧ Lat w w' := by
  by_cases h0 : n = 0
  · subst h0
    go_enter Tryz.func57, Tryz.ntmps57
    go_wp2_with fail
    go_ret
    exact ⟨_, rfl, Elt.Own.nil _ _, Lat.refl _⟩
  · have hn0 : 0 < n := by omega
    have hw : wrap64 (n : Int) = n := by unfold wrap64; omega
    have hpos : (0 : Int) < n := by omega
    have hneg : ¬ ((n : Int) < 0) := by omega
    have hby : n * ED.i.bytes ≤ 140737488355328 := by
      rw [ED.hb]
      exact Nat.le_trans (Nat.mul_le_mul_right ED.bytes hn) (by decide)
    have hrz : ∀ ty, (Builtin.append_ #[24, 3] ty #[.slice none 0 0, .int .i64 (n : Int)]).run Tryz.prog w =
        .ok (.slice (some ⟨w.heap.size, 0, none⟩) n (grownCap w n 0 48)) (w.drew.alloc (.cells (#[] ++ Builtin.zeroCells ED.z.cells n ++ Builtin.zeroCells ED.z.cells (grownCap w n 0 48 - n)) 48)) := fun ty => by
      have h := Lib.run_append_grow_zeros w 24 3 ty 48 ED.i ED.z .i64 .i64 ED.ht Tryz.underlying3 ED.hi ED.hz none 0 0 [] (run_firstCells_none w.drew ED.i.size 0 0 0) n hn0 (by rw [ED.hs]; decide) (by omega) (by omega) (by omega)
        (by rw [Nat.zero_add]; exact growslice_fits hn0 hby)
      rw [Nat.zero_add] at h
      exact h
    have hG := grownCap_ge w n 0 48
    have hGm := grownCap_le_maxLen w n 0 48 (by unfold maxLen; omega)
    have hsz : (#[] ++ Builtin.zeroCells ED.z.cells n ++ Builtin.zeroCells ED.z.cells (grownCap w n 0 48 - n)).size = grownCap w n 0 48 * 15 := by
      rw [Array.size_append, Array.size_append, zc_size, zc_size, ED.hzs]
      show 0 + n * 15 + (grownCap w n 0 48 - n) * 15 = _
      omega
    generalize (#[] ++ Builtin.zeroCells ED.z.cells n ++ Builtin.zeroCells ED.z.cells (grownCap w n 0 48 - n)) = Z at *
    generalize grownCap w n 0 48 = G at *
    have hG63 : G ≤ 9223372036854775807 := by unfold maxLen at hGm; omega
    go_enter Tryz.func57, Tryz.ntmps57
    go_wp2_with (at_builtin; refine Lib.wpList_append_run _ rfl _ _ _ _ rfl _ _ rfl rfl _ _ (hrz _) ?_)
    go_ret
    refine ⟨_, rfl, ⟨rfl, .inr ⟨w.heap.size, G, Z, rfl, Nat.le_refl _, ?_, Nat.zero_le _, hGm, hsz, by simp⟩⟩, (Lat.drew _).trans (Lat.al _ _)⟩
    exact heap_alloc_new w.drew _

set_option maxRecDepth 100000 in
set_option maxHeartbeats 2000000 in
theorem concat_any (rs1 rs2 : List DR) (A1 A2 : Option Addr) (c1 c2 g : Nat) (t : TypeId) (w : World) (h1 : ED.Rd w rs1 (.slice A1 rs1.length c1)) (h2 : ED.Rd w rs2 (.slice A2 rs2.length c2))
    (hb : Blk w g t #[.slice A1 rs1.length c1, .slice A2 rs2.length c2]) (hl : rs1.length + rs2.length ≤ 100000) :
    Calls Tryz.prog 30 #[.slice (some ⟨g, 0, none⟩) 2 2] w fun r w' => ∃ v, r = .returned v ∧ ED.Own w' w.heap.size (rs1 ++ rs2) v ∧ Lat w w' := by
  have HG : Hid (Calls Tryz.prog 57 #[.slice none 0 0, .int .i64 ((rs1.length : Int) + rs2.length)] w fun r w' => ∃ v, r = .returned v ∧ ED.Own w' w.heap.size [] v ∧ Lat w w') := Lib.hid (by
    have := grow_any (rs1.length + rs2.length) hl w
    rwa [Int.natCast_add] at this)
  have hw1 : IntKind.i64.wrap (rs1.length : Int) = rs1.length := by rw [IntKind.wrap_i64]; omega
  have hw2 : IntKind.i64.wrap ((rs1.length : Int) + rs2.length) = (rs1.length : Int) + rs2.length := by rw [IntKind.wrap_i64]; omega
  have hn2 : ¬ ((rs1.length : Int) + rs2.length < 0) := by omega
  have cx := hb.cell
  go_enter Tryz.func30, Tryz.ntmps30
  go_wp2_with fail
  refine wp_loop_rounds 3 ?_
  rw [rounds_succ]
  go_wp2_with fail
  rw [rounds_succ]
  go_wp2_with fail
  rw [rounds_succ]
  go_wp2_with fail
  refine HG.out.mono ?_
  rintro r w3 ⟨v3, rfl, hown3, hl3⟩
  have hA1 := h1.lat hl3
  have hb3 := hb.lat hl3
  clear HG cx hw1 hw2 hn2
  have cx := hb3.cell
  have hmax1 : ([] : List DR).length + rs1.length ≤ maxLen := by unfold maxLen; simp; omega
  have hby1 : (([] : List DR).length + rs1.length) * ED.bytes ≤ 140737488355328 := Nat.le_trans (Nat.mul_le_mul_right ED.bytes (by simp; omega : ([] : List DR).length + rs1.length ≤ 1000000)) (by decide)
  have hmax2 : rs1.length + rs2.length ≤ maxLen := by unfold maxLen; omega
  have hby2 : (rs1.length + rs2.length) * ED.bytes ≤ 140737488355328 := Nat.le_trans (Nat.mul_le_mul_right ED.bytes (by omega : rs1.length + rs2.length ≤ 1000000)) (by decide)
  obtain ⟨B1, d1, e1, hr1, hn1⟩ := hA1
  injection e1 with e1 e2 e3
  subst e1 e3
  go_wp2_with fail
  refine wp_loop_rounds 3 ?_
  rw [rounds_succ]
  go_wp2_with (at_builtin; refine ED.appends rfl _ _ rfl w.heap.size [] v3 rfl hown3 A1 rs1.length c1 rs1 rfl rfl hn1 hr1 hmax1 hby1 hl3.size ?_; intro v4 w4 hown4 hg4; go_must (have hl4 : Lat w w4 := hl3.grown hg4 hl3.size (fun k hk => (hown3.lt k hk).1); have cx4 := (hb.lat hl4).cell; clear hg4 cx hb3 hr1 hown3))
  rw [List.nil_append] at hown4
  obtain ⟨B2, d2, e1', hr2, hn2⟩ := h2.lat hl4
  injection e1' with e1 e2' e3
  subst e1 e3
  rw [rounds_succ]
  go_wp2_with (at_builtin; refine ED.appends rfl _ _ rfl w.heap.size rs1 v4 rfl hown4 A2 rs2.length c2 rs2 rfl rfl hn2 hr2 hmax2 hby2 hl4.size ?_; intro v5 w5 hown5 hg5; go_must (have hl5 : Lat w w5 := hl4.grown hg5 hl4.size (fun k hk => (hown4.lt k hk).1); clear hg5 hr2 hown4))
  rw [rounds_succ]
  go_wp2_with fail
  go_ret
  exact ⟨_, rfl, hown5, hl5⟩

/-- Two lists of decisions, one behind the other. -/
theorem concatD_any (xs ys : List LD) (A1 A2 : Option Addr) (c1 c2 g : Nat) (t : TypeId) (w : World) (h1 : RdD w xs (.slice A1 xs.length c1)) (h2 : RdD w ys (.slice A2 ys.length c2))
    (hb : Blk w g t #[.slice A1 xs.length c1, .slice A2 ys.length c2]) (hl : xs.length + ys.length ≤ 100000) :
    Calls Tryz.prog 30 #[.slice (some ⟨g, 0, none⟩) 2 2] w fun r w' => ∃ v, r = .returned v ∧ RdD w' (xs ++ ys) v ∧ Lat w w' := by
  obtain ⟨rs1, l1, r1, s1⟩ := h1
  obtain ⟨rs2, l2, r2, s2⟩ := h2
  rw [← l1] at r1 hb hl
  rw [← l2] at r2 hb hl
  refine (concat_any rs1 rs2 A1 A2 c1 c2 g t w r1 r2 hb hl).mono ?_
  rintro r w' ⟨v, rfl, hown, hlat⟩
  refine ⟨v, rfl, ⟨rs1 ++ rs2, by rw [List.length_append, List.length_append, l1, l2], hown.rd, fun i a b => ?_⟩, hlat⟩
  by_cases hi : i < rs1.length
  · rw [List.getElem_append_left hi, List.getElem_append_left (by omega)]
    exact (s1 i hi (by omega)).lat hlat
  · rw [List.length_append] at a b
    rw [List.getElem_append_right (by omega), List.getElem_append_right (by omega)]
    have := (s2 (i - rs1.length) (by omega) (by omega)).lat hlat
    simp only [l1] at this ⊢
    exact this
end Dc
end Go.Proofs.YtmgalnbacenbbaaGreat
