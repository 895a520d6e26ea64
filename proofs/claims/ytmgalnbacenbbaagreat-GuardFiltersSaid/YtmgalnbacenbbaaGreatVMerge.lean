/- Resolve: Merge. -/
import Derived.Test.YtmgalnbacenbbaaGreatVConc
import Derived.Test.YtmgalnbacenbbaaGreatVDecide
set_option linter.unusedSimpArgs false
set_option linter.unusedVariables false
namespace Go.Proofs.YtmgalnbacenbbaaGreat
open Go.RowKit

def allW (ds : List LD) : List LW := (ds.map LD.all).flatten
theorem allW_take (ds : List LD) (j : Nat) (h : j < ds.length) : allW (ds.take (j + 1)) = allW (ds.take j) ++ (ds[j].win :: ds[j].los) := by
  rw [List.take_succ_eq_append_getElem h, allW, allW, List.map_append, List.flatten_append]
  simp [LD.all]
theorem allW_len (ds : List LD) (j : Nat) : (allW (ds.take j)).length ≤ (allW ds).length := by
  conv => rhs; rw [← List.take_append_drop j ds]
  rw [allW, allW, List.map_append, List.flatten_append, List.length_append]
  exact Nat.le_add_right _ _
theorem mem_allW {ds : List LD} {x : LW} : x ∈ allW ds ↔ ∃ d ∈ ds, x ∈ d.all := by
  simp only [allW, List.mem_flatten, List.mem_map]
  constructor
  · rintro ⟨l, ⟨d, hd, rfl⟩, hx⟩; exact ⟨d, hd, hx⟩
  · rintro ⟨d, hd, hx⟩; exact ⟨_, ⟨d, hd, rfl⟩, hx⟩
set_option maxRecDepth 100000 in
set_option maxHeartbeats 2000000 in
theorem mergeO_any (xs ys : List LD) (A B : Option Addr) (c c' : Nat) (w : World) (h1 : RdD w xs (.slice A xs.length c)) (h2 : RdD w ys (.slice B ys.length c')) (hl : xs.length + ys.length ≤ 100000) (hall : (allW (xs ++ ys)).length ≤ 100000) :
    Calls Tryz.prog 16 #[.slice A xs.length c, .slice B ys.length c'] w fun r w' => (∃ ds v base, r = .returned v ∧ Good (fun x => x ∈ allW (xs ++ ys)) ds ∧ w.heap.size ≤ base ∧ OwnD w' base ds v) ∧ Lat w w' := by
  have hL0 : Lat w (w.alloc (.cells #[.slice A xs.length c, .slice B ys.length c'] 24)) := Lat.al _ _
  obtain ⟨ds, hds⟩ : ∃ ds, ds = xs ++ ys := ⟨_, rfl⟩
  rw [← hds] at hall ⊢
  have HC := Lib.hid (Dc.concatD_any xs ys A B c c' w.heap.size 24 (w.alloc (.cells #[.slice A xs.length c, .slice B ys.length c'] 24)) (h1.lat hL0) (h2.lat hL0) (Blk.new _ _ _) hl)
  clear h1 h2
  go_enter Tryz.func16, Tryz.ntmps16
  go_wp2_with fail
  refine HC.out.mono ?_
  rintro r w2 ⟨v2, rfl, hrd, hl2⟩
  have hLW0 : Lat w w2 := hL0.trans hl2
  rw [← hds] at hrd
  have hzl : ds.length ≤ 100000 := by rw [hds, List.length_append]; exact hl
  clear HC hL0 hl2 hl hds
  obtain ⟨A0, c0, rfl⟩ := hrd.slice
  go_wp2_with fail
  go_loopw [5, 13] (fun v i wr => ∃ j : Nat, j ≤ ds.length ∧ i = .int .i64 j ∧ EW.Own wr w2.heap.size (allW (ds.take j)) v ∧ Lat w2 wr) (fun _ i _ => ds.length - (intOf i).toNat)
  case atStart => exact ⟨0, Nat.zero_le _, rfl, Elt.Own.nil _ _, Lat.refl _⟩
  case round =>
    obtain ⟨j, hjl, rfl, hown, hLW⟩ := hrel
    by_cases hlt : j < ds.length
    · obtain ⟨b, off, A1, n1, m1, hA, hb1, hr1', hlr⟩ := hrd.row j hlt
      subst hA
      have hr1 := hr1'.below hLW hb1
      clear hr1'
      have htk := allW_take ds j hlt
      have hlen := allW_len ds (j + 1)
      generalize hX : ds[j] = X at *
      obtain ⟨⟨k1, k2, k3⟩, ⟨⟨x1, x2, x3⟩, ⟨x4, x5, x6⟩, x7, x8, x9, x10⟩, los, e⟩ := X
      dsimp only at hr1 htk hlr
      obtain ⟨A1', m1', hv1⟩ : ∃ A' c', Value.slice A1 n1 m1 = .slice A' los.length c' := by obtain ⟨A', c', h, _⟩ := hlr; exact ⟨A', c', h⟩
      injection hv1 with f1 f2 f3
      subst f1 f2 f3
      rw [htk, List.length_append, List.length_cons] at hlen
      have hmax : (allW (ds.take j)).length + 1 ≤ maxLen := by unfold maxLen; omega
      have hby : ((allW (ds.take j)).length + 1) * EW.bytes ≤ 140737488355328 := Nat.le_trans (Nat.mul_le_mul_right EW.bytes (by omega : (allW (ds.take j)).length + 1 ≤ 1000000)) (by decide)
      have hmax2 : (allW (ds.take j) ++ [(⟨⟨x1, x2, x3⟩, ⟨x4, x5, x6⟩, x7, x8, x9, x10⟩ : LW)]).length + los.length ≤ maxLen := by rw [List.length_append, List.length_singleton]; unfold maxLen; omega
      have hby2 : ((allW (ds.take j) ++ [(⟨⟨x1, x2, x3⟩, ⟨x4, x5, x6⟩, x7, x8, x9, x10⟩ : LW)]).length + los.length) * EW.bytes ≤ 140737488355328 := Nat.le_trans (Nat.mul_le_mul_right EW.bytes (by rw [List.length_append, List.length_singleton]; omega : (allW (ds.take j) ++ [(⟨⟨x1, x2, x3⟩, ⟨x4, x5, x6⟩, x7, x8, x9, x10⟩ : LW)]).length + los.length ≤ 1000000)) (by decide)
      simp only [wC, kC, vC, List.cons_append, List.nil_append] at hr1
      have hLB : Lat wr (wr.alloc (.cells #[.int .i64 k1, .string k2, .string k3, .int .i64 x1, .string x2, .string x3, .int .i64 x4, .int .i64 x5, .string x6, .int .i64 x7, .string x8, .int .i64 x9, .int .i64 x10, .slice A1 los.length m1, .int .i64 e] 48)) := Lat.al _ _
      have hrW : RowAt (wr.alloc (.cells #[.int .i64 k1, .string k2, .string k3, .int .i64 x1, .string x2, .string x3, .int .i64 x4, .int .i64 x5, .string x6, .int .i64 x7, .string x8, .int .i64 x9, .int .i64 x10, .slice A1 los.length m1, .int .i64 e] 48)) wr.heap.size 3 [.int .i64 x1, .string x2, .string x3, .int .i64 x4, .int .i64 x5, .string x6, .int .i64 x7, .string x8, .int .i64 x9, .int .i64 x10] := row_of_blk (l := (#[.int .i64 k1, .string k2, .string k3, .int .i64 x1, .string x2, .string x3, .int .i64 x4, .int .i64 x5, .string x6, .int .i64 x7, .string x8, .int .i64 x9, .int .i64 x10, .slice A1 los.length m1, .int .i64 e]).toList) (Blk.new wr 48 #[.int .i64 k1, .string k2, .string k3, .int .i64 x1, .string x2, .string x3, .int .i64 x4, .int .i64 x5, .string x6, .int .i64 x7, .string x8, .int .i64 x9, .int .i64 x10, .slice A1 los.length m1, .int .i64 e]) 3 _ (fun i v hi => by
        match i, hi with
        | 0, hi => exact hi
        | 1, hi => exact hi
        | 2, hi => exact hi
        | 3, hi => exact hi
        | 4, hi => exact hi
        | 5, hi => exact hi
        | 6, hi => exact hi
        | 7, hi => exact hi
        | 8, hi => exact hi
        | 9, hi => exact hi
        | i + 10, hi => simp at hi)
      have hown2 := (hown.lat hLB).al (.cells #[.int .i64 x1, .string x2, .string x3, .int .i64 x4, .int .i64 x5, .string x6, .int .i64 x7, .string x8, .int .i64 x9, .int .i64 x10] 44)
      have hnew := Blk.at1 wr (.cells #[.int .i64 k1, .string k2, .string k3, .int .i64 x1, .string x2, .string x3, .int .i64 x4, .int .i64 x5, .string x6, .int .i64 x7, .string x8, .int .i64 x9, .int .i64 x10, .slice A1 los.length m1, .int .i64 e] 48) 44 #[.int .i64 x1, .string x2, .string x3, .int .i64 x4, .int .i64 x5, .string x6, .int .i64 x7, .string x8, .int .i64 x9, .int .i64 x10]
      have hbox := (Blk.new wr 48 #[.int .i64 k1, .string k2, .string k3, .int .i64 x1, .string x2, .string x3, .int .i64 x4, .int .i64 x5, .string x6, .int .i64 x7, .string x8, .int .i64 x9, .int .i64 x10, .slice A1 los.length m1, .int .i64 e]).alloc (.cells #[.int .i64 x1, .string x2, .string x3, .int .i64 x4, .int .i64 x5, .string x6, .int .i64 x7, .string x8, .int .i64 x9, .int .i64 x10] 44)
      have hL2 : Lat wr ((wr.alloc (.cells #[.int .i64 k1, .string k2, .string k3, .int .i64 x1, .string x2, .string x3, .int .i64 x4, .int .i64 x5, .string x6, .int .i64 x7, .string x8, .int .i64 x9, .int .i64 x10, .slice A1 los.length m1, .int .i64 e] 48)).alloc (.cells #[.int .i64 x1, .string x2, .string x3, .int .i64 x4, .int .i64 x5, .string x6, .int .i64 x7, .string x8, .int .i64 x9, .int .i64 x10] 44)) := hLB.trans (Lat.al _ _)
      have hL3 := hLW.trans hL2
      have hbse : w2.heap.size ≤ ((wr.alloc (.cells #[.int .i64 k1, .string k2, .string k3, .int .i64 x1, .string x2, .string x3, .int .i64 x4, .int .i64 x5, .string x6, .int .i64 x7, .string x8, .int .i64 x9, .int .i64 x10, .slice A1 los.length m1, .int .i64 e] 48)).alloc (.cells #[.int .i64 x1, .string x2, .string x3, .int .i64 x4, .int .i64 x5, .string x6, .int .i64 x7, .string x8, .int .i64 x9, .int .i64 x10] 44)).heap.size := hL3.size
      have HNB : Hid (some wr.heap.size ≠ u5.ownBlock) := Lib.hid (fun q => by have := (hown.lt _ q.symm).2; omega)
      have HL := Lib.hid hL3
      have HR := Lib.hid hlr
      have HLR := Lib.hid (Lib.hid hL2)
      have HT := Lib.hid (fun k (hk : u5.ownBlock = some k) => (hown.lt k hk).1)
      have HTT := Lib.hid (fun k (hk : u5.ownBlock = some k) => (hown.lt k hk).2)
      have HB := Lib.hid hbox
      clear hL2 hLB hLW hX hown hlen hlr hbox hL3
      go_wp2_with (first | (with_reducible refine wpList_load_at rfl 48 _ rfl b (off + j * 15) rfl _ _ hr1 Tryz.underlying48 rfl (by kernel_rfl) ?_) | (with_reducible refine wpList_load_at rfl 44 _ rfl wr.heap.size 3 rfl _ _ hrW Tryz.underlying44 rfl (by kernel_rfl) ?_) | (at_builtin; refine EW.append rfl _ _ rfl w2.heap.size (allW (ds.take j)) _ rfl hown2 (wr.heap.size + 1) 1 (⟨⟨x1, x2, x3⟩, ⟨x4, x5, x6⟩, x7, x8, x9, x10⟩ : LW) rfl 44 hnew hmax hby hbse ?_; intro v6 w6 hown6 hg6 hw6; go_must (have hLW7 : Lat w2 w6 := HL.out.grown hg6 hbse HT.out; have cx6 := (HB.out.grown hg6 HNB.out).cell; clear hnew hw6 hrW hown2 hg6; obtain ⟨A8, m8, ev, hr8, hn8⟩ := HR.out.lat hLW7; injection ev with f1 f2 f3; subst f1 f3; have hbse6 := hLW7.size)) | (at_builtin; refine EW.appends rfl _ _ rfl w2.heap.size (allW (ds.take j) ++ [(⟨⟨x1, x2, x3⟩, ⟨x4, x5, x6⟩, x7, x8, x9, x10⟩ : LW)]) _ rfl hown6 A1 los.length m1 los rfl rfl hn8 hr8 hmax2 hby2 hbse6 ?_; intro v8 w8 hown8 hg8; go_must (have hLW9 : Lat w2 w8 := hLW7.grown hg8 hbse6 (fun k hk => (hown6.lt k hk).1); clear hg8 hr8 cx6)))
      go_roundw
      case rel => exact ⟨j + 1, by omega, by go_num, by rw [htk, List.append_cons]; exact hown8, hLW9⟩
      case measure => simp [intOf]; omega
    · have hj : j = ds.length := by omega
      subst hj
      rw [List.take_length] at hown
      obtain ⟨A9, c9, hv9⟩ := hown.slice
      subst hv9
      have HD := Lib.hid (decideO_any (allW ds) A9 c9 wr hown.rd hall)
      have hL9 := hLW0.trans hLW
      clear hown hLW hrd
      go_wp2_with fail
      refine HD.out.mono ?_
      rintro r w9 ⟨⟨ds9, v9, b9, rfl, hg9, hb9, hr9⟩, hl9⟩
      go_wp2_with fail
      go_ret
      exact ⟨⟨_, _, _, rfl, hg9, Nat.le_trans hL9.size hb9, hr9⟩, hL9.trans hl9⟩
end Go.Proofs.YtmgalnbacenbbaaGreat
