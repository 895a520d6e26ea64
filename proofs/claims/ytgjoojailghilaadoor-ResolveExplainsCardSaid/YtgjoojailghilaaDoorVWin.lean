/- Resolve: Winners, the program's and the reference's. -/
import Derived.Test.YtgjoojailghilaaDoorVEqu
set_option linter.unusedSimpArgs false
set_option linter.unusedVariables false
namespace Go.Proofs.YtgjoojailghilaaDoor
open Go.RowKit

def winD (ds : List LD) : List LW := (ds.filter (fun d => d.err == 0)).map LD.win
theorem winD_len (ds : List LD) : (winD ds).length ≤ ds.length := by unfold winD; rw [List.length_map]; exact List.length_filter_le _ _
theorem winD_take (ds : List LD) (j : Nat) (h : j < ds.length) : winD (ds.take (j + 1)) = winD (ds.take j) ++ (if ds[j].err = 0 then [ds[j].win] else []) := by
  rw [List.take_succ_eq_append_getElem h, winD, winD, List.filter_append, List.map_append]
  congr 1
  by_cases q : ds[j].err = 0
  · rw [if_pos q]; simp [q]
  · rw [if_neg q]; simp [q]
set_option maxRecDepth 100000 in
set_option maxHeartbeats 800000 in
theorem winners_any (ds : List LD) (A : Option Addr) (c : Nat) (w : World) (hx : RdD w ds (.slice A ds.length c)) (hbig : ds.length ≤ 100000) :
    Calls Tryd.prog 22 #[.slice A ds.length c] w fun r w' => ∃ v, r = .returned v ∧ EW.Own w' w.heap.size (winD ds) v ∧ Lat w w' := by
  go_enter Tryd.func22, Tryd.ntmps22
  go_wp2_with fail
  go_loopw [3, 8] (fun v i wr => ∃ j : Nat, j ≤ ds.length ∧ i = .int .i64 j ∧ EW.Own wr w.heap.size (winD (ds.take j)) v ∧ Lat w wr) (fun _ i _ => ds.length - (intOf i).toNat)
  case atStart => exact ⟨0, Nat.zero_le _, rfl, Elt.Own.nil _ _, Lat.refl _⟩
  case round =>
    obtain ⟨j, hjl, rfl, hown, hLW⟩ := hrel
    by_cases hlt : j < ds.length
    · obtain ⟨b, off, A1, n1, m1, hA, hb1, hr1, _⟩ := (hx.lat hLW).row j hlt
      subst hA
      have htk := winD_take ds j hlt
      generalize hX : ds[j] = X at *
      obtain ⟨⟨k1, k2, k3⟩, ⟨⟨x1, x2, x3⟩, ⟨x4, x5, x6⟩, x7, x8, x9, x10⟩, los, e⟩ := X
      dsimp only at hr1 htk
      have hlen : (winD (ds.take j)).length ≤ 100000 := Nat.le_trans (winD_len _) (by rw [List.length_take]; omega)
      have hmax : (winD (ds.take j)).length + 1 ≤ maxLen := by unfold maxLen; omega
      have hby : ((winD (ds.take j)).length + 1) * EW.bytes ≤ 140737488355328 := Nat.le_trans (Nat.mul_le_mul_right EW.bytes (by omega : (winD (ds.take j)).length + 1 ≤ 1000000)) (by decide)
      simp only [wC, kC, vC, List.cons_append, List.nil_append] at hr1
      have hLB : Lat wr (wr.alloc (.cells #[.int .i64 k1, .string k2, .string k3, .int .i64 x1, .string x2, .string x3, .int .i64 x4, .int .i64 x5, .string x6, .int .i64 x7, .string x8, .int .i64 x9, .int .i64 x10, .slice A1 n1 m1, .int .i64 e] 44)) := Lat.al _ _
      have cx := (Blk.new wr 44 #[.int .i64 k1, .string k2, .string k3, .int .i64 x1, .string x2, .string x3, .int .i64 x4, .int .i64 x5, .string x6, .int .i64 x7, .string x8, .int .i64 x9, .int .i64 x10, .slice A1 n1 m1, .int .i64 e]).cell
      have hrW : RowAt (wr.alloc (.cells #[.int .i64 k1, .string k2, .string k3, .int .i64 x1, .string x2, .string x3, .int .i64 x4, .int .i64 x5, .string x6, .int .i64 x7, .string x8, .int .i64 x9, .int .i64 x10, .slice A1 n1 m1, .int .i64 e] 44)) wr.heap.size 3 [.int .i64 x1, .string x2, .string x3, .int .i64 x4, .int .i64 x5, .string x6, .int .i64 x7, .string x8, .int .i64 x9, .int .i64 x10] := row_of_blk (l := (#[.int .i64 k1, .string k2, .string k3, .int .i64 x1, .string x2, .string x3, .int .i64 x4, .int .i64 x5, .string x6, .int .i64 x7, .string x8, .int .i64 x9, .int .i64 x10, .slice A1 n1 m1, .int .i64 e]).toList) (Blk.new wr 44 #[.int .i64 k1, .string k2, .string k3, .int .i64 x1, .string x2, .string x3, .int .i64 x4, .int .i64 x5, .string x6, .int .i64 x7, .string x8, .int .i64 x9, .int .i64 x10, .slice A1 n1 m1, .int .i64 e]) 3 _ (fun i v hi => by
        match i, hi with
        | 0, hi => exact hi
        | 1, hi => exact hi
        | 2, hi => exact hi
        | 3, hi => exact hi
        | 4, hi => exact hi
        | 5, hi => exact hi
        | 6, hi => exact hi
        | 7, hi => exact hi
        | 8, hi => exact hi
        | 9, hi => exact hi
        | i + 10, hi => simp at hi)
      by_cases he : e = 0
      · subst he
        have hown2 := (hown.lat hLB).al (.cells #[.int .i64 x1, .string x2, .string x3, .int .i64 x4, .int .i64 x5, .string x6, .int .i64 x7, .string x8, .int .i64 x9, .int .i64 x10] 29)
        have hnew := Blk.at1 wr (.cells #[.int .i64 k1, .string k2, .string k3, .int .i64 x1, .string x2, .string x3, .int .i64 x4, .int .i64 x5, .string x6, .int .i64 x7, .string x8, .int .i64 x9, .int .i64 x10, .slice A1 n1 m1, .int .i64 0] 44) 29 #[.int .i64 x1, .string x2, .string x3, .int .i64 x4, .int .i64 x5, .string x6, .int .i64 x7, .string x8, .int .i64 x9, .int .i64 x10]
        have hL2 : Lat w ((wr.alloc (.cells #[.int .i64 k1, .string k2, .string k3, .int .i64 x1, .string x2, .string x3, .int .i64 x4, .int .i64 x5, .string x6, .int .i64 x7, .string x8, .int .i64 x9, .int .i64 x10, .slice A1 n1 m1, .int .i64 0] 44)).alloc (.cells #[.int .i64 x1, .string x2, .string x3, .int .i64 x4, .int .i64 x5, .string x6, .int .i64 x7, .string x8, .int .i64 x9, .int .i64 x10] 29)) := (hLW.trans hLB).trans (Lat.al _ _)
        have hbse : w.heap.size ≤ ((wr.alloc (.cells #[.int .i64 k1, .string k2, .string k3, .int .i64 x1, .string x2, .string x3, .int .i64 x4, .int .i64 x5, .string x6, .int .i64 x7, .string x8, .int .i64 x9, .int .i64 x10, .slice A1 n1 m1, .int .i64 0] 44)).alloc (.cells #[.int .i64 x1, .string x2, .string x3, .int .i64 x4, .int .i64 x5, .string x6, .int .i64 x7, .string x8, .int .i64 x9, .int .i64 x10] 29)).heap.size := hL2.size
        have HL := Lib.hid hL2
        have HT := Lib.hid (fun k (hk : u3.ownBlock = some k) => (hown.lt k hk).1)
        clear hL2 hLB hLW hx hX hown hlen
        go_wp2_with (first | (with_reducible refine wpList_load_at rfl 44 _ rfl b (off + j * 15) rfl _ _ hr1 Tryd.underlying44 rfl (by kernel_rfl) ?_) | (with_reducible refine wpList_load_at rfl 29 _ rfl wr.heap.size 3 rfl _ _ hrW Tryd.underlying29 rfl (by kernel_rfl) ?_) | (at_builtin; refine EW.append rfl _ _ rfl w.heap.size (winD (ds.take j)) _ rfl hown2 (wr.heap.size + 1) 1 (⟨⟨x1, x2, x3⟩, ⟨x4, x5, x6⟩, x7, x8, x9, x10⟩ : LW) rfl 29 hnew hmax hby hbse ?_; intro v6 w6 hown6 hg6 hw6; go_must (have hLW7 : Lat w w6 := HL.out.grown hg6 hbse HT.out; clear hnew hg6 hw6 hrW cx)))
        go_roundw
        case rel => exact ⟨j + 1, by omega, by go_num, by rw [htk, if_pos rfl]; exact hown6, hLW7⟩
        case measure => simp [intOf]; omega
      · have hown2 := hown.lat hLB
        have hL2 := hLW.trans hLB
        clear hLB hLW hx hX hown hlen hrW
        go_wp2_with (with_reducible refine wpList_load_at rfl 44 _ rfl b (off + j * 15) rfl _ _ hr1 Tryd.underlying44 rfl (by kernel_rfl) ?_)
        go_roundw
        case rel => exact ⟨j + 1, by omega, by go_num, by rw [htk, if_neg he, List.append_nil]; exact hown2, hL2⟩
        case measure => simp [intOf]; omega
    · have hj : j = ds.length := by omega
      subst hj
      rw [List.take_length] at hown
      go_wp2_with fail
      go_ret
      exact ⟨_, rfl, hown, hLW⟩
end Go.Proofs.YtgjoojailghilaaDoor
