/- Resolve: the reference's writes, Winners and Merge; the law's own some. -/
import Derived.Test.YtmgalnbacenbbaaGreatVRDec
import Derived.Test.YtmgalnbacenbbaaGreatVMerge
set_option linter.unusedSimpArgs false
set_option linter.unusedVariables false
namespace Go.Proofs.YtmgalnbacenbbaaGreat
open Go.RowKit

theorem allW_append (xs ys : List LD) : allW (xs ++ ys) = allW xs ++ allW ys := by simp [allW]
set_option maxRecDepth 100000 in
set_option maxHeartbeats 1000000 in
theorem writes_any (ds : List LD) (A : Option Addr) (c : Nat) (w : World) (hx : RdD w ds (.slice A ds.length c)) (hbig : ds.length ≤ 100000) (hall : (allW ds).length ≤ 100000) :
    Calls Tryz.prog 40 #[.slice A ds.length c] w fun r w' => ∃ v, r = .returned v ∧ EW.Own w' w.heap.size (allW ds) v ∧ Lat w w' := by
  go_enter Tryz.func40, Tryz.ntmps40
  go_wp2_with fail
  go_loopw [3, 4] (fun v i wr => ∃ j : Nat, j ≤ ds.length ∧ i = .int .i64 j ∧ EW.Own wr w.heap.size (allW (ds.take j)) v ∧ Lat w wr) (fun _ i _ => ds.length - (intOf i).toNat)
  case atStart => exact ⟨0, Nat.zero_le _, rfl, Elt.Own.nil _ _, Lat.refl _⟩
  case round =>
    obtain ⟨j, hjl, rfl, hown, hLW⟩ := hrel
    by_cases hlt : j < ds.length
    · obtain ⟨b, off, A1, n1, m1, hA, hb0, hr0, hlr0⟩ := hx.row j hlt
      subst hA
      have htk := allW_take ds j hlt
      have hlen := allW_len ds (j + 1)
      obtain ⟨d, hd⟩ : ∃ d, d = ds[j] := ⟨_, rfl⟩
      rw [← hd] at hr0 hlr0 htk
      clear hd
      obtain ⟨A1', m1', hv1⟩ : ∃ A' c', Value.slice A1 n1 m1 = .slice A' d.los.length c' := by obtain ⟨A', c', h, _⟩ := hlr0; exact ⟨A', c', h⟩
      injection hv1 with f1 f2 f3
      subst f1 f2 f3
      rw [htk, List.length_append, List.length_cons] at hlen
      have hr1 := hr0.below hLW hb0
      have hw1 := dec_win hr1
      have HROW := Lib.hid hr0
      have HB0 := Lib.hid hb0
      have HLR := Lib.hid hlr0
      generalize hys : allW (ds.take j) = ys at *
      generalize hwin : d.win = x at *
      have hfw := foldW x
      have hwl : (wC x).length = 10 := rfl
      have HM1 : Hid (ys.length + 1 ≤ maxLen) := Lib.hid (by unfold maxLen; omega)
      have HM2 : Hid ((ys.length + 1) * EW.bytes ≤ 140737488355328) := Lib.hid (Nat.le_trans (Nat.mul_le_mul_right EW.bytes (by omega : ys.length + 1 ≤ 1000000)) (by decide))
      have HM3 : Hid ((ys ++ [x]).length + d.los.length ≤ maxLen) := Lib.hid (by rw [List.length_append, List.length_singleton]; unfold maxLen; omega)
      have HM4 : Hid (((ys ++ [x]).length + d.los.length) * EW.bytes ≤ 140737488355328) := Lib.hid (Nat.le_trans (Nat.mul_le_mul_right EW.bytes (by rw [List.length_append, List.length_singleton]; omega : (ys ++ [x]).length + d.los.length ≤ 1000000)) (by decide))
      have hown4 := hown.al (.cells (wC x).toArray 44)
      have hnew := Blk.new wr 44 (wC x).toArray
      have hL5 : Lat w (wr.alloc (.cells (wC x).toArray 44)) := hLW.trans (Lat.al _ _)
      have HB := Lib.hid hL5.size
      have HL5 := Lib.hid hL5
      have HT := Lib.hid (fun k (hk : u3.ownBlock = some k) => (hown.lt k hk).1)
      clear hown hLW hr0 hb0 hlr0 hlen hL5 hr1 hys hwin hx
      go_wp2_with (first | (with_reducible refine wpList_load_at rfl 44 _ rfl b (off + j * 15 + 3) rfl _ _ hw1 Tryz.underlying44 rfl (by kernel_rfl) ?_) | (at_builtin; refine EW.append rfl _ _ rfl w.heap.size ys _ rfl hown4 wr.heap.size 1 x rfl 44 hnew HM1.out HM2.out HB.out ?_; intro v6 w6 hown6 hg6 hw6; go_must (have hL6 : Lat w w6 := HL5.out.grown hg6 HB.out HT.out; have c13 := (dec_los (HROW.out.below hL6 HB0.out)).1; have HB6 := Lib.hid hL6.size; obtain ⟨A8, m8, ev, hr8, hn8⟩ := HLR.out.lat hL6; injection ev with f1 f2 f3; subst f1 f3; clear f2 hnew hg6 hw6 hown4 hw1)) | (at_builtin; refine EW.appends rfl _ _ rfl w.heap.size (ys ++ [x]) _ rfl hown6 A1 d.los.length m1 d.los rfl rfl hn8 hr8 HM3.out HM4.out HB6.out ?_; intro v8 w8 hown8 hg8; go_must (have hL8 : Lat w w8 := hL6.grown hg8 HB6.out (fun k hk => (hown6.lt k hk).1); clear hg8 hr8 c13 hown6)))
      go_roundw
      case rel => exact ⟨j + 1, by omega, by go_num, by rw [htk, List.append_cons]; exact hown8, hL8⟩
      case measure => simp [intOf]; omega
    · have hj : ds.take j = ds := List.take_of_length_le (by omega)
      rw [hj] at hown
      clear hj
      go_wp2_with fail
      go_ret
      exact ⟨_, rfl, hown, hLW⟩
set_option maxRecDepth 100000 in
set_option maxHeartbeats 1000000 in
theorem rmerge_any (xs ys : List LD) (A B : Option Addr) (c c' : Nat) (w : World) (h1 : RdD w xs (.slice A xs.length c)) (h2 : RdD w ys (.slice B ys.length c')) (hl : xs.length + ys.length ≤ 100000) (hall : (allW (xs ++ ys)).length ≤ 100000) :
    Calls Tryz.prog 19 #[.slice A xs.length c, .slice B ys.length c'] w fun r w' => (∃ v base, r = .returned v ∧ w.heap.size ≤ base ∧ OwnX w' base (decR (allW (xs ++ ys))) v) ∧ Lat w w' := by
  have hap := allW_append xs ys
  rw [hap] at hall ⊢
  rw [List.length_append] at hall
  have HW := Lib.hid (writes_any xs A c w h1 (by omega) (by omega))
  go_enter Tryz.func19, Tryz.ntmps19
  go_wp2_with fail
  refine HW.out.mono ?_
  rintro r w2 ⟨v2, rfl, hown2, hl2⟩
  have HW3 := Lib.hid (writes_any ys B c' w2 (h2.lat hl2) (by omega) (by omega))
  clear HW h1 h2
  go_wp2_with fail
  refine HW3.out.mono ?_
  rintro r w3 ⟨v3, rfl, hown3, hl3⟩
  have hL3 := hl2.trans hl3
  have hown2 := hown2.lat hl3
  obtain ⟨A3, c3, ev, hr3, hn3⟩ := hown3.rd
  subst ev
  have HM1 : Hid ((allW xs).length + (allW ys).length ≤ maxLen) := Lib.hid (by unfold maxLen; omega)
  have HM2 : Hid (((allW xs).length + (allW ys).length) * EW.bytes ≤ 140737488355328) := Lib.hid (Nat.le_trans (Nat.mul_le_mul_right EW.bytes (by omega : (allW xs).length + (allW ys).length ≤ 1000000)) (by decide))
  have HB := Lib.hid hL3.size
  have HALL : Hid ((allW xs ++ allW ys).length ≤ 100000) := Lib.hid (by rw [List.length_append]; exact hall)
  have HL3 := Lib.hid hL3
  have HT := Lib.hid (fun k (hk : v2.ownBlock = some k) => (hown2.lt k hk).1)
  clear HW3 hown3 hl2 hl3 hL3 hall hl hap
  generalize hX : allW xs = X at *
  generalize hY : allW ys = Y at *
  have HX := Lib.hid hX
  have HY := Lib.hid hY
  clear hX hY
  go_wp2_with (at_builtin; refine EW.appends rfl _ _ rfl w.heap.size X _ rfl hown2 A3 Y.length c3 Y rfl rfl hn3 hr3 HM1.out HM2.out HB.out ?_; intro v4 w4 hown4 hg4; go_must (have hL4 : Lat w w4 := HL3.out.grown hg4 HB.out HT.out; clear hown2 hr3 hg4))
  generalize hZ : X ++ Y = Z at *
  have HZ := Lib.hid hZ
  clear hZ
  obtain ⟨A4, c4, rfl⟩ := hown4.slice
  have HD := Lib.hid (rdecide_any Z A4 c4 w4 hown4.rd HALL.out)
  clear hown4
  refine HD.out.mono ?_
  rintro r w5 ⟨⟨v5, rfl, hrd5⟩, hl5⟩
  have hL5 := hL4.trans hl5
  have HB4 := Lib.hid hL4.size
  clear HD hL4 hl5
  go_wp2_with fail
  go_ret
  refine ⟨⟨_, w4.heap.size, rfl, HB4.out, ?_⟩, hL5⟩
  rw [HX.out, HY.out, HZ.out]
  exact hrd5
end Go.Proofs.YtmgalnbacenbbaaGreat
