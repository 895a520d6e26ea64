/- Hold: the reference's Find. -/
import Derived.Test.YtafodibbcfoclaaGreatHRTrig
import Derived.Test.YtafodibbcfoclaaGreatHDue
set_option linter.unusedSimpArgs false
set_option linter.unusedVariables false
namespace Go.Proofs.YtafodibbcfoclaaGreat
open Go.RowKit

theorem findT_drop (l : List LTim) (s : ByteArray) (j : Nat) (h : j < l.length) : findT (l.drop j) s = if l[j].rule = s then some l[j] else findT (l.drop (j + 1)) s := by
  unfold findT
  rw [List.drop_eq_getElem_cons h, List.find?_cons]
  unfold isN
  by_cases e : l[j].rule = s
  · rw [decide_eq_true e, if_pos e]
  · rw [decide_eq_false e, if_neg e]
set_option maxRecDepth 100000 in
set_option maxHeartbeats 2000000 in
theorem rfind_any (l : List LTim) (A : Option Addr) (c : Nat) (s : ByteArray) (w : World) (hx : ET.Rd w l (.slice A l.length c)) (hl : l.length ≤ 1000000) :
    Calls Tryz.prog 24 #[.slice A l.length c, .string s] w fun r w' => r = .returned (.tuple #[.agg (tC (tmOf l s)).toArray, .bool (findT l s).isSome]) ∧ Lat w w' := by
  unfold tmOf
  have H0 : Hid (findT l s = findT (l.drop 0) s) := Lib.hid rfl
  have hL0 := Lat.al w (.cells #[.string { data := #[] }, .int .i64 0, .bool false] 50)
  have hb0 := Blk.new w 50 #[.string { data := #[] }, .int .i64 0, .bool false]
  generalize findT l s = F at *
  go_enter Tryz.func24, Tryz.ntmps24
  go_wp2_with fail
  go_loopw [9] (fun i wr => ∃ j : Nat, j ≤ l.length ∧ i = .int .i64 j ∧ Hid (F = findT (l.drop j) s) ∧ Lat (w.alloc (.cells #[.string { data := #[] }, .int .i64 0, .bool false] 50)) wr) (fun i _ => l.length - (intOf i).toNat)
  case atStart => exact ⟨0, Nat.zero_le _, rfl, H0, Lat.refl _⟩
  case round =>
    clear H0
    obtain ⟨j, hjl, rfl, HT, hLW⟩ := hrel
    have hb1 := hb0.lat hLW
    have hL1 := hL0.trans hLW
    have HLW := Lib.hid hLW
    clear hb0 hL0 hLW
    by_cases hlt : j < l.length
    · obtain ⟨b, off, hA, hbb, hr1'⟩ := (hx.lat hL1).row j hlt
      subst hA
      have hr1 : RowAt wr b (off + j * 3) (tC l[j]) := hr1'
      have hc0 : wr.cell? ⟨b, off + j * 3, none⟩ = some (.string l[j].rule) := hr1 0 _ rfl
      have HD := findT_drop l s j hlt
      clear hr1' hx
      generalize l[j] = X at *
      obtain ⟨x1, x2, x3⟩ := X
      simp only [tC] at hr1
      dsimp only at HD hc0
      by_cases he : x1 = s
      · rw [if_pos he] at HD
        have hb4 : (x1.toList == s.toList) = true := by rw [he]; simp
        have hF : F = some ⟨x1, x2, x3⟩ := HT.out.trans HD
        have HF := Lib.hid hF
        clear he hF HD HT
        go_wp2_with (first | (with_reducible refine wpList_load_at rfl 50 _ rfl b (off + j * 3) rfl _ _ hr1 Tryz.underlying50 rfl (by kernel_rfl) ?_) | (refine wpList_store_row rfl 50 _ _ rfl (w.heap.size) _ rfl rfl 50 _ hb1 (by kernel_rfl : (Tryz.prog.info? 50).map (·.size) = some 3) rfl (by kernel_rfl) ?_))
        have cR := (hb1.setRow #[.string x1, .int .i64 x2, .bool x3]).cell
        refine bodyPost_ret (v := ?_) ?_ rfl ?_
        rotate_left
        · simp [results, Tryz.results24, go_sem, cR]; exact rfl
        rw [HF.out]
        exact ⟨rfl, Below.trans hL1 (lat_setRow _ (Nat.le_refl _))⟩
      · rw [if_neg he] at HD
        have hb4 : (x1.toList == s.toList) = false := by rw [toList_beq]; simpa using he
        have HT2 : Hid (F = findT (l.drop (j + 1)) s) := Lib.hid (HT.out.trans HD)
        clear he HD HT hr1
        go_wp2_with fail
        go_roundw
        case rel => exact ⟨j + 1, by omega, by go_num, HT2, HLW.out⟩
        case measure => simp [intOf]; omega
    · have hj : j = l.length := by omega
      have hF : F = none := HT.out.trans (by rw [hj, List.drop_length]; rfl)
      have HF := Lib.hid hF
      clear HT hF
      subst hj
      go_wp2_with (refine wpList_store_row rfl 50 _ _ rfl (w.heap.size) _ rfl rfl 50 _ hb1 (by kernel_rfl : (Tryz.prog.info? 50).map (·.size) = some 3) rfl (by kernel_rfl) ?_)
      have cR := (hb1.setRow #[.string { data := #[] }, .int .i64 0, .bool false]).cell
      refine bodyPost_ret (v := ?_) ?_ rfl ?_
      rotate_left
      · simp [results, Tryz.results24, go_sem, cR]; exact rfl
      rw [HF.out]
      exact ⟨rfl, Below.trans hL1 (lat_setRow _ (Nat.le_refl _))⟩
end Go.Proofs.YtafodibbcfoclaaGreat
