/- Hold: the reference's Mark. -/
import Derived.Test.YtafodibbcfoclaaHSane
import Derived.Test.YtafodibbcfoclaaHMark
set_option linter.unusedSimpArgs false
set_option linter.unusedVariables false
namespace Go.Proofs.Ytafodibbcfoclaa
open Go.RowKit

theorem mk1_eq (names : List ByteArray) (x1 : ByteArray) (x2 : Int) (x3 : Bool) : mk1 names ⟨x1, x2, x3⟩ = ⟨x1, x2, x3 || names.any (fun x => decide (x = x1))⟩ := by
  unfold mk1
  dsimp only
  cases names.any (fun x => decide (x = x1)) <;> simp
theorem any_one {α : Type} (p : α → Bool) (l : List α) (j : Nat) (h : j < l.length) : (l.take (j + 1)).any p = ((l.take j).any p || p l[j]) := by
  rw [List.take_succ_eq_append_getElem h, List.any_append]
  simp
theorem map_one {α β : Type} (f : α → β) (l : List α) (j : Nat) (h : j < l.length) : (l.take (j + 1)).map f = (l.take j).map f ++ [f l[j]] := by
  rw [List.take_succ_eq_append_getElem h, List.map_append]
  rfl
theorem rd_slice {α : Type} {E : Elt α} {w : World} {xs : List α} {v : Value} (h : E.Rd w xs v) : ∃ A c, v = .slice A xs.length c := by
  obtain ⟨A, c, hv, _⟩ := h
  exact ⟨A, c, hv⟩
set_option maxRecDepth 100000 in
set_option maxHeartbeats 4000000 in
theorem rmark_any (l : List LTim) (A : Option Addr) (c : Nat) (names : List ByteArray) (B : Option Addr) (m : Nat) (w : World) (hx : ET.Rd w l (.slice A l.length c)) (hy : ES.Rd w names (.slice B names.length m)) (hn : names.length ≤ 1000000) :
    Calls Try.prog 17 #[.slice A l.length c, .slice B names.length m] w fun r w' => (∃ v, r = .returned v ∧ ET.Rd w' (markP l names) v) ∧ Lat w w' := by
  have HV := Lib.hid (rsane_any l A c w hx)
  have HMP : Hid (markP l names = ((validP l).take (validP l).length).map (mk1 names)) := Lib.hid (by unfold markP; rw [List.take_length])
  have hvl := validP_len l
  generalize markP l names = M at *
  generalize validP l = vs at *
  clear hx
  go_enter Try.func17, Try.ntmps17
  go_wp2_with fail
  refine HV.out.mono ?_
  rintro r w1 ⟨⟨v1, rfl, hrd1⟩, hl1⟩
  obtain ⟨A1, c1, rfl⟩ := rd_slice hrd1
  clear HV
  go_wp2_with fail
  go_loopw [5, 13] (fun v i wr => ∃ j : Nat, j ≤ vs.length ∧ i = .int .i64 j ∧ ET.Own wr w1.heap.size ((vs.take j).map (mk1 names)) v ∧ Lat w1 wr) (fun _ i _ => vs.length - (intOf i).toNat)
  case atStart => exact ⟨0, Nat.zero_le _, rfl, Elt.Own.nil _ _, Lat.refl _⟩
  case round =>
    obtain ⟨j, hjl, rfl, hown, hLW⟩ := hrel
    by_cases hlt : j < vs.length
    · obtain ⟨b, off, hA, hb1, hr1'⟩ := (hrd1.lat hLW).row j hlt
      subst hA
      have hr1 : RowAt wr b (off + j * 3) (tC vs[j]) := hr1'
      have HMO := Lib.hid (map_one (mk1 names) vs j hlt)
      have HLN : Hid (((vs.take j).map (mk1 names)).length ≤ 1000) := Lib.hid (by rw [List.length_map, List.length_take]; omega)
      have hyr := hy.lat (hl1.trans hLW)
      clear hr1' hy hrd1
      generalize vs[j] = X at *
      generalize wr = w0 at *
      obtain ⟨x1, x2, x3⟩ := X
      rw [mk1_eq] at HMO
      simp only [tC] at hr1
      have hL0 : Lat w0 (w0.alloc (.cells #[.string x1, .int .i64 x2, .bool x3] 56)) := Lat.al _ _
      have hb0 := Blk.new w0 56 #[.string x1, .int .i64 x2, .bool x3]
      have hwg := hLW.size
      go_wp2_with (with_reducible refine wpList_load_at rfl 56 _ rfl b (off + j * 3) rfl _ _ hr1 Try.underlying56 rfl (by kernel_rfl) ?_)
      clear hr1
      go_loopw [22] (fun i wq => ∃ (k : Nat) (F : Bool), k ≤ names.length ∧ i = .int .i64 k ∧ Hid (F = (x3 || (names.take k).any (fun x => decide (x = x1)))) ∧ Blk wq w0.heap.size 56 #[.string x1, .int .i64 x2, .bool F] ∧ Lat w0 wq) (fun i _ => names.length - (intOf i).toNat)
      case atStart => exact ⟨0, x3, Nat.zero_le _, rfl, Lib.hid (by simp), hb0, hL0⟩
      case round =>
        clear hb0 hL0
        obtain ⟨k, b0, hkl, rfl, HF, hbx, hLQ⟩ := hrel
        by_cases hlk : k < names.length
        · obtain ⟨b', off', hB, hb2', hr2'⟩ := (hyr.lat hLQ).row k hlk
          subst hB
          have hcn : wr.cell? ⟨b', off' + k, none⟩ = some (.string names[k]) := by
            have h := hr2' 0 _ rfl
            rwa [show off' + k * ES.n + 0 = off' + k from by show off' + k * 1 + 0 = _; omega] at h
          have hb2 := hb2'
          have HK := Lib.hid (any_one (fun x => decide (x = x1)) names k hlk)
          clear hr2' hyr hb2'
          generalize names[k] = Y at *
          go_upto_region 10 with fail
          by_cases he : Y = x1
          · have HF2 : Hid (true = (x3 || (names.take (k + 1)).any (fun x => decide (x = x1)))) := Lib.hid (by rw [HK.out, decide_eq_true he]; simp)
            have hb4 : (Y.toList == x1.toList) = true := by rw [he]; simp
            clear HK he HF
            refine wp_rely (by kernel_rfl) (by kernel_rfl) ?_
            apply RelyL.val
            · intro ν w' hL hF K hK'
              have c1 := (hL.cell (p := ⟨b', off' + k, none⟩) hb2).trans hcn
              have c2 := (hbx.lat hL).cell
              go_simp
              exact hK'.out _ _ rfl (Lat.refl _)
            simp only [Act.put, List.setIfInBounds_toArray, List.set_cons_zero, List.set_cons_succ, Nat.reduceAdd]
            apply RelyL.val
            · intro ν w' hL hF K hK'
              have c1 := (hL.cell (p := ⟨b', off' + k, none⟩) hb2).trans hcn
              have c2 := (hbx.lat hL).cell
              go_simp
              exact hK'.out _ _ rfl (Lat.refl _)
            simp only [Act.put, List.setIfInBounds_toArray, List.set_cons_zero, List.set_cons_succ, Nat.reduceAdd]
            apply RelyL.val
            · intro ν w' hL hF K hK'
              have c1 := (hL.cell (p := ⟨b', off' + k, none⟩) hb2).trans hcn
              have c2 := (hbx.lat hL).cell
              go_simp
              exact hK'.out _ _ rfl (Lat.refl _)
            simp only [Act.put, List.setIfInBounds_toArray, List.set_cons_zero, List.set_cons_succ, Nat.reduceAdd]
            apply RelyL.val
            · intro ν w' hL hF K hK'
              have c1 := (hL.cell (p := ⟨b', off' + k, none⟩) hb2).trans hcn
              have c2 := (hbx.lat hL).cell
              go_simp
              exact hK'.out _ _ rfl (Lat.refl _)
            simp only [Act.put, List.setIfInBounds_toArray, List.set_cons_zero, List.set_cons_succ, Nat.reduceAdd]
            apply RelyL.val
            · intro ν w' hL hF K hK'
              have c1 := (hL.cell (p := ⟨b', off' + k, none⟩) hb2).trans hcn
              have c2 := (hbx.lat hL).cell
              go_simp
              exact hK'.out _ _ rfl (Lat.refl _)
            simp only [Act.put, List.setIfInBounds_toArray, List.set_cons_zero, List.set_cons_succ, Nat.reduceAdd]
            apply RelyL.val
            · intro ν w' hL hF K hK'
              have c1 := (hL.cell (p := ⟨b', off' + k, none⟩) hb2).trans hcn
              have c2 := (hbx.lat hL).cell
              go_simp
              exact hK'.out _ _ rfl (Lat.refl _)
            simp only [Act.put, List.setIfInBounds_toArray, List.set_cons_zero, List.set_cons_succ, Nat.reduceAdd]
            apply RelyL.val
            · intro ν w' hL hF K hK'
              have c1 := (hL.cell (p := ⟨b', off' + k, none⟩) hb2).trans hcn
              have c2 := (hbx.lat hL).cell
              go_simp
              exact hK'.out _ _ rfl (Lat.refl _)
            simp only [Act.put, List.setIfInBounds_toArray, List.set_cons_zero, List.set_cons_succ, Nat.reduceAdd]
            refine RelyL.done fun ν w5 hL hF => ?_
            have hLQ5 := hLQ.trans hL
            have hbx5 := hbx.lat hL
            clear hF hL hbx hLQ hcn hb2
            have c2 : w5.cell? ⟨w0.heap.size, 2, none⟩ = some (.bool b0) := hbx5.cell 2
            have f2 := hbx5.free 2
            have hbx6 := hbx5.set 2 (.bool true)
            have hLQ6 := hLQ5.setCell (p := ⟨w0.heap.size, 2, none⟩) (Nat.le_refl _) (.bool true)
            have HB6 := Lib.hid hbx6
            have HL6 := Lib.hid hLQ6
            clear hbx6 hLQ6 hbx5 hLQ5
            go_wp2_with fail
            go_roundw
            case rel => exact ⟨k + 1, true, by omega, by go_num, HF2, HB6.out, HL6.out⟩
            case measure => simp [intOf]; omega
          · have HF2 : Hid (b0 = (x3 || (names.take (k + 1)).any (fun x => decide (x = x1)))) := Lib.hid (by rw [HK.out, decide_eq_false he, HF.out]; simp)
            have hb4 : (Y.toList == x1.toList) = false := by rw [toList_beq]; simpa using he
            clear HK he HF
            refine wp_rely (by kernel_rfl) (by kernel_rfl) ?_
            apply RelyL.val
            · intro ν w' hL hF K hK'
              have c1 := (hL.cell (p := ⟨b', off' + k, none⟩) hb2).trans hcn
              have c2 := (hbx.lat hL).cell
              go_simp
              exact hK'.out _ _ rfl (Lat.refl _)
            simp only [Act.put, List.setIfInBounds_toArray, List.set_cons_zero, List.set_cons_succ, Nat.reduceAdd]
            apply RelyL.val
            · intro ν w' hL hF K hK'
              have c1 := (hL.cell (p := ⟨b', off' + k, none⟩) hb2).trans hcn
              have c2 := (hbx.lat hL).cell
              go_simp
              exact hK'.out _ _ rfl (Lat.refl _)
            simp only [Act.put, List.setIfInBounds_toArray, List.set_cons_zero, List.set_cons_succ, Nat.reduceAdd]
            apply RelyL.val
            · intro ν w' hL hF K hK'
              have c1 := (hL.cell (p := ⟨b', off' + k, none⟩) hb2).trans hcn
              have c2 := (hbx.lat hL).cell
              go_simp
              exact hK'.out _ _ rfl (Lat.refl _)
            simp only [Act.put, List.setIfInBounds_toArray, List.set_cons_zero, List.set_cons_succ, Nat.reduceAdd]
            apply RelyL.val
            · intro ν w' hL hF K hK'
              have c1 := (hL.cell (p := ⟨b', off' + k, none⟩) hb2).trans hcn
              have c2 := (hbx.lat hL).cell
              go_simp
              exact hK'.out _ _ rfl (Lat.refl _)
            simp only [Act.put, List.setIfInBounds_toArray, List.set_cons_zero, List.set_cons_succ, Nat.reduceAdd]
            apply RelyL.val
            · intro ν w' hL hF K hK'
              have c1 := (hL.cell (p := ⟨b', off' + k, none⟩) hb2).trans hcn
              have c2 := (hbx.lat hL).cell
              go_simp
              exact hK'.out _ _ rfl (Lat.refl _)
            simp only [Act.put, List.setIfInBounds_toArray, List.set_cons_zero, List.set_cons_succ, Nat.reduceAdd]
            apply RelyL.val
            · intro ν w' hL hF K hK'
              have c1 := (hL.cell (p := ⟨b', off' + k, none⟩) hb2).trans hcn
              have c2 := (hbx.lat hL).cell
              go_simp
              exact hK'.out _ _ rfl (Lat.refl _)
            simp only [Act.put, List.setIfInBounds_toArray, List.set_cons_zero, List.set_cons_succ, Nat.reduceAdd]
            apply RelyL.val
            · intro ν w' hL hF K hK'
              have c1 := (hL.cell (p := ⟨b', off' + k, none⟩) hb2).trans hcn
              have c2 := (hbx.lat hL).cell
              go_simp
              exact hK'.out _ _ rfl (Lat.refl _)
            simp only [Act.put, List.setIfInBounds_toArray, List.set_cons_zero, List.set_cons_succ, Nat.reduceAdd]
            refine RelyL.done fun ν w5 hL hF => ?_
            have hLQ5 := hLQ.trans hL
            have hbx5 := hbx.lat hL
            clear hF hL hbx hLQ hcn hb2
            go_wp2_with fail
            go_roundw
            case rel => exact ⟨k + 1, b0, by omega, by go_num, HF2, hbx5, hLQ5⟩
            case measure => simp [intOf]; omega
        · have hk : k = names.length := by omega
          subst hk
          have hF : b0 = (x3 || names.any (fun x => decide (x = x1))) := by rw [HF.out, List.take_length]
          rw [← hF] at HMO
          have hrq : RowAt wr w0.heap.size 0 [.string x1, .int .i64 x2, .bool b0] := hbx.row
          have hbn : Blk (wr.alloc (.cells #[.string x1, .int .i64 x2, .bool b0] 56)) wr.heap.size 56 (ET.f ⟨x1, x2, b0⟩).toArray := Blk.new _ _ _
          have hL9 : Lat w0 (wr.alloc (.cells #[.string x1, .int .i64 x2, .bool b0] 56)) := hLQ.trans (Lat.al _ _)
          have hown9 := hown.lat hL9
          have HL := Lib.hid (hLW.trans hL9)
          have hln := HLN.out
          have hmax : ((vs.take j).map (mk1 names)).length + 1 ≤ maxLen := by unfold maxLen; omega
          have hby : (((vs.take j).map (mk1 names)).length + 1) * ET.bytes ≤ 140737488355328 := Nat.le_trans (Nat.mul_le_mul_right ET.bytes (by omega : _ ≤ 1000000)) (by decide)
          have hLs := HL.out.size
          clear hF HF hown hLW hLQ hL9 hbx hwg hln HLN hyr
          generalize (vs.take j).map (mk1 names) = W at *
          go_wp2_with (first | (with_reducible refine wpList_load_at rfl 56 _ rfl w0.heap.size 0 rfl _ _ hrq Try.underlying56 rfl (by kernel_rfl) ?_) | (at_builtin; refine ET.append rfl _ _ rfl w1.heap.size _ _ rfl hown9 wr.heap.size 1 ⟨x1, x2, b0⟩ rfl 56 hbn hmax hby hLs ?_; intro va wa howna hga hwa; go_must (have hLa : Lat w1 wa := HL.out.grown hga hLs (fun k hk => (hown9.lt k hk).1); clear hown9 hga hwa hbn hrq)))
          go_roundw
          case rel => exact ⟨j + 1, by omega, by go_num, by rw [HMO.out]; exact howna, hLa⟩
          case measure => simp [intOf]; omega
    · have hj : j = vs.length := by omega
      subst hj
      rw [← HMP.out] at hown
      go_wp2_with fail
      go_ret
      exact ⟨⟨_, rfl, hown.rd⟩, hl1.trans hLW⟩
end Go.Proofs.Ytafodibbcfoclaa
