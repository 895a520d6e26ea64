/- Hold: the rules in another order: the law walked. -/
import Derived.Test.YtafodibbcfoclaaHOrderP
import Derived.Test.YtafodibbcfoclaaHView
import Derived.Test.YtafodibbcfoclaaHApart
import Derived.Test.YtafodibbcfoclaaHAwake
import Derived.Test.YtafodibbcfoclaaHFew
import Derived.Test.YtafodibbcfoclaaHSame
import Derived.Test.YtafodibbcfoclaaHRMark
import Derived.Test.YtafodibbcfoclaaHNext
import Derived.Test.YtafodibbcfoclaaHUpd
import Derived.Test.YtafodibbcfoclaaHDue
set_option linter.unusedSimpArgs false
set_option linter.unusedVariables false
namespace Go.Proofs.Ytafodibbcfoclaa
open Go.RowKit

theorem map_one_take (ps : List RP) (k : Nat) (h : k < ps.length) : (ps.map (fun q => q.1.name)).take (k + 1) = (ps.map (fun q => q.1.name)).take k ++ [ps[k].1.name] := by
  rw [List.take_succ_eq_append_getElem (by rw [List.length_map]; exact h), List.getElem_map]
theorem len15o {l : List Value} (h : l.length = 15) : ∃ a0 a1 a2 a3 a4 a5 a6 a7 a8 a9 a10 a11 a12 a13 a14, l = [a0, a1, a2, a3, a4, a5, a6, a7, a8, a9, a10, a11, a12, a13, a14] := by
  match l, h with
  | [a0, a1, a2, a3, a4, a5, a6, a7, a8, a9, a10, a11, a12, a13, a14], _ => exact ⟨_, _, _, _, _, _, _, _, _, _, _, _, _, _, _, rfl⟩
theorem markP_len (l : List LTim) (names : List ByteArray) : (markP l names).length ≤ 40 := by
  unfold markP
  rw [List.length_map]
  exact validP_len l
theorem rsame_self (xs : List LTim) (A B : Option Addr) (c c' : Nat) (w : World) (hx : ET.Rd w xs (.slice A xs.length c)) (hy : ET.Rd w xs (.slice B xs.length c')) (hbig : xs.length ≤ 1000000) :
    Calls Try.prog 15 #[.slice A xs.length c, .slice B xs.length c'] w fun r w' => r = .returned (.bool true) ∧ Lat w w' := by
  have h := rsame_any xs xs A B c c' w hx hy hbig
  rwa [decide_eq_true (rfl : xs = xs)] at h
theorem nsame_self (xs : List ByteArray) (A B : Option Addr) (c c' : Nat) (w : World) (hx : ES.Rd w xs (.slice A xs.length c)) (hy : ES.Rd w xs (.slice B xs.length c')) (hbig : xs.length ≤ 1000000) :
    Calls Try.prog 12 #[.slice A xs.length c, .slice B xs.length c'] w fun r w' => r = .returned (.bool true) ∧ Lat w w' := by
  have h := nsame_any xs xs A B c c' w hx hy hbig
  rwa [decide_eq_true (rfl : xs = xs)] at h
set_option maxRecDepth 100000 in
set_option maxHeartbeats 2000000 in
theorem lawOrder (l : List LTim) (A : Option Addr) (c : Nat) (ps : List RP) (B : Option Addr) (m : Nat) (V : Ev.LView) (vc : List Value) (now : Int) (w : World) (hx : RdT w l (.slice A l.length c)) (hy : RdR w ps (.slice B ps.length m)) (hcap : ps.length ≤ m) (hv : Ev.IsView w.heap.size w V vc) :
    Calls Try.prog 5 #[.slice A l.length c, .slice B ps.length m, .agg vc.toArray, .int .i64 now] w fun r w' => r = .returned (.bool true) ∧ Lat w w' := by
  have HAW := Lib.hid awake_any
  have HV := Lib.hid hv
  obtain ⟨IA, ic, MA, mc, rfl, -⟩ := hv
  have hL0 : Lat w (w.alloc (.cells #[.slice IA V.items.length ic, .string V.mode, .int .i64 V.minute, .slice MA V.members.length mc] 38)) := Lat.al _ _
  have hb0 := Blk.new w 38 #[.slice IA V.items.length ic, .string V.mode, .int .i64 V.minute, .slice MA V.members.length mc]
  have hrv0 : RowAt (w.alloc (.cells #[.slice IA V.items.length ic, .string V.mode, .int .i64 V.minute, .slice MA V.members.length mc] 38)) w.heap.size 0 [.slice IA V.items.length ic, .string V.mode, .int .i64 V.minute, .slice MA V.members.length mc] := hb0.row
  have HF := Lib.hid (few_any l A c ps B m _ (hy.lat hL0))
  have HVW := fun (w' : World) (h : Lat w w') => Lib.hid (view_any V _ w.heap.size w' (HV.out.carry h))
  go_enter Try.func5, Try.ntmps5
  go_wp2_with fail
  refine HF.out.mono ?_
  rintro r w1 ⟨⟨b, rfl, hb⟩, hl1⟩
  have hL1 := hL0.trans hl1
  have hb1 := hb0.lat hl1
  have hrv : RowAt w1 w.heap.size 0 [.slice IA V.items.length ic, .string V.mode, .int .i64 V.minute, .slice MA V.members.length mc] := hb1.row
  clear HF hb0 hrv0 hL0 hl1
  cases b
  · clear hb HVW hx hy hrv hb1
    go_wp2_with fail
    refine (HAW.out _).mono ?_
    rintro r w9 ⟨rfl, hl9⟩
    have hL9 := hL1.trans hl9
    clear HAW
    go_wp2_with fail
    go_ret
    exact ⟨rfl, hL9⟩
  have hf := Lib.hid (hb rfl)
  clear hb
  have HVW1 := HVW w1 hL1
  clear HVW
  go_wp2_with (refine wpList_load_atG rfl 38 _ rfl w.heap.size 0 rfl _ _ hrv Try.underlying38 rfl (by kernel_rfl) ?_)
  refine HVW1.out.mono ?_
  rintro r w2 ⟨⟨b, rfl⟩, hl2⟩
  have hL2 := hL1.trans hl2
  have hb2 := hb1.lat hl2
  clear HVW1 hL1 hl2 hrv hb1
  cases b
  · clear hf hx hy hb2
    go_wp2_with fail
    refine (HAW.out _).mono ?_
    rintro r w9 ⟨rfl, hl9⟩
    have hL9 := hL2.trans hl9
    clear HAW
    go_wp2_with fail
    go_ret
    exact ⟨rfl, hL9⟩
  have hpl := hf.out.rules
  go_wp2_with fail
  go_loopw [9, 10, 11, 32] (fun v9 v10 v11 i wr => ∃ j : Nat, j ≤ ps.length ∧ i = .int .i64 j ∧ ER.Own wr w2.heap.size (((ps.map Prod.fst).reverse).take j) v9 ∧ ES.Own wr w2.heap.size ((ps.map (fun q => q.1.name)).take j) v10 ∧ ES.Own wr w2.heap.size (((ps.map (fun q => q.1.name)).reverse).take j) v11 ∧ Hid (ApartV v9 v10 ∧ ApartV v9 v11 ∧ ApartV v10 v11 ∧ Unlike (ps.take j)) ∧ Lat w2 wr) (fun _ _ _ i _ => ps.length - (intOf i).toNat)
  case atStart => exact ⟨0, Nat.zero_le _, rfl, Elt.Own.nil _ _, Elt.Own.nil _ _, Elt.Own.nil _ _, Lib.hid ⟨ApartV.nil _, ApartV.nil _, ApartV.nil _, List.Pairwise.nil⟩, Lat.refl _⟩
  case round =>
    obtain ⟨j, hjl, rfl, h9, h10, h11, HAP, hLW⟩ := hrel
    by_cases hlt : j < ps.length
    · obtain ⟨q, hq⟩ : ∃ q : Nat, ps.length = q + 1 + j := ⟨ps.length - 1 - j, by omega⟩
      have hqi : q < ps.length := by omega
      obtain ⟨b, off, hB, hb0, hr1, -⟩ := (hy.lat (hL2.trans hLW)).row j hlt
      obtain ⟨b', off', hB', -, hr2, -⟩ := (hy.lat (hL2.trans hLW)).row q hqi
      rw [hB] at hB'
      injection hB' with e
      injection e with e1 e2
      subst e1 e2 hB
      have HC : Hid (∀ (i : Nat) (hi : i < ps.length) (w' : World), Lat w2 w' → w'.cell? ⟨b, off + i * 15, none⟩ = some (.string ps[i].1.name)) := Lib.hid (fun i hi w' h => by
        obtain ⟨b3, off3, hA3, -, hr3, -⟩ := (hy.lat (hL2.trans h)).row i hi
        injection hA3 with e
        injection e with e1 e2
        subst e1 e2
        exact hr3 0 _ rfl)
      have hw1 : IntKind.i64.wrap ((ps.length : Int) - 1) = (ps.length : Int) - 1 := by rw [IntKind.wrap_i64]; omega
      have hw2 : IntKind.i64.wrap ((ps.length : Int) - 1 - (j : Int)) = (q : Int) := by rw [IntKind.wrap_i64]; omega
      have hqi' : (q : Int) < ps.length := by omega
      have hji' : (j : Int) < ps.length := by omega
      have hcj : wr.cell? ⟨b, off + j * 15, none⟩ = some (.string ps[j].1.name) := hr1 0 _ rfl
      have hcq : wr.cell? ⟨b, off + q * 15, none⟩ = some (.string ps[q].1.name) := hr2 0 _ rfl
      obtain ⟨a0, a1, a2, a3, a4, a5, a6, a7, a8, a9, a10, a11, a12, a13, a14, hRC⟩ := len15o (rfl : (rC ps[q].1).length = 15)
      rw [hRC] at hr2
      have hLa : Lat wr (wr.alloc (.cells #[a0, a1, a2, a3, a4, a5, a6, a7, a8, a9, a10, a11, a12, a13, a14] 50)) := Lat.al _ _
      have hbn : Blk (wr.alloc (.cells #[a0, a1, a2, a3, a4, a5, a6, a7, a8, a9, a10, a11, a12, a13, a14] 50)) wr.heap.size 50 (ER.f ps[q].1).toArray := by
        show Blk _ _ _ (rC ps[q].1).toArray
        rw [hRC]
        exact Blk.new _ _ _
      have hl9 : (((ps.map Prod.fst).reverse).take j).length ≤ 1000 := by rw [List.length_take]; omega
      have h9a := h9.lat hLa
      have H10 := Lib.hid (h10.lat hLa)
      have H11 := Lib.hid (h11.lat hLa)
      have HLA := Lib.hid (hLW.trans hLa)
      have hLs := HLA.out.size
      have hmax : (((ps.map Prod.fst).reverse).take j).length + 1 ≤ maxLen := by unfold maxLen; omega
      have hby : ((((ps.map Prod.fst).reverse).take j).length + 1) * ER.bytes ≤ 140737488355328 := Nat.le_trans (Nat.mul_le_mul_right ER.bytes (by omega : _ ≤ 1000000)) (by decide)
      have HYR := Lib.hid hy
      have HQ := Lib.hid hq
      clear h9 h10 h11 hLa hr1 hRC hy hb2 hq
      go_upto_region 9 with (first | (with_reducible refine wpList_load_at rfl 50 _ rfl b (off + q * 15) rfl _ _ hr2 Try.underlying50 rfl (by kernel_rfl) ?_) | (at_builtin; refine ER.append rfl _ _ rfl w2.heap.size _ _ rfl h9a wr.heap.size 1 ps[q].1 rfl 50 hbn hmax hby hLs ?_; intro va wa howna hga hwa; go_must (have hLwa : Lat w2 wa := HLA.out.grown hga hLs (fun k hk => (h9a.lt k hk).1); have HA1 := Lib.hid (HAP.out.1.grow H10.out hga hwa); have HA2 := Lib.hid (HAP.out.2.1.grow H11.out hga hwa); clear h9a hga hwa hbn hr2)))
      have hcj1 := HC.out j hlt wa hLwa
      have HO9 := Lib.hid howna
      have h10a := HA1.out.2.lat (Lat.al wa (.cells #[.string ps[j].1.name] 9))
      have HL10 := Lib.hid (hLwa.trans (Lat.al wa (.cells #[.string ps[j].1.name] 9)))
      have hLs10 := HL10.out.size
      have hbn10 : Blk (wa.alloc (.cells #[.string ps[j].1.name] 9)) wa.heap.size 9 (ES.f ps[j].1.name).toArray := Blk.new _ _ _
      have hl10 : ((ps.map (fun q => q.1.name)).take j).length ≤ 1000 := by rw [List.length_take]; omega
      have hmax10 : ((ps.map (fun q => q.1.name)).take j).length + 1 ≤ maxLen := by unfold maxLen; omega
      have hby10 : (((ps.map (fun q => q.1.name)).take j).length + 1) * ES.bytes ≤ 140737488355328 := Nat.le_trans (Nat.mul_le_mul_right ES.bytes (by omega : _ ≤ 1000000)) (by decide)
      clear howna hLwa hcj hcq
      go_upto_region 10 with (at_builtin; refine ES.append rfl _ _ rfl w2.heap.size _ _ rfl h10a wa.heap.size 1 ps[j].1.name rfl 9 hbn10 hmax10 hby10 hLs10 ?_; intro vb wb hownb hgb hwb; go_must (have hLwb : Lat w2 wb := HL10.out.grown hgb hLs10 (fun k hk => (h10a.lt k hk).1); have HB1 := Lib.hid (HA1.out.1.symm.grow (HO9.out.lat (Lat.al wa (.cells #[.string ps[j].1.name] 9))) hgb hwb); have HB2 := Lib.hid (HAP.out.2.2.1.grow (HA2.out.2.lat (Lat.al wa (.cells #[.string ps[j].1.name] 9))) hgb hwb); clear h10a hgb hwb hbn10 hcj1))
      have hcq1 := HC.out q hqi wb hLwb
      have HO10 := Lib.hid hownb
      have h11a := HB2.out.2.lat (Lat.al wb (.cells #[.string ps[q].1.name] 9))
      have HL11 := Lib.hid (hLwb.trans (Lat.al wb (.cells #[.string ps[q].1.name] 9)))
      have hLs11 := HL11.out.size
      have hbn11 : Blk (wb.alloc (.cells #[.string ps[q].1.name] 9)) wb.heap.size 9 (ES.f ps[q].1.name).toArray := Blk.new _ _ _
      have hl11 : (((ps.map (fun q => q.1.name)).reverse).take j).length ≤ 1000 := by rw [List.length_take]; omega
      have hmax11 : (((ps.map (fun q => q.1.name)).reverse).take j).length + 1 ≤ maxLen := by unfold maxLen; omega
      have hby11 : ((((ps.map (fun q => q.1.name)).reverse).take j).length + 1) * ES.bytes ≤ 140737488355328 := Nat.le_trans (Nat.mul_le_mul_right ES.bytes (by omega : _ ≤ 1000000)) (by decide)
      clear hownb hLwb
      go_upto_region 11 with (at_builtin; refine ES.append rfl _ _ rfl w2.heap.size _ _ rfl h11a wb.heap.size 1 ps[q].1.name rfl 9 hbn11 hmax11 hby11 hLs11 ?_; intro vd wd hownd hgd hwd; go_must (have hLwd : Lat w2 wd := HL11.out.grown hgd hLs11 (fun k hk => (h11a.lt k hk).1); have HD1 := Lib.hid (HA2.out.1.symm); have HD2 := Lib.hid (HB2.out.1.symm.grow (HO10.out.lat (Lat.al wb (.cells #[.string ps[q].1.name] 9))) hgd hwd); have HD3 := Lib.hid (HD1.out.grow (HB1.out.2.lat (Lat.al wb (.cells #[.string ps[q].1.name] 9))) hgd hwd); clear h11a hgd hwd hbn11 hcq1))
      have hsl : ∀ w, (Instr.slice 23 (.slice (some ⟨b, off, none⟩) ps.length m) none (some (.int .i64 j)) none).run Try.prog w = .ok (.slice (some ⟨b, off, none⟩) j m) w := by
        have h := run_toX ER (xs := ps.map Prod.fst) (A := some ⟨b, off, none⟩) (c := m) (w0 := w) (by rw [List.length_map]; exact HYR.out.1) (by rw [List.length_map]; exact hcap) j (by rw [List.length_map]; omega)
        simp only [List.length_map] at h
        exact h
      generalize wd = w5 at *
      go_wp2_with fail
      go_loopw [70] (fun ii wq => ∃ k : Nat, k ≤ j ∧ ii = .int .i64 k ∧ Hid (∀ (x : Nat) (hx : x < ps.length), x < k → ps[x].1.name ≠ ps[j].1.name) ∧ Lat w5 wq) (fun ii _ => j - (intOf ii).toNat)
      case atStart => exact ⟨0, Nat.zero_le _, rfl, Lib.hid (fun x _ h => by omega), Lat.refl _⟩
      case round =>
        obtain ⟨k, hkl, rfl, HK, hLQ⟩ := hrel
        by_cases hlk : k < j
        · have hkp : k < ps.length := by omega
          have hL5 := hLwd.trans hLQ
          obtain ⟨b3, off3, hA3, hb3, hr3, -⟩ := (HYR.out.lat (hL2.trans hL5)).row k hkp
          injection hA3 with e
          injection e with e1 e2
          subst e1 e2
          have hck : wr.cell? ⟨b, off + k * 15, none⟩ = some (.string ps[k].1.name) := hr3 0 _ rfl
          have hcj0 : wr.cell? ⟨b, off + j * 15, none⟩ = some (.string ps[j].1.name) := HC.out j hlt wr hL5
          have HNK : Hid (∀ (x : Nat) (hx : x < ps.length), ps[k].1.name ≠ ps[j].1.name → x < k + 1 → ps[x].1.name ≠ ps[j].1.name) := Lib.hid (fun x hx hne hlt => by
            by_cases e : x = k
            · subst e; exact hne
            · exact HK.out x hx (by omega))
          clear hck HK
          generalize ps[k].1 = P at *
          obtain ⟨x1, x2, x3, x4, x5, ⟨y1, y2, y3, y4, y5, y6, y7, y8, y9, y10⟩, x6, x7, x8, x9, x10, x11⟩ := P
          simp only [rC] at hr3
          dsimp only at HNK
          have hLx : Lat wr (wr.alloc (.cells #[.string x1, .int .i64 x2, .slice x3 x4 x5, .int .i64 y1, .int .i64 y2, .int .i64 y3, .string y4, .int .i64 y5, .int .i64 y6, .string y7, .int .i64 y8, .string y9, .string y10, .slice x6 x7 x8, .slice x9 x10 x11] 50)) := Lat.al _ _
          have hbx := Blk.new wr 50 #[.string x1, .int .i64 x2, .slice x3 x4 x5, .int .i64 y1, .int .i64 y2, .int .i64 y3, .string y4, .int .i64 y5, .int .i64 y6, .string y7, .int .i64 y8, .string y9, .string y10, .slice x6 x7 x8, .slice x9 x10 x11]
          have hcj : (wr.alloc (.cells #[.string x1, .int .i64 x2, .slice x3 x4 x5, .int .i64 y1, .int .i64 y2, .int .i64 y3, .string y4, .int .i64 y5, .int .i64 y6, .string y7, .int .i64 y8, .string y9, .string y10, .slice x6 x7 x8, .slice x9 x10 x11] 50)).cell? ⟨b, off + j * 15, none⟩ = some (.string ps[j].1.name) := (hLx.cell (p := ⟨b, off + j * 15, none⟩) hb3).trans hcj0
          have hbw := Nat.lt_of_lt_of_le hb3 hLx.size
          have hLQx := hLQ.trans hLx
          clear hcj0 hLx hLQ
          go_upto_region 14 with (with_reducible refine wpList_load_at rfl 50 _ rfl b (off + k * 15) rfl _ _ hr3 Try.underlying50 rfl (by kernel_rfl) ?_)
          clear hr3 HYR
          by_cases he : x1 = ps[j].1.name
          · have hb4 : (x1.toList == ps[j].1.name.toList) = true := by rw [he]; simp
            have hL7 := hL2.trans hLwd
            clear he HNK
            refine wp_rely (by kernel_rfl) (by kernel_rfl) ?_
            apply RelyL.val
            · intro ν w' hL hF K hK'
              have c1 := (hbx.lat hL).cell
              have c2 := (hL.cell (p := ⟨b, off + j * 15, none⟩) hbw).trans hcj
              go_simp
              exact hK'.out _ _ rfl (Lat.refl _)
            simp only [Act.put, List.setIfInBounds_toArray, List.set_cons_zero, List.set_cons_succ, Nat.reduceAdd]
            apply RelyL.val
            · intro ν w' hL hF K hK'
              have c1 := (hbx.lat hL).cell
              have c2 := (hL.cell (p := ⟨b, off + j * 15, none⟩) hbw).trans hcj
              go_simp
              exact hK'.out _ _ rfl (Lat.refl _)
            simp only [Act.put, List.setIfInBounds_toArray, List.set_cons_zero, List.set_cons_succ, Nat.reduceAdd]
            apply RelyL.val
            · intro ν w' hL hF K hK'
              have c1 := (hbx.lat hL).cell
              have c2 := (hL.cell (p := ⟨b, off + j * 15, none⟩) hbw).trans hcj
              go_simp
              exact hK'.out _ _ rfl (Lat.refl _)
            simp only [Act.put, List.setIfInBounds_toArray, List.set_cons_zero, List.set_cons_succ, Nat.reduceAdd]
            apply RelyL.val
            · intro ν w' hL hF K hK'
              have c1 := (hbx.lat hL).cell
              have c2 := (hL.cell (p := ⟨b, off + j * 15, none⟩) hbw).trans hcj
              go_simp
              exact hK'.out _ _ rfl (Lat.refl _)
            simp only [Act.put, List.setIfInBounds_toArray, List.set_cons_zero, List.set_cons_succ, Nat.reduceAdd]
            apply RelyL.val
            · intro ν w' hL hF K hK'
              have c1 := (hbx.lat hL).cell
              have c2 := (hL.cell (p := ⟨b, off + j * 15, none⟩) hbw).trans hcj
              go_simp
              exact hK'.out _ _ rfl (Lat.refl _)
            simp only [Act.put, List.setIfInBounds_toArray, List.set_cons_zero, List.set_cons_succ, Nat.reduceAdd]
            apply RelyL.val
            · intro ν w' hL hF K hK'
              have c1 := (hbx.lat hL).cell
              have c2 := (hL.cell (p := ⟨b, off + j * 15, none⟩) hbw).trans hcj
              go_simp
              exact hK'.out _ _ rfl (Lat.refl _)
            simp only [Act.put, List.setIfInBounds_toArray, List.set_cons_zero, List.set_cons_succ, Nat.reduceAdd]
            apply RelyL.val
            · intro ν w' hL hF K hK'
              have c1 := (hbx.lat hL).cell
              have c2 := (hL.cell (p := ⟨b, off + j * 15, none⟩) hbw).trans hcj
              go_simp
              exact hK'.out _ _ rfl (Lat.refl _)
            simp only [Act.put, List.setIfInBounds_toArray, List.set_cons_zero, List.set_cons_succ, Nat.reduceAdd]
            apply RelyL.val
            · intro ν w' hL hF K hK'
              have c1 := (hbx.lat hL).cell
              have c2 := (hL.cell (p := ⟨b, off + j * 15, none⟩) hbw).trans hcj
              go_simp
              exact hK'.out _ _ rfl (Lat.refl _)
            simp only [Act.put, List.setIfInBounds_toArray, List.set_cons_zero, List.set_cons_succ, Nat.reduceAdd]
            refine RelyL.done fun ν w6 hL hF => ?_
            have hL6 := hLQx.trans hL
            clear hF hL hLQx hcj hbx hbw
            have hL8 := hL7.trans hL6
            go_wp2_with fail
            refine (HAW.out _).mono ?_
            rintro r w9 ⟨rfl, hl9⟩
            have hL9 := hL8.trans hl9
            clear HAW
            go_wp2_with fail
            go_ret
            exact ⟨rfl, hL9⟩
          · have hb4 : (x1.toList == ps[j].1.name.toList) = false := by rw [toList_beq]; simpa using he
            have HN2 := Lib.hid (fun x hx h => HNK.out x hx he h)
            clear he HNK
            refine wp_rely (by kernel_rfl) (by kernel_rfl) ?_
            apply RelyL.val
            · intro ν w' hL hF K hK'
              have c1 := (hbx.lat hL).cell
              have c2 := (hL.cell (p := ⟨b, off + j * 15, none⟩) hbw).trans hcj
              go_simp
              exact hK'.out _ _ rfl (Lat.refl _)
            simp only [Act.put, List.setIfInBounds_toArray, List.set_cons_zero, List.set_cons_succ, Nat.reduceAdd]
            apply RelyL.val
            · intro ν w' hL hF K hK'
              have c1 := (hbx.lat hL).cell
              have c2 := (hL.cell (p := ⟨b, off + j * 15, none⟩) hbw).trans hcj
              go_simp
              exact hK'.out _ _ rfl (Lat.refl _)
            simp only [Act.put, List.setIfInBounds_toArray, List.set_cons_zero, List.set_cons_succ, Nat.reduceAdd]
            apply RelyL.val
            · intro ν w' hL hF K hK'
              have c1 := (hbx.lat hL).cell
              have c2 := (hL.cell (p := ⟨b, off + j * 15, none⟩) hbw).trans hcj
              go_simp
              exact hK'.out _ _ rfl (Lat.refl _)
            simp only [Act.put, List.setIfInBounds_toArray, List.set_cons_zero, List.set_cons_succ, Nat.reduceAdd]
            apply RelyL.val
            · intro ν w' hL hF K hK'
              have c1 := (hbx.lat hL).cell
              have c2 := (hL.cell (p := ⟨b, off + j * 15, none⟩) hbw).trans hcj
              go_simp
              exact hK'.out _ _ rfl (Lat.refl _)
            simp only [Act.put, List.setIfInBounds_toArray, List.set_cons_zero, List.set_cons_succ, Nat.reduceAdd]
            apply RelyL.val
            · intro ν w' hL hF K hK'
              have c1 := (hbx.lat hL).cell
              have c2 := (hL.cell (p := ⟨b, off + j * 15, none⟩) hbw).trans hcj
              go_simp
              exact hK'.out _ _ rfl (Lat.refl _)
            simp only [Act.put, List.setIfInBounds_toArray, List.set_cons_zero, List.set_cons_succ, Nat.reduceAdd]
            apply RelyL.val
            · intro ν w' hL hF K hK'
              have c1 := (hbx.lat hL).cell
              have c2 := (hL.cell (p := ⟨b, off + j * 15, none⟩) hbw).trans hcj
              go_simp
              exact hK'.out _ _ rfl (Lat.refl _)
            simp only [Act.put, List.setIfInBounds_toArray, List.set_cons_zero, List.set_cons_succ, Nat.reduceAdd]
            apply RelyL.val
            · intro ν w' hL hF K hK'
              have c1 := (hbx.lat hL).cell
              have c2 := (hL.cell (p := ⟨b, off + j * 15, none⟩) hbw).trans hcj
              go_simp
              exact hK'.out _ _ rfl (Lat.refl _)
            simp only [Act.put, List.setIfInBounds_toArray, List.set_cons_zero, List.set_cons_succ, Nat.reduceAdd]
            apply RelyL.val
            · intro ν w' hL hF K hK'
              have c1 := (hbx.lat hL).cell
              have c2 := (hL.cell (p := ⟨b, off + j * 15, none⟩) hbw).trans hcj
              go_simp
              exact hK'.out _ _ rfl (Lat.refl _)
            simp only [Act.put, List.setIfInBounds_toArray, List.set_cons_zero, List.set_cons_succ, Nat.reduceAdd]
            refine RelyL.done fun ν w6 hL hF => ?_
            have hL6 := hLQx.trans hL
            clear hF hL hLQx hcj hbx hbw
            go_wp2_with fail
            go_roundw
            case rel => exact ⟨k + 1, by omega, by go_num, HN2, hL6⟩
            case measure => simp [intOf]; omega
        · have hk : k = j := by omega
          subst hk
          have hqe : q = ps.length - 1 - k := by have := HQ.out; omega
          have e9 : Hid ((ps.map Prod.fst).reverse.take (k + 1) = (ps.map Prod.fst).reverse.take k ++ [ps[q].1]) := Lib.hid (by
            subst hqe
            rw [rev_take _ _ (by rw [List.length_map]; omega)]
            simp)
          have e10 : Hid ((ps.map (fun q => q.1.name)).take (k + 1) = (ps.map (fun q => q.1.name)).take k ++ [ps[k].1.name]) := Lib.hid (map_one_take ps k hlt)
          have e11 : Hid ((ps.map (fun q => q.1.name)).reverse.take (k + 1) = (ps.map (fun q => q.1.name)).reverse.take k ++ [ps[q].1.name]) := Lib.hid (by
            subst hqe
            rw [rev_take _ _ (by rw [List.length_map]; omega)]
            simp)
          have g9 := HD3.out.2.lat hLQ
          have g10 := HD2.out.2.lat hLQ
          have g11 := hownd.lat hLQ
          have HAP2 : Hid (ApartV va vb ∧ ApartV va vd ∧ ApartV vb vd ∧ Unlike (ps.take (k + 1))) := Lib.hid ⟨HB1.out.1.symm, HD3.out.1.symm, HD2.out.1.symm, unlike_step HAP.out.2.2.2 hlt HK.out⟩
          have hL5 := hLwd.trans hLQ
          clear HAP HK HQ hqe HLA HL10 HL11 HA1 HA2 HB1 HB2 HD1 HD2 HD3 HO9 HO10 hownd hLQ
          go_wp2_with fail
          go_roundw
          case rel => exact ⟨k + 1, by omega, by go_num, by rw [e9.out]; exact g9, by rw [e10.out]; exact g10, by rw [e11.out]; exact g11, HAP2, hL5⟩
          case measure => simp [intOf]; omega
    · have hj : j = ps.length := by omega
      subst hj
      have hL3 := hL2.trans hLW
      have hb3 := hb2.lat hLW
      have e9 : ((ps.map Prod.fst).reverse).take ps.length = ps.reverse.map Prod.fst := by rw [List.take_of_length_le (by simp), List.map_reverse]
      have e10 : (ps.map (fun q => q.1.name)).take ps.length = ps.map (fun q => q.1.name) := List.take_of_length_le (by simp)
      have e11 : ((ps.map (fun q => q.1.name)).reverse).take ps.length = (ps.map (fun q => q.1.name)).reverse := List.take_of_length_le (by simp)
      rw [e9] at h9
      rw [e10] at h10
      rw [e11] at h11
      have hU : Unlike ps := by have := HAP.out.2.2.2; rwa [List.take_length] at this
      have hy9 : RdR wr ps.reverse u9 := ⟨h9.rd, fun p hp => (hy.lat hL3).2 p (List.mem_reverse.1 hp)⟩
      have n10 := h10.rd
      have n11 := h11.rd
      obtain ⟨A9, c9, rfl⟩ := hy9.slice
      obtain ⟨A10, c10, rfl⟩ := rd_slice n10
      obtain ⟨A11, c11, rfl⟩ := rd_slice n11
      have hf1 : ps.length ≤ 100000 := by have := hf.out.rules; omega
      have hf2 : ∀ p ∈ ps, p.2.on.length ≤ 1000000 := fun p hp => by have := hf.out.ons p hp; omega
      have hf3 : ps.reverse.length ≤ 100000 := by rw [List.length_reverse]; exact hf1
      have hf4 : ∀ p ∈ ps.reverse, p.2.on.length ≤ 1000000 := fun p hp => hf2 p (List.mem_reverse.1 hp)
      have hn10 : (ps.map (fun q => q.1.name)).length ≤ 1000000 := by rw [List.length_map]; omega
      have hn11 : (ps.map (fun q => q.1.name)).reverse.length ≤ 1000000 := by rw [List.length_reverse]; exact hn10
      have HU1 := fun (w' : World) (h : Lat wr w') => Lib.hid (update_any l A c ps B m V _ now w' (hx.lat (hL3.trans h)) (hy.lat (hL3.trans h)) ((HV.out.carry (hL3.trans h)).mono (hL3.trans h).size) hf1 hf2)
      have HU2 := fun (w' : World) (h : Lat wr w') => Lib.hid (update_any l A c ps.reverse A9 c9 V _ now w' (hx.lat (hL3.trans h)) (hy9.lat h) ((HV.out.carry (hL3.trans h)).mono (hL3.trans h).size) hf3 hf4)
      have HN1 := fun (w' : World) (h : Lat wr w') => Lib.hid (next_any l A c ps B m w' (hx.lat (hL3.trans h)) (hy.lat (hL3.trans h)) hf1 hf2)
      have HN2 := fun (w' : World) (h : Lat wr w') => Lib.hid (next_any l A c ps.reverse A9 c9 w' (hx.lat (hL3.trans h)) (hy9.lat h) hf3 hf4)
      have HD1 := fun (w' : World) (h : Lat wr w') => Lib.hid (due_any l A c ps B m now w' (hx.lat (hL3.trans h)) (hy.lat (hL3.trans h)) hf1 hf2)
      have HD2 := fun (w' : World) (h : Lat wr w') => Lib.hid (due_any l A c ps.reverse A9 c9 now w' (hx.lat (hL3.trans h)) (hy9.lat h) hf3 hf4)
      have HM1 := fun (w' : World) (h : Lat wr w') => Lib.hid (mark_any l A c _ A10 c10 w' (hx.1.lat (hL3.trans h)) (n10.lat h) hn10)
      have HM2 := fun (w' : World) (h : Lat wr w') => Lib.hid (mark_any l A c _ A11 c11 w' (hx.1.lat (hL3.trans h)) (n11.lat h) hn11)
      simp only [holdsP_rev hU] at HU2 HN2 HD2
      simp only [markP_rev] at HM2
      have HUL : (updP V (holdsP ps) (validP l) now).length ≤ 40 := Nat.le_trans (updP_len _ _ _ _) (holdsP_len ps)
      have HDL : (dueP (holdsP ps) (validP l) now).length ≤ 40 := Nat.le_trans (dueP_len _ _ _) (holdsP_len ps)
      have HML := markP_len l (ps.map (fun q => q.1.name))
      generalize updP V (holdsP ps) (validP l) now = U at *
      generalize dueP (holdsP ps) (validP l) now = D at *
      generalize markP l (ps.map (fun q => q.1.name)) = M at *
      generalize nextP (holdsP ps) (validP l) = R at *
      obtain ⟨n, ok⟩ := R
      clear HAP HV h9 h10 h11 e9 e10 e11 hU hf hf1 hf2 hf3 hf4 hn10 hn11 hx hy hb2 hjl
      generalize ps.reverse = pr at *
      generalize ps.map (fun q => q.1.name) = NM at *
      generalize NM.reverse = NR at *
      clear hy9 n10 n11
      have hrv : RowAt wr w.heap.size 0 [.slice IA V.items.length ic, .string V.mode, .int .i64 V.minute, .slice MA V.members.length mc] := hb3.row
      have HU1 := HU1 wr (Lat.refl _)
      go_wp2_with (refine wpList_load_atG rfl 38 _ rfl w.heap.size 0 rfl _ _ hrv Try.underlying38 rfl (by kernel_rfl) ?_)
      refine HU1.out.mono ?_
      rintro r w3 ⟨⟨v, rfl, q1⟩, hl⟩
      obtain ⟨A21, c21, rfl⟩ := rd_slice q1
      have hM3 := hl
      have HN1 := HN1 w3 hM3
      have hb4 := hb3.lat hl
      have hrv : RowAt w3 w.heap.size 0 [.slice IA V.items.length ic, .string V.mode, .int .i64 V.minute, .slice MA V.members.length mc] := hb4.row
      clear HU1 hl hb3
      go_wp2_with fail
      refine HN1.out.mono ?_
      rintro r w4 ⟨rfl, hl⟩
      have hM4 := hM3.trans hl
      have HN2 := HN2 w4 hM4
      have q1 := q1.lat hl
      have hb5 := hb4.lat hl
      clear HN1 hl hM3 hrv hb4
      go_wp2_with fail
      refine HN2.out.mono ?_
      rintro r w5 ⟨rfl, hl⟩
      have hM5 := hM4.trans hl
      have HU2 := HU2 w5 hM5
      have q1 := q1.lat hl
      have hb6 := hb5.lat hl
      have hrv : RowAt w5 w.heap.size 0 [.slice IA V.items.length ic, .string V.mode, .int .i64 V.minute, .slice MA V.members.length mc] := hb6.row
      clear HN2 hl hM4 hb5
      go_wp2_with (refine wpList_load_atG rfl 38 _ rfl w.heap.size 0 rfl _ _ hrv Try.underlying38 rfl (by kernel_rfl) ?_)
      refine HU2.out.mono ?_
      rintro r w6 ⟨⟨v, rfl, q2⟩, hl⟩
      obtain ⟨A22, c22, rfl⟩ := rd_slice q2
      have hM6 := hM5.trans hl
      have HS := Lib.hid (rsame_self U A21 A22 c21 c22 w6 (q1.lat hl) q2 (by omega))
      clear HU2 hl hM5 hb6 hrv q1 q2 HUL
      go_wp2_with fail
      refine HS.out.mono ?_
      rintro r w7 ⟨rfl, hl⟩
      have hM7 := hM6.trans hl
      have HD1 := HD1 w7 hM7
      clear HS hl hM6
      cases ok <;>
      · go_wp2_with fail
        refine HD1.out.mono ?_
        rintro r w8 ⟨⟨v, rfl, q1⟩, hl⟩
        obtain ⟨A21, c21, rfl⟩ := rd_slice q1
        have hM8 := hM7.trans hl
        have HD2 := HD2 w8 hM8
        clear HD1 hl hM7
        go_wp2_with fail
        refine HD2.out.mono ?_
        rintro r w10 ⟨⟨v, rfl, q2⟩, hl⟩
        obtain ⟨A22, c22, rfl⟩ := rd_slice q2
        have hM10 := hM8.trans hl
        have HS := Lib.hid (nsame_self D A21 A22 c21 c22 w10 (q1.lat hl) q2 (by omega))
        clear HD2 hl hM8 q1 q2 HDL
        go_wp2_with fail
        refine HS.out.mono ?_
        rintro r w11 ⟨rfl, hl⟩
        have hM11 := hM10.trans hl
        have HM1 := HM1 w11 hM11
        clear HS hl hM10
        go_wp2_with fail
        refine HM1.out.mono ?_
        rintro r w12 ⟨⟨v, rfl, q1⟩, hl⟩
        obtain ⟨A21, c21, rfl⟩ := rd_slice q1
        have hM12 := hM11.trans hl
        have HM2 := HM2 w12 hM12
        clear HM1 hl hM11
        go_wp2_with fail
        refine HM2.out.mono ?_
        rintro r w13 ⟨⟨v, rfl, q2⟩, hl⟩
        obtain ⟨A22, c22, rfl⟩ := rd_slice q2
        have hM13 := hM12.trans hl
        have HS := Lib.hid (rsame_self M A21 A22 c21 c22 w13 (q1.lat hl) q2 (by omega))
        clear HM2 hl hM12 q1 q2 HML
        go_wp2_with fail
        refine HS.out.mono ?_
        rintro r w14 ⟨rfl, hl⟩
        have hM14 := hL3.trans (hM13.trans hl)
        clear HS hl hM13
        go_wp2_with fail
        refine (HAW.out _).mono ?_
        rintro r w9 ⟨rfl, hl9⟩
        have hL9 := hM14.trans hl9
        clear HAW
        go_wp2_with fail
        go_ret
        exact ⟨rfl, hL9⟩
end Go.Proofs.Ytafodibbcfoclaa
