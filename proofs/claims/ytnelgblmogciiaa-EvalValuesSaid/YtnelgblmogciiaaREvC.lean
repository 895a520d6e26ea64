/- The reference's value of an attribute; what values valid expressions have. -/
import Derived.Test.YtnelgblmogciiaaREvB
set_option linter.unusedSimpArgs false
set_option linter.unusedVariables false
namespace Go.Proofs.Ytnelgblmogciiaa
open Go.RowKit

theorem ba_nil {s : ByteArray} (h : s.size = 0) : s = noStr := (toList_inj _ _).1 (((toList_nil s).2 h).trans ((toList_nil noStr).2 rfl).symm)
theorem valCheck_zero {k n : Int} {s : ByteArray} (h : valCheck k n s = 0) : valOk k n ∧ (k ≠ 4 → s = noStr) := by
  unfold valCheck at h
  by_cases h1 : k < 0 ∨ 4 < k
  · rw [if_pos h1] at h; cases h
  rw [if_neg h1] at h
  by_cases h2 : valOk k n
  · rw [if_neg (fun h' => h' h2)] at h
    refine ⟨h2, fun h4 => ?_⟩
    by_cases h3 : 60 < s.size
    · rw [if_pos h3] at h; cases h
    rw [if_neg h3] at h
    by_cases h5 : s.size ≠ 0 ∧ k ≠ 4
    · rw [if_pos h5] at h; cases h
    · exact ba_nil (by omega)
  · rw [if_pos h2] at h; cases h
set_option maxRecDepth 100000 in
set_option maxHeartbeats 2000000 in
theorem rattr_any (V : LView) (vc : List Value) (d : Int) (cl at_ : ByteArray) (B : Nat) (w : World) (hB : B ≤ w.heap.size) (hv : IsView B w V vc) :
    Calls Try.prog 77 #[.agg vc.toArray, .agg #[.int .i64 d, .string cl, .string at_]] w fun r w' => r = .returned (attrE V.items d cl at_).val ∧ Below w.heap.size w w' := by
  obtain ⟨IA, ic, MA, mc, rfl, hI, _, _, hil, _⟩ := hv
  obtain ⟨l, vm, vt, ms⟩ := V
  dsimp only at hI hil ⊢
  generalize ms.length = ml at *
  go_enter Try.func77, Try.ntmps77
  go_wp2_with fail
  go_loopw [5] (fun i wr => ∃ k : Nat, k ≤ l.length ∧ i = .int .i64 k ∧ Hid (attrE l d cl at_ = attrE (l.drop k) d cl at_) ∧ Below w.heap.size w wr ∧
      Blk wr w.heap.size 25 #[.slice IA l.length ic, .string vm, .int .i64 vt, .slice MA ml mc] ∧ Blk wr (w.heap.size + 1) 29 #[.int .i64 d, .string cl, .string at_] ∧ Blk wr (w.heap.size + 1 + 1) 27 #[.int .i64 0, .int .i64 0, .string { data := #[] }]) (fun i _ => l.length - (intOf i).toNat)
  case atStart => exact ⟨0, Nat.zero_le _, rfl, rfl, (((Below.refl _ _).al _).al _).al _, ((Blk.new _ _ _).alloc _).alloc _, (Blk.at1 _ _ _ _).alloc _, Blk.at2 _ _ _ _ _⟩
  case round =>
    obtain ⟨k, hkl, rfl, HH, hbw, kV, kK, kR⟩ := hrel
    have cV := kV.cell
    by_cases hlk : k < l.length
    · obtain ⟨b, off, rfl, hbB, hrow⟩ := hI (by simp; omega)
      have hbl : b < wr.heap.size := by have := hbw.size; omega
      have hr1 := (hrow k (by simpa using hlk)).below hbw (Nat.lt_of_lt_of_le hbB hB)
      have hst := HH.out
      rw [List.drop_eq_getElem_cons hlk] at hst
      rw [attrE] at hst
      simp only [List.getElem_map] at hr1
      clear HH hrow hI
      generalize l[k] = x at *
      obtain ⟨md, mcl, mat, mvk, mvn, mvs, mver⟩ := x
      simp only [LItem.cells] at hr1
      dsimp only at hst
      have hk1 : RowAt wr b (off + k * 7) [.int .i64 md, .string mcl, .string mat] := (rowAt_app (r := [.int .i64 md, .string mcl, .string mat])).1 hr1 |>.1
      have hv1 : RowAt wr b (off + k * 7 + 3) [.int .i64 mvk, .int .i64 mvn, .string mvs] := (rowAt_app (r := [.int .i64 mvk, .int .i64 mvn, .string mvs])).1 ((rowAt_app (r := [.int .i64 md, .string mcl, .string mat])).1 hr1).2 |>.1
      clear hr1
      by_cases e1 : md = d
      · by_cases e2 : mcl = cl
        · by_cases e3 : mat = at_
          · subst e1 e2 e3
            rw [if_pos ⟨rfl, rfl, rfl⟩, itemE] at hst
            go_upto_region 4 with fail
            clear cV
            refine wp_rely (by kernel_rfl) (by kernel_rfl) ?_
            apply RelyL.val
            · intro ν w' hL hF K hK
              have cV := (kV.lat hL).cell
              go_simp
              exact hK.out _ _ rfl (Lat.refl _)
            simp only [Act.put, List.setIfInBounds_toArray, List.set_cons_zero, List.set_cons_succ, Nat.reduceAdd]
            apply RelyL.val
            · intro ν w' hL hF K hK
              have cV := (kV.lat hL).cell
              go_simp
              exact hK.out _ _ rfl (Lat.refl _)
            simp only [Act.put, List.setIfInBounds_toArray, List.set_cons_zero, List.set_cons_succ, Nat.reduceAdd]
            apply RelyL.val
            · intro ν w' hL hF K hK
              have cV := (kV.lat hL).cell
              go_simp
              exact hK.out _ _ rfl (Lat.refl _)
            simp only [Act.put, List.setIfInBounds_toArray, List.set_cons_zero, List.set_cons_succ, Nat.reduceAdd]
            apply RelyL.val
            · intro ν w' hL hF K hK
              have cV := (kV.lat hL).cell
              go_simp
              exact hK.out _ _ rfl (Lat.refl _)
            simp only [Act.put, List.setIfInBounds_toArray, List.set_cons_zero, List.set_cons_succ, Nat.reduceAdd]
            apply RelyL.val
            · intro ν w' hL hF K hK
              have cV := (kV.lat hL).cell
              go_simp
              exact hK.out _ _ rfl (Lat.refl _)
            simp only [Act.put, List.setIfInBounds_toArray, List.set_cons_zero, List.set_cons_succ, Nat.reduceAdd]
            apply RelyL.val
            · intro ν w' hL hF K hK
              refine take_op rfl ?_
              refine wp_load_at 29 _ rfl b (off + k * 7) rfl _ _ (hk1.below hL hbl) Try.underlying29 rfl (by kernel_rfl) ?_
              exact hK.out _ _ rfl (Lat.refl _)
            simp only [Act.put, List.setIfInBounds_toArray, List.set_cons_zero, List.set_cons_succ, Nat.reduceAdd]
            apply RelyL.val
            · intro ν w' hL hF K hK
              refine take_op rfl ?_
              refine wp_load_blk rfl rfl (kK.lat hL) Try.underlying29 rfl (by kernel_rfl : (Try.prog.info? 29).map (·.size) = some 3) rfl ?_
              exact hK.out _ _ rfl (Lat.refl _)
            simp only [Act.put, List.setIfInBounds_toArray, List.set_cons_zero, List.set_cons_succ, Nat.reduceAdd]
            apply RelyL.val
            · intro ν w' hL hF K hK
              have cV := (kV.lat hL).cell
              go_simp
              exact hK.out _ _ rfl (Lat.refl _)
            simp only [Act.put, List.setIfInBounds_toArray, List.set_cons_zero, List.set_cons_succ, Nat.reduceAdd]
            refine RelyL.done fun ν w1 hL hF => ?_
            clear hF
            have hbw1 := hbw.th hL
            have kV1 := kV.lat hL
            have kK1 := kK.lat hL
            have kR1 := kR.lat hL
            have hv2 := hv1.below hL hbl
            have hl1 := hL.size
            have lR := kR1.lt
            have cV := kV1.cell
            clear hL kV kK kR hv1 hk1 hbw
            have cR := kR1.cell
            have fR := kR1.free
            rcases Bool.eq_false_or_eq_true (valCheck mvk mvn mvs != 0) with hc | hc
            · rw [if_pos (.inr (by simpa using hc))] at hst
              have HST := Lib.hid hst
              clear hst
              go_wp2_with (with_reducible refine wpList_load_at rfl 27 _ rfl b (off + k * 7 + 3) rfl _ _ hv2 Try.underlying27 rfl (by kernel_rfl) ?_)
              refine (rvalCheck_any _ _ _ _).mono ?_
              rintro r w2 ⟨rfl, hb2⟩
              have kR2 := kR1.below hb2
              have hs2 := hb2.size
              clear cR fR cV
              have cR := kR2.cell
              have fR := kR2.free
              go_wp2_with fail
              refine bodyPost_ret (v := ?_) ?_ rfl ?_
              rotate_left
              · simp [results, Try.results77, go_sem, cR]; exact rfl
              refine ⟨by rw [HST.out]; rfl, ?_⟩
              (repeat (first | exact Below.refl _ _ | refine Below.al ?_ _ | refine Below.st ?_ (by simp; try omega) _ | refine Below.th ?_ (by assumption)))
            · have hc0 : valCheck mvk mvn mvs = 0 := by simpa using hc
              have hE : attrE l md mcl mat = ⟨mvk, mvn, mvs, true⟩ ∨ attrE l md mcl mat = unknownE ∧ mvk = 0 ∧ mvn = 0 ∧ mvs = noStr := by
                by_cases hk0 : mvk = 0
                · rw [if_pos (.inl hk0)] at hst
                  obtain ⟨v1, v2⟩ := valCheck_zero hc0
                  unfold valOk at v1
                  exact .inr ⟨hst, hk0, by omega, v2 (by omega)⟩
                · rw [if_neg (by simp [hk0, hc0])] at hst
                  exact .inl hst
              have hE2 : (attrE l md mcl mat).val = .agg #[.int .i64 mvk, .int .i64 mvn, .string mvs] := by
                rcases hE with h | ⟨h, h1, h2, h3⟩
                · rw [h]
                · rw [h, h1, h2, h3]; rfl
              have HST := Lib.hid hE2
              clear hst hE hE2 hc0
              go_wp2_with (with_reducible refine wpList_load_at rfl 27 _ rfl b (off + k * 7 + 3) rfl _ _ hv2 Try.underlying27 rfl (by kernel_rfl) ?_)
              refine (rvalCheck_any _ _ _ _).mono ?_
              rintro r w2 ⟨rfl, hb2⟩
              have kR2 := kR1.below hb2
              have cV2 := (kV1.below hb2).cell
              have hv3 := hv2.below hb2 (by omega)
              have hs2 := hb2.size
              clear cR fR cV hv2
              have hv2 := hv3
              have cR := kR2.cell
              have fR := kR2.free
              go_wp2_with (with_reducible refine wpList_load_at rfl 27 _ rfl b (off + k * 7 + 3) rfl _ _ hv2 Try.underlying27 rfl (by kernel_rfl) ?_)
              refine bodyPost_ret (v := ?_) ?_ rfl ?_
              rotate_left
              · simp [results, Try.results77, go_sem, cR]; exact rfl
              refine ⟨by rw [HST.out], ?_⟩
              (repeat (first | exact Below.refl _ _ | refine Below.al ?_ _ | refine Below.st ?_ (by simp; try omega) _ | refine Below.th ?_ (by assumption)))
          · subst e1 e2
            obtain ⟨q1, q2, q3⟩ := sne e3
            rw [if_neg (fun h => e3 h.2.2)] at hst
            have HST := Lib.hid hst
            clear hst
            go_upto_region 4 with fail
            clear cV
            refine wp_rely (by kernel_rfl) (by kernel_rfl) ?_
            apply RelyL.val
            · intro ν w' hL hF K hK
              have cV := (kV.lat hL).cell
              go_simp
              exact hK.out _ _ rfl (Lat.refl _)
            simp only [Act.put, List.setIfInBounds_toArray, List.set_cons_zero, List.set_cons_succ, Nat.reduceAdd]
            apply RelyL.val
            · intro ν w' hL hF K hK
              have cV := (kV.lat hL).cell
              go_simp
              exact hK.out _ _ rfl (Lat.refl _)
            simp only [Act.put, List.setIfInBounds_toArray, List.set_cons_zero, List.set_cons_succ, Nat.reduceAdd]
            apply RelyL.val
            · intro ν w' hL hF K hK
              have cV := (kV.lat hL).cell
              go_simp
              exact hK.out _ _ rfl (Lat.refl _)
            simp only [Act.put, List.setIfInBounds_toArray, List.set_cons_zero, List.set_cons_succ, Nat.reduceAdd]
            apply RelyL.val
            · intro ν w' hL hF K hK
              have cV := (kV.lat hL).cell
              go_simp
              exact hK.out _ _ rfl (Lat.refl _)
            simp only [Act.put, List.setIfInBounds_toArray, List.set_cons_zero, List.set_cons_succ, Nat.reduceAdd]
            apply RelyL.val
            · intro ν w' hL hF K hK
              have cV := (kV.lat hL).cell
              go_simp
              exact hK.out _ _ rfl (Lat.refl _)
            simp only [Act.put, List.setIfInBounds_toArray, List.set_cons_zero, List.set_cons_succ, Nat.reduceAdd]
            apply RelyL.val
            · intro ν w' hL hF K hK
              refine take_op rfl ?_
              refine wp_load_at 29 _ rfl b (off + k * 7) rfl _ _ (hk1.below hL hbl) Try.underlying29 rfl (by kernel_rfl) ?_
              exact hK.out _ _ rfl (Lat.refl _)
            simp only [Act.put, List.setIfInBounds_toArray, List.set_cons_zero, List.set_cons_succ, Nat.reduceAdd]
            apply RelyL.val
            · intro ν w' hL hF K hK
              refine take_op rfl ?_
              refine wp_load_blk rfl rfl (kK.lat hL) Try.underlying29 rfl (by kernel_rfl : (Try.prog.info? 29).map (·.size) = some 3) rfl ?_
              exact hK.out _ _ rfl (Lat.refl _)
            simp only [Act.put, List.setIfInBounds_toArray, List.set_cons_zero, List.set_cons_succ, Nat.reduceAdd]
            apply RelyL.val
            · intro ν w' hL hF K hK
              have cV := (kV.lat hL).cell
              go_simp
              exact hK.out _ _ rfl (Lat.refl _)
            simp only [Act.put, List.setIfInBounds_toArray, List.set_cons_zero, List.set_cons_succ, Nat.reduceAdd]
            refine RelyL.done fun ν w1 hL hF => ?_
            clear hF
            have hbw1 := hbw.th hL
            have kV1 := kV.lat hL
            have kK1 := kK.lat hL
            have kR1 := kR.lat hL
            have hv2 := hv1.below hL hbl
            have hl1 := hL.size
            have lR := kR1.lt
            have cV := kV1.cell
            clear hL kV kK kR hv1 hk1 hbw
            clear hv2
            go_wp2_with fail
            go_roundw
            case rel => exact ⟨k + 1, by omega, by go_num, HST, hbw1, kV1, kK1, kR1⟩
            case measure => simp [intOf]; omega
        · subst e1
          obtain ⟨q1, q2, q3⟩ := sne e2
          rw [if_neg (fun h => e2 h.2.1)] at hst
          have HST := Lib.hid hst
          clear hst
          go_upto_region 4 with fail
          clear cV
          refine wp_rely (by kernel_rfl) (by kernel_rfl) ?_
          apply RelyL.val
          · intro ν w' hL hF K hK
            have cV := (kV.lat hL).cell
            go_simp
            exact hK.out _ _ rfl (Lat.refl _)
          simp only [Act.put, List.setIfInBounds_toArray, List.set_cons_zero, List.set_cons_succ, Nat.reduceAdd]
          apply RelyL.val
          · intro ν w' hL hF K hK
            have cV := (kV.lat hL).cell
            go_simp
            exact hK.out _ _ rfl (Lat.refl _)
          simp only [Act.put, List.setIfInBounds_toArray, List.set_cons_zero, List.set_cons_succ, Nat.reduceAdd]
          apply RelyL.val
          · intro ν w' hL hF K hK
            have cV := (kV.lat hL).cell
            go_simp
            exact hK.out _ _ rfl (Lat.refl _)
          simp only [Act.put, List.setIfInBounds_toArray, List.set_cons_zero, List.set_cons_succ, Nat.reduceAdd]
          apply RelyL.val
          · intro ν w' hL hF K hK
            have cV := (kV.lat hL).cell
            go_simp
            exact hK.out _ _ rfl (Lat.refl _)
          simp only [Act.put, List.setIfInBounds_toArray, List.set_cons_zero, List.set_cons_succ, Nat.reduceAdd]
          apply RelyL.val
          · intro ν w' hL hF K hK
            have cV := (kV.lat hL).cell
            go_simp
            exact hK.out _ _ rfl (Lat.refl _)
          simp only [Act.put, List.setIfInBounds_toArray, List.set_cons_zero, List.set_cons_succ, Nat.reduceAdd]
          apply RelyL.val
          · intro ν w' hL hF K hK
            refine take_op rfl ?_
            refine wp_load_at 29 _ rfl b (off + k * 7) rfl _ _ (hk1.below hL hbl) Try.underlying29 rfl (by kernel_rfl) ?_
            exact hK.out _ _ rfl (Lat.refl _)
          simp only [Act.put, List.setIfInBounds_toArray, List.set_cons_zero, List.set_cons_succ, Nat.reduceAdd]
          apply RelyL.val
          · intro ν w' hL hF K hK
            refine take_op rfl ?_
            refine wp_load_blk rfl rfl (kK.lat hL) Try.underlying29 rfl (by kernel_rfl : (Try.prog.info? 29).map (·.size) = some 3) rfl ?_
            exact hK.out _ _ rfl (Lat.refl _)
          simp only [Act.put, List.setIfInBounds_toArray, List.set_cons_zero, List.set_cons_succ, Nat.reduceAdd]
          apply RelyL.val
          · intro ν w' hL hF K hK
            have cV := (kV.lat hL).cell
            go_simp
            exact hK.out _ _ rfl (Lat.refl _)
          simp only [Act.put, List.setIfInBounds_toArray, List.set_cons_zero, List.set_cons_succ, Nat.reduceAdd]
          refine RelyL.done fun ν w1 hL hF => ?_
          clear hF
          have hbw1 := hbw.th hL
          have kV1 := kV.lat hL
          have kK1 := kK.lat hL
          have kR1 := kR.lat hL
          have hv2 := hv1.below hL hbl
          have hl1 := hL.size
          have lR := kR1.lt
          have cV := kV1.cell
          clear hL kV kK kR hv1 hk1 hbw
          clear hv2
          go_wp2_with fail
          go_roundw
          case rel => exact ⟨k + 1, by omega, by go_num, HST, hbw1, kV1, kK1, kR1⟩
          case measure => simp [intOf]; omega
      · obtain ⟨q1, q2, q3⟩ := ine e1
        rw [if_neg (fun h => e1 h.1)] at hst
        have HST := Lib.hid hst
        clear hst
        go_upto_region 4 with fail
        clear cV
        refine wp_rely (by kernel_rfl) (by kernel_rfl) ?_
        apply RelyL.val
        · intro ν w' hL hF K hK
          have cV := (kV.lat hL).cell
          go_simp
          exact hK.out _ _ rfl (Lat.refl _)
        simp only [Act.put, List.setIfInBounds_toArray, List.set_cons_zero, List.set_cons_succ, Nat.reduceAdd]
        apply RelyL.val
        · intro ν w' hL hF K hK
          have cV := (kV.lat hL).cell
          go_simp
          exact hK.out _ _ rfl (Lat.refl _)
        simp only [Act.put, List.setIfInBounds_toArray, List.set_cons_zero, List.set_cons_succ, Nat.reduceAdd]
        apply RelyL.val
        · intro ν w' hL hF K hK
          have cV := (kV.lat hL).cell
          go_simp
          exact hK.out _ _ rfl (Lat.refl _)
        simp only [Act.put, List.setIfInBounds_toArray, List.set_cons_zero, List.set_cons_succ, Nat.reduceAdd]
        apply RelyL.val
        · intro ν w' hL hF K hK
          have cV := (kV.lat hL).cell
          go_simp
          exact hK.out _ _ rfl (Lat.refl _)
        simp only [Act.put, List.setIfInBounds_toArray, List.set_cons_zero, List.set_cons_succ, Nat.reduceAdd]
        apply RelyL.val
        · intro ν w' hL hF K hK
          have cV := (kV.lat hL).cell
          go_simp
          exact hK.out _ _ rfl (Lat.refl _)
        simp only [Act.put, List.setIfInBounds_toArray, List.set_cons_zero, List.set_cons_succ, Nat.reduceAdd]
        apply RelyL.val
        · intro ν w' hL hF K hK
          refine take_op rfl ?_
          refine wp_load_at 29 _ rfl b (off + k * 7) rfl _ _ (hk1.below hL hbl) Try.underlying29 rfl (by kernel_rfl) ?_
          exact hK.out _ _ rfl (Lat.refl _)
        simp only [Act.put, List.setIfInBounds_toArray, List.set_cons_zero, List.set_cons_succ, Nat.reduceAdd]
        apply RelyL.val
        · intro ν w' hL hF K hK
          refine take_op rfl ?_
          refine wp_load_blk rfl rfl (kK.lat hL) Try.underlying29 rfl (by kernel_rfl : (Try.prog.info? 29).map (·.size) = some 3) rfl ?_
          exact hK.out _ _ rfl (Lat.refl _)
        simp only [Act.put, List.setIfInBounds_toArray, List.set_cons_zero, List.set_cons_succ, Nat.reduceAdd]
        apply RelyL.val
        · intro ν w' hL hF K hK
          have cV := (kV.lat hL).cell
          go_simp
          exact hK.out _ _ rfl (Lat.refl _)
        simp only [Act.put, List.setIfInBounds_toArray, List.set_cons_zero, List.set_cons_succ, Nat.reduceAdd]
        refine RelyL.done fun ν w1 hL hF => ?_
        clear hF
        have hbw1 := hbw.th hL
        have kV1 := kV.lat hL
        have kK1 := kK.lat hL
        have kR1 := kR.lat hL
        have hv2 := hv1.below hL hbl
        have hl1 := hL.size
        have lR := kR1.lt
        have cV := kV1.cell
        clear hL kV kK kR hv1 hk1 hbw
        clear hv2
        go_wp2_with fail
        go_roundw
        case rel => exact ⟨k + 1, by omega, by go_num, HST, hbw1, kV1, kK1, kR1⟩
        case measure => simp [intOf]; omega
    · have hst := HH.out
      rw [List.drop_of_length_le (by omega)] at hst
      rw [attrE] at hst
      have HST := Lib.hid hst
      have cR := kR.cell
      have fR := kR.free
      have lR := kR.lt
      clear hst HH
      go_wp2_with fail
      refine bodyPost_ret (v := ?_) ?_ rfl ?_
      rotate_left
      · simp [results, Try.results77, go_sem, cR]; exact rfl
      refine ⟨by rw [HST.out]; rfl, ?_⟩
      (repeat (first | exact Below.refl _ _ | refine Below.al ?_ _ | refine Below.st ?_ (by simp; try omega) _ | refine Below.th ?_ (by assumption)))

theorem truthE_fine (b : Bool) : (truthE b).fine := ⟨rfl, fun h => (by cases h), fun _ => ⟨by cases b <;> simp [truthE, bit], rfl⟩⟩
theorem unknownE_fine : unknownE.fine := ⟨rfl, fun _ => ⟨rfl, rfl⟩, fun h => (by cases h)⟩
theorem int_fine (n : Int) : (⟨2, n, noStr, true⟩ : EV).fine := ⟨rfl, fun h => (by cases h), fun h => (by cases h)⟩
theorem val_fine {k n : Int} {s : ByteArray} (hk : k ≠ 0) (h : valCheck k n s = 0) : (⟨k, n, s, true⟩ : EV).fine := by
  refine ⟨by simp [hk], fun h0 => absurd h0 hk, fun h1 => ?_⟩
  simp only at h1 ⊢
  obtain ⟨v1, v2⟩ := valCheck_zero h
  unfold valOk at v1
  exact ⟨by omega, v2 (by omega)⟩
theorem attrE_fine (l : List LItem) (d : Int) (cl a : ByteArray) : (attrE l d cl a).fine := by
  induction l with
  | nil => exact unknownE_fine
  | cons x l ih =>
    rw [attrE]
    split
    · unfold itemE
      split
      · exact unknownE_fine
      · rename_i h
        exact val_fine (fun h' => h (.inl h')) (Classical.not_not.1 (fun h' => h (.inr h')))
    · exact ih
theorem junE_fine (d : Int) : ∀ (l : List EV) (op : Bool), (junE d l op).fine
  | [], op => by rw [junE]; split <;> first | exact unknownE_fine | exact truthE_fine _
  | x :: l, op => by
    rw [junE]
    split
    · exact junE_fine d l true
    · split
      · exact truthE_fine _
      · exact junE_fine d l op
theorem opE_fine (kd k1 n1 : Int) (s1 : ByteArray) (k2 n2 : Int) (s2 : ByteArray) : (opE kd k1 n1 s1 k2 n2 s2).fine := by
  unfold opE
  repeat' split
  all_goals first | exact truthE_fine _ | exact unknownE_fine | exact int_fine _
theorem getD_fine {xs : List EV} (h : ∀ x ∈ xs, x.fine) (i : Nat) : (xs.getD i unknownE).fine := by
  rw [List.getD_eq_getElem?_getD]
  cases hx : xs[i]? with
  | none => exact unknownE_fine
  | some x => exact h x (List.mem_of_getElem? hx)
theorem lit_ok {h : Hd} {n : Int} (hc : nodeCheck h n = 0) (h1 : h.kind = 1) : h.vk ≠ 0 ∧ valCheck h.vk h.vn h.vs = 0 := by
  unfold nodeCheck at hc
  by_cases a1 : h.kind < 1 ∨ 15 < h.kind
  · omega
  rw [if_neg a1] at hc
  by_cases a2 : ¬ kidsOk h.kind n ∨ h.spareB = false
  · rw [if_pos a2] at hc; cases hc
  rw [if_neg a2] at hc
  by_cases a3 : h.rangesB = false
  · rw [if_pos a3] at hc; cases hc
  rw [if_neg a3, if_neg (fun h' => by omega), if_neg (fun h' => by omega)] at hc
  by_cases a4 : h.kind = 1 ∧ valCheck h.vk h.vn h.vs ≠ 0
  · rw [if_pos a4] at hc; exact absurd hc a4.2
  rw [if_neg a4] at hc
  by_cases a5 : h.kind = 1 ∧ h.vk = 0
  · rw [if_pos a5] at hc; cases hc
  exact ⟨fun h0 => a5 ⟨h1, h0⟩, Classical.not_not.1 fun h0 => a4 ⟨h1, h0⟩⟩
theorem ite_fine {c : Prop} [Decidable c] {a b : EV} (ha : c → a.fine) (hb : ¬ c → b.fine) : (if c then a else b).fine := by
  by_cases h : c
  · rw [if_pos h]; exact ha h
  · rw [if_neg h]; exact hb h
theorem nodeE_fine (V : LView) (h : Hd) (n : Int) (xs : List EV) (hc : nodeCheck h n = 0) (hx : ∀ x ∈ xs, x.fine) : (nodeE V h xs).fine := by
  unfold nodeE
  refine ite_fine (fun h1 => val_fine (lit_ok hc h1).1 (lit_ok hc h1).2) fun _ => ?_
  refine ite_fine (fun _ => attrE_fine _ _ _ _) fun _ => ?_
  refine ite_fine (fun _ => truthE_fine _) fun _ => ?_
  refine ite_fine (fun _ => ite_fine (fun _ => unknownE_fine) fun _ => truthE_fine _) fun _ => ?_
  refine ite_fine (fun _ => ite_fine (fun _ => unknownE_fine) fun _ => truthE_fine _) fun _ => ?_
  refine ite_fine (fun _ => truthE_fine _) fun _ => ?_
  refine ite_fine (fun _ => ite_fine (fun _ => unknownE_fine) fun _ => truthE_fine _) fun _ => ?_
  refine ite_fine (fun _ => junE_fine _ _ _) fun _ => ?_
  refine ite_fine (fun _ => junE_fine _ _ _) fun _ => ?_
  refine ite_fine (fun _ => ite_fine (fun _ => unknownE_fine) fun _ => ite_fine (fun _ => getD_fine hx _) fun _ => getD_fine hx _) fun _ => ?_
  exact ite_fine (fun _ => unknownE_fine) fun _ => opE_fine _ _ _ _ _ _ _
theorem findS_fine (V : LView) (e : LExpr) : okE e → (findS V e).fine := by
  induction e using LExpr.ind with | _ h ks ih => ?_
  intro hok
  rw [okE] at hok
  rw [findS]
  refine nodeE_fine V h ks.length _ hok.1 (fun x hx => ?_)
  have hL : ∀ l : List LExpr, (∀ k ∈ l, (findS V k).fine) → ∀ x ∈ findL V l, x.fine := by
    intro l
    induction l with
    | nil => intro _ x hx; rw [findL] at hx; cases hx
    | cons k l ihl =>
      intro hg x hx
      rw [findL] at hx
      rcases List.mem_cons.1 hx with rfl | hx
      · exact hg k List.mem_cons_self
      · exact ihl (fun k hk => hg k (List.mem_cons_of_mem _ hk)) x hx
  exact hL ks (fun k hk => by obtain ⟨i, hi, rfl⟩ := List.getElem_of_mem hk; exact ih i hi (hok.2 _ (List.getElem_mem hi))) x hx

end Go.Proofs.Ytnelgblmogciiaa
