/- Resolve: Equal, Same, Winners. -/
import Derived.Test.YtgjoojailghilaaDoorVDecM
set_option linter.unusedSimpArgs false
set_option linter.unusedVariables false
namespace Go.Proofs.YtgjoojailghilaaDoor
open Go.RowKit

set_option maxRecDepth 100000 in
set_option maxHeartbeats 4000000 in
theorem equal_any (xs ys : List LW) (A B : Option Addr) (c c' : Nat) (w : World) (hx : EW.Rd w xs (.slice A xs.length c)) (hy : EW.Rd w ys (.slice B ys.length c')) (hbig : xs.length ≤ 1000000) :
    Calls Tryd.prog 21 #[.slice A xs.length c, .slice B ys.length c'] w fun r w' => r = .returned (.bool (decide (xs = ys))) ∧ Lat w w' := by
  have HR : Hid (decide (xs = ys) = decide (xs.drop 0 = ys.drop 0)) := Lib.hid rfl
  by_cases hl : xs.length = ys.length
  · rw [← hl] at hy ⊢
    have HLEN := Lib.hid hl
    clear hl
    generalize decide (xs = ys) = R at *
    go_enter Tryd.func21, Tryd.ntmps21
    go_wp2_with fail
    go_loopw [5] (fun i wr => ∃ j : Nat, j ≤ xs.length ∧ i = .int .i64 j ∧ Hid (R = decide (xs.drop j = ys.drop j)) ∧ Lat w wr) (fun i _ => xs.length - (intOf i).toNat)
    case atStart => exact ⟨0, Nat.zero_le _, rfl, HR, Lat.refl _⟩
    case round =>
      clear HR
      obtain ⟨j, hjl, rfl, HR, hLW⟩ := hrel
      by_cases hlt : j < xs.length
      · have hlt' : j < ys.length := by have := HLEN.out; omega
        obtain ⟨b, off, hA, hb1, hr1'⟩ := (hx.lat hLW).row j hlt
        obtain ⟨b', off', hB, hb2, hr2'⟩ := (hy.lat hLW).row j hlt'
        subst hA hB
        have hr1 : RowAt wr b (off + j * 10) (wC xs[j]) := hr1'
        have hr2 : RowAt wr b' (off' + j * 10) (wC ys[j]) := hr2'
        clear hr1' hr2'
        rw [List.drop_eq_getElem_cons hlt, List.drop_eq_getElem_cons hlt'] at HR
        clear hx hy
        have HL' := Lib.hid hlt'
        go_wp2_with fail
        by_cases he : xs[j] = ys[j]
        · have HE := Lib.hid (decide_eq_true he)
          have HQ := Lib.hid he
          clear he
          refine wp_rely (by kernel_rfl) (by kernel_rfl) ?_
          apply RelyL.val
          · intro ν w' hL hF K hK'
            go_simp
            exact hK'.out _ _ rfl (Lat.refl _)
          simp only [Act.put, List.setIfInBounds_toArray, List.set_cons_zero, List.set_cons_succ, Nat.reduceAdd]
          apply RelyL.val
          · intro ν w' hL hF K hK'
            go_simp
            exact hK'.out _ _ rfl (Lat.refl _)
          simp only [Act.put, List.setIfInBounds_toArray, List.set_cons_zero, List.set_cons_succ, Nat.reduceAdd]
          apply RelyL.val
          · intro ν w' hL hF K hK'
            go_simp
            exact hK'.out _ _ rfl (Lat.refl _)
          simp only [Act.put, List.setIfInBounds_toArray, List.set_cons_zero, List.set_cons_succ, Nat.reduceAdd]
          apply RelyL.val
          · intro ν w' hL hF K hK'
            refine take_op rfl ?_
            refine wp_load_at 29 _ rfl b ((off + j * 10)) rfl _ _ (hr1.below hL hb1) Tryd.underlying29 rfl (by kernel_rfl) ?_
            exact hK'.out _ _ rfl (Lat.refl _)
          simp only [Act.put, List.setIfInBounds_toArray, List.set_cons_zero, List.set_cons_succ, Nat.reduceAdd]
          apply RelyL.val
          · intro ν w' hL hF K hK'
            go_simp
            exact hK'.out _ _ rfl (Lat.refl _)
          simp only [Act.put, List.setIfInBounds_toArray, List.set_cons_zero, List.set_cons_succ, Nat.reduceAdd]
          apply RelyL.val
          · intro ν w' hL hF K hK'
            go_simp
            exact hK'.out _ _ rfl (Lat.refl _)
          simp only [Act.put, List.setIfInBounds_toArray, List.set_cons_zero, List.set_cons_succ, Nat.reduceAdd]
          apply RelyL.val
          · intro ν w' hL hF K hK'
            go_simp
            exact hK'.out _ _ rfl (Lat.refl _)
          simp only [Act.put, List.setIfInBounds_toArray, List.set_cons_zero, List.set_cons_succ, Nat.reduceAdd]
          apply RelyL.val
          · intro ν w' hL hF K hK'
            refine take_op rfl ?_
            refine wp_load_at 29 _ rfl b' ((off' + j * 10)) rfl _ _ (hr2.below hL hb2) Tryd.underlying29 rfl (by kernel_rfl) ?_
            exact hK'.out _ _ rfl (Lat.refl _)
          simp only [Act.put, List.setIfInBounds_toArray, List.set_cons_zero, List.set_cons_succ, Nat.reduceAdd]
          apply RelyL.val
          · intro ν w' hL hF K hK'
            refine take_op rfl ?_
            refine wp_neq_w _ _ _ rfl xs[j] ys[j] rfl rfl HE.out ?_
            exact hK'.out _ _ rfl (Lat.refl _)
          simp only [Act.put, List.setIfInBounds_toArray, List.set_cons_zero, List.set_cons_succ, Nat.reduceAdd]
          refine RelyL.done fun ν w4 hL hF => ?_
          clear hF
          have hLW2 := hLW.trans hL
          go_wp2_with fail
          go_roundw
          case rel =>
            refine ⟨j + 1, by omega, by go_num, Lib.hid (HR.out.trans ?_), hLW2⟩
            have e := HQ.out
            rw [Bool.eq_iff_iff, decide_eq_true_iff, decide_eq_true_iff, e]
            exact ⟨fun h => (List.cons.inj h).2, fun h => congrArg (List.cons _) h⟩
          case measure => simp [intOf]; omega
        · have HE := Lib.hid (decide_eq_false he)
          refine wp_rely (by kernel_rfl) (by kernel_rfl) ?_
          apply RelyL.val
          · intro ν w' hL hF K hK'
            go_simp
            exact hK'.out _ _ rfl (Lat.refl _)
          simp only [Act.put, List.setIfInBounds_toArray, List.set_cons_zero, List.set_cons_succ, Nat.reduceAdd]
          apply RelyL.val
          · intro ν w' hL hF K hK'
            go_simp
            exact hK'.out _ _ rfl (Lat.refl _)
          simp only [Act.put, List.setIfInBounds_toArray, List.set_cons_zero, List.set_cons_succ, Nat.reduceAdd]
          apply RelyL.val
          · intro ν w' hL hF K hK'
            go_simp
            exact hK'.out _ _ rfl (Lat.refl _)
          simp only [Act.put, List.setIfInBounds_toArray, List.set_cons_zero, List.set_cons_succ, Nat.reduceAdd]
          apply RelyL.val
          · intro ν w' hL hF K hK'
            refine take_op rfl ?_
            refine wp_load_at 29 _ rfl b ((off + j * 10)) rfl _ _ (hr1.below hL hb1) Tryd.underlying29 rfl (by kernel_rfl) ?_
            exact hK'.out _ _ rfl (Lat.refl _)
          simp only [Act.put, List.setIfInBounds_toArray, List.set_cons_zero, List.set_cons_succ, Nat.reduceAdd]
          apply RelyL.val
          · intro ν w' hL hF K hK'
            go_simp
            exact hK'.out _ _ rfl (Lat.refl _)
          simp only [Act.put, List.setIfInBounds_toArray, List.set_cons_zero, List.set_cons_succ, Nat.reduceAdd]
          apply RelyL.val
          · intro ν w' hL hF K hK'
            go_simp
            exact hK'.out _ _ rfl (Lat.refl _)
          simp only [Act.put, List.setIfInBounds_toArray, List.set_cons_zero, List.set_cons_succ, Nat.reduceAdd]
          apply RelyL.val
          · intro ν w' hL hF K hK'
            go_simp
            exact hK'.out _ _ rfl (Lat.refl _)
          simp only [Act.put, List.setIfInBounds_toArray, List.set_cons_zero, List.set_cons_succ, Nat.reduceAdd]
          apply RelyL.val
          · intro ν w' hL hF K hK'
            refine take_op rfl ?_
            refine wp_load_at 29 _ rfl b' ((off' + j * 10)) rfl _ _ (hr2.below hL hb2) Tryd.underlying29 rfl (by kernel_rfl) ?_
            exact hK'.out _ _ rfl (Lat.refl _)
          simp only [Act.put, List.setIfInBounds_toArray, List.set_cons_zero, List.set_cons_succ, Nat.reduceAdd]
          apply RelyL.val
          · intro ν w' hL hF K hK'
            refine take_op rfl ?_
            refine wp_neq_w _ _ _ rfl xs[j] ys[j] rfl rfl HE.out ?_
            exact hK'.out _ _ rfl (Lat.refl _)
          simp only [Act.put, List.setIfInBounds_toArray, List.set_cons_zero, List.set_cons_succ, Nat.reduceAdd]
          refine RelyL.done fun ν w4 hL hF => ?_
          clear hF
          have hLW2 := hLW.trans hL
          go_wp2_with fail
          go_ret
          have hR : R = false := HR.out.trans (decide_eq_false (fun h => he (List.cons.inj h).1))
          subst hR
          exact ⟨rfl, hLW2⟩
      · have hj : j = xs.length := by omega
        have d1 : xs.drop j = [] := List.drop_of_length_le (by omega)
        have d2 : ys.drop j = [] := List.drop_of_length_le (by have := HLEN.out; omega)
        have hR : R = true := HR.out.trans (by rw [d1, d2]; exact decide_eq_true rfl)
        clear d1 d2
        subst hj
        go_wp2_with fail
        go_ret
        subst hR
        exact ⟨rfl, hLW⟩
  · have hR : decide (xs = ys) = false := decide_eq_false (fun e => hl (by rw [e]))
    rw [hR]
    go_enter Tryd.func21, Tryd.ntmps21
    go_wp2_with fail
    go_ret
    exact ⟨rfl, Lat.refl _⟩

/-- The reading of a decision's cells out of a row. -/
theorem RdD.row {w : World} {ds : List LD} {A : Option Addr} {n c : Nat} (h : RdD w ds (.slice A n c)) (j : Nat) (hj : j < ds.length) :
    ∃ b off A' n' c', A = some ⟨b, off, none⟩ ∧ b < w.heap.size ∧ RowAt w b (off + j * 15) (kC ds[j].key ++ wC ds[j].win ++ [.slice A' n' c', .int .i64 ds[j].err]) ∧ EW.Rd w ds[j].los (.slice A' n' c') := by
  obtain ⟨rs, hl, hr, hs⟩ := h
  obtain ⟨b, off, hA, hb, hrow⟩ := hr.row j (by omega)
  obtain ⟨h1, h2, h3, h4⟩ := hs j (by omega) hj
  refine ⟨b, off, _, _, _, hA, hb, ?_, h4⟩
  have : RowAt w b (off + j * 15) (DR.cells rs[j]) := hrow
  unfold DR.cells at this
  rw [h1, h2, h3] at this
  exact this
theorem RdD.slice {w : World} {ds : List LD} {v : Value} (h : RdD w ds v) : ∃ A c, v = .slice A ds.length c := by
  obtain ⟨rs, hl, ⟨A, c, hv, _⟩, hs⟩ := h
  exact ⟨A, c, by rw [hv, hl]⟩
theorem RowAt.part {w : World} {b off : Nat} {cs : List Value} (h : RowAt w b off cs) (k : Nat) (ds : List Value) (hd : ∀ j v, ds[j]? = some v → cs[k + j]? = some v) : RowAt w b (off + k) ds := fun j v hj => by
  have := h (k + j) v (hd j v hj)
  rw [Nat.add_assoc]; exact this
theorem dec_key {w : World} {b off : Nat} {k : LKey} {x : LW} {t : List Value} (h : RowAt w b off (kC k ++ wC x ++ t)) : RowAt w b off (kC k) :=
  h.part 0 _ fun j v hj => by
    have hj' : j < 3 := (List.getElem?_eq_some_iff.1 hj).1
    rw [Nat.zero_add, List.append_assoc, List.getElem?_append_left (by exact hj')]; exact hj
theorem dec_win {w : World} {b off : Nat} {k : LKey} {x : LW} {t : List Value} (h : RowAt w b off (kC k ++ wC x ++ t)) : RowAt w b (off + 3) (wC x) :=
  h.part 3 _ fun j v hj => by
    have hj' : j < 10 := (List.getElem?_eq_some_iff.1 hj).1
    rw [List.append_assoc, List.getElem?_append_right (by show 3 ≤ 3 + j; omega)]
    have e : 3 + j - (kC k).length = j := by show 3 + j - 3 = j; omega
    rw [e, List.getElem?_append_left (by exact hj')]; exact hj
theorem dec_los {w : World} {b off : Nat} {k : LKey} {x : LW} {v e : Value} (h : RowAt w b off (kC k ++ wC x ++ [v, e])) : w.cell? ⟨b, off + 13, none⟩ = some v ∧ w.cell? ⟨b, off + 14, none⟩ = some e := ⟨h 13 v rfl, h 14 e rfl⟩
end Go.Proofs.YtgjoojailghilaaDoor
