/- Hold: the reference's Tick and Sane. -/
import Derived.Test.YtafodibbcfoclaaGreatHVal
set_option linter.unusedSimpArgs false
set_option linter.unusedVariables false
namespace Go.Proofs.YtafodibbcfoclaaGreat
open Go.RowKit

set_option maxRecDepth 100000 in
theorem tick_any (n : Int) (w : World) : Calls Tryz.prog 25 #[.int .i64 n] w fun r w' => r = .returned (.int .i64 (lim n)) ∧ w' = w := by
  have hlim : (n < 0 → lim n = 0) ∧ (¬ n < 0 → 1099511627776 < n → lim n = 1099511627776) ∧ (¬ n < 0 → ¬ 1099511627776 < n → lim n = n) := by
    unfold lim mx MT
    split <;> split <;> omega
  generalize lim n = L at *
  go_enter Tryz.func25, Tryz.ntmps25
  by_cases h1 : n < 0
  · rw [hlim.1 h1]
    clear hlim
    go_wp2_with fail
    go_ret
    exact ⟨rfl, rfl⟩
  · by_cases h2 : 1099511627776 < n
    · rw [hlim.2.1 h1 h2]
      clear hlim
      go_wp2_with fail
      go_ret
      exact ⟨rfl, rfl⟩
    · rw [hlim.2.2 h1 h2]
      clear hlim
      go_wp2_with fail
      go_ret
      exact ⟨rfl, rfl⟩
set_option maxRecDepth 100000 in
set_option maxHeartbeats 4000000 in
theorem rsane_any (l : List LTim) (A : Option Addr) (c : Nat) (w : World) (hx : ET.Rd w l (.slice A l.length c)) :
    Calls Tryz.prog 21 #[.slice A l.length c] w fun r w' => (∃ v, r = .returned v ∧ ET.Rd w' (validP l) v) ∧ Lat w w' := by
  go_enter Tryz.func21, Tryz.ntmps21
  by_cases h40 : 40 < l.length
  · have a1 : (40 : Int) < (l.length : Int) := by omega
    have hv : validP l = [] := by
      unfold validP okT
      rw [decide_eq_false (by omega)]; rfl
    rw [hv]
    clear h40 hv hx
    go_wp2_with fail
    go_ret
    exact ⟨⟨_, rfl, Elt.Rd.nil _⟩, Lat.refl _⟩
  · have a1 : ¬ ((40 : Int) < (l.length : Int)) := by omega
    have H0 : Hid (okT l = okF (prevT l 0) (l.drop 0)) := Lib.hid (by unfold okT; rw [decide_eq_true (by omega)]; rfl)
    go_wp2_with fail
    go_loopw [9] (fun i wr => ∃ j : Nat, j ≤ l.length ∧ i = .int .i64 j ∧ Hid (okT l = okF (prevT l j) (l.drop j)) ∧ Lat w wr) (fun i _ => l.length - (intOf i).toNat)
    case atStart => exact ⟨0, Nat.zero_le _, rfl, H0, Lat.refl _⟩
    case round =>
      clear H0
      obtain ⟨j, hjl, rfl, HJ, hLW⟩ := hrel
      by_cases hlt : j < l.length
      · obtain ⟨b, off, hA, hb1, hr1'⟩ := (hx.lat hLW).row j hlt
        subst hA
        have hr1 : RowAt wr b (off + j * 3) (tC l[j]) := hr1'
        have hc0 : wr.cell? ⟨b, off + j * 3, none⟩ = some (.string l[j].rule) := hr1 0 _ rfl
        have hc1 : wr.cell? ⟨b, off + j * 3 + 1, none⟩ = some (.int .i64 l[j].since) := hr1 1 _ rfl
        have HS := Lib.hid (okF_step l j hlt)
        have HTK := fun (w' : World) => Lib.hid (tick_any l[j].since w')
        have hprev2 : ∀ q, j = q + 1 → wr.cell? ⟨b, off + q * 3, none⟩ = some (.string (l[q]?.getD ⟨noStr, 0, false⟩).rule) ∧ prevT l j = some (l[q]?.getD ⟨noStr, 0, false⟩).rule := fun q hq => by
          obtain ⟨b', off', hA', _, hr'⟩ := (hx.lat hLW).row q (by omega)
          injection hA' with e
          injection e with e1 e2
          subst e1 e2
          have hg : l[q]? = some l[q] := List.getElem?_eq_getElem (by omega)
          rw [hg]
          refine ⟨hr' 0 _ rfl, ?_⟩
          subst hq
          unfold prevT
          rw [if_neg (by omega), Nat.add_sub_cancel, hg]
          rfl
        clear hr1' hr1 hx
        generalize l[j] = X at *
        have hP0 : Hid (j = 0 → prevT l j = none) := Lib.hid (fun e => by unfold prevT; rw [if_pos e])
        have HP : ∀ q, j = q + 1 → Hid (prevT l j = some (l[q]?.getD ⟨noStr, 0, false⟩).rule) := fun q hq => Lib.hid (hprev2 q hq).2
        have hprev2 := fun q hq => (hprev2 q hq).1
        obtain ⟨x1, x2, x3⟩ := X
        dsimp only at HS HTK hc0 hc1
        go_upto_region 6 with fail
        by_cases h12 : 0 ≤ x2 ∧ x2 ≤ 1099511627776
        · rw [lim_id h12.1 h12.2] at HTK
          have e1 : decide (0 ≤ x2) = true := decide_eq_true h12.1
          have e2 : decide (x2 ≤ MT) = true := decide_eq_true (by unfold MT; omega)
          rw [e1, e2] at HS
          clear e1 e2 h12
          by_cases hj0 : j = 0
          · have HT : Hid (okT l = okF (prevT l (j + 1)) (l.drop (j + 1))) := Lib.hid (HJ.out.trans (HS.out.trans (by rw [hP0.out hj0]; rfl)))
            have a2 : ¬ ((0 : Int) < (j : Int)) := by omega
            have a3 : ¬ (0 < j) := by omega
            clear HJ HS hprev2 HP hP0 hj0
            refine wp_rely (by kernel_rfl) (by kernel_rfl) ?_
            apply RelyL.val
            · intro ν w' hL hF K hK'
              have c0 := (hL.cell (p := ⟨b, off + j * 3, none⟩) hb1).trans hc0
              have c1 := (hL.cell (p := ⟨b, off + j * 3 + 1, none⟩) hb1).trans hc1
              go_simp
              exact hK'.out _ _ rfl (Lat.refl _)
            simp only [Act.put, List.setIfInBounds_toArray, List.set_cons_zero, List.set_cons_succ, Nat.reduceAdd]
            apply RelyL.val
            · intro ν w' hL hF K hK'
              have c0 := (hL.cell (p := ⟨b, off + j * 3, none⟩) hb1).trans hc0
              have c1 := (hL.cell (p := ⟨b, off + j * 3 + 1, none⟩) hb1).trans hc1
              go_simp
              exact hK'.out _ _ rfl (Lat.refl _)
            simp only [Act.put, List.setIfInBounds_toArray, List.set_cons_zero, List.set_cons_succ, Nat.reduceAdd]
            apply RelyL.val
            · intro ν w' hL hF K hK'
              have c0 := (hL.cell (p := ⟨b, off + j * 3, none⟩) hb1).trans hc0
              have c1 := (hL.cell (p := ⟨b, off + j * 3 + 1, none⟩) hb1).trans hc1
              go_simp
              exact hK'.out _ _ rfl (Lat.refl _)
            simp only [Act.put, List.setIfInBounds_toArray, List.set_cons_zero, List.set_cons_succ, Nat.reduceAdd]
            apply RelyL.val
            · intro ν w' hL hF K hK'
              have c0 := (hL.cell (p := ⟨b, off + j * 3, none⟩) hb1).trans hc0
              have c1 := (hL.cell (p := ⟨b, off + j * 3 + 1, none⟩) hb1).trans hc1
              go_simp
              exact hK'.out _ _ rfl (Lat.refl _)
            simp only [Act.put, List.setIfInBounds_toArray, List.set_cons_zero, List.set_cons_succ, Nat.reduceAdd]
            apply RelyL.val
            · intro ν w' hL hF K hK'
              have c0 := (hL.cell (p := ⟨b, off + j * 3, none⟩) hb1).trans hc0
              have c1 := (hL.cell (p := ⟨b, off + j * 3 + 1, none⟩) hb1).trans hc1
              go_simp
              exact hK'.out _ _ rfl (Lat.refl _)
            simp only [Act.put, List.setIfInBounds_toArray, List.set_cons_zero, List.set_cons_succ, Nat.reduceAdd]
            apply RelyL.val
            · intro ν w' hL hF K hK'
              have c0 := (hL.cell (p := ⟨b, off + j * 3, none⟩) hb1).trans hc0
              have c1 := (hL.cell (p := ⟨b, off + j * 3 + 1, none⟩) hb1).trans hc1
              go_simp
              exact hK'.out _ _ rfl (Lat.refl _)
            simp only [Act.put, List.setIfInBounds_toArray, List.set_cons_zero, List.set_cons_succ, Nat.reduceAdd]
            apply RelyL.val
            · intro ν w' hL hF K hK'
              have c0 := (hL.cell (p := ⟨b, off + j * 3, none⟩) hb1).trans hc0
              have c1 := (hL.cell (p := ⟨b, off + j * 3 + 1, none⟩) hb1).trans hc1
              go_simp
              exact hK'.out _ _ rfl (Lat.refl _)
            simp only [Act.put, List.setIfInBounds_toArray, List.set_cons_zero, List.set_cons_succ, Nat.reduceAdd]
            apply RelyL.val
            · intro ν w' hL hF K hK'
              have c0 := (hL.cell (p := ⟨b, off + j * 3, none⟩) hb1).trans hc0
              have c1 := (hL.cell (p := ⟨b, off + j * 3 + 1, none⟩) hb1).trans hc1
              go_simp
              exact hK'.out _ _ rfl (Lat.refl _)
            simp only [Act.put, List.setIfInBounds_toArray, List.set_cons_zero, List.set_cons_succ, Nat.reduceAdd]
            apply RelyL.val
            · intro ν w' hL hF K hK'
              have c0 := (hL.cell (p := ⟨b, off + j * 3, none⟩) hb1).trans hc0
              have c1 := (hL.cell (p := ⟨b, off + j * 3 + 1, none⟩) hb1).trans hc1
              go_simp
              exact hK'.out _ _ rfl (Lat.refl _)
            simp only [Act.put, List.setIfInBounds_toArray, List.set_cons_zero, List.set_cons_succ, Nat.reduceAdd]
            apply RelyL.val
            · intro ν w' hL hF K hK'
              have c0 := (hL.cell (p := ⟨b, off + j * 3, none⟩) hb1).trans hc0
              have c1 := (hL.cell (p := ⟨b, off + j * 3 + 1, none⟩) hb1).trans hc1
              go_simp
              exact hK'.out _ _ rfl (Lat.refl _)
            simp only [Act.put, List.setIfInBounds_toArray, List.set_cons_zero, List.set_cons_succ, Nat.reduceAdd]
            apply RelyL.val
            · intro ν w' hL hF K hK'
              have H := HTK w'
              go_simp
              go_at_call 25
              refine H.out.mono ?_
              rintro r w'' ⟨rfl, rfl⟩
              exact hK'.out _ _ rfl (Lat.refl _)
            simp only [Act.put, List.setIfInBounds_toArray, List.set_cons_zero, List.set_cons_succ, Nat.reduceAdd]
            apply RelyL.val
            · intro ν w' hL hF K hK'
              have c0 := (hL.cell (p := ⟨b, off + j * 3, none⟩) hb1).trans hc0
              have c1 := (hL.cell (p := ⟨b, off + j * 3 + 1, none⟩) hb1).trans hc1
              go_simp
              exact hK'.out _ _ rfl (Lat.refl _)
            simp only [Act.put, List.setIfInBounds_toArray, List.set_cons_zero, List.set_cons_succ, Nat.reduceAdd]
            apply RelyL.val
            · intro ν w' hL hF K hK'
              have c0 := (hL.cell (p := ⟨b, off + j * 3, none⟩) hb1).trans hc0
              have c1 := (hL.cell (p := ⟨b, off + j * 3 + 1, none⟩) hb1).trans hc1
              go_simp
              exact hK'.out _ _ rfl (Lat.refl _)
            simp only [Act.put, List.setIfInBounds_toArray, List.set_cons_zero, List.set_cons_succ, Nat.reduceAdd]
            apply RelyL.val
            · intro ν w' hL hF K hK'
              have c0 := (hL.cell (p := ⟨b, off + j * 3, none⟩) hb1).trans hc0
              have c1 := (hL.cell (p := ⟨b, off + j * 3 + 1, none⟩) hb1).trans hc1
              go_simp
              exact hK'.out _ _ rfl (Lat.refl _)
            simp only [Act.put, List.setIfInBounds_toArray, List.set_cons_zero, List.set_cons_succ, Nat.reduceAdd]
            apply RelyL.val
            · intro ν w' hL hF K hK'
              have c0 := (hL.cell (p := ⟨b, off + j * 3, none⟩) hb1).trans hc0
              have c1 := (hL.cell (p := ⟨b, off + j * 3 + 1, none⟩) hb1).trans hc1
              go_simp
              exact hK'.out _ _ rfl (Lat.refl _)
            simp only [Act.put, List.setIfInBounds_toArray, List.set_cons_zero, List.set_cons_succ, Nat.reduceAdd]
            apply RelyL.val
            · intro ν w' hL hF K hK'
              have c0 := (hL.cell (p := ⟨b, off + j * 3, none⟩) hb1).trans hc0
              have c1 := (hL.cell (p := ⟨b, off + j * 3 + 1, none⟩) hb1).trans hc1
              go_simp
              exact hK'.out _ _ rfl (Lat.refl _)
            simp only [Act.put, List.setIfInBounds_toArray, List.set_cons_zero, List.set_cons_succ, Nat.reduceAdd]
            apply RelyL.val
            · intro ν w' hL hF K hK'
              refine skip_op rfl ?_
              exact hK'.out _ _ rfl (Lat.refl _)
            simp only [Act.put, List.setIfInBounds_toArray, List.set_cons_zero, List.set_cons_succ, Nat.reduceAdd]
            apply RelyL.val
            · intro ν w' hL hF K hK'
              refine skip_op rfl ?_
              exact hK'.out _ _ rfl (Lat.refl _)
            simp only [Act.put, List.setIfInBounds_toArray, List.set_cons_zero, List.set_cons_succ, Nat.reduceAdd]
            apply RelyL.val
            · intro ν w' hL hF K hK'
              refine skip_op rfl ?_
              exact hK'.out _ _ rfl (Lat.refl _)
            simp only [Act.put, List.setIfInBounds_toArray, List.set_cons_zero, List.set_cons_succ, Nat.reduceAdd]
            apply RelyL.val
            · intro ν w' hL hF K hK'
              refine skip_op rfl ?_
              exact hK'.out _ _ rfl (Lat.refl _)
            simp only [Act.put, List.setIfInBounds_toArray, List.set_cons_zero, List.set_cons_succ, Nat.reduceAdd]
            apply RelyL.val
            · intro ν w' hL hF K hK'
              refine skip_op rfl ?_
              exact hK'.out _ _ rfl (Lat.refl _)
            simp only [Act.put, List.setIfInBounds_toArray, List.set_cons_zero, List.set_cons_succ, Nat.reduceAdd]
            apply RelyL.val
            · intro ν w' hL hF K hK'
              refine skip_op rfl ?_
              exact hK'.out _ _ rfl (Lat.refl _)
            simp only [Act.put, List.setIfInBounds_toArray, List.set_cons_zero, List.set_cons_succ, Nat.reduceAdd]
            apply RelyL.val
            · intro ν w' hL hF K hK'
              refine skip_op rfl ?_
              exact hK'.out _ _ rfl (Lat.refl _)
            simp only [Act.put, List.setIfInBounds_toArray, List.set_cons_zero, List.set_cons_succ, Nat.reduceAdd]
            apply RelyL.val
            · intro ν w' hL hF K hK'
              refine skip_op rfl ?_
              exact hK'.out _ _ rfl (Lat.refl _)
            simp only [Act.put, List.setIfInBounds_toArray, List.set_cons_zero, List.set_cons_succ, Nat.reduceAdd]
            apply RelyL.val
            · intro ν w' hL hF K hK'
              refine skip_op rfl ?_
              exact hK'.out _ _ rfl (Lat.refl _)
            simp only [Act.put, List.setIfInBounds_toArray, List.set_cons_zero, List.set_cons_succ, Nat.reduceAdd]
            apply RelyL.val
            · intro ν w' hL hF K hK'
              refine skip_op rfl ?_
              exact hK'.out _ _ rfl (Lat.refl _)
            simp only [Act.put, List.setIfInBounds_toArray, List.set_cons_zero, List.set_cons_succ, Nat.reduceAdd]
            apply RelyL.val
            · intro ν w' hL hF K hK'
              refine skip_op rfl ?_
              exact hK'.out _ _ rfl (Lat.refl _)
            simp only [Act.put, List.setIfInBounds_toArray, List.set_cons_zero, List.set_cons_succ, Nat.reduceAdd]
            apply RelyL.val
            · intro ν w' hL hF K hK'
              refine skip_op rfl ?_
              exact hK'.out _ _ rfl (Lat.refl _)
            simp only [Act.put, List.setIfInBounds_toArray, List.set_cons_zero, List.set_cons_succ, Nat.reduceAdd]
            apply RelyL.val
            · intro ν w' hL hF K hK'
              have c0 := (hL.cell (p := ⟨b, off + j * 3, none⟩) hb1).trans hc0
              have c1 := (hL.cell (p := ⟨b, off + j * 3 + 1, none⟩) hb1).trans hc1
              go_simp
              exact hK'.out _ _ rfl (Lat.refl _)
            simp only [Act.put, List.setIfInBounds_toArray, List.set_cons_zero, List.set_cons_succ, Nat.reduceAdd]
            apply RelyL.val
            · intro ν w' hL hF K hK'
              have c0 := (hL.cell (p := ⟨b, off + j * 3, none⟩) hb1).trans hc0
              have c1 := (hL.cell (p := ⟨b, off + j * 3 + 1, none⟩) hb1).trans hc1
              go_simp
              exact hK'.out _ _ rfl (Lat.refl _)
            simp only [Act.put, List.setIfInBounds_toArray, List.set_cons_zero, List.set_cons_succ, Nat.reduceAdd]
            refine RelyL.done fun ν w5 hL hF => ?_
            have hLW5 := hLW.trans hL
            clear hF hL
            go_wp2_with fail
            go_roundw
            case rel => exact ⟨j + 1, by omega, by go_num, HT, hLW5⟩
            case measure => simp [intOf]; omega
          · obtain ⟨q, rfl⟩ : ∃ q, j = q + 1 := ⟨j - 1, by omega⟩
            have hcq := hprev2 q rfl
            have hp := HP q rfl
            clear hprev2 HP hP0
            generalize (l[q]?.getD ⟨noStr, 0, false⟩).rule = pr at *
            have ec : ((q + 1 : Nat) : Int) = (q : Int) + 1 := Int.natCast_add q 1
            simp only [ec]
            clear ec
            have wq : IntKind.i64.wrap (q : Int) = q := by rw [IntKind.wrap_i64]; omega
            have hq0 : (0 : Int) < (q : Int) + 1 := by omega
            have hql : (q : Int) < l.length := by omega
            have hqn : q < l.length := by omega
            have hq1 : (0 : Int) ≤ (q : Int) + 1 := by omega
            have hq2 : (q : Int) + 1 < l.length := by omega
            cases hlt1 : ltB pr x1 with
            | true =>
              have HT : Hid (okT l = okF (prevT l (q + 1 + 1)) (l.drop (q + 1 + 1))) := Lib.hid (HJ.out.trans (HS.out.trans (by rw [hp.out, show pOk (some pr) x1 = ltB pr x1 from rfl, hlt1]; rfl)))
              have b1 : Op.bytesLess pr.toList x1.toList = true := hlt1
              have b2 : Op.bytesLess x1.toList pr.toList = false := sto_ltB.asym hlt1
              have b3 : (x1.toList == pr.toList) = false := by rw [toList_beq]; simpa using (Ne.symm (sto_ltB.ne hlt1))
              clear HJ HS hp hlt1 hj0
              refine wp_rely (by kernel_rfl) (by kernel_rfl) ?_
              apply RelyL.val
              · intro ν w' hL hF K hK'
                have c0 := (hL.cell (p := ⟨b, off + (q + 1) * 3, none⟩) hb1).trans hc0
                have c1 := (hL.cell (p := ⟨b, off + (q + 1) * 3 + 1, none⟩) hb1).trans hc1
                have cq := (hL.cell (p := ⟨b, off + q * 3, none⟩) hb1).trans hcq
                go_simp
                exact hK'.out _ _ rfl (Lat.refl _)
              simp only [Act.put, List.setIfInBounds_toArray, List.set_cons_zero, List.set_cons_succ, Nat.reduceAdd]
              apply RelyL.val
              · intro ν w' hL hF K hK'
                have c0 := (hL.cell (p := ⟨b, off + (q + 1) * 3, none⟩) hb1).trans hc0
                have c1 := (hL.cell (p := ⟨b, off + (q + 1) * 3 + 1, none⟩) hb1).trans hc1
                have cq := (hL.cell (p := ⟨b, off + q * 3, none⟩) hb1).trans hcq
                go_simp
                exact hK'.out _ _ rfl (Lat.refl _)
              simp only [Act.put, List.setIfInBounds_toArray, List.set_cons_zero, List.set_cons_succ, Nat.reduceAdd]
              apply RelyL.val
              · intro ν w' hL hF K hK'
                have c0 := (hL.cell (p := ⟨b, off + (q + 1) * 3, none⟩) hb1).trans hc0
                have c1 := (hL.cell (p := ⟨b, off + (q + 1) * 3 + 1, none⟩) hb1).trans hc1
                have cq := (hL.cell (p := ⟨b, off + q * 3, none⟩) hb1).trans hcq
                go_simp
                exact hK'.out _ _ rfl (Lat.refl _)
              simp only [Act.put, List.setIfInBounds_toArray, List.set_cons_zero, List.set_cons_succ, Nat.reduceAdd]
              apply RelyL.val
              · intro ν w' hL hF K hK'
                have c0 := (hL.cell (p := ⟨b, off + (q + 1) * 3, none⟩) hb1).trans hc0
                have c1 := (hL.cell (p := ⟨b, off + (q + 1) * 3 + 1, none⟩) hb1).trans hc1
                have cq := (hL.cell (p := ⟨b, off + q * 3, none⟩) hb1).trans hcq
                go_simp
                exact hK'.out _ _ rfl (Lat.refl _)
              simp only [Act.put, List.setIfInBounds_toArray, List.set_cons_zero, List.set_cons_succ, Nat.reduceAdd]
              apply RelyL.val
              · intro ν w' hL hF K hK'
                have c0 := (hL.cell (p := ⟨b, off + (q + 1) * 3, none⟩) hb1).trans hc0
                have c1 := (hL.cell (p := ⟨b, off + (q + 1) * 3 + 1, none⟩) hb1).trans hc1
                have cq := (hL.cell (p := ⟨b, off + q * 3, none⟩) hb1).trans hcq
                go_simp
                exact hK'.out _ _ rfl (Lat.refl _)
              simp only [Act.put, List.setIfInBounds_toArray, List.set_cons_zero, List.set_cons_succ, Nat.reduceAdd]
              apply RelyL.val
              · intro ν w' hL hF K hK'
                have c0 := (hL.cell (p := ⟨b, off + (q + 1) * 3, none⟩) hb1).trans hc0
                have c1 := (hL.cell (p := ⟨b, off + (q + 1) * 3 + 1, none⟩) hb1).trans hc1
                have cq := (hL.cell (p := ⟨b, off + q * 3, none⟩) hb1).trans hcq
                go_simp
                exact hK'.out _ _ rfl (Lat.refl _)
              simp only [Act.put, List.setIfInBounds_toArray, List.set_cons_zero, List.set_cons_succ, Nat.reduceAdd]
              apply RelyL.val
              · intro ν w' hL hF K hK'
                have c0 := (hL.cell (p := ⟨b, off + (q + 1) * 3, none⟩) hb1).trans hc0
                have c1 := (hL.cell (p := ⟨b, off + (q + 1) * 3 + 1, none⟩) hb1).trans hc1
                have cq := (hL.cell (p := ⟨b, off + q * 3, none⟩) hb1).trans hcq
                go_simp
                exact hK'.out _ _ rfl (Lat.refl _)
              simp only [Act.put, List.setIfInBounds_toArray, List.set_cons_zero, List.set_cons_succ, Nat.reduceAdd]
              apply RelyL.val
              · intro ν w' hL hF K hK'
                have c0 := (hL.cell (p := ⟨b, off + (q + 1) * 3, none⟩) hb1).trans hc0
                have c1 := (hL.cell (p := ⟨b, off + (q + 1) * 3 + 1, none⟩) hb1).trans hc1
                have cq := (hL.cell (p := ⟨b, off + q * 3, none⟩) hb1).trans hcq
                go_simp
                exact hK'.out _ _ rfl (Lat.refl _)
              simp only [Act.put, List.setIfInBounds_toArray, List.set_cons_zero, List.set_cons_succ, Nat.reduceAdd]
              apply RelyL.val
              · intro ν w' hL hF K hK'
                have c0 := (hL.cell (p := ⟨b, off + (q + 1) * 3, none⟩) hb1).trans hc0
                have c1 := (hL.cell (p := ⟨b, off + (q + 1) * 3 + 1, none⟩) hb1).trans hc1
                have cq := (hL.cell (p := ⟨b, off + q * 3, none⟩) hb1).trans hcq
                go_simp
                exact hK'.out _ _ rfl (Lat.refl _)
              simp only [Act.put, List.setIfInBounds_toArray, List.set_cons_zero, List.set_cons_succ, Nat.reduceAdd]
              apply RelyL.val
              · intro ν w' hL hF K hK'
                have c0 := (hL.cell (p := ⟨b, off + (q + 1) * 3, none⟩) hb1).trans hc0
                have c1 := (hL.cell (p := ⟨b, off + (q + 1) * 3 + 1, none⟩) hb1).trans hc1
                have cq := (hL.cell (p := ⟨b, off + q * 3, none⟩) hb1).trans hcq
                go_simp
                exact hK'.out _ _ rfl (Lat.refl _)
              simp only [Act.put, List.setIfInBounds_toArray, List.set_cons_zero, List.set_cons_succ, Nat.reduceAdd]
              apply RelyL.val
              · intro ν w' hL hF K hK'
                have H := HTK w'
                go_simp
                go_at_call 25
                refine H.out.mono ?_
                rintro r w'' ⟨rfl, rfl⟩
                exact hK'.out _ _ rfl (Lat.refl _)
              simp only [Act.put, List.setIfInBounds_toArray, List.set_cons_zero, List.set_cons_succ, Nat.reduceAdd]
              apply RelyL.val
              · intro ν w' hL hF K hK'
                have c0 := (hL.cell (p := ⟨b, off + (q + 1) * 3, none⟩) hb1).trans hc0
                have c1 := (hL.cell (p := ⟨b, off + (q + 1) * 3 + 1, none⟩) hb1).trans hc1
                have cq := (hL.cell (p := ⟨b, off + q * 3, none⟩) hb1).trans hcq
                go_simp
                exact hK'.out _ _ rfl (Lat.refl _)
              simp only [Act.put, List.setIfInBounds_toArray, List.set_cons_zero, List.set_cons_succ, Nat.reduceAdd]
              apply RelyL.val
              · intro ν w' hL hF K hK'
                have c0 := (hL.cell (p := ⟨b, off + (q + 1) * 3, none⟩) hb1).trans hc0
                have c1 := (hL.cell (p := ⟨b, off + (q + 1) * 3 + 1, none⟩) hb1).trans hc1
                have cq := (hL.cell (p := ⟨b, off + q * 3, none⟩) hb1).trans hcq
                go_simp
                exact hK'.out _ _ rfl (Lat.refl _)
              simp only [Act.put, List.setIfInBounds_toArray, List.set_cons_zero, List.set_cons_succ, Nat.reduceAdd]
              apply RelyL.val
              · intro ν w' hL hF K hK'
                have c0 := (hL.cell (p := ⟨b, off + (q + 1) * 3, none⟩) hb1).trans hc0
                have c1 := (hL.cell (p := ⟨b, off + (q + 1) * 3 + 1, none⟩) hb1).trans hc1
                have cq := (hL.cell (p := ⟨b, off + q * 3, none⟩) hb1).trans hcq
                go_simp
                exact hK'.out _ _ rfl (Lat.refl _)
              simp only [Act.put, List.setIfInBounds_toArray, List.set_cons_zero, List.set_cons_succ, Nat.reduceAdd]
              apply RelyL.val
              · intro ν w' hL hF K hK'
                have c0 := (hL.cell (p := ⟨b, off + (q + 1) * 3, none⟩) hb1).trans hc0
                have c1 := (hL.cell (p := ⟨b, off + (q + 1) * 3 + 1, none⟩) hb1).trans hc1
                have cq := (hL.cell (p := ⟨b, off + q * 3, none⟩) hb1).trans hcq
                go_simp
                exact hK'.out _ _ rfl (Lat.refl _)
              simp only [Act.put, List.setIfInBounds_toArray, List.set_cons_zero, List.set_cons_succ, Nat.reduceAdd]
              apply RelyL.val
              · intro ν w' hL hF K hK'
                have c0 := (hL.cell (p := ⟨b, off + (q + 1) * 3, none⟩) hb1).trans hc0
                have c1 := (hL.cell (p := ⟨b, off + (q + 1) * 3 + 1, none⟩) hb1).trans hc1
                have cq := (hL.cell (p := ⟨b, off + q * 3, none⟩) hb1).trans hcq
                go_simp
                exact hK'.out _ _ rfl (Lat.refl _)
              simp only [Act.put, List.setIfInBounds_toArray, List.set_cons_zero, List.set_cons_succ, Nat.reduceAdd]
              apply RelyL.val
              · intro ν w' hL hF K hK'
                have c0 := (hL.cell (p := ⟨b, off + (q + 1) * 3, none⟩) hb1).trans hc0
                have c1 := (hL.cell (p := ⟨b, off + (q + 1) * 3 + 1, none⟩) hb1).trans hc1
                have cq := (hL.cell (p := ⟨b, off + q * 3, none⟩) hb1).trans hcq
                go_simp
                exact hK'.out _ _ rfl (Lat.refl _)
              simp only [Act.put, List.setIfInBounds_toArray, List.set_cons_zero, List.set_cons_succ, Nat.reduceAdd]
              apply RelyL.val
              · intro ν w' hL hF K hK'
                have c0 := (hL.cell (p := ⟨b, off + (q + 1) * 3, none⟩) hb1).trans hc0
                have c1 := (hL.cell (p := ⟨b, off + (q + 1) * 3 + 1, none⟩) hb1).trans hc1
                have cq := (hL.cell (p := ⟨b, off + q * 3, none⟩) hb1).trans hcq
                go_simp
                exact hK'.out _ _ rfl (Lat.refl _)
              simp only [Act.put, List.setIfInBounds_toArray, List.set_cons_zero, List.set_cons_succ, Nat.reduceAdd]
              apply RelyL.val
              · intro ν w' hL hF K hK'
                have c0 := (hL.cell (p := ⟨b, off + (q + 1) * 3, none⟩) hb1).trans hc0
                have c1 := (hL.cell (p := ⟨b, off + (q + 1) * 3 + 1, none⟩) hb1).trans hc1
                have cq := (hL.cell (p := ⟨b, off + q * 3, none⟩) hb1).trans hcq
                go_simp
                exact hK'.out _ _ rfl (Lat.refl _)
              simp only [Act.put, List.setIfInBounds_toArray, List.set_cons_zero, List.set_cons_succ, Nat.reduceAdd]
              apply RelyL.val
              · intro ν w' hL hF K hK'
                have c0 := (hL.cell (p := ⟨b, off + (q + 1) * 3, none⟩) hb1).trans hc0
                have c1 := (hL.cell (p := ⟨b, off + (q + 1) * 3 + 1, none⟩) hb1).trans hc1
                have cq := (hL.cell (p := ⟨b, off + q * 3, none⟩) hb1).trans hcq
                go_simp
                exact hK'.out _ _ rfl (Lat.refl _)
              simp only [Act.put, List.setIfInBounds_toArray, List.set_cons_zero, List.set_cons_succ, Nat.reduceAdd]
              apply RelyL.val
              · intro ν w' hL hF K hK'
                have c0 := (hL.cell (p := ⟨b, off + (q + 1) * 3, none⟩) hb1).trans hc0
                have c1 := (hL.cell (p := ⟨b, off + (q + 1) * 3 + 1, none⟩) hb1).trans hc1
                have cq := (hL.cell (p := ⟨b, off + q * 3, none⟩) hb1).trans hcq
                go_simp
                exact hK'.out _ _ rfl (Lat.refl _)
              simp only [Act.put, List.setIfInBounds_toArray, List.set_cons_zero, List.set_cons_succ, Nat.reduceAdd]
              apply RelyL.val
              · intro ν w' hL hF K hK'
                have c0 := (hL.cell (p := ⟨b, off + (q + 1) * 3, none⟩) hb1).trans hc0
                have c1 := (hL.cell (p := ⟨b, off + (q + 1) * 3 + 1, none⟩) hb1).trans hc1
                have cq := (hL.cell (p := ⟨b, off + q * 3, none⟩) hb1).trans hcq
                go_simp
                exact hK'.out _ _ rfl (Lat.refl _)
              simp only [Act.put, List.setIfInBounds_toArray, List.set_cons_zero, List.set_cons_succ, Nat.reduceAdd]
              apply RelyL.val
              · intro ν w' hL hF K hK'
                have c0 := (hL.cell (p := ⟨b, off + (q + 1) * 3, none⟩) hb1).trans hc0
                have c1 := (hL.cell (p := ⟨b, off + (q + 1) * 3 + 1, none⟩) hb1).trans hc1
                have cq := (hL.cell (p := ⟨b, off + q * 3, none⟩) hb1).trans hcq
                go_simp
                exact hK'.out _ _ rfl (Lat.refl _)
              simp only [Act.put, List.setIfInBounds_toArray, List.set_cons_zero, List.set_cons_succ, Nat.reduceAdd]
              apply RelyL.val
              · intro ν w' hL hF K hK'
                have c0 := (hL.cell (p := ⟨b, off + (q + 1) * 3, none⟩) hb1).trans hc0
                have c1 := (hL.cell (p := ⟨b, off + (q + 1) * 3 + 1, none⟩) hb1).trans hc1
                have cq := (hL.cell (p := ⟨b, off + q * 3, none⟩) hb1).trans hcq
                go_simp
                exact hK'.out _ _ rfl (Lat.refl _)
              simp only [Act.put, List.setIfInBounds_toArray, List.set_cons_zero, List.set_cons_succ, Nat.reduceAdd]
              apply RelyL.val
              · intro ν w' hL hF K hK'
                have c0 := (hL.cell (p := ⟨b, off + (q + 1) * 3, none⟩) hb1).trans hc0
                have c1 := (hL.cell (p := ⟨b, off + (q + 1) * 3 + 1, none⟩) hb1).trans hc1
                have cq := (hL.cell (p := ⟨b, off + q * 3, none⟩) hb1).trans hcq
                go_simp
                exact hK'.out _ _ rfl (Lat.refl _)
              simp only [Act.put, List.setIfInBounds_toArray, List.set_cons_zero, List.set_cons_succ, Nat.reduceAdd]
              apply RelyL.val
              · intro ν w' hL hF K hK'
                have c0 := (hL.cell (p := ⟨b, off + (q + 1) * 3, none⟩) hb1).trans hc0
                have c1 := (hL.cell (p := ⟨b, off + (q + 1) * 3 + 1, none⟩) hb1).trans hc1
                have cq := (hL.cell (p := ⟨b, off + q * 3, none⟩) hb1).trans hcq
                go_simp
                exact hK'.out _ _ rfl (Lat.refl _)
              simp only [Act.put, List.setIfInBounds_toArray, List.set_cons_zero, List.set_cons_succ, Nat.reduceAdd]
              apply RelyL.val
              · intro ν w' hL hF K hK'
                have c0 := (hL.cell (p := ⟨b, off + (q + 1) * 3, none⟩) hb1).trans hc0
                have c1 := (hL.cell (p := ⟨b, off + (q + 1) * 3 + 1, none⟩) hb1).trans hc1
                have cq := (hL.cell (p := ⟨b, off + q * 3, none⟩) hb1).trans hcq
                go_simp
                exact hK'.out _ _ rfl (Lat.refl _)
              simp only [Act.put, List.setIfInBounds_toArray, List.set_cons_zero, List.set_cons_succ, Nat.reduceAdd]
              apply RelyL.val
              · intro ν w' hL hF K hK'
                have c0 := (hL.cell (p := ⟨b, off + (q + 1) * 3, none⟩) hb1).trans hc0
                have c1 := (hL.cell (p := ⟨b, off + (q + 1) * 3 + 1, none⟩) hb1).trans hc1
                have cq := (hL.cell (p := ⟨b, off + q * 3, none⟩) hb1).trans hcq
                go_simp
                exact hK'.out _ _ rfl (Lat.refl _)
              simp only [Act.put, List.setIfInBounds_toArray, List.set_cons_zero, List.set_cons_succ, Nat.reduceAdd]
              apply RelyL.val
              · intro ν w' hL hF K hK'
                have c0 := (hL.cell (p := ⟨b, off + (q + 1) * 3, none⟩) hb1).trans hc0
                have c1 := (hL.cell (p := ⟨b, off + (q + 1) * 3 + 1, none⟩) hb1).trans hc1
                have cq := (hL.cell (p := ⟨b, off + q * 3, none⟩) hb1).trans hcq
                go_simp
                exact hK'.out _ _ rfl (Lat.refl _)
              simp only [Act.put, List.setIfInBounds_toArray, List.set_cons_zero, List.set_cons_succ, Nat.reduceAdd]
              apply RelyL.val
              · intro ν w' hL hF K hK'
                have c0 := (hL.cell (p := ⟨b, off + (q + 1) * 3, none⟩) hb1).trans hc0
                have c1 := (hL.cell (p := ⟨b, off + (q + 1) * 3 + 1, none⟩) hb1).trans hc1
                have cq := (hL.cell (p := ⟨b, off + q * 3, none⟩) hb1).trans hcq
                go_simp
                exact hK'.out _ _ rfl (Lat.refl _)
              simp only [Act.put, List.setIfInBounds_toArray, List.set_cons_zero, List.set_cons_succ, Nat.reduceAdd]
              refine RelyL.done fun ν w5 hL hF => ?_
              have hLW5 := hLW.trans hL
              clear hF hL
              go_wp2_with fail
              go_roundw
              case rel => exact ⟨q + 1 + 1, by omega, by go_num, HT, hLW5⟩
              case measure => simp [intOf]; omega
            | false =>
              have HF : Hid (okT l = false) := Lib.hid (HJ.out.trans (HS.out.trans (by rw [hp.out, show pOk (some pr) x1 = ltB pr x1 from rfl, hlt1]; rfl)))
              have b1 : Op.bytesLess pr.toList x1.toList = false := hlt1
              by_cases he : pr = x1
              · subst he
                clear HJ HS hp hlt1 hj0
                refine wp_rely (by kernel_rfl) (by kernel_rfl) ?_
                apply RelyL.val
                · intro ν w' hL hF K hK'
                  have c0 := (hL.cell (p := ⟨b, off + (q + 1) * 3, none⟩) hb1).trans hc0
                  have c1 := (hL.cell (p := ⟨b, off + (q + 1) * 3 + 1, none⟩) hb1).trans hc1
                  have cq := (hL.cell (p := ⟨b, off + q * 3, none⟩) hb1).trans hcq
                  go_simp
                  exact hK'.out _ _ rfl (Lat.refl _)
                simp only [Act.put, List.setIfInBounds_toArray, List.set_cons_zero, List.set_cons_succ, Nat.reduceAdd]
                apply RelyL.val
                · intro ν w' hL hF K hK'
                  have c0 := (hL.cell (p := ⟨b, off + (q + 1) * 3, none⟩) hb1).trans hc0
                  have c1 := (hL.cell (p := ⟨b, off + (q + 1) * 3 + 1, none⟩) hb1).trans hc1
                  have cq := (hL.cell (p := ⟨b, off + q * 3, none⟩) hb1).trans hcq
                  go_simp
                  exact hK'.out _ _ rfl (Lat.refl _)
                simp only [Act.put, List.setIfInBounds_toArray, List.set_cons_zero, List.set_cons_succ, Nat.reduceAdd]
                apply RelyL.val
                · intro ν w' hL hF K hK'
                  have c0 := (hL.cell (p := ⟨b, off + (q + 1) * 3, none⟩) hb1).trans hc0
                  have c1 := (hL.cell (p := ⟨b, off + (q + 1) * 3 + 1, none⟩) hb1).trans hc1
                  have cq := (hL.cell (p := ⟨b, off + q * 3, none⟩) hb1).trans hcq
                  go_simp
                  exact hK'.out _ _ rfl (Lat.refl _)
                simp only [Act.put, List.setIfInBounds_toArray, List.set_cons_zero, List.set_cons_succ, Nat.reduceAdd]
                apply RelyL.val
                · intro ν w' hL hF K hK'
                  have c0 := (hL.cell (p := ⟨b, off + (q + 1) * 3, none⟩) hb1).trans hc0
                  have c1 := (hL.cell (p := ⟨b, off + (q + 1) * 3 + 1, none⟩) hb1).trans hc1
                  have cq := (hL.cell (p := ⟨b, off + q * 3, none⟩) hb1).trans hcq
                  go_simp
                  exact hK'.out _ _ rfl (Lat.refl _)
                simp only [Act.put, List.setIfInBounds_toArray, List.set_cons_zero, List.set_cons_succ, Nat.reduceAdd]
                apply RelyL.val
                · intro ν w' hL hF K hK'
                  have c0 := (hL.cell (p := ⟨b, off + (q + 1) * 3, none⟩) hb1).trans hc0
                  have c1 := (hL.cell (p := ⟨b, off + (q + 1) * 3 + 1, none⟩) hb1).trans hc1
                  have cq := (hL.cell (p := ⟨b, off + q * 3, none⟩) hb1).trans hcq
                  go_simp
                  exact hK'.out _ _ rfl (Lat.refl _)
                simp only [Act.put, List.setIfInBounds_toArray, List.set_cons_zero, List.set_cons_succ, Nat.reduceAdd]
                apply RelyL.val
                · intro ν w' hL hF K hK'
                  have c0 := (hL.cell (p := ⟨b, off + (q + 1) * 3, none⟩) hb1).trans hc0
                  have c1 := (hL.cell (p := ⟨b, off + (q + 1) * 3 + 1, none⟩) hb1).trans hc1
                  have cq := (hL.cell (p := ⟨b, off + q * 3, none⟩) hb1).trans hcq
                  go_simp
                  exact hK'.out _ _ rfl (Lat.refl _)
                simp only [Act.put, List.setIfInBounds_toArray, List.set_cons_zero, List.set_cons_succ, Nat.reduceAdd]
                apply RelyL.val
                · intro ν w' hL hF K hK'
                  have c0 := (hL.cell (p := ⟨b, off + (q + 1) * 3, none⟩) hb1).trans hc0
                  have c1 := (hL.cell (p := ⟨b, off + (q + 1) * 3 + 1, none⟩) hb1).trans hc1
                  have cq := (hL.cell (p := ⟨b, off + q * 3, none⟩) hb1).trans hcq
                  go_simp
                  exact hK'.out _ _ rfl (Lat.refl _)
                simp only [Act.put, List.setIfInBounds_toArray, List.set_cons_zero, List.set_cons_succ, Nat.reduceAdd]
                apply RelyL.val
                · intro ν w' hL hF K hK'
                  have c0 := (hL.cell (p := ⟨b, off + (q + 1) * 3, none⟩) hb1).trans hc0
                  have c1 := (hL.cell (p := ⟨b, off + (q + 1) * 3 + 1, none⟩) hb1).trans hc1
                  have cq := (hL.cell (p := ⟨b, off + q * 3, none⟩) hb1).trans hcq
                  go_simp
                  exact hK'.out _ _ rfl (Lat.refl _)
                simp only [Act.put, List.setIfInBounds_toArray, List.set_cons_zero, List.set_cons_succ, Nat.reduceAdd]
                apply RelyL.val
                · intro ν w' hL hF K hK'
                  have c0 := (hL.cell (p := ⟨b, off + (q + 1) * 3, none⟩) hb1).trans hc0
                  have c1 := (hL.cell (p := ⟨b, off + (q + 1) * 3 + 1, none⟩) hb1).trans hc1
                  have cq := (hL.cell (p := ⟨b, off + q * 3, none⟩) hb1).trans hcq
                  go_simp
                  exact hK'.out _ _ rfl (Lat.refl _)
                simp only [Act.put, List.setIfInBounds_toArray, List.set_cons_zero, List.set_cons_succ, Nat.reduceAdd]
                apply RelyL.val
                · intro ν w' hL hF K hK'
                  have c0 := (hL.cell (p := ⟨b, off + (q + 1) * 3, none⟩) hb1).trans hc0
                  have c1 := (hL.cell (p := ⟨b, off + (q + 1) * 3 + 1, none⟩) hb1).trans hc1
                  have cq := (hL.cell (p := ⟨b, off + q * 3, none⟩) hb1).trans hcq
                  go_simp
                  exact hK'.out _ _ rfl (Lat.refl _)
                simp only [Act.put, List.setIfInBounds_toArray, List.set_cons_zero, List.set_cons_succ, Nat.reduceAdd]
                apply RelyL.val
                · intro ν w' hL hF K hK'
                  have H := HTK w'
                  go_simp
                  go_at_call 25
                  refine H.out.mono ?_
                  rintro r w'' ⟨rfl, rfl⟩
                  exact hK'.out _ _ rfl (Lat.refl _)
                simp only [Act.put, List.setIfInBounds_toArray, List.set_cons_zero, List.set_cons_succ, Nat.reduceAdd]
                apply RelyL.val
                · intro ν w' hL hF K hK'
                  have c0 := (hL.cell (p := ⟨b, off + (q + 1) * 3, none⟩) hb1).trans hc0
                  have c1 := (hL.cell (p := ⟨b, off + (q + 1) * 3 + 1, none⟩) hb1).trans hc1
                  have cq := (hL.cell (p := ⟨b, off + q * 3, none⟩) hb1).trans hcq
                  go_simp
                  exact hK'.out _ _ rfl (Lat.refl _)
                simp only [Act.put, List.setIfInBounds_toArray, List.set_cons_zero, List.set_cons_succ, Nat.reduceAdd]
                apply RelyL.val
                · intro ν w' hL hF K hK'
                  have c0 := (hL.cell (p := ⟨b, off + (q + 1) * 3, none⟩) hb1).trans hc0
                  have c1 := (hL.cell (p := ⟨b, off + (q + 1) * 3 + 1, none⟩) hb1).trans hc1
                  have cq := (hL.cell (p := ⟨b, off + q * 3, none⟩) hb1).trans hcq
                  go_simp
                  exact hK'.out _ _ rfl (Lat.refl _)
                simp only [Act.put, List.setIfInBounds_toArray, List.set_cons_zero, List.set_cons_succ, Nat.reduceAdd]
                apply RelyL.val
                · intro ν w' hL hF K hK'
                  have c0 := (hL.cell (p := ⟨b, off + (q + 1) * 3, none⟩) hb1).trans hc0
                  have c1 := (hL.cell (p := ⟨b, off + (q + 1) * 3 + 1, none⟩) hb1).trans hc1
                  have cq := (hL.cell (p := ⟨b, off + q * 3, none⟩) hb1).trans hcq
                  go_simp
                  exact hK'.out _ _ rfl (Lat.refl _)
                simp only [Act.put, List.setIfInBounds_toArray, List.set_cons_zero, List.set_cons_succ, Nat.reduceAdd]
                apply RelyL.val
                · intro ν w' hL hF K hK'
                  have c0 := (hL.cell (p := ⟨b, off + (q + 1) * 3, none⟩) hb1).trans hc0
                  have c1 := (hL.cell (p := ⟨b, off + (q + 1) * 3 + 1, none⟩) hb1).trans hc1
                  have cq := (hL.cell (p := ⟨b, off + q * 3, none⟩) hb1).trans hcq
                  go_simp
                  exact hK'.out _ _ rfl (Lat.refl _)
                simp only [Act.put, List.setIfInBounds_toArray, List.set_cons_zero, List.set_cons_succ, Nat.reduceAdd]
                apply RelyL.val
                · intro ν w' hL hF K hK'
                  have c0 := (hL.cell (p := ⟨b, off + (q + 1) * 3, none⟩) hb1).trans hc0
                  have c1 := (hL.cell (p := ⟨b, off + (q + 1) * 3 + 1, none⟩) hb1).trans hc1
                  have cq := (hL.cell (p := ⟨b, off + q * 3, none⟩) hb1).trans hcq
                  go_simp
                  exact hK'.out _ _ rfl (Lat.refl _)
                simp only [Act.put, List.setIfInBounds_toArray, List.set_cons_zero, List.set_cons_succ, Nat.reduceAdd]
                apply RelyL.val
                · intro ν w' hL hF K hK'
                  have c0 := (hL.cell (p := ⟨b, off + (q + 1) * 3, none⟩) hb1).trans hc0
                  have c1 := (hL.cell (p := ⟨b, off + (q + 1) * 3 + 1, none⟩) hb1).trans hc1
                  have cq := (hL.cell (p := ⟨b, off + q * 3, none⟩) hb1).trans hcq
                  go_simp
                  exact hK'.out _ _ rfl (Lat.refl _)
                simp only [Act.put, List.setIfInBounds_toArray, List.set_cons_zero, List.set_cons_succ, Nat.reduceAdd]
                apply RelyL.val
                · intro ν w' hL hF K hK'
                  have c0 := (hL.cell (p := ⟨b, off + (q + 1) * 3, none⟩) hb1).trans hc0
                  have c1 := (hL.cell (p := ⟨b, off + (q + 1) * 3 + 1, none⟩) hb1).trans hc1
                  have cq := (hL.cell (p := ⟨b, off + q * 3, none⟩) hb1).trans hcq
                  go_simp
                  exact hK'.out _ _ rfl (Lat.refl _)
                simp only [Act.put, List.setIfInBounds_toArray, List.set_cons_zero, List.set_cons_succ, Nat.reduceAdd]
                apply RelyL.val
                · intro ν w' hL hF K hK'
                  have c0 := (hL.cell (p := ⟨b, off + (q + 1) * 3, none⟩) hb1).trans hc0
                  have c1 := (hL.cell (p := ⟨b, off + (q + 1) * 3 + 1, none⟩) hb1).trans hc1
                  have cq := (hL.cell (p := ⟨b, off + q * 3, none⟩) hb1).trans hcq
                  go_simp
                  exact hK'.out _ _ rfl (Lat.refl _)
                simp only [Act.put, List.setIfInBounds_toArray, List.set_cons_zero, List.set_cons_succ, Nat.reduceAdd]
                apply RelyL.val
                · intro ν w' hL hF K hK'
                  have c0 := (hL.cell (p := ⟨b, off + (q + 1) * 3, none⟩) hb1).trans hc0
                  have c1 := (hL.cell (p := ⟨b, off + (q + 1) * 3 + 1, none⟩) hb1).trans hc1
                  have cq := (hL.cell (p := ⟨b, off + q * 3, none⟩) hb1).trans hcq
                  go_simp
                  exact hK'.out _ _ rfl (Lat.refl _)
                simp only [Act.put, List.setIfInBounds_toArray, List.set_cons_zero, List.set_cons_succ, Nat.reduceAdd]
                apply RelyL.val
                · intro ν w' hL hF K hK'
                  have c0 := (hL.cell (p := ⟨b, off + (q + 1) * 3, none⟩) hb1).trans hc0
                  have c1 := (hL.cell (p := ⟨b, off + (q + 1) * 3 + 1, none⟩) hb1).trans hc1
                  have cq := (hL.cell (p := ⟨b, off + q * 3, none⟩) hb1).trans hcq
                  go_simp
                  exact hK'.out _ _ rfl (Lat.refl _)
                simp only [Act.put, List.setIfInBounds_toArray, List.set_cons_zero, List.set_cons_succ, Nat.reduceAdd]
                apply RelyL.val
                · intro ν w' hL hF K hK'
                  have c0 := (hL.cell (p := ⟨b, off + (q + 1) * 3, none⟩) hb1).trans hc0
                  have c1 := (hL.cell (p := ⟨b, off + (q + 1) * 3 + 1, none⟩) hb1).trans hc1
                  have cq := (hL.cell (p := ⟨b, off + q * 3, none⟩) hb1).trans hcq
                  go_simp
                  exact hK'.out _ _ rfl (Lat.refl _)
                simp only [Act.put, List.setIfInBounds_toArray, List.set_cons_zero, List.set_cons_succ, Nat.reduceAdd]
                apply RelyL.val
                · intro ν w' hL hF K hK'
                  have c0 := (hL.cell (p := ⟨b, off + (q + 1) * 3, none⟩) hb1).trans hc0
                  have c1 := (hL.cell (p := ⟨b, off + (q + 1) * 3 + 1, none⟩) hb1).trans hc1
                  have cq := (hL.cell (p := ⟨b, off + q * 3, none⟩) hb1).trans hcq
                  go_simp
                  exact hK'.out _ _ rfl (Lat.refl _)
                simp only [Act.put, List.setIfInBounds_toArray, List.set_cons_zero, List.set_cons_succ, Nat.reduceAdd]
                apply RelyL.val
                · intro ν w' hL hF K hK'
                  have c0 := (hL.cell (p := ⟨b, off + (q + 1) * 3, none⟩) hb1).trans hc0
                  have c1 := (hL.cell (p := ⟨b, off + (q + 1) * 3 + 1, none⟩) hb1).trans hc1
                  have cq := (hL.cell (p := ⟨b, off + q * 3, none⟩) hb1).trans hcq
                  go_simp
                  exact hK'.out _ _ rfl (Lat.refl _)
                simp only [Act.put, List.setIfInBounds_toArray, List.set_cons_zero, List.set_cons_succ, Nat.reduceAdd]
                apply RelyL.val
                · intro ν w' hL hF K hK'
                  have c0 := (hL.cell (p := ⟨b, off + (q + 1) * 3, none⟩) hb1).trans hc0
                  have c1 := (hL.cell (p := ⟨b, off + (q + 1) * 3 + 1, none⟩) hb1).trans hc1
                  have cq := (hL.cell (p := ⟨b, off + q * 3, none⟩) hb1).trans hcq
                  go_simp
                  exact hK'.out _ _ rfl (Lat.refl _)
                simp only [Act.put, List.setIfInBounds_toArray, List.set_cons_zero, List.set_cons_succ, Nat.reduceAdd]
                apply RelyL.val
                · intro ν w' hL hF K hK'
                  have c0 := (hL.cell (p := ⟨b, off + (q + 1) * 3, none⟩) hb1).trans hc0
                  have c1 := (hL.cell (p := ⟨b, off + (q + 1) * 3 + 1, none⟩) hb1).trans hc1
                  have cq := (hL.cell (p := ⟨b, off + q * 3, none⟩) hb1).trans hcq
                  go_simp
                  exact hK'.out _ _ rfl (Lat.refl _)
                simp only [Act.put, List.setIfInBounds_toArray, List.set_cons_zero, List.set_cons_succ, Nat.reduceAdd]
                apply RelyL.val
                · intro ν w' hL hF K hK'
                  have c0 := (hL.cell (p := ⟨b, off + (q + 1) * 3, none⟩) hb1).trans hc0
                  have c1 := (hL.cell (p := ⟨b, off + (q + 1) * 3 + 1, none⟩) hb1).trans hc1
                  have cq := (hL.cell (p := ⟨b, off + q * 3, none⟩) hb1).trans hcq
                  go_simp
                  exact hK'.out _ _ rfl (Lat.refl _)
                simp only [Act.put, List.setIfInBounds_toArray, List.set_cons_zero, List.set_cons_succ, Nat.reduceAdd]
                apply RelyL.val
                · intro ν w' hL hF K hK'
                  have c0 := (hL.cell (p := ⟨b, off + (q + 1) * 3, none⟩) hb1).trans hc0
                  have c1 := (hL.cell (p := ⟨b, off + (q + 1) * 3 + 1, none⟩) hb1).trans hc1
                  have cq := (hL.cell (p := ⟨b, off + q * 3, none⟩) hb1).trans hcq
                  go_simp
                  exact hK'.out _ _ rfl (Lat.refl _)
                simp only [Act.put, List.setIfInBounds_toArray, List.set_cons_zero, List.set_cons_succ, Nat.reduceAdd]
                apply RelyL.val
                · intro ν w' hL hF K hK'
                  have c0 := (hL.cell (p := ⟨b, off + (q + 1) * 3, none⟩) hb1).trans hc0
                  have c1 := (hL.cell (p := ⟨b, off + (q + 1) * 3 + 1, none⟩) hb1).trans hc1
                  have cq := (hL.cell (p := ⟨b, off + q * 3, none⟩) hb1).trans hcq
                  go_simp
                  exact hK'.out _ _ rfl (Lat.refl _)
                simp only [Act.put, List.setIfInBounds_toArray, List.set_cons_zero, List.set_cons_succ, Nat.reduceAdd]
                apply RelyL.val
                · intro ν w' hL hF K hK'
                  have c0 := (hL.cell (p := ⟨b, off + (q + 1) * 3, none⟩) hb1).trans hc0
                  have c1 := (hL.cell (p := ⟨b, off + (q + 1) * 3 + 1, none⟩) hb1).trans hc1
                  have cq := (hL.cell (p := ⟨b, off + q * 3, none⟩) hb1).trans hcq
                  go_simp
                  exact hK'.out _ _ rfl (Lat.refl _)
                simp only [Act.put, List.setIfInBounds_toArray, List.set_cons_zero, List.set_cons_succ, Nat.reduceAdd]
                refine RelyL.done fun ν w5 hL hF => ?_
                have hLW5 := hLW.trans hL
                clear hF hL
                go_wp2_with fail
                go_ret
                have hv : validP l = [] := by unfold validP; rw [HF.out]; rfl
                rw [hv]
                exact ⟨⟨_, rfl, Elt.Rd.nil _⟩, hLW5⟩
              · have b2 : Op.bytesLess x1.toList pr.toList = true := sto_ltB.tri _ _ hlt1 he
                have b3 : (x1.toList == pr.toList) = false := by rw [toList_beq]; simpa using (Ne.symm he)
                clear HJ HS hp hlt1 hj0 he
                refine wp_rely (by kernel_rfl) (by kernel_rfl) ?_
                apply RelyL.val
                · intro ν w' hL hF K hK'
                  have c0 := (hL.cell (p := ⟨b, off + (q + 1) * 3, none⟩) hb1).trans hc0
                  have c1 := (hL.cell (p := ⟨b, off + (q + 1) * 3 + 1, none⟩) hb1).trans hc1
                  have cq := (hL.cell (p := ⟨b, off + q * 3, none⟩) hb1).trans hcq
                  go_simp
                  exact hK'.out _ _ rfl (Lat.refl _)
                simp only [Act.put, List.setIfInBounds_toArray, List.set_cons_zero, List.set_cons_succ, Nat.reduceAdd]
                apply RelyL.val
                · intro ν w' hL hF K hK'
                  have c0 := (hL.cell (p := ⟨b, off + (q + 1) * 3, none⟩) hb1).trans hc0
                  have c1 := (hL.cell (p := ⟨b, off + (q + 1) * 3 + 1, none⟩) hb1).trans hc1
                  have cq := (hL.cell (p := ⟨b, off + q * 3, none⟩) hb1).trans hcq
                  go_simp
                  exact hK'.out _ _ rfl (Lat.refl _)
                simp only [Act.put, List.setIfInBounds_toArray, List.set_cons_zero, List.set_cons_succ, Nat.reduceAdd]
                apply RelyL.val
                · intro ν w' hL hF K hK'
                  have c0 := (hL.cell (p := ⟨b, off + (q + 1) * 3, none⟩) hb1).trans hc0
                  have c1 := (hL.cell (p := ⟨b, off + (q + 1) * 3 + 1, none⟩) hb1).trans hc1
                  have cq := (hL.cell (p := ⟨b, off + q * 3, none⟩) hb1).trans hcq
                  go_simp
                  exact hK'.out _ _ rfl (Lat.refl _)
                simp only [Act.put, List.setIfInBounds_toArray, List.set_cons_zero, List.set_cons_succ, Nat.reduceAdd]
                apply RelyL.val
                · intro ν w' hL hF K hK'
                  have c0 := (hL.cell (p := ⟨b, off + (q + 1) * 3, none⟩) hb1).trans hc0
                  have c1 := (hL.cell (p := ⟨b, off + (q + 1) * 3 + 1, none⟩) hb1).trans hc1
                  have cq := (hL.cell (p := ⟨b, off + q * 3, none⟩) hb1).trans hcq
                  go_simp
                  exact hK'.out _ _ rfl (Lat.refl _)
                simp only [Act.put, List.setIfInBounds_toArray, List.set_cons_zero, List.set_cons_succ, Nat.reduceAdd]
                apply RelyL.val
                · intro ν w' hL hF K hK'
                  have c0 := (hL.cell (p := ⟨b, off + (q + 1) * 3, none⟩) hb1).trans hc0
                  have c1 := (hL.cell (p := ⟨b, off + (q + 1) * 3 + 1, none⟩) hb1).trans hc1
                  have cq := (hL.cell (p := ⟨b, off + q * 3, none⟩) hb1).trans hcq
                  go_simp
                  exact hK'.out _ _ rfl (Lat.refl _)
                simp only [Act.put, List.setIfInBounds_toArray, List.set_cons_zero, List.set_cons_succ, Nat.reduceAdd]
                apply RelyL.val
                · intro ν w' hL hF K hK'
                  have c0 := (hL.cell (p := ⟨b, off + (q + 1) * 3, none⟩) hb1).trans hc0
                  have c1 := (hL.cell (p := ⟨b, off + (q + 1) * 3 + 1, none⟩) hb1).trans hc1
                  have cq := (hL.cell (p := ⟨b, off + q * 3, none⟩) hb1).trans hcq
                  go_simp
                  exact hK'.out _ _ rfl (Lat.refl _)
                simp only [Act.put, List.setIfInBounds_toArray, List.set_cons_zero, List.set_cons_succ, Nat.reduceAdd]
                apply RelyL.val
                · intro ν w' hL hF K hK'
                  have c0 := (hL.cell (p := ⟨b, off + (q + 1) * 3, none⟩) hb1).trans hc0
                  have c1 := (hL.cell (p := ⟨b, off + (q + 1) * 3 + 1, none⟩) hb1).trans hc1
                  have cq := (hL.cell (p := ⟨b, off + q * 3, none⟩) hb1).trans hcq
                  go_simp
                  exact hK'.out _ _ rfl (Lat.refl _)
                simp only [Act.put, List.setIfInBounds_toArray, List.set_cons_zero, List.set_cons_succ, Nat.reduceAdd]
                apply RelyL.val
                · intro ν w' hL hF K hK'
                  have c0 := (hL.cell (p := ⟨b, off + (q + 1) * 3, none⟩) hb1).trans hc0
                  have c1 := (hL.cell (p := ⟨b, off + (q + 1) * 3 + 1, none⟩) hb1).trans hc1
                  have cq := (hL.cell (p := ⟨b, off + q * 3, none⟩) hb1).trans hcq
                  go_simp
                  exact hK'.out _ _ rfl (Lat.refl _)
                simp only [Act.put, List.setIfInBounds_toArray, List.set_cons_zero, List.set_cons_succ, Nat.reduceAdd]
                apply RelyL.val
                · intro ν w' hL hF K hK'
                  have c0 := (hL.cell (p := ⟨b, off + (q + 1) * 3, none⟩) hb1).trans hc0
                  have c1 := (hL.cell (p := ⟨b, off + (q + 1) * 3 + 1, none⟩) hb1).trans hc1
                  have cq := (hL.cell (p := ⟨b, off + q * 3, none⟩) hb1).trans hcq
                  go_simp
                  exact hK'.out _ _ rfl (Lat.refl _)
                simp only [Act.put, List.setIfInBounds_toArray, List.set_cons_zero, List.set_cons_succ, Nat.reduceAdd]
                apply RelyL.val
                · intro ν w' hL hF K hK'
                  have c0 := (hL.cell (p := ⟨b, off + (q + 1) * 3, none⟩) hb1).trans hc0
                  have c1 := (hL.cell (p := ⟨b, off + (q + 1) * 3 + 1, none⟩) hb1).trans hc1
                  have cq := (hL.cell (p := ⟨b, off + q * 3, none⟩) hb1).trans hcq
                  go_simp
                  exact hK'.out _ _ rfl (Lat.refl _)
                simp only [Act.put, List.setIfInBounds_toArray, List.set_cons_zero, List.set_cons_succ, Nat.reduceAdd]
                apply RelyL.val
                · intro ν w' hL hF K hK'
                  have H := HTK w'
                  go_simp
                  go_at_call 25
                  refine H.out.mono ?_
                  rintro r w'' ⟨rfl, rfl⟩
                  exact hK'.out _ _ rfl (Lat.refl _)
                simp only [Act.put, List.setIfInBounds_toArray, List.set_cons_zero, List.set_cons_succ, Nat.reduceAdd]
                apply RelyL.val
                · intro ν w' hL hF K hK'
                  have c0 := (hL.cell (p := ⟨b, off + (q + 1) * 3, none⟩) hb1).trans hc0
                  have c1 := (hL.cell (p := ⟨b, off + (q + 1) * 3 + 1, none⟩) hb1).trans hc1
                  have cq := (hL.cell (p := ⟨b, off + q * 3, none⟩) hb1).trans hcq
                  go_simp
                  exact hK'.out _ _ rfl (Lat.refl _)
                simp only [Act.put, List.setIfInBounds_toArray, List.set_cons_zero, List.set_cons_succ, Nat.reduceAdd]
                apply RelyL.val
                · intro ν w' hL hF K hK'
                  have c0 := (hL.cell (p := ⟨b, off + (q + 1) * 3, none⟩) hb1).trans hc0
                  have c1 := (hL.cell (p := ⟨b, off + (q + 1) * 3 + 1, none⟩) hb1).trans hc1
                  have cq := (hL.cell (p := ⟨b, off + q * 3, none⟩) hb1).trans hcq
                  go_simp
                  exact hK'.out _ _ rfl (Lat.refl _)
                simp only [Act.put, List.setIfInBounds_toArray, List.set_cons_zero, List.set_cons_succ, Nat.reduceAdd]
                apply RelyL.val
                · intro ν w' hL hF K hK'
                  have c0 := (hL.cell (p := ⟨b, off + (q + 1) * 3, none⟩) hb1).trans hc0
                  have c1 := (hL.cell (p := ⟨b, off + (q + 1) * 3 + 1, none⟩) hb1).trans hc1
                  have cq := (hL.cell (p := ⟨b, off + q * 3, none⟩) hb1).trans hcq
                  go_simp
                  exact hK'.out _ _ rfl (Lat.refl _)
                simp only [Act.put, List.setIfInBounds_toArray, List.set_cons_zero, List.set_cons_succ, Nat.reduceAdd]
                apply RelyL.val
                · intro ν w' hL hF K hK'
                  have c0 := (hL.cell (p := ⟨b, off + (q + 1) * 3, none⟩) hb1).trans hc0
                  have c1 := (hL.cell (p := ⟨b, off + (q + 1) * 3 + 1, none⟩) hb1).trans hc1
                  have cq := (hL.cell (p := ⟨b, off + q * 3, none⟩) hb1).trans hcq
                  go_simp
                  exact hK'.out _ _ rfl (Lat.refl _)
                simp only [Act.put, List.setIfInBounds_toArray, List.set_cons_zero, List.set_cons_succ, Nat.reduceAdd]
                apply RelyL.val
                · intro ν w' hL hF K hK'
                  have c0 := (hL.cell (p := ⟨b, off + (q + 1) * 3, none⟩) hb1).trans hc0
                  have c1 := (hL.cell (p := ⟨b, off + (q + 1) * 3 + 1, none⟩) hb1).trans hc1
                  have cq := (hL.cell (p := ⟨b, off + q * 3, none⟩) hb1).trans hcq
                  go_simp
                  exact hK'.out _ _ rfl (Lat.refl _)
                simp only [Act.put, List.setIfInBounds_toArray, List.set_cons_zero, List.set_cons_succ, Nat.reduceAdd]
                apply RelyL.val
                · intro ν w' hL hF K hK'
                  have c0 := (hL.cell (p := ⟨b, off + (q + 1) * 3, none⟩) hb1).trans hc0
                  have c1 := (hL.cell (p := ⟨b, off + (q + 1) * 3 + 1, none⟩) hb1).trans hc1
                  have cq := (hL.cell (p := ⟨b, off + q * 3, none⟩) hb1).trans hcq
                  go_simp
                  exact hK'.out _ _ rfl (Lat.refl _)
                simp only [Act.put, List.setIfInBounds_toArray, List.set_cons_zero, List.set_cons_succ, Nat.reduceAdd]
                apply RelyL.val
                · intro ν w' hL hF K hK'
                  have c0 := (hL.cell (p := ⟨b, off + (q + 1) * 3, none⟩) hb1).trans hc0
                  have c1 := (hL.cell (p := ⟨b, off + (q + 1) * 3 + 1, none⟩) hb1).trans hc1
                  have cq := (hL.cell (p := ⟨b, off + q * 3, none⟩) hb1).trans hcq
                  go_simp
                  exact hK'.out _ _ rfl (Lat.refl _)
                simp only [Act.put, List.setIfInBounds_toArray, List.set_cons_zero, List.set_cons_succ, Nat.reduceAdd]
                apply RelyL.val
                · intro ν w' hL hF K hK'
                  have c0 := (hL.cell (p := ⟨b, off + (q + 1) * 3, none⟩) hb1).trans hc0
                  have c1 := (hL.cell (p := ⟨b, off + (q + 1) * 3 + 1, none⟩) hb1).trans hc1
                  have cq := (hL.cell (p := ⟨b, off + q * 3, none⟩) hb1).trans hcq
                  go_simp
                  exact hK'.out _ _ rfl (Lat.refl _)
                simp only [Act.put, List.setIfInBounds_toArray, List.set_cons_zero, List.set_cons_succ, Nat.reduceAdd]
                apply RelyL.val
                · intro ν w' hL hF K hK'
                  have c0 := (hL.cell (p := ⟨b, off + (q + 1) * 3, none⟩) hb1).trans hc0
                  have c1 := (hL.cell (p := ⟨b, off + (q + 1) * 3 + 1, none⟩) hb1).trans hc1
                  have cq := (hL.cell (p := ⟨b, off + q * 3, none⟩) hb1).trans hcq
                  go_simp
                  exact hK'.out _ _ rfl (Lat.refl _)
                simp only [Act.put, List.setIfInBounds_toArray, List.set_cons_zero, List.set_cons_succ, Nat.reduceAdd]
                apply RelyL.val
                · intro ν w' hL hF K hK'
                  have c0 := (hL.cell (p := ⟨b, off + (q + 1) * 3, none⟩) hb1).trans hc0
                  have c1 := (hL.cell (p := ⟨b, off + (q + 1) * 3 + 1, none⟩) hb1).trans hc1
                  have cq := (hL.cell (p := ⟨b, off + q * 3, none⟩) hb1).trans hcq
                  go_simp
                  exact hK'.out _ _ rfl (Lat.refl _)
                simp only [Act.put, List.setIfInBounds_toArray, List.set_cons_zero, List.set_cons_succ, Nat.reduceAdd]
                apply RelyL.val
                · intro ν w' hL hF K hK'
                  have c0 := (hL.cell (p := ⟨b, off + (q + 1) * 3, none⟩) hb1).trans hc0
                  have c1 := (hL.cell (p := ⟨b, off + (q + 1) * 3 + 1, none⟩) hb1).trans hc1
                  have cq := (hL.cell (p := ⟨b, off + q * 3, none⟩) hb1).trans hcq
                  go_simp
                  exact hK'.out _ _ rfl (Lat.refl _)
                simp only [Act.put, List.setIfInBounds_toArray, List.set_cons_zero, List.set_cons_succ, Nat.reduceAdd]
                apply RelyL.val
                · intro ν w' hL hF K hK'
                  have c0 := (hL.cell (p := ⟨b, off + (q + 1) * 3, none⟩) hb1).trans hc0
                  have c1 := (hL.cell (p := ⟨b, off + (q + 1) * 3 + 1, none⟩) hb1).trans hc1
                  have cq := (hL.cell (p := ⟨b, off + q * 3, none⟩) hb1).trans hcq
                  go_simp
                  exact hK'.out _ _ rfl (Lat.refl _)
                simp only [Act.put, List.setIfInBounds_toArray, List.set_cons_zero, List.set_cons_succ, Nat.reduceAdd]
                apply RelyL.val
                · intro ν w' hL hF K hK'
                  have c0 := (hL.cell (p := ⟨b, off + (q + 1) * 3, none⟩) hb1).trans hc0
                  have c1 := (hL.cell (p := ⟨b, off + (q + 1) * 3 + 1, none⟩) hb1).trans hc1
                  have cq := (hL.cell (p := ⟨b, off + q * 3, none⟩) hb1).trans hcq
                  go_simp
                  exact hK'.out _ _ rfl (Lat.refl _)
                simp only [Act.put, List.setIfInBounds_toArray, List.set_cons_zero, List.set_cons_succ, Nat.reduceAdd]
                apply RelyL.val
                · intro ν w' hL hF K hK'
                  have c0 := (hL.cell (p := ⟨b, off + (q + 1) * 3, none⟩) hb1).trans hc0
                  have c1 := (hL.cell (p := ⟨b, off + (q + 1) * 3 + 1, none⟩) hb1).trans hc1
                  have cq := (hL.cell (p := ⟨b, off + q * 3, none⟩) hb1).trans hcq
                  go_simp
                  exact hK'.out _ _ rfl (Lat.refl _)
                simp only [Act.put, List.setIfInBounds_toArray, List.set_cons_zero, List.set_cons_succ, Nat.reduceAdd]
                apply RelyL.val
                · intro ν w' hL hF K hK'
                  have c0 := (hL.cell (p := ⟨b, off + (q + 1) * 3, none⟩) hb1).trans hc0
                  have c1 := (hL.cell (p := ⟨b, off + (q + 1) * 3 + 1, none⟩) hb1).trans hc1
                  have cq := (hL.cell (p := ⟨b, off + q * 3, none⟩) hb1).trans hcq
                  go_simp
                  exact hK'.out _ _ rfl (Lat.refl _)
                simp only [Act.put, List.setIfInBounds_toArray, List.set_cons_zero, List.set_cons_succ, Nat.reduceAdd]
                apply RelyL.val
                · intro ν w' hL hF K hK'
                  have c0 := (hL.cell (p := ⟨b, off + (q + 1) * 3, none⟩) hb1).trans hc0
                  have c1 := (hL.cell (p := ⟨b, off + (q + 1) * 3 + 1, none⟩) hb1).trans hc1
                  have cq := (hL.cell (p := ⟨b, off + q * 3, none⟩) hb1).trans hcq
                  go_simp
                  exact hK'.out _ _ rfl (Lat.refl _)
                simp only [Act.put, List.setIfInBounds_toArray, List.set_cons_zero, List.set_cons_succ, Nat.reduceAdd]
                apply RelyL.val
                · intro ν w' hL hF K hK'
                  have c0 := (hL.cell (p := ⟨b, off + (q + 1) * 3, none⟩) hb1).trans hc0
                  have c1 := (hL.cell (p := ⟨b, off + (q + 1) * 3 + 1, none⟩) hb1).trans hc1
                  have cq := (hL.cell (p := ⟨b, off + q * 3, none⟩) hb1).trans hcq
                  go_simp
                  exact hK'.out _ _ rfl (Lat.refl _)
                simp only [Act.put, List.setIfInBounds_toArray, List.set_cons_zero, List.set_cons_succ, Nat.reduceAdd]
                apply RelyL.val
                · intro ν w' hL hF K hK'
                  have c0 := (hL.cell (p := ⟨b, off + (q + 1) * 3, none⟩) hb1).trans hc0
                  have c1 := (hL.cell (p := ⟨b, off + (q + 1) * 3 + 1, none⟩) hb1).trans hc1
                  have cq := (hL.cell (p := ⟨b, off + q * 3, none⟩) hb1).trans hcq
                  go_simp
                  exact hK'.out _ _ rfl (Lat.refl _)
                simp only [Act.put, List.setIfInBounds_toArray, List.set_cons_zero, List.set_cons_succ, Nat.reduceAdd]
                apply RelyL.val
                · intro ν w' hL hF K hK'
                  have c0 := (hL.cell (p := ⟨b, off + (q + 1) * 3, none⟩) hb1).trans hc0
                  have c1 := (hL.cell (p := ⟨b, off + (q + 1) * 3 + 1, none⟩) hb1).trans hc1
                  have cq := (hL.cell (p := ⟨b, off + q * 3, none⟩) hb1).trans hcq
                  go_simp
                  exact hK'.out _ _ rfl (Lat.refl _)
                simp only [Act.put, List.setIfInBounds_toArray, List.set_cons_zero, List.set_cons_succ, Nat.reduceAdd]
                refine RelyL.done fun ν w5 hL hF => ?_
                have hLW5 := hLW.trans hL
                clear hF hL
                go_wp2_with fail
                go_ret
                have hv : validP l = [] := by unfold validP; rw [HF.out]; rfl
                rw [hv]
                exact ⟨⟨_, rfl, Elt.Rd.nil _⟩, hLW5⟩
        · have HF : Hid (okT l = false) := Lib.hid (HJ.out.trans (HS.out.trans (by
            rcases Int.lt_or_le x2 0 with h | h
            · rw [decide_eq_false (by omega : ¬ 0 ≤ x2)]; rfl
            · rw [decide_eq_false (by unfold MT; omega : ¬ x2 ≤ MT), Bool.and_false]; rfl)))
          have hne : ¬ x2 = lim x2 := fun e => h12 ⟨by rw [e]; exact lim_ge _, by rw [e]; exact lim_le _⟩
          generalize lim x2 = L at *
          have hn1 : (x2 == L) = false := by simpa using hne
          have hn2 : (x2 != L) = true := by simpa using hne
          clear HJ HS hprev2 h12 HP hP0
          refine wp_rely (by kernel_rfl) (by kernel_rfl) ?_
          apply RelyL.val
          · intro ν w' hL hF K hK'
            have c0 := (hL.cell (p := ⟨b, off + j * 3, none⟩) hb1).trans hc0
            have c1 := (hL.cell (p := ⟨b, off + j * 3 + 1, none⟩) hb1).trans hc1
            go_simp
            exact hK'.out _ _ rfl (Lat.refl _)
          simp only [Act.put, List.setIfInBounds_toArray, List.set_cons_zero, List.set_cons_succ, Nat.reduceAdd]
          apply RelyL.val
          · intro ν w' hL hF K hK'
            have c0 := (hL.cell (p := ⟨b, off + j * 3, none⟩) hb1).trans hc0
            have c1 := (hL.cell (p := ⟨b, off + j * 3 + 1, none⟩) hb1).trans hc1
            go_simp
            exact hK'.out _ _ rfl (Lat.refl _)
          simp only [Act.put, List.setIfInBounds_toArray, List.set_cons_zero, List.set_cons_succ, Nat.reduceAdd]
          apply RelyL.val
          · intro ν w' hL hF K hK'
            have c0 := (hL.cell (p := ⟨b, off + j * 3, none⟩) hb1).trans hc0
            have c1 := (hL.cell (p := ⟨b, off + j * 3 + 1, none⟩) hb1).trans hc1
            go_simp
            exact hK'.out _ _ rfl (Lat.refl _)
          simp only [Act.put, List.setIfInBounds_toArray, List.set_cons_zero, List.set_cons_succ, Nat.reduceAdd]
          apply RelyL.val
          · intro ν w' hL hF K hK'
            have c0 := (hL.cell (p := ⟨b, off + j * 3, none⟩) hb1).trans hc0
            have c1 := (hL.cell (p := ⟨b, off + j * 3 + 1, none⟩) hb1).trans hc1
            go_simp
            exact hK'.out _ _ rfl (Lat.refl _)
          simp only [Act.put, List.setIfInBounds_toArray, List.set_cons_zero, List.set_cons_succ, Nat.reduceAdd]
          apply RelyL.val
          · intro ν w' hL hF K hK'
            have c0 := (hL.cell (p := ⟨b, off + j * 3, none⟩) hb1).trans hc0
            have c1 := (hL.cell (p := ⟨b, off + j * 3 + 1, none⟩) hb1).trans hc1
            go_simp
            exact hK'.out _ _ rfl (Lat.refl _)
          simp only [Act.put, List.setIfInBounds_toArray, List.set_cons_zero, List.set_cons_succ, Nat.reduceAdd]
          apply RelyL.val
          · intro ν w' hL hF K hK'
            have c0 := (hL.cell (p := ⟨b, off + j * 3, none⟩) hb1).trans hc0
            have c1 := (hL.cell (p := ⟨b, off + j * 3 + 1, none⟩) hb1).trans hc1
            go_simp
            exact hK'.out _ _ rfl (Lat.refl _)
          simp only [Act.put, List.setIfInBounds_toArray, List.set_cons_zero, List.set_cons_succ, Nat.reduceAdd]
          apply RelyL.val
          · intro ν w' hL hF K hK'
            have c0 := (hL.cell (p := ⟨b, off + j * 3, none⟩) hb1).trans hc0
            have c1 := (hL.cell (p := ⟨b, off + j * 3 + 1, none⟩) hb1).trans hc1
            go_simp
            exact hK'.out _ _ rfl (Lat.refl _)
          simp only [Act.put, List.setIfInBounds_toArray, List.set_cons_zero, List.set_cons_succ, Nat.reduceAdd]
          apply RelyL.val
          · intro ν w' hL hF K hK'
            have c0 := (hL.cell (p := ⟨b, off + j * 3, none⟩) hb1).trans hc0
            have c1 := (hL.cell (p := ⟨b, off + j * 3 + 1, none⟩) hb1).trans hc1
            go_simp
            exact hK'.out _ _ rfl (Lat.refl _)
          simp only [Act.put, List.setIfInBounds_toArray, List.set_cons_zero, List.set_cons_succ, Nat.reduceAdd]
          apply RelyL.val
          · intro ν w' hL hF K hK'
            have c0 := (hL.cell (p := ⟨b, off + j * 3, none⟩) hb1).trans hc0
            have c1 := (hL.cell (p := ⟨b, off + j * 3 + 1, none⟩) hb1).trans hc1
            go_simp
            exact hK'.out _ _ rfl (Lat.refl _)
          simp only [Act.put, List.setIfInBounds_toArray, List.set_cons_zero, List.set_cons_succ, Nat.reduceAdd]
          apply RelyL.val
          · intro ν w' hL hF K hK'
            have c0 := (hL.cell (p := ⟨b, off + j * 3, none⟩) hb1).trans hc0
            have c1 := (hL.cell (p := ⟨b, off + j * 3 + 1, none⟩) hb1).trans hc1
            go_simp
            exact hK'.out _ _ rfl (Lat.refl _)
          simp only [Act.put, List.setIfInBounds_toArray, List.set_cons_zero, List.set_cons_succ, Nat.reduceAdd]
          apply RelyL.val
          · intro ν w' hL hF K hK'
            have H := HTK w'
            go_simp
            go_at_call 25
            refine H.out.mono ?_
            rintro r w'' ⟨rfl, rfl⟩
            exact hK'.out _ _ rfl (Lat.refl _)
          simp only [Act.put, List.setIfInBounds_toArray, List.set_cons_zero, List.set_cons_succ, Nat.reduceAdd]
          apply RelyL.val
          · intro ν w' hL hF K hK'
            have c0 := (hL.cell (p := ⟨b, off + j * 3, none⟩) hb1).trans hc0
            have c1 := (hL.cell (p := ⟨b, off + j * 3 + 1, none⟩) hb1).trans hc1
            go_simp
            exact hK'.out _ _ rfl (Lat.refl _)
          simp only [Act.put, List.setIfInBounds_toArray, List.set_cons_zero, List.set_cons_succ, Nat.reduceAdd]
          apply RelyL.val
          · intro ν w' hL hF K hK'
            have c0 := (hL.cell (p := ⟨b, off + j * 3, none⟩) hb1).trans hc0
            have c1 := (hL.cell (p := ⟨b, off + j * 3 + 1, none⟩) hb1).trans hc1
            go_simp
            exact hK'.out _ _ rfl (Lat.refl _)
          simp only [Act.put, List.setIfInBounds_toArray, List.set_cons_zero, List.set_cons_succ, Nat.reduceAdd]
          apply RelyL.val
          · intro ν w' hL hF K hK'
            refine skip_op rfl ?_
            exact hK'.out _ _ rfl (Lat.refl _)
          simp only [Act.put, List.setIfInBounds_toArray, List.set_cons_zero, List.set_cons_succ, Nat.reduceAdd]
          apply RelyL.val
          · intro ν w' hL hF K hK'
            refine skip_op rfl ?_
            exact hK'.out _ _ rfl (Lat.refl _)
          simp only [Act.put, List.setIfInBounds_toArray, List.set_cons_zero, List.set_cons_succ, Nat.reduceAdd]
          apply RelyL.val
          · intro ν w' hL hF K hK'
            refine skip_op rfl ?_
            exact hK'.out _ _ rfl (Lat.refl _)
          simp only [Act.put, List.setIfInBounds_toArray, List.set_cons_zero, List.set_cons_succ, Nat.reduceAdd]
          apply RelyL.val
          · intro ν w' hL hF K hK'
            refine skip_op rfl ?_
            exact hK'.out _ _ rfl (Lat.refl _)
          simp only [Act.put, List.setIfInBounds_toArray, List.set_cons_zero, List.set_cons_succ, Nat.reduceAdd]
          apply RelyL.val
          · intro ν w' hL hF K hK'
            refine skip_op rfl ?_
            exact hK'.out _ _ rfl (Lat.refl _)
          simp only [Act.put, List.setIfInBounds_toArray, List.set_cons_zero, List.set_cons_succ, Nat.reduceAdd]
          apply RelyL.val
          · intro ν w' hL hF K hK'
            refine skip_op rfl ?_
            exact hK'.out _ _ rfl (Lat.refl _)
          simp only [Act.put, List.setIfInBounds_toArray, List.set_cons_zero, List.set_cons_succ, Nat.reduceAdd]
          apply RelyL.val
          · intro ν w' hL hF K hK'
            refine skip_op rfl ?_
            exact hK'.out _ _ rfl (Lat.refl _)
          simp only [Act.put, List.setIfInBounds_toArray, List.set_cons_zero, List.set_cons_succ, Nat.reduceAdd]
          apply RelyL.val
          · intro ν w' hL hF K hK'
            refine skip_op rfl ?_
            exact hK'.out _ _ rfl (Lat.refl _)
          simp only [Act.put, List.setIfInBounds_toArray, List.set_cons_zero, List.set_cons_succ, Nat.reduceAdd]
          apply RelyL.val
          · intro ν w' hL hF K hK'
            refine skip_op rfl ?_
            exact hK'.out _ _ rfl (Lat.refl _)
          simp only [Act.put, List.setIfInBounds_toArray, List.set_cons_zero, List.set_cons_succ, Nat.reduceAdd]
          apply RelyL.val
          · intro ν w' hL hF K hK'
            refine skip_op rfl ?_
            exact hK'.out _ _ rfl (Lat.refl _)
          simp only [Act.put, List.setIfInBounds_toArray, List.set_cons_zero, List.set_cons_succ, Nat.reduceAdd]
          apply RelyL.val
          · intro ν w' hL hF K hK'
            refine skip_op rfl ?_
            exact hK'.out _ _ rfl (Lat.refl _)
          simp only [Act.put, List.setIfInBounds_toArray, List.set_cons_zero, List.set_cons_succ, Nat.reduceAdd]
          apply RelyL.val
          · intro ν w' hL hF K hK'
            refine skip_op rfl ?_
            exact hK'.out _ _ rfl (Lat.refl _)
          simp only [Act.put, List.setIfInBounds_toArray, List.set_cons_zero, List.set_cons_succ, Nat.reduceAdd]
          apply RelyL.val
          · intro ν w' hL hF K hK'
            refine skip_op rfl ?_
            exact hK'.out _ _ rfl (Lat.refl _)
          simp only [Act.put, List.setIfInBounds_toArray, List.set_cons_zero, List.set_cons_succ, Nat.reduceAdd]
          apply RelyL.val
          · intro ν w' hL hF K hK'
            refine skip_op rfl ?_
            exact hK'.out _ _ rfl (Lat.refl _)
          simp only [Act.put, List.setIfInBounds_toArray, List.set_cons_zero, List.set_cons_succ, Nat.reduceAdd]
          apply RelyL.val
          · intro ν w' hL hF K hK'
            refine skip_op rfl ?_
            exact hK'.out _ _ rfl (Lat.refl _)
          simp only [Act.put, List.setIfInBounds_toArray, List.set_cons_zero, List.set_cons_succ, Nat.reduceAdd]
          apply RelyL.val
          · intro ν w' hL hF K hK'
            refine skip_op rfl ?_
            exact hK'.out _ _ rfl (Lat.refl _)
          simp only [Act.put, List.setIfInBounds_toArray, List.set_cons_zero, List.set_cons_succ, Nat.reduceAdd]
          apply RelyL.val
          · intro ν w' hL hF K hK'
            have c0 := (hL.cell (p := ⟨b, off + j * 3, none⟩) hb1).trans hc0
            have c1 := (hL.cell (p := ⟨b, off + j * 3 + 1, none⟩) hb1).trans hc1
            go_simp
            exact hK'.out _ _ rfl (Lat.refl _)
          simp only [Act.put, List.setIfInBounds_toArray, List.set_cons_zero, List.set_cons_succ, Nat.reduceAdd]
          refine RelyL.done fun ν w5 hL hF => ?_
          have hLW5 := hLW.trans hL
          clear hF hL
          go_wp2_with fail
          go_ret
          have hv : validP l = [] := by unfold validP; rw [HF.out]; rfl
          rw [hv]
          exact ⟨⟨_, rfl, Elt.Rd.nil _⟩, hLW5⟩
      · have hj : j = l.length := by omega
        subst hj
        have hv : validP l = l := by
          unfold validP
          rw [HJ.out, List.drop_length]
          rfl
        have HV := Lib.hid hv
        have hxw := hx.lat hLW
        clear HJ hx hv
        go_wp2_with fail
        go_ret
        rw [HV.out]
        exact ⟨⟨_, rfl, hxw⟩, hLW⟩
end Go.Proofs.YtafodibbcfoclaaGreat
