/- Resolve: Before, the program's and the reference's; the comparison that Decide sorts by. -/
import Derived.Test.YtgjoojailghilaaDoorVRank
set_option linter.unusedSimpArgs false
set_option linter.unusedVariables false
namespace Go.Proofs.YtgjoojailghilaaDoor
open Go.RowKit Dr

theorem rankI_neg (a b : LW) : decide (rankI a b < 0) = bef a b := by
  rw [Bool.eq_iff_iff, decide_eq_true_eq]; exact cmpI_neg a b
set_option maxRecDepth 100000 in
set_option maxHeartbeats 2000000 in
theorem before_any (a b : LW) (w : World) : Calls Tryd.prog 12 #[.agg (wC a).toArray, .agg (wC b).toArray] w fun r w' => r = .returned (.bool (bef a b)) ∧ Lat w w' := by
  have HR := fun w => Lib.hid (rank_any a b w)
  have hn := Lib.hid (rankI_neg a b)
  generalize rankI a b = R at *
  generalize bef a b = E at *
  obtain ⟨⟨a1, a2, a3⟩, ⟨a4, a5, a6⟩, a7, a8, a9, a10⟩ := a
  obtain ⟨⟨b1, b2, b3⟩, ⟨b4, b5, b6⟩, b7, b8, b9, b10⟩ := b
  simp only [wC, kC, vC] at *
  have hl0 : Lat w ((w.alloc (.cells #[.int .i64 a1, .string a2, .string a3, .int .i64 a4, .int .i64 a5, .string a6, .int .i64 a7, .string a8, .int .i64 a9, .int .i64 a10] 29)).alloc (.cells #[.int .i64 b1, .string b2, .string b3, .int .i64 b4, .int .i64 b5, .string b6, .int .i64 b7, .string b8, .int .i64 b9, .int .i64 b10] 29)) := (Lat.al _ _).trans (Lat.al _ _)
  go_enter Tryd.func12, Tryd.ntmps12
  go_wp2_with fail
  refine (HR _).out.mono ?_
  rintro r w2 ⟨rfl, hl2⟩
  have hl := hl0.trans hl2
  clear HR hl0 hl2
  go_wp2_with fail
  go_ret
  exact ⟨ret_bool hn.out, hl⟩

set_option maxRecDepth 100000 in
set_option maxHeartbeats 4000000 in
theorem rbefore_any (a b : LW) (w : World) : Calls Tryd.prog 13 #[.agg (wC a).toArray, .agg (wC b).toArray] w fun r w' => r = .returned (.bool (bef a b)) ∧ Lat w w' := by
  have HV := fun w => Lib.hid (rvless_any a.val b.val w)
  have HK := fun w => Lib.hid (rless_any a.key b.key w)
  have hbf : bef a b = if a.ck ≠ b.ck then gtI a.ck b.ck else if a.cp ≠ b.cp then gtI a.cp b.cp else if a.cn ≠ b.cn then ltB a.cn b.cn else if a.ord ≠ b.ord then gtI a.ord b.ord else if a.val ≠ b.val then vless a.val b.val else kless a.key b.key := rfl
  generalize bef a b = E at *
  generalize vless a.val b.val = s1 at *
  generalize kless a.key b.key = s2 at *
  obtain ⟨⟨a1, a2, a3⟩, ⟨a4, a5, a6⟩, a7, a8, a9, a10⟩ := a
  obtain ⟨⟨b1, b2, b3⟩, ⟨b4, b5, b6⟩, b7, b8, b9, b10⟩ := b
  simp only [wC, kC, vC] at *
  have hl0 : Lat w ((w.alloc (.cells #[.int .i64 a1, .string a2, .string a3, .int .i64 a4, .int .i64 a5, .string a6, .int .i64 a7, .string a8, .int .i64 a9, .int .i64 a10] 29)).alloc (.cells #[.int .i64 b1, .string b2, .string b3, .int .i64 b4, .int .i64 b5, .string b6, .int .i64 b7, .string b8, .int .i64 b9, .int .i64 b10] 29)) := (Lat.al _ _).trans (Lat.al _ _)
  go_enter Tryd.func13, Tryd.ntmps13
  by_cases e1 : a7 = b7
  · subst e1
    by_cases e2 : a9 = b9
    · subst e2
      by_cases e3 : a8 = b8
      · subst e3
        by_cases e4 : a10 = b10
        · subst e4
          by_cases e5 : (⟨a4, a5, a6⟩ : LVal) = ⟨b4, b5, b6⟩
          · simp only [ne_eq, not_true_eq_false, if_false, e5] at hbf
            have hd := decide_eq_true e5
            subst hbf
            clear HV e5
            go_wp2_with (refine wpl_neq_v rfl _ _ _ rfl ⟨a4, a5, a6⟩ ⟨b4, b5, b6⟩ rfl rfl hd ?_)
            refine (HK _).out.mono ?_
            rintro r w2 ⟨rfl, hl2⟩
            have hl := hl0.trans hl2
            clear HK hl0 hl2
            go_wp2_with fail
            go_ret
            exact ⟨rfl, hl⟩
          · simp only [ne_eq, not_true_eq_false, if_false, e5, not_false_eq_true, if_true] at hbf
            have hd := decide_eq_false e5
            subst hbf
            clear HK e5
            go_wp2_with (refine wpl_neq_v rfl _ _ _ rfl ⟨a4, a5, a6⟩ ⟨b4, b5, b6⟩ rfl rfl hd ?_)
            refine (HV _).out.mono ?_
            rintro r w2 ⟨rfl, hl2⟩
            have hl := hl0.trans hl2
            clear HV hl0 hl2
            go_wp2_with fail
            go_ret
            exact ⟨rfl, hl⟩
        · simp only [ne_eq, not_true_eq_false, if_false, e4, not_false_eq_true, if_true, gtI] at hbf
          have q : (a10 != b10) = true := by simpa using e4
          subst hbf
          clear HV HK e4
          go_wp2_with fail
          go_ret
          exact ⟨rfl, hl0⟩
      · have q : (a8.toList == b8.toList) = false := by rw [toList_beq]; simpa using e3
        simp only [ne_eq, not_true_eq_false, if_false, e3, not_false_eq_true, if_true, ltB] at hbf
        subst hbf
        clear HV HK e3
        go_wp2_with fail
        go_ret
        exact ⟨rfl, hl0⟩
    · simp only [ne_eq, not_true_eq_false, if_false, e2, not_false_eq_true, if_true, gtI] at hbf
      have q : (a9 != b9) = true := by simpa using e2
      subst hbf
      clear HV HK e2
      go_wp2_with fail
      go_ret
      exact ⟨rfl, hl0⟩
  · simp only [ne_eq, e1, not_false_eq_true, if_true, gtI] at hbf
    have q : (a7 != b7) = true := by simpa using e1
    subst hbf
    clear HV HK e1
    go_wp2_with fail
    go_ret
    exact ⟨rfl, hl0⟩

set_option maxRecDepth 100000 in
set_option maxHeartbeats 4000000 in
theorem closure_any (a b : LW) (w : World) : Calls Tryd.prog 33 #[.agg (wC a).toArray, .agg (wC b).toArray] w fun r w' => r = .returned (.int .i64 (ordI a b)) ∧ Lat w w' := by
  have hch : ordI a b = firstI [cmpI kless a.key b.key, rankI a b] := by rw [ord_chain]; simp only [firstI]; by_cases h : rankI a b = 0 <;> simp [h]
  have HR := fun w => Lib.hid (rank_any a b w)
  have H7 := fun w => Lib.hid (less_any a.key b.key w)
  have H8 := fun w => Lib.hid (less_any b.key a.key w)
  have H7' := fun w => Lib.hid (sides_any (kless a.key b.key) (kless b.key a.key) w)
  have HD : ∀ g w, Blk w g 3 #[.int .i64 (cmpI kless a.key b.key), .int .i64 (rankI a b)] → Hid (Calls Tryd.prog 34 #[.slice (some ⟨g, 0, none⟩) 2 2] w fun r w' => r = .returned (.int .i64 (firstI [cmpI kless a.key b.key, rankI a b])) ∧ w' = w) := fun g w hb => Lib.hid (decided_any [cmpI kless a.key b.key, rankI a b] g w hb (by simp))
  rw [← hch] at HD
  change ∀ w, Hid (Calls _ _ _ _ fun r w' => r = .returned (.int .i64 (cmpI kless a.key b.key)) ∧ _) at H7'
  clear hch
  generalize ordI a b = R at *
  generalize rankI a b = r1 at *
  generalize cmpI kless a.key b.key = r2 at *
  generalize kless a.key b.key = s3 at *
  generalize kless b.key a.key = s4 at *
  obtain ⟨⟨a1, a2, a3⟩, ⟨a4, a5, a6⟩, a7, a8, a9, a10⟩ := a
  obtain ⟨⟨b1, b2, b3⟩, ⟨b4, b5, b6⟩, b7, b8, b9, b10⟩ := b
  simp only [wC, kC, vC] at *
  have ha : Blk ((w.alloc (.cells #[.int .i64 a1, .string a2, .string a3, .int .i64 a4, .int .i64 a5, .string a6, .int .i64 a7, .string a8, .int .i64 a9, .int .i64 a10] 29)).alloc (.cells #[.int .i64 b1, .string b2, .string b3, .int .i64 b4, .int .i64 b5, .string b6, .int .i64 b7, .string b8, .int .i64 b9, .int .i64 b10] 29)) w.heap.size 29 #[.int .i64 a1, .string a2, .string a3, .int .i64 a4, .int .i64 a5, .string a6, .int .i64 a7, .string a8, .int .i64 a9, .int .i64 a10] := (Blk.new _ _ _).alloc _
  have hb : Blk ((w.alloc (.cells #[.int .i64 a1, .string a2, .string a3, .int .i64 a4, .int .i64 a5, .string a6, .int .i64 a7, .string a8, .int .i64 a9, .int .i64 a10] 29)).alloc (.cells #[.int .i64 b1, .string b2, .string b3, .int .i64 b4, .int .i64 b5, .string b6, .int .i64 b7, .string b8, .int .i64 b9, .int .i64 b10] 29)) (w.heap.size + 1) 29 #[.int .i64 b1, .string b2, .string b3, .int .i64 b4, .int .i64 b5, .string b6, .int .i64 b7, .string b8, .int .i64 b9, .int .i64 b10] := Blk.at1 _ _ _ _
  have hl0 : Lat w ((w.alloc (.cells #[.int .i64 a1, .string a2, .string a3, .int .i64 a4, .int .i64 a5, .string a6, .int .i64 a7, .string a8, .int .i64 a9, .int .i64 a10] 29)).alloc (.cells #[.int .i64 b1, .string b2, .string b3, .int .i64 b4, .int .i64 b5, .string b6, .int .i64 b7, .string b8, .int .i64 b9, .int .i64 b10] 29)) := (Lat.al _ _).trans (Lat.al _ _)
  go_enter Tryd.func33, Tryd.ntmps33
  go_upto_region 1 with fail
  generalize (w.alloc (.cells #[.int .i64 a1, .string a2, .string a3, .int .i64 a4, .int .i64 a5, .string a6, .int .i64 a7, .string a8, .int .i64 a9, .int .i64 a10] 29)).alloc (.cells #[.int .i64 b1, .string b2, .string b3, .int .i64 b4, .int .i64 b5, .string b6, .int .i64 b7, .string b8, .int .i64 b9, .int .i64 b10] 29) = W0 at *
  refine wp_rely_tail 14 (by kernel_rfl) (by kernel_rfl) (by decide) (by kernel_rfl) ?_
  simp only [List.take_succ_cons, List.take_zero, List.drop_succ_cons, List.drop_zero]
  apply RelyL.val
  · intro ν w' hL hF K hK'
    have ca := (ha.latD hL).cell
    have cb := (hb.latD hL).cell
    go_simp
    exact hK'.out _ _ rfl (Lat.refl _)
  simp only [Act.put, List.setIfInBounds_toArray, List.set_cons_zero, List.set_cons_succ, Nat.reduceAdd]
  apply RelyL.val
  · intro ν w' hL hF K hK'
    have ca := (ha.latD hL).cell
    have cb := (hb.latD hL).cell
    go_simp
    exact hK'.out _ _ rfl (Lat.refl _)
  simp only [Act.put, List.setIfInBounds_toArray, List.set_cons_zero, List.set_cons_succ, Nat.reduceAdd]
  apply RelyL.val
  · intro ν w' hL hF K hK'
    have ca := (ha.latD hL).cell
    have cb := (hb.latD hL).cell
    go_simp
    exact hK'.out _ _ rfl (Lat.refl _)
  simp only [Act.put, List.setIfInBounds_toArray, List.set_cons_zero, List.set_cons_succ, Nat.reduceAdd]
  apply RelyL.val
  · intro ν w' hL hF K hK'
    have ca := (ha.latD hL).cell
    have cb := (hb.latD hL).cell
    go_simp
    exact hK'.out _ _ rfl (Lat.refl _)
  simp only [Act.put, List.setIfInBounds_toArray, List.set_cons_zero, List.set_cons_succ, Nat.reduceAdd]
  apply RelyL.val
  · intro ν w' hL hF K hK'
    have H := H7 w'
    go_simp
    go_at_call 36
    refine H.out.mono ?_
    rintro r w'' ⟨rfl, hbp⟩
    exact hK'.out _ _ rfl hbp
  simp only [Act.put, List.setIfInBounds_toArray, List.set_cons_zero, List.set_cons_succ, Nat.reduceAdd]
  apply RelyL.val
  · intro ν w' hL hF K hK'
    have ca := (ha.latD hL).cell
    have cb := (hb.latD hL).cell
    go_simp
    exact hK'.out _ _ rfl (Lat.refl _)
  simp only [Act.put, List.setIfInBounds_toArray, List.set_cons_zero, List.set_cons_succ, Nat.reduceAdd]
  apply RelyL.val
  · intro ν w' hL hF K hK'
    have ca := (ha.latD hL).cell
    have cb := (hb.latD hL).cell
    go_simp
    exact hK'.out _ _ rfl (Lat.refl _)
  simp only [Act.put, List.setIfInBounds_toArray, List.set_cons_zero, List.set_cons_succ, Nat.reduceAdd]
  apply RelyL.val
  · intro ν w' hL hF K hK'
    have ca := (ha.latD hL).cell
    have cb := (hb.latD hL).cell
    go_simp
    exact hK'.out _ _ rfl (Lat.refl _)
  simp only [Act.put, List.setIfInBounds_toArray, List.set_cons_zero, List.set_cons_succ, Nat.reduceAdd]
  apply RelyL.val
  · intro ν w' hL hF K hK'
    have ca := (ha.latD hL).cell
    have cb := (hb.latD hL).cell
    go_simp
    exact hK'.out _ _ rfl (Lat.refl _)
  simp only [Act.put, List.setIfInBounds_toArray, List.set_cons_zero, List.set_cons_succ, Nat.reduceAdd]
  apply RelyL.val
  · intro ν w' hL hF K hK'
    have H := H8 w'
    go_simp
    go_at_call 36
    refine H.out.mono ?_
    rintro r w'' ⟨rfl, hbp⟩
    exact hK'.out _ _ rfl hbp
  simp only [Act.put, List.setIfInBounds_toArray, List.set_cons_zero, List.set_cons_succ, Nat.reduceAdd]
  apply RelyL.val
  · intro ν w' hL hF K hK'
    have H := H7' w'
    go_simp
    go_at_call 35
    refine H.out.mono ?_
    rintro r w'' ⟨rfl, rfl⟩
    exact hK'.out _ _ rfl (Lat.refl _)
  simp only [Act.put, List.setIfInBounds_toArray, List.set_cons_zero, List.set_cons_succ, Nat.reduceAdd]
  apply RelyL.val
  · intro ν w' hL hF K hK'
    have ca := (ha.latD hL).cell
    have cb := (hb.latD hL).cell
    go_simp
    exact hK'.out _ _ rfl (Lat.refl _)
  simp only [Act.put, List.setIfInBounds_toArray, List.set_cons_zero, List.set_cons_succ, Nat.reduceAdd]
  apply RelyL.val
  · intro ν w' hL hF K hK'
    have ca := (ha.latD hL).cell
    have cb := (hb.latD hL).cell
    go_simp
    exact hK'.out _ _ rfl (Lat.refl _)
  simp only [Act.put, List.setIfInBounds_toArray, List.set_cons_zero, List.set_cons_succ, Nat.reduceAdd]
  apply RelyL.val
  · intro ν w' hL hF K hK'
    have H := HR w'
    go_simp
    go_at_call 28
    refine H.out.mono ?_
    rintro r w'' ⟨rfl, hbp⟩
    exact hK'.out _ _ rfl hbp
  simp only [Act.put, List.setIfInBounds_toArray, List.set_cons_zero, List.set_cons_succ, Nat.reduceAdd]
  refine RelyL.done fun ν w1 hL hF => ?_
  have hl1 := hl0.trans hL
  clear hF ha hb hl0 hL H7 H8 H7' HR
  go_wp2_with fail
  refine (HD w1.heap.size _ (Blk.new _ _ _)).out.mono ?_
  rintro r w2 ⟨rfl, rfl⟩
  clear HD
  go_wp2_with fail
  go_ret
  exact ⟨rfl, hl1.trans (Lat.al _ _)⟩
end Go.Proofs.YtgjoojailghilaaDoor
