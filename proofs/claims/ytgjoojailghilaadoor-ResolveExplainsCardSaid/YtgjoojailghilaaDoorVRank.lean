/- Resolve: rank and Before, the program's and the reference's. -/
import Derived.Test.YtgjoojailghilaaDoorVEq
import Derived.Deep.DeepCutAuto
set_option linter.unusedSimpArgs false
set_option linter.unusedVariables false
namespace Go.Proofs.YtgjoojailghilaaDoor
open Go.RowKit Dr

theorem six_firstI (a b c d e f : Int) : firstI [a, b, c, d, e, f] = if a ≠ 0 then a else if b ≠ 0 then b else if c ≠ 0 then c else if d ≠ 0 then d else if e ≠ 0 then e else f := by
  simp only [firstI]
  by_cases h : f = 0 <;> simp [h]
set_option maxRecDepth 100000 in
set_option maxHeartbeats 4000000 in
theorem rank_any (a b : LW) (w : World) : Calls Tryd.prog 28 #[.agg (wC a).toArray, .agg (wC b).toArray] w fun r w' => r = .returned (.int .i64 (rankI a b)) ∧ Lat w w' := by
  have hch := rank_chain a b
  rw [← six_firstI] at hch
  have H1 := fun w => Lib.hid (cmpInt_any b.ck a.ck w)
  have H2 := fun w => Lib.hid (cmpInt_any b.cp a.cp w)
  have H3 := fun w => Lib.hid (cmpStr_any a.cn b.cn w)
  have H4 := fun w => Lib.hid (cmpInt_any b.ord a.ord w)
  have H5 := fun w => Lib.hid (vless_any a.val b.val w)
  have H6 := fun w => Lib.hid (vless_any b.val a.val w)
  have H7 := fun w => Lib.hid (less_any a.key b.key w)
  have H8 := fun w => Lib.hid (less_any b.key a.key w)
  have H5' := fun w => Lib.hid (sides_any (vless a.val b.val) (vless b.val a.val) w)
  have H7' := fun w => Lib.hid (sides_any (kless a.key b.key) (kless b.key a.key) w)
  have e1 : ∀ x y, cmpI ltI x y = cmpI gtI y x := fun x y => rfl
  simp only [e1] at H1 H2 H4
  have HD := fun g w hb => Lib.hid (decided_any [cmpI gtI a.ck b.ck, cmpI gtI a.cp b.cp, cmpI ltB a.cn b.cn, cmpI gtI a.ord b.ord, cmpI vless a.val b.val, cmpI kless a.key b.key] g w hb (by simp))
  rw [← hch] at HD
  change ∀ w, Hid (Calls _ _ _ _ fun r w' => r = .returned (.int .i64 (cmpI vless a.val b.val)) ∧ _) at H5'
  change ∀ w, Hid (Calls _ _ _ _ fun r w' => r = .returned (.int .i64 (cmpI kless a.key b.key)) ∧ _) at H7'
  clear hch e1
  have HD' : ∀ g w, Blk w g 3 #[.int .i64 (cmpI gtI a.ck b.ck), .int .i64 (cmpI gtI a.cp b.cp), .int .i64 (cmpI ltB a.cn b.cn), .int .i64 (cmpI gtI a.ord b.ord), .int .i64 (cmpI vless a.val b.val), .int .i64 (cmpI kless a.key b.key)] → Hid (Calls Tryd.prog 34 #[.slice (some ⟨g, 0, none⟩) 6 6] w fun r w' => r = .returned (.int .i64 (rankI a b)) ∧ w' = w) := HD
  clear HD
  have HD := HD'
  clear HD'
  generalize rankI a b = R at *
  generalize cmpI gtI a.ck b.ck = r1 at *
  generalize cmpI gtI a.cp b.cp = r2 at *
  generalize cmpI ltB a.cn b.cn = r3 at *
  generalize cmpI gtI a.ord b.ord = r4 at *
  generalize cmpI vless a.val b.val = r5 at *
  generalize cmpI kless a.key b.key = r6 at *
  generalize vless a.val b.val = s1 at *
  generalize vless b.val a.val = s2 at *
  generalize kless a.key b.key = s3 at *
  generalize kless b.key a.key = s4 at *
  obtain ⟨⟨a1, a2, a3⟩, ⟨a4, a5, a6⟩, a7, a8, a9, a10⟩ := a
  obtain ⟨⟨b1, b2, b3⟩, ⟨b4, b5, b6⟩, b7, b8, b9, b10⟩ := b
  simp only [wC, kC, vC] at *
  have ha : Blk ((w.alloc (.cells #[.int .i64 a1, .string a2, .string a3, .int .i64 a4, .int .i64 a5, .string a6, .int .i64 a7, .string a8, .int .i64 a9, .int .i64 a10] 29)).alloc (.cells #[.int .i64 b1, .string b2, .string b3, .int .i64 b4, .int .i64 b5, .string b6, .int .i64 b7, .string b8, .int .i64 b9, .int .i64 b10] 29)) w.heap.size 29 #[.int .i64 a1, .string a2, .string a3, .int .i64 a4, .int .i64 a5, .string a6, .int .i64 a7, .string a8, .int .i64 a9, .int .i64 a10] := (Blk.new _ _ _).alloc _
  have hb : Blk ((w.alloc (.cells #[.int .i64 a1, .string a2, .string a3, .int .i64 a4, .int .i64 a5, .string a6, .int .i64 a7, .string a8, .int .i64 a9, .int .i64 a10] 29)).alloc (.cells #[.int .i64 b1, .string b2, .string b3, .int .i64 b4, .int .i64 b5, .string b6, .int .i64 b7, .string b8, .int .i64 b9, .int .i64 b10] 29)) (w.heap.size + 1) 29 #[.int .i64 b1, .string b2, .string b3, .int .i64 b4, .int .i64 b5, .string b6, .int .i64 b7, .string b8, .int .i64 b9, .int .i64 b10] := Blk.at1 _ _ _ _
  have hl0 : Lat w ((w.alloc (.cells #[.int .i64 a1, .string a2, .string a3, .int .i64 a4, .int .i64 a5, .string a6, .int .i64 a7, .string a8, .int .i64 a9, .int .i64 a10] 29)).alloc (.cells #[.int .i64 b1, .string b2, .string b3, .int .i64 b4, .int .i64 b5, .string b6, .int .i64 b7, .string b8, .int .i64 b9, .int .i64 b10] 29)) := (Lat.al _ _).trans (Lat.al _ _)
  go_enter Tryd.func28, Tryd.ntmps28
  go_upto_region 1 with fail
  generalize (w.alloc (.cells #[.int .i64 a1, .string a2, .string a3, .int .i64 a4, .int .i64 a5, .string a6, .int .i64 a7, .string a8, .int .i64 a9, .int .i64 a10] 29)).alloc (.cells #[.int .i64 b1, .string b2, .string b3, .int .i64 b4, .int .i64 b5, .string b6, .int .i64 b7, .string b8, .int .i64 b9, .int .i64 b10] 29) = W0 at *
  refine wp_rely_tail 48 (by kernel_rfl) (by kernel_rfl) (by decide) (by kernel_rfl) ?_
  simp only [List.take_succ_cons, List.take_zero, List.drop_succ_cons, List.drop_zero]
  apply RelyL.val
  · intro ν w' hL hF K hK'
    have ca := (ha.latD hL).cell
    have cb := (hb.latD hL).cell
    go_simp
    exact hK'.out _ _ rfl (Lat.refl _)
  simp only [Act.put, List.setIfInBounds_toArray, List.set_cons_zero, List.set_cons_succ, Nat.reduceAdd]
  apply RelyL.val
  · intro ν w' hL hF K hK'
    have ca := (ha.latD hL).cell
    have cb := (hb.latD hL).cell
    go_simp
    exact hK'.out _ _ rfl (Lat.refl _)
  simp only [Act.put, List.setIfInBounds_toArray, List.set_cons_zero, List.set_cons_succ, Nat.reduceAdd]
  apply RelyL.val
  · intro ν w' hL hF K hK'
    have ca := (ha.latD hL).cell
    have cb := (hb.latD hL).cell
    go_simp
    exact hK'.out _ _ rfl (Lat.refl _)
  simp only [Act.put, List.setIfInBounds_toArray, List.set_cons_zero, List.set_cons_succ, Nat.reduceAdd]
  apply RelyL.val
  · intro ν w' hL hF K hK'
    have ca := (ha.latD hL).cell
    have cb := (hb.latD hL).cell
    go_simp
    exact hK'.out _ _ rfl (Lat.refl _)
  simp only [Act.put, List.setIfInBounds_toArray, List.set_cons_zero, List.set_cons_succ, Nat.reduceAdd]
  apply RelyL.val
  · intro ν w' hL hF K hK'
    have ca := (ha.latD hL).cell
    have cb := (hb.latD hL).cell
    go_simp
    exact hK'.out _ _ rfl (Lat.refl _)
  simp only [Act.put, List.setIfInBounds_toArray, List.set_cons_zero, List.set_cons_succ, Nat.reduceAdd]
  apply RelyL.val
  · intro ν w' hL hF K hK'
    have ca := (ha.latD hL).cell
    have cb := (hb.latD hL).cell
    go_simp
    exact hK'.out _ _ rfl (Lat.refl _)
  simp only [Act.put, List.setIfInBounds_toArray, List.set_cons_zero, List.set_cons_succ, Nat.reduceAdd]
  apply RelyL.val
  · intro ν w' hL hF K hK'
    have H := H1 w'
    go_simp
    go_at_call 47
    refine H.out.mono ?_
    rintro r w'' ⟨rfl, rfl⟩
    exact hK'.out _ _ rfl (Lat.refl _)
  simp only [Act.put, List.setIfInBounds_toArray, List.set_cons_zero, List.set_cons_succ, Nat.reduceAdd]
  apply RelyL.val
  · intro ν w' hL hF K hK'
    have ca := (ha.latD hL).cell
    have cb := (hb.latD hL).cell
    go_simp
    exact hK'.out _ _ rfl (Lat.refl _)
  simp only [Act.put, List.setIfInBounds_toArray, List.set_cons_zero, List.set_cons_succ, Nat.reduceAdd]
  apply RelyL.val
  · intro ν w' hL hF K hK'
    have ca := (ha.latD hL).cell
    have cb := (hb.latD hL).cell
    go_simp
    exact hK'.out _ _ rfl (Lat.refl _)
  simp only [Act.put, List.setIfInBounds_toArray, List.set_cons_zero, List.set_cons_succ, Nat.reduceAdd]
  apply RelyL.val
  · intro ν w' hL hF K hK'
    have ca := (ha.latD hL).cell
    have cb := (hb.latD hL).cell
    go_simp
    exact hK'.out _ _ rfl (Lat.refl _)
  simp only [Act.put, List.setIfInBounds_toArray, List.set_cons_zero, List.set_cons_succ, Nat.reduceAdd]
  apply RelyL.val
  · intro ν w' hL hF K hK'
    have ca := (ha.latD hL).cell
    have cb := (hb.latD hL).cell
    go_simp
    exact hK'.out _ _ rfl (Lat.refl _)
  simp only [Act.put, List.setIfInBounds_toArray, List.set_cons_zero, List.set_cons_succ, Nat.reduceAdd]
  apply RelyL.val
  · intro ν w' hL hF K hK'
    have ca := (ha.latD hL).cell
    have cb := (hb.latD hL).cell
    go_simp
    exact hK'.out _ _ rfl (Lat.refl _)
  simp only [Act.put, List.setIfInBounds_toArray, List.set_cons_zero, List.set_cons_succ, Nat.reduceAdd]
  apply RelyL.val
  · intro ν w' hL hF K hK'
    have ca := (ha.latD hL).cell
    have cb := (hb.latD hL).cell
    go_simp
    exact hK'.out _ _ rfl (Lat.refl _)
  simp only [Act.put, List.setIfInBounds_toArray, List.set_cons_zero, List.set_cons_succ, Nat.reduceAdd]
  apply RelyL.val
  · intro ν w' hL hF K hK'
    have H := H2 w'
    go_simp
    go_at_call 47
    refine H.out.mono ?_
    rintro r w'' ⟨rfl, rfl⟩
    exact hK'.out _ _ rfl (Lat.refl _)
  simp only [Act.put, List.setIfInBounds_toArray, List.set_cons_zero, List.set_cons_succ, Nat.reduceAdd]
  apply RelyL.val
  · intro ν w' hL hF K hK'
    have ca := (ha.latD hL).cell
    have cb := (hb.latD hL).cell
    go_simp
    exact hK'.out _ _ rfl (Lat.refl _)
  simp only [Act.put, List.setIfInBounds_toArray, List.set_cons_zero, List.set_cons_succ, Nat.reduceAdd]
  apply RelyL.val
  · intro ν w' hL hF K hK'
    have ca := (ha.latD hL).cell
    have cb := (hb.latD hL).cell
    go_simp
    exact hK'.out _ _ rfl (Lat.refl _)
  simp only [Act.put, List.setIfInBounds_toArray, List.set_cons_zero, List.set_cons_succ, Nat.reduceAdd]
  apply RelyL.val
  · intro ν w' hL hF K hK'
    have ca := (ha.latD hL).cell
    have cb := (hb.latD hL).cell
    go_simp
    exact hK'.out _ _ rfl (Lat.refl _)
  simp only [Act.put, List.setIfInBounds_toArray, List.set_cons_zero, List.set_cons_succ, Nat.reduceAdd]
  apply RelyL.val
  · intro ν w' hL hF K hK'
    have ca := (ha.latD hL).cell
    have cb := (hb.latD hL).cell
    go_simp
    exact hK'.out _ _ rfl (Lat.refl _)
  simp only [Act.put, List.setIfInBounds_toArray, List.set_cons_zero, List.set_cons_succ, Nat.reduceAdd]
  apply RelyL.val
  · intro ν w' hL hF K hK'
    have ca := (ha.latD hL).cell
    have cb := (hb.latD hL).cell
    go_simp
    exact hK'.out _ _ rfl (Lat.refl _)
  simp only [Act.put, List.setIfInBounds_toArray, List.set_cons_zero, List.set_cons_succ, Nat.reduceAdd]
  apply RelyL.val
  · intro ν w' hL hF K hK'
    have ca := (ha.latD hL).cell
    have cb := (hb.latD hL).cell
    go_simp
    exact hK'.out _ _ rfl (Lat.refl _)
  simp only [Act.put, List.setIfInBounds_toArray, List.set_cons_zero, List.set_cons_succ, Nat.reduceAdd]
  apply RelyL.val
  · intro ν w' hL hF K hK'
    have H := H3 w'
    go_simp
    go_at_call 48
    refine H.out.mono ?_
    rintro r w'' ⟨rfl, rfl⟩
    exact hK'.out _ _ rfl (Lat.refl _)
  simp only [Act.put, List.setIfInBounds_toArray, List.set_cons_zero, List.set_cons_succ, Nat.reduceAdd]
  apply RelyL.val
  · intro ν w' hL hF K hK'
    have ca := (ha.latD hL).cell
    have cb := (hb.latD hL).cell
    go_simp
    exact hK'.out _ _ rfl (Lat.refl _)
  simp only [Act.put, List.setIfInBounds_toArray, List.set_cons_zero, List.set_cons_succ, Nat.reduceAdd]
  apply RelyL.val
  · intro ν w' hL hF K hK'
    have ca := (ha.latD hL).cell
    have cb := (hb.latD hL).cell
    go_simp
    exact hK'.out _ _ rfl (Lat.refl _)
  simp only [Act.put, List.setIfInBounds_toArray, List.set_cons_zero, List.set_cons_succ, Nat.reduceAdd]
  apply RelyL.val
  · intro ν w' hL hF K hK'
    have ca := (ha.latD hL).cell
    have cb := (hb.latD hL).cell
    go_simp
    exact hK'.out _ _ rfl (Lat.refl _)
  simp only [Act.put, List.setIfInBounds_toArray, List.set_cons_zero, List.set_cons_succ, Nat.reduceAdd]
  apply RelyL.val
  · intro ν w' hL hF K hK'
    have ca := (ha.latD hL).cell
    have cb := (hb.latD hL).cell
    go_simp
    exact hK'.out _ _ rfl (Lat.refl _)
  simp only [Act.put, List.setIfInBounds_toArray, List.set_cons_zero, List.set_cons_succ, Nat.reduceAdd]
  apply RelyL.val
  · intro ν w' hL hF K hK'
    have H := H4 w'
    go_simp
    go_at_call 47
    refine H.out.mono ?_
    rintro r w'' ⟨rfl, rfl⟩
    exact hK'.out _ _ rfl (Lat.refl _)
  simp only [Act.put, List.setIfInBounds_toArray, List.set_cons_zero, List.set_cons_succ, Nat.reduceAdd]
  apply RelyL.val
  · intro ν w' hL hF K hK'
    have ca := (ha.latD hL).cell
    have cb := (hb.latD hL).cell
    go_simp
    exact hK'.out _ _ rfl (Lat.refl _)
  simp only [Act.put, List.setIfInBounds_toArray, List.set_cons_zero, List.set_cons_succ, Nat.reduceAdd]
  apply RelyL.val
  · intro ν w' hL hF K hK'
    have ca := (ha.latD hL).cell
    have cb := (hb.latD hL).cell
    go_simp
    exact hK'.out _ _ rfl (Lat.refl _)
  simp only [Act.put, List.setIfInBounds_toArray, List.set_cons_zero, List.set_cons_succ, Nat.reduceAdd]
  apply RelyL.val
  · intro ν w' hL hF K hK'
    have ca := (ha.latD hL).cell
    have cb := (hb.latD hL).cell
    go_simp
    exact hK'.out _ _ rfl (Lat.refl _)
  simp only [Act.put, List.setIfInBounds_toArray, List.set_cons_zero, List.set_cons_succ, Nat.reduceAdd]
  apply RelyL.val
  · intro ν w' hL hF K hK'
    have ca := (ha.latD hL).cell
    have cb := (hb.latD hL).cell
    go_simp
    exact hK'.out _ _ rfl (Lat.refl _)
  simp only [Act.put, List.setIfInBounds_toArray, List.set_cons_zero, List.set_cons_succ, Nat.reduceAdd]
  apply RelyL.val
  · intro ν w' hL hF K hK'
    have H := H5 w'
    go_simp
    go_at_call 49
    refine H.out.mono ?_
    rintro r w'' ⟨rfl, hbp⟩
    exact hK'.out _ _ rfl hbp
  simp only [Act.put, List.setIfInBounds_toArray, List.set_cons_zero, List.set_cons_succ, Nat.reduceAdd]
  apply RelyL.val
  · intro ν w' hL hF K hK'
    have ca := (ha.latD hL).cell
    have cb := (hb.latD hL).cell
    go_simp
    exact hK'.out _ _ rfl (Lat.refl _)
  simp only [Act.put, List.setIfInBounds_toArray, List.set_cons_zero, List.set_cons_succ, Nat.reduceAdd]
  apply RelyL.val
  · intro ν w' hL hF K hK'
    have ca := (ha.latD hL).cell
    have cb := (hb.latD hL).cell
    go_simp
    exact hK'.out _ _ rfl (Lat.refl _)
  simp only [Act.put, List.setIfInBounds_toArray, List.set_cons_zero, List.set_cons_succ, Nat.reduceAdd]
  apply RelyL.val
  · intro ν w' hL hF K hK'
    have ca := (ha.latD hL).cell
    have cb := (hb.latD hL).cell
    go_simp
    exact hK'.out _ _ rfl (Lat.refl _)
  simp only [Act.put, List.setIfInBounds_toArray, List.set_cons_zero, List.set_cons_succ, Nat.reduceAdd]
  apply RelyL.val
  · intro ν w' hL hF K hK'
    have ca := (ha.latD hL).cell
    have cb := (hb.latD hL).cell
    go_simp
    exact hK'.out _ _ rfl (Lat.refl _)
  simp only [Act.put, List.setIfInBounds_toArray, List.set_cons_zero, List.set_cons_succ, Nat.reduceAdd]
  apply RelyL.val
  · intro ν w' hL hF K hK'
    have H := H6 w'
    go_simp
    go_at_call 49
    refine H.out.mono ?_
    rintro r w'' ⟨rfl, hbp⟩
    exact hK'.out _ _ rfl hbp
  simp only [Act.put, List.setIfInBounds_toArray, List.set_cons_zero, List.set_cons_succ, Nat.reduceAdd]
  apply RelyL.val
  · intro ν w' hL hF K hK'
    have H := H5' w'
    go_simp
    go_at_call 35
    refine H.out.mono ?_
    rintro r w'' ⟨rfl, rfl⟩
    exact hK'.out _ _ rfl (Lat.refl _)
  simp only [Act.put, List.setIfInBounds_toArray, List.set_cons_zero, List.set_cons_succ, Nat.reduceAdd]
  apply RelyL.val
  · intro ν w' hL hF K hK'
    have ca := (ha.latD hL).cell
    have cb := (hb.latD hL).cell
    go_simp
    exact hK'.out _ _ rfl (Lat.refl _)
  simp only [Act.put, List.setIfInBounds_toArray, List.set_cons_zero, List.set_cons_succ, Nat.reduceAdd]
  apply RelyL.val
  · intro ν w' hL hF K hK'
    have ca := (ha.latD hL).cell
    have cb := (hb.latD hL).cell
    go_simp
    exact hK'.out _ _ rfl (Lat.refl _)
  simp only [Act.put, List.setIfInBounds_toArray, List.set_cons_zero, List.set_cons_succ, Nat.reduceAdd]
  apply RelyL.val
  · intro ν w' hL hF K hK'
    have ca := (ha.latD hL).cell
    have cb := (hb.latD hL).cell
    go_simp
    exact hK'.out _ _ rfl (Lat.refl _)
  simp only [Act.put, List.setIfInBounds_toArray, List.set_cons_zero, List.set_cons_succ, Nat.reduceAdd]
  apply RelyL.val
  · intro ν w' hL hF K hK'
    have ca := (ha.latD hL).cell
    have cb := (hb.latD hL).cell
    go_simp
    exact hK'.out _ _ rfl (Lat.refl _)
  simp only [Act.put, List.setIfInBounds_toArray, List.set_cons_zero, List.set_cons_succ, Nat.reduceAdd]
  apply RelyL.val
  · intro ν w' hL hF K hK'
    have H := H7 w'
    go_simp
    go_at_call 36
    refine H.out.mono ?_
    rintro r w'' ⟨rfl, hbp⟩
    exact hK'.out _ _ rfl hbp
  simp only [Act.put, List.setIfInBounds_toArray, List.set_cons_zero, List.set_cons_succ, Nat.reduceAdd]
  apply RelyL.val
  · intro ν w' hL hF K hK'
    have ca := (ha.latD hL).cell
    have cb := (hb.latD hL).cell
    go_simp
    exact hK'.out _ _ rfl (Lat.refl _)
  simp only [Act.put, List.setIfInBounds_toArray, List.set_cons_zero, List.set_cons_succ, Nat.reduceAdd]
  apply RelyL.val
  · intro ν w' hL hF K hK'
    have ca := (ha.latD hL).cell
    have cb := (hb.latD hL).cell
    go_simp
    exact hK'.out _ _ rfl (Lat.refl _)
  simp only [Act.put, List.setIfInBounds_toArray, List.set_cons_zero, List.set_cons_succ, Nat.reduceAdd]
  apply RelyL.val
  · intro ν w' hL hF K hK'
    have ca := (ha.latD hL).cell
    have cb := (hb.latD hL).cell
    go_simp
    exact hK'.out _ _ rfl (Lat.refl _)
  simp only [Act.put, List.setIfInBounds_toArray, List.set_cons_zero, List.set_cons_succ, Nat.reduceAdd]
  apply RelyL.val
  · intro ν w' hL hF K hK'
    have ca := (ha.latD hL).cell
    have cb := (hb.latD hL).cell
    go_simp
    exact hK'.out _ _ rfl (Lat.refl _)
  simp only [Act.put, List.setIfInBounds_toArray, List.set_cons_zero, List.set_cons_succ, Nat.reduceAdd]
  apply RelyL.val
  · intro ν w' hL hF K hK'
    have H := H8 w'
    go_simp
    go_at_call 36
    refine H.out.mono ?_
    rintro r w'' ⟨rfl, hbp⟩
    exact hK'.out _ _ rfl hbp
  simp only [Act.put, List.setIfInBounds_toArray, List.set_cons_zero, List.set_cons_succ, Nat.reduceAdd]
  apply RelyL.val
  · intro ν w' hL hF K hK'
    have H := H7' w'
    go_simp
    go_at_call 35
    refine H.out.mono ?_
    rintro r w'' ⟨rfl, rfl⟩
    exact hK'.out _ _ rfl (Lat.refl _)
  simp only [Act.put, List.setIfInBounds_toArray, List.set_cons_zero, List.set_cons_succ, Nat.reduceAdd]
  refine RelyL.done fun ν w1 hL hF => ?_
  have hl1 := hl0.trans hL
  clear hF ha hb hl0 hL H1 H2 H3 H4 H5 H6 H7 H8 H5' H7'
  go_wp2_with fail
  refine (HD w1.heap.size _ (Blk.new _ _ _)).out.mono ?_
  rintro r w2 ⟨rfl, rfl⟩
  clear HD
  go_wp2_with fail
  go_ret
  exact ⟨rfl, hl1.trans (Lat.al _ _)⟩
end Go.Proofs.YtgjoojailghilaaDoor
