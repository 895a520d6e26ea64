/- The reference's Eval and True. -/
import Derived.Test.YtafodibbcfoclaaGreatEvREvD
import Derived.RegionTactic
set_option linter.unusedSimpArgs false
set_option linter.unusedVariables false
namespace Go.Proofs.YtafodibbcfoclaaGreat.Ev
open Go.RowKit

theorem evalE_fine (V : LView) (e : LExpr) : (evalE V e).fine := by
  unfold evalE
  by_cases h : checkE e = 0
  · rw [if_pos h]; exact findS_fine V e (checkE_okE h)
  · rw [if_neg h]; exact unknownE_fine
set_option maxRecDepth 100000 in
set_option maxHeartbeats 4000000 in
theorem reval_any (V : LView) (e : LExpr) (vc cs : List Value) (B : Nat) (w : World) (hB : B ≤ w.heap.size) (hv : IsView B w V vc) (he : IsExpr B w e cs) :
    Calls Tryz.prog 35 #[.agg vc.toArray, .agg cs.toArray] w fun r w' => r = .returned (evalE V e).res ∧ Below w.heap.size w w' := by
  have HC := fun W (hb : Below B w W) (hl : B ≤ W.heap.size) => Lib.hid (rcheckE_any e cs B W hl (he.carry hb))
  have HF := fun W (h0 : checkE e = 0) (hb : Below B w W) (hl : B ≤ W.heap.size) => Lib.hid (rval_any V e vc cs B W hl (hv.carry hb) (he.carry hb) (checkE_okE h0))
  have hfin := evalE_fine V e
  obtain ⟨hd, ks, A, c, rfl, rfl, hlen⟩ := he.form
  obtain ⟨IA, ic, MA, mc, rfl, _⟩ := hv
  clear he
  unfold Hd.cells at HC HF ⊢
  generalize hE : evalE V (.mk hd ks) = E at *
  have HE := Lib.hid hE
  clear hE
  have hb0 : ∀ o1 o2 o3, Below B w (((w.alloc o1).alloc o2).alloc o3) := fun o1 o2 o3 => (((Below.refl B w).alloc hB o1).alloc (by simp; omega) o2).alloc (by simp; omega) o3
  go_enter Tryz.func35, Tryz.ntmps35
  go_wp2_with fail
  refine (HC _ (hb0 _ _ _) (by simp; omega)).out.mono ?_
  rintro r w1 ⟨rfl, hb1⟩
  have hR1 := ((Blk.at2 w _ _ _ _)).below hb1
  have hV1 := (((Blk.new w _ _).alloc _).alloc _).below hb1
  have hE1 := (((Blk.at1 w _ _ _)).alloc _).below hb1
  have cV1 := hV1.cell
  have cE1 := hE1.cell
  have cR1 := hR1.cell
  have fR1 := hR1.free
  have hl1 := hb1.size
  have hbB1 := (hb0 _ _ _).trans (hb1.mono (by simp; omega))
  have hBB := (((Below.refl w.heap.size w).al _).al _).al _ |>.th hb1
  simp only [World.size_alloc] at hl1
  clear HC hb0
  cases h0 : (checkE (.mk hd ks) != 0) with
  | true =>
    have h1 : checkE (.mk hd ks) ≠ 0 := by simpa using h0
    have h2 : unknownE = E := by rw [← HE.out, evalE, if_neg h1]
    subst h2
    clear h1 HE HF hfin
    go_wp2_with fail
    refine bodyPost_ret (v := ?_) ?_ rfl ?_
    rotate_left
    · simp [results, Tryz.results35, go_sem, cR1]; exact rfl
    refine ⟨rfl, ?_⟩
    (repeat (first | refine Below.st ?_ (by first | (simp; done) | (simp; omega)) _ | exact hBB))
  | false =>
    have h1 : checkE (.mk hd ks) = 0 := by simpa using h0
    have h2 : findS V (.mk hd ks) = E := by rw [← HE.out, evalE, if_pos h1]
    have HF2 := fun W => HF W h1
    rw [h2] at HF2
    have hok := hfin.isok
    clear h2 HE HF h1 hfin
    obtain ⟨ek, en, es, eok⟩ := E
    simp only at hok
    simp only [EV.val] at HF2
    have HOK := Lib.hid hok
    clear hok
    go_wp2_with fail
    refine (HF2 _ hbB1 (by omega)).out.mono ?_
    rintro r w2 ⟨rfl, hb2⟩
    have hR := hR1.below hb2
    have hs := hR.lt
    have hOb := hBB.th hb2
    clear HF2 cV1 cE1 cR1 fR1 hV1 hE1 hR1 hBB hbB1 hb1 hb2 hl1 h0
    go_upto_region 4 with fail
    have hX : Blk (w2.alloc (.cells #[.int .i64 ek, .int .i64 en, .string es] 36)) w2.heap.size 36 #[.int .i64 ek, .int .i64 en, .string es] := Blk.new _ _ _
    have hR2 := hR.alloc (.cells #[.int .i64 ek, .int .i64 en, .string es] 36)
    have hO2 := hOb.al (.cells #[.int .i64 ek, .int .i64 en, .string es] 36)
    have hne : w2.heap.size ≠ w.heap.size + 1 + 1 := by omega
    clear hR hOb
    generalize w2.alloc (.cells #[.int .i64 ek, .int .i64 en, .string es] 36) = w3 at *
    generalize w2.heap.size = g at *
    have x0 : w3.cell? ⟨g, 0, none⟩ = some (.int .i64 ek) := by rw [hX.cell]; rfl
    have x1 : w3.cell? ⟨g, 1, none⟩ = some (.int .i64 en) := by rw [hX.cell]; rfl
    have x2 : w3.cell? ⟨g, 2, none⟩ = some (.string es) := by rw [hX.cell]; rfl
    have r0 : w3.cell? ⟨w.heap.size + 1 + 1, 0, none⟩ = some (.int .i64 0) := by rw [hR2.cell]; rfl
    have r1 : w3.cell? ⟨w.heap.size + 1 + 1, 1, none⟩ = some (.int .i64 0) := by rw [hR2.cell]; rfl
    have r2 : w3.cell? ⟨w.heap.size + 1 + 1, 2, none⟩ = some (.string { data := #[] }) := by rw [hR2.cell]; rfl
    have f0 := hR2.free 0
    have f1 := hR2.free 1
    have f2 := hR2.free 2
    go_region
    have kF : Blk (((w3.setCell ⟨w.heap.size + 1 + 1, 0, none⟩ (.int .i64 ek)).setCell ⟨w.heap.size + 1 + 1, 1, none⟩ (.int .i64 en)).setCell ⟨w.heap.size + 1 + 1, 2, none⟩ (.string es)).drew (w.heap.size + 1 + 1) 36 #[.int .i64 ek, .int .i64 en, .string es] := ((hR2.set 0 (.int .i64 ek)).set 1 (.int .i64 en)).set 2 (.string es)
    have hO5 : Below w.heap.size w (((w3.setCell ⟨w.heap.size + 1 + 1, 0, none⟩ (.int .i64 ek)).setCell ⟨w.heap.size + 1 + 1, 1, none⟩ (.int .i64 en)).setCell ⟨w.heap.size + 1 + 1, 2, none⟩ (.string es)).drew := (((hO2.st (by simp; omega) _).st (by simp; omega) _).st (by simp; omega) _).dr
    clear x0 x1 x2 r0 r1 r2 f0 f1 f2 hX hR2 hO2 hne
    generalize (((w3.setCell ⟨w.heap.size + 1 + 1, 0, none⟩ (.int .i64 ek)).setCell ⟨w.heap.size + 1 + 1, 1, none⟩ (.int .i64 en)).setCell ⟨w.heap.size + 1 + 1, 2, none⟩ (.string es)).drew = w5 at *
    have cF := kF.cell
    go_wp2_with fail
    refine bodyPost_ret (v := ?_) ?_ rfl ?_
    rotate_left
    · simp [results, Tryz.results35, go_sem, cF]; exact rfl
    refine ⟨?_, hO5⟩
    have e : (ek != 0) = eok := by rw [HOK.out]; by_cases h : ek = 0 <;> simp [h]
    first | (rw [e]; done) | (rw [e]; rfl)

set_option maxRecDepth 100000 in
set_option maxHeartbeats 4000000 in
theorem rtrue_any' (V : LView) (e : LExpr) (vc cs : List Value) (B : Nat) (w : World) (hB : B ≤ w.heap.size) (hv : IsView B w V vc) (he : IsExpr B w e cs) :
    Calls Tryz.prog 23 #[.agg vc.toArray, .agg cs.toArray] w fun r w' => r = .returned (.bool (isTrue (evalE V e))) ∧ Below w.heap.size w w' := by
  have HC := fun W (hb : Below B w W) (hl : B ≤ W.heap.size) => Lib.hid (reval_any V e vc cs B W hl (hv.carry hb) (he.carry hb))
  have hfin := evalE_fine V e
  obtain ⟨hd, ks, A, c, rfl, rfl, hlen⟩ := he.form
  obtain ⟨IA, ic, MA, mc, rfl, _⟩ := hv
  clear he
  unfold Hd.cells at HC ⊢
  have hb0 : ∀ o1 o2, Below B w ((w.alloc o1).alloc o2) := fun o1 o2 => ((Below.refl B w).alloc hB o1).alloc (by simp; omega) o2
  generalize evalE V (.mk hd ks) = E at *
  obtain ⟨ek, en, es, eok⟩ := E
  obtain ⟨f1, f2, f3⟩ := hfin
  simp only at f1 f2 f3
  cases eok with
  | false =>
    clear f1 f2 f3
    go_enter Tryz.func23, Tryz.ntmps23
    go_wp2_with fail
    refine (HC _ (hb0 _ _) (by simp; omega)).out.mono ?_
    rintro r w2 ⟨rfl, hb2⟩
    clear HC
    go_upto_region 2 with fail
    have hO2 := ((((Below.refl w.heap.size w).al _).al _).th hb2).al (.cells #[.int .i64 ek, .int .i64 en, .string es] 36)
    generalize w2.alloc (.cells #[.int .i64 ek, .int .i64 en, .string es] 36) = w3 at *
    refine wp_rely (by kernel_rfl) (by kernel_rfl) ?_
    iterate 7
      apply RelyL.val
      · intro ν w' hL hF K hK
        first
          | (refine skip_op rfl ?_; exact hK.out _ _ rfl (Lat.refl _))
          | (go_simp; exact hK.out _ _ rfl (Lat.refl _))
      simp only [Act.put, List.setIfInBounds_toArray, List.set_cons_zero, List.set_cons_succ, Nat.reduceAdd]
    refine RelyL.done fun ν w5 hL hF => ?_
    clear hF
    go_wp2_with fail
    go_ret
    exact ⟨ret_bool (by simp [isTrue]), hO2.th hL⟩
  | true =>
    by_cases hT : ek = 1 ∧ en = 1
    · obtain ⟨rfl, rfl⟩ := hT
      obtain rfl := (f3 rfl).2
      clear f1 f2 f3
      go_enter Tryz.func23, Tryz.ntmps23
      go_wp2_with fail
      refine (HC _ (hb0 _ _) (by simp; omega)).out.mono ?_
      rintro r w2 ⟨rfl, hb2⟩
      clear HC
      go_upto_region 2 with fail
      try simp only [noStr] at *
      have hO2 := ((((Below.refl w.heap.size w).al _).al _).th hb2).al (.cells #[.int .i64 1, .int .i64 1, .string { data := #[] }] 36)
      have kX : Blk (w2.alloc (.cells #[.int .i64 1, .int .i64 1, .string { data := #[] }] 36)) w2.heap.size 36 #[.int .i64 1, .int .i64 1, .string { data := #[] }] := Blk.new _ _ _
      generalize w2.alloc (.cells #[.int .i64 1, .int .i64 1, .string { data := #[] }] 36) = w3 at *
      generalize w2.heap.size = g at *
      refine wp_rely (by kernel_rfl) (by kernel_rfl) ?_
      apply RelyL.val
      · intro ν w' hL hF K hK
        skip
        go_simp
        exact hK.out _ _ rfl (Lat.refl _)
      simp only [Act.put, List.setIfInBounds_toArray, List.set_cons_zero, List.set_cons_succ, Nat.reduceAdd]
      apply RelyL.val
      · intro ν w' hL hF K hK
        skip
        go_simp
        exact hK.out _ _ rfl (Lat.refl _)
      simp only [Act.put, List.setIfInBounds_toArray, List.set_cons_zero, List.set_cons_succ, Nat.reduceAdd]
      apply RelyL.val
      · intro ν w' hL hF K hK
        refine take_op rfl ?_
        refine wp_load_blk rfl rfl (kX.lat hL) Tryz.underlying36 rfl (by kernel_rfl : (Tryz.prog.info? 36).map (·.size) = some 3) rfl ?_
        exact hK.out _ _ rfl (Lat.refl _)
      simp only [Act.put, List.setIfInBounds_toArray, List.set_cons_zero, List.set_cons_succ, Nat.reduceAdd]
      apply RelyL.val
      · intro ν w' hL hF K hK
        go_simp
        go_at_call 36
        refine (rtruth_any true w').mono ?_
        rintro r w'' ⟨rfl, hb⟩
        exact hK.out _ _ rfl hb
      simp only [Act.put, List.setIfInBounds_toArray, List.set_cons_zero, List.set_cons_succ, Nat.reduceAdd]
      try simp only [bit, if_true, noStr] at *
      apply RelyL.val
      · intro ν w' hL hF K hK
        skip
        go_simp
        exact hK.out _ _ rfl (Lat.refl _)
      simp only [Act.put, List.setIfInBounds_toArray, List.set_cons_zero, List.set_cons_succ, Nat.reduceAdd]
      apply RelyL.val
      · intro ν w' hL hF K hK
        skip
        go_simp
        exact hK.out _ _ rfl (Lat.refl _)
      simp only [Act.put, List.setIfInBounds_toArray, List.set_cons_zero, List.set_cons_succ, Nat.reduceAdd]
      apply RelyL.val
      · intro ν w' hL hF K hK
        skip
        go_simp
        exact hK.out _ _ rfl (Lat.refl _)
      simp only [Act.put, List.setIfInBounds_toArray, List.set_cons_zero, List.set_cons_succ, Nat.reduceAdd]
      refine RelyL.done fun ν w5 hL hF => ?_
      clear hF
      go_wp2_with fail
      go_ret
      exact ⟨ret_bool (by first | exact rfl | simp [isTrue]), hO2.th hL⟩
    · have hne : isTrue ⟨ek, en, es, true⟩ = false := by
        unfold isTrue
        by_cases h1 : ek = 1
        · have : ¬ en = 1 := fun h => hT ⟨h1, h⟩
          simp [this]
        · simp [h1]
      by_cases h1 : ek = 1
      · have h2 : ¬ en = 1 := fun h => hT ⟨h1, h⟩
        obtain ⟨g1, g2, g3⟩ := ine h2
        subst h1
        clear f1 f2 f3 hT h2
        have HNE := Lib.hid hne
        clear hne
        go_enter Tryz.func23, Tryz.ntmps23
        go_wp2_with fail
        refine (HC _ (hb0 _ _) (by simp; omega)).out.mono ?_
        rintro r w2 ⟨rfl, hb2⟩
        clear HC
        go_upto_region 2 with fail
        try simp only [noStr] at *
        have hO2 := ((((Below.refl w.heap.size w).al _).al _).th hb2).al (.cells #[.int .i64 1, .int .i64 en, .string es] 36)
        have kX : Blk (w2.alloc (.cells #[.int .i64 1, .int .i64 en, .string es] 36)) w2.heap.size 36 #[.int .i64 1, .int .i64 en, .string es] := Blk.new _ _ _
        generalize w2.alloc (.cells #[.int .i64 1, .int .i64 en, .string es] 36) = w3 at *
        generalize w2.heap.size = g at *
        refine wp_rely (by kernel_rfl) (by kernel_rfl) ?_
        apply RelyL.val
        · intro ν w' hL hF K hK
          skip
          go_simp
          exact hK.out _ _ rfl (Lat.refl _)
        simp only [Act.put, List.setIfInBounds_toArray, List.set_cons_zero, List.set_cons_succ, Nat.reduceAdd]
        apply RelyL.val
        · intro ν w' hL hF K hK
          skip
          go_simp
          exact hK.out _ _ rfl (Lat.refl _)
        simp only [Act.put, List.setIfInBounds_toArray, List.set_cons_zero, List.set_cons_succ, Nat.reduceAdd]
        apply RelyL.val
        · intro ν w' hL hF K hK
          refine take_op rfl ?_
          refine wp_load_blk rfl rfl (kX.lat hL) Tryz.underlying36 rfl (by kernel_rfl : (Tryz.prog.info? 36).map (·.size) = some 3) rfl ?_
          exact hK.out _ _ rfl (Lat.refl _)
        simp only [Act.put, List.setIfInBounds_toArray, List.set_cons_zero, List.set_cons_succ, Nat.reduceAdd]
        apply RelyL.val
        · intro ν w' hL hF K hK
          go_simp
          go_at_call 36
          refine (rtruth_any true w').mono ?_
          rintro r w'' ⟨rfl, hb⟩
          exact hK.out _ _ rfl hb
        simp only [Act.put, List.setIfInBounds_toArray, List.set_cons_zero, List.set_cons_succ, Nat.reduceAdd]
        try simp only [bit, if_true, noStr] at *
        apply RelyL.val
        · intro ν w' hL hF K hK
          skip
          go_simp
          exact hK.out _ _ rfl (Lat.refl _)
        simp only [Act.put, List.setIfInBounds_toArray, List.set_cons_zero, List.set_cons_succ, Nat.reduceAdd]
        apply RelyL.val
        · intro ν w' hL hF K hK
          skip
          go_simp
          exact hK.out _ _ rfl (Lat.refl _)
        simp only [Act.put, List.setIfInBounds_toArray, List.set_cons_zero, List.set_cons_succ, Nat.reduceAdd]
        apply RelyL.val
        · intro ν w' hL hF K hK
          skip
          go_simp
          exact hK.out _ _ rfl (Lat.refl _)
        simp only [Act.put, List.setIfInBounds_toArray, List.set_cons_zero, List.set_cons_succ, Nat.reduceAdd]
        refine RelyL.done fun ν w5 hL hF => ?_
        clear hF
        go_wp2_with fail
        go_ret
        exact ⟨ret_bool (by first | exact HNE.out.symm | simp [isTrue]), hO2.th hL⟩
      · obtain ⟨g1, g2, g3⟩ := ine h1
        clear f1 f2 f3 hT h1
        have HNE := Lib.hid hne
        clear hne
        go_enter Tryz.func23, Tryz.ntmps23
        go_wp2_with fail
        refine (HC _ (hb0 _ _) (by simp; omega)).out.mono ?_
        rintro r w2 ⟨rfl, hb2⟩
        clear HC
        go_upto_region 2 with fail
        try simp only [noStr] at *
        have hO2 := ((((Below.refl w.heap.size w).al _).al _).th hb2).al (.cells #[.int .i64 ek, .int .i64 en, .string es] 36)
        have kX : Blk (w2.alloc (.cells #[.int .i64 ek, .int .i64 en, .string es] 36)) w2.heap.size 36 #[.int .i64 ek, .int .i64 en, .string es] := Blk.new _ _ _
        generalize w2.alloc (.cells #[.int .i64 ek, .int .i64 en, .string es] 36) = w3 at *
        generalize w2.heap.size = g at *
        refine wp_rely (by kernel_rfl) (by kernel_rfl) ?_
        apply RelyL.val
        · intro ν w' hL hF K hK
          skip
          go_simp
          exact hK.out _ _ rfl (Lat.refl _)
        simp only [Act.put, List.setIfInBounds_toArray, List.set_cons_zero, List.set_cons_succ, Nat.reduceAdd]
        apply RelyL.val
        · intro ν w' hL hF K hK
          skip
          go_simp
          exact hK.out _ _ rfl (Lat.refl _)
        simp only [Act.put, List.setIfInBounds_toArray, List.set_cons_zero, List.set_cons_succ, Nat.reduceAdd]
        apply RelyL.val
        · intro ν w' hL hF K hK
          refine take_op rfl ?_
          refine wp_load_blk rfl rfl (kX.lat hL) Tryz.underlying36 rfl (by kernel_rfl : (Tryz.prog.info? 36).map (·.size) = some 3) rfl ?_
          exact hK.out _ _ rfl (Lat.refl _)
        simp only [Act.put, List.setIfInBounds_toArray, List.set_cons_zero, List.set_cons_succ, Nat.reduceAdd]
        apply RelyL.val
        · intro ν w' hL hF K hK
          go_simp
          go_at_call 36
          refine (rtruth_any true w').mono ?_
          rintro r w'' ⟨rfl, hb⟩
          exact hK.out _ _ rfl hb
        simp only [Act.put, List.setIfInBounds_toArray, List.set_cons_zero, List.set_cons_succ, Nat.reduceAdd]
        try simp only [bit, if_true, noStr] at *
        apply RelyL.val
        · intro ν w' hL hF K hK
          skip
          go_simp
          exact hK.out _ _ rfl (Lat.refl _)
        simp only [Act.put, List.setIfInBounds_toArray, List.set_cons_zero, List.set_cons_succ, Nat.reduceAdd]
        apply RelyL.val
        · intro ν w' hL hF K hK
          skip
          go_simp
          exact hK.out _ _ rfl (Lat.refl _)
        simp only [Act.put, List.setIfInBounds_toArray, List.set_cons_zero, List.set_cons_succ, Nat.reduceAdd]
        apply RelyL.val
        · intro ν w' hL hF K hK
          skip
          go_simp
          exact hK.out _ _ rfl (Lat.refl _)
        simp only [Act.put, List.setIfInBounds_toArray, List.set_cons_zero, List.set_cons_succ, Nat.reduceAdd]
        refine RelyL.done fun ν w5 hL hF => ?_
        clear hF
        go_wp2_with fail
        go_ret
        exact ⟨ret_bool (by first | exact HNE.out.symm | simp [isTrue]), hO2.th hL⟩

end Go.Proofs.YtafodibbcfoclaaGreat.Ev
