/- EvalFold: the walk. -/
import Derived.Test.YtnelgblmogciiaaSame
import Derived.Test.YtnelgblmogciiaaSize
import Derived.Test.YtnelgblmogciiaaAwake2
import Derived.Test.YtnelgblmogciiaaEFold
set_option linter.unusedSimpArgs false
set_option linter.unusedVariables false
namespace Go.Proofs.Ytnelgblmogciiaa
open Go.RowKit

set_option maxRecDepth 100000 in
set_option maxHeartbeats 4000000 in
theorem evalFold_any (V : LView) (e : LExpr) (vc cs : List Value) (B : Nat) (w : World) (hB : B ≤ w.heap.size) (hv : IsView B w V vc) (he : IsExpr B w e cs) :
    Calls Try.prog 12 #[.agg vc.toArray, .agg cs.toArray] w fun r w' => r = .returned (.bool true) ∧ Below w.heap.size w w' := by
  have HS := fun W (hb' : Below B w W) (hl : B ≤ W.heap.size) => Lib.hid (smallB_any V e vc cs B W hl (hv.carry hb') (he.carry hb'))
  have HC := fun W (hb' : Below B w W) (hl : B ≤ W.heap.size) => Lib.hid (rcheckE_any e cs B W hl (he.carry hb'))
  have HF := fun W (hb' : Below B w W) (hl : B ≤ W.heap.size) => Lib.hid (fold_any e cs B W hl (he.carry hb'))
  have HX := fun W cv (hb' : Below B w W) (hl : B ≤ W.heap.size) hx => Lib.hid (same_any V e (foldE e) vc cs cv W.heap.size W (Nat.le_refl _) ((hv.carry hb').mono hl) ((he.carry hb').mono hl) hx)
  rw [evalE_fold, sameB_self] at HX
  obtain ⟨ha, ka, Aa, ca, qa, rfl, _⟩ := he.form
  obtain ⟨IA, ic, MA, mc, rfl, _⟩ := hv
  clear qa he
  unfold Hd.cells at HS HC HF HX ⊢
  have hbw0 : Below w.heap.size w ((w.alloc (.cells #[.slice IA V.items.length ic, .string V.mode, .int .i64 V.minute, .slice MA V.members.length mc] 25)).alloc (.cells #[.int .i64 ha.kind, .int .i64 ha.n, .int .i64 ha.m, .string ha.name, .int .i64 ha.vk, .int .i64 ha.vn, .string ha.vs, .int .i64 ha.dev, .string ha.cl, .string ha.at_, .slice Aa ka.length ca] 32)) := ((Below.refl _ _).al _).al _
  have hv0 : Blk ((w.alloc (.cells #[.slice IA V.items.length ic, .string V.mode, .int .i64 V.minute, .slice MA V.members.length mc] 25)).alloc (.cells #[.int .i64 ha.kind, .int .i64 ha.n, .int .i64 ha.m, .string ha.name, .int .i64 ha.vk, .int .i64 ha.vn, .string ha.vs, .int .i64 ha.dev, .string ha.cl, .string ha.at_, .slice Aa ka.length ca] 32)) w.heap.size 25 #[.slice IA V.items.length ic, .string V.mode, .int .i64 V.minute, .slice MA V.members.length mc] := (Blk.new _ _ _).alloc _
  have he0 : Blk ((w.alloc (.cells #[.slice IA V.items.length ic, .string V.mode, .int .i64 V.minute, .slice MA V.members.length mc] 25)).alloc (.cells #[.int .i64 ha.kind, .int .i64 ha.n, .int .i64 ha.m, .string ha.name, .int .i64 ha.vk, .int .i64 ha.vn, .string ha.vs, .int .i64 ha.dev, .string ha.cl, .string ha.at_, .slice Aa ka.length ca] 32)) (w.heap.size + 1) 32 #[.int .i64 ha.kind, .int .i64 ha.n, .int .i64 ha.m, .string ha.name, .int .i64 ha.vk, .int .i64 ha.vn, .string ha.vs, .int .i64 ha.dev, .string ha.cl, .string ha.at_, .slice Aa ka.length ca] := Blk.at1 _ _ _ _
  have hl0 : w.heap.size + 2 = ((w.alloc (.cells #[.slice IA V.items.length ic, .string V.mode, .int .i64 V.minute, .slice MA V.members.length mc] 25)).alloc (.cells #[.int .i64 ha.kind, .int .i64 ha.n, .int .i64 ha.m, .string ha.name, .int .i64 ha.vk, .int .i64 ha.vn, .string ha.vs, .int .i64 ha.dev, .string ha.cl, .string ha.at_, .slice Aa ka.length ca] 32)).heap.size := by simp
  go_enter Try.func12, Try.ntmps12
  go_upto_region 1 with fail
  generalize ((w.alloc (.cells #[.slice IA V.items.length ic, .string V.mode, .int .i64 V.minute, .slice MA V.members.length mc] 25)).alloc (.cells #[.int .i64 ha.kind, .int .i64 ha.n, .int .i64 ha.m, .string ha.name, .int .i64 ha.vk, .int .i64 ha.vn, .string ha.vs, .int .i64 ha.dev, .string ha.cl, .string ha.at_, .slice Aa ka.length ca] 32)) = W0 at *
  have cv := hv0.cell
  have ce := he0.cell
  go_wp2_with fail
  refine (HS _ (hbw0.mono hB) (by omega)).out.mono ?_
  rintro r w1 ⟨rfl, hb1⟩
  have hbw1 := hbw0.th hb1
  have hv1 := hv0.below hb1
  have he1 := he0.below hb1
  clear HS cv ce hv0 he0
  rcases Bool.eq_false_or_eq_true (smallB V e) with hs | hs
  · rw [hs]
    clear hs
    have cv1 := hv1.cell
    have ce1 := he1.cell
    go_wp2_with fail
    refine (HC _ (hbw1.mono hB) (by have := hbw1.size; omega)).out.mono ?_
    rintro r w2 ⟨rfl, hb2⟩
    have hbw2 := hbw1.th hb2
    have hv2 := hv1.below hb2
    have he2 := he1.below hb2
    clear HC cv1 ce1 hv1 he1
    by_cases hc : checkE e = 0
    · rw [hc]
      clear hc
      go_upto_region 3 with fail
      have hbB : ∀ W, Lat w2 W → Below B w W ∧ B ≤ W.heap.size := fun W hL => ⟨((hbw2.trans (hL.mono (by have := hbw2.size; omega))).mono hB), by have := hL.size; have := hbw2.size; omega⟩
      replace HF := fun W h => HF W (hbB W h).1 (hbB W h).2
      replace HX := fun W cv h => HX W cv (hbB W h).1 (hbB W h).2
      generalize foldE e = fe at *
      refine wp_rely (by kernel_rfl) (by kernel_rfl) ?_
      apply RelyL.val
      · intro ν w' hL hF K hK
        refine take_op rfl ?_
        refine wp_load_blk rfl rfl (hv2.lat hL) Try.underlying25 rfl (by kernel_rfl : (Try.prog.info? 25).map (·.size) = some 4) rfl ?_
        exact hK.out _ _ rfl (Lat.refl _)
      simp only [Act.put, List.setIfInBounds_toArray, List.set_cons_zero, List.set_cons_succ, Nat.reduceAdd]
      apply RelyL.val
      · intro ν w' hL hF K hK
        refine take_op rfl ?_
        refine wp_load_blk rfl rfl (he2.lat hL) Try.underlying32 rfl (by kernel_rfl : (Try.prog.info? 32).map (·.size) = some 11) rfl ?_
        exact hK.out _ _ rfl (Lat.refl _)
      simp only [Act.put, List.setIfInBounds_toArray, List.set_cons_zero, List.set_cons_succ, Nat.reduceAdd]
      apply RelyL.val
      · intro ν w' hL hF K hK
        refine take_op rfl ?_
        refine wp_load_blk rfl rfl (he2.lat hL) Try.underlying32 rfl (by kernel_rfl : (Try.prog.info? 32).map (·.size) = some 11) rfl ?_
        exact hK.out _ _ rfl (Lat.refl _)
      simp only [Act.put, List.setIfInBounds_toArray, List.set_cons_zero, List.set_cons_succ, Nat.reduceAdd]
      refine RelyL.law (IsEx fe) (fun v w1 w2 hl h => IsEx.lat h hl) (fun ν w' hL hF K hK => ?_) ?_
      · have H := HF w' hL
        go_simp
        go_at_call 37
        with_reducible refine H.out.mono ?_
        rintro r w'' ⟨⟨v, rfl, cs', rfl, he'⟩, hbp⟩
        exact hK.out _ _ _ rfl ⟨cs', rfl, he'.toIs⟩ hbp
      simp only [Act.put, List.setIfInBounds_toArray, List.set_cons_zero, List.set_cons_succ, Nat.reduceAdd]
      apply RelyL.val
      · intro ν w' hL hF K hK
        have h3 := hF.get 0 rfl (by kernel_rfl)
        dsimp only at h3
        generalize ν 3 = x3 at *
        obtain ⟨cs3, rfl, he3⟩ := h3
        obtain ⟨h3, k3, A3, c3, q3, rfl, _⟩ := he3.form
        have H := HX w' _ hL he3
        unfold Hd.cells at H ⊢
        go_simp
        go_at_call 27
        with_reducible refine H.out.mono ?_
        rintro r w'' ⟨rfl, hbp⟩
        exact hK.out _ _ rfl hbp
      simp only [Act.put, List.setIfInBounds_toArray, List.set_cons_zero, List.set_cons_succ, Nat.reduceAdd]
      apply RelyL.val
      · intro ν w' hL hF K hK
        go_simp
        exact hK.out _ _ rfl (Lat.refl _)
      simp only [Act.put, List.setIfInBounds_toArray, List.set_cons_zero, List.set_cons_succ, Nat.reduceAdd]
      apply RelyL.val
      · intro ν w' hL hF K hK
        go_simp
        refine (awake_any _).mono ?_
        rintro r w'' ⟨rfl, hbp⟩
        exact hK.out _ _ rfl hbp
      simp only [Act.put, List.setIfInBounds_toArray, List.set_cons_zero, List.set_cons_succ, Nat.reduceAdd]
      apply RelyL.val
      · intro ν w' hL hF K hK
        go_simp
        exact hK.out _ _ rfl (Lat.refl _)
      simp only [Act.put, List.setIfInBounds_toArray, List.set_cons_zero, List.set_cons_succ, Nat.reduceAdd]
      apply RelyL.val
      · intro ν w' hL hF K hK
        go_simp
        exact hK.out _ _ rfl (Lat.refl _)
      simp only [Act.put, List.setIfInBounds_toArray, List.set_cons_zero, List.set_cons_succ, Nat.reduceAdd]
      refine RelyL.done fun ν w3 hL hF => ?_
      have hbw3 := hbw2.th hL
      clear hF HF HX hbB hbw2 hL hv2 he2
      go_wp2_with fail
      go_ret
      exact ⟨rfl, hbw3⟩
    · have q1 : (checkE e != 0) = true := by simpa using hc
      generalize checkE e = CE at *
      go_wp2_with fail
      refine (awake_any _).mono ?_
      rintro r w3 ⟨rfl, hb3⟩
      go_wp2_with fail
      go_ret
      exact ⟨rfl, hbw2.th hb3⟩
  · rw [hs]
    clear hs
    go_wp2_with fail
    refine (awake_any _).mono ?_
    rintro r w3 ⟨rfl, hb3⟩
    go_wp2_with fail
    go_ret
    exact ⟨rfl, hbw1.th hb3⟩

end Go.Proofs.Ytnelgblmogciiaa
