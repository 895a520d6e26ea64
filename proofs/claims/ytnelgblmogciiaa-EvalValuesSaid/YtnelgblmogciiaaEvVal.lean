/- EvalValues: the walk. -/
import Derived.Test.YtnelgblmogciiaaREvE
import Derived.Test.YtnelgblmogciiaaSize
import Derived.Test.YtnelgblmogciiaaAwake2
set_option linter.unusedSimpArgs false
set_option linter.unusedVariables false
namespace Go.Proofs.Ytnelgblmogciiaa
open Go.RowKit

set_option maxRecDepth 100000 in
set_option maxHeartbeats 4000000 in
theorem evalValues_any (V : LView) (e : LExpr) (vc cs : List Value) (B : Nat) (w : World) (hB : B ≤ w.heap.size) (hv : IsView B w V vc) (he : IsExpr B w e cs) :
    Calls Try.prog 3 #[.agg vc.toArray, .agg cs.toArray] w fun r w' => r = .returned (.bool true) ∧ Below w.heap.size w w' := by
  have HS := fun W (hb' : Below B w W) (hl : B ≤ W.heap.size) => Lib.hid (smallB_any V e vc cs B W hl (hv.carry hb') (he.carry hb'))
  have H1 := fun W (hb' : Below B w W) (hl : B ≤ W.heap.size) => Lib.hid (eval_any V e vc cs B W hl (hv.carry hb') (he.carry hb'))
  have H2 := fun W (hb' : Below B w W) (hl : B ≤ W.heap.size) => Lib.hid (reval_any V e vc cs B W hl (hv.carry hb') (he.carry hb'))
  have H3 := fun W (hb' : Below B w W) (hl : B ≤ W.heap.size) => Lib.hid (true_any V e vc cs B W hl (hv.carry hb') (he.carry hb'))
  have H4 := fun W (hb' : Below B w W) (hl : B ≤ W.heap.size) => Lib.hid (rtrue_any' V e vc cs B W hl (hv.carry hb') (he.carry hb'))
  obtain ⟨ha, ka, Aa, ca, qa, rfl, _⟩ := he.form
  obtain ⟨IA, ic, MA, mc, rfl, _⟩ := hv
  clear qa he
  unfold Hd.cells at HS H1 H2 H3 H4 ⊢
  have hbw0 : Below w.heap.size w ((w.alloc (.cells #[.slice IA V.items.length ic, .string V.mode, .int .i64 V.minute, .slice MA V.members.length mc] 25)).alloc (.cells #[.int .i64 ha.kind, .int .i64 ha.n, .int .i64 ha.m, .string ha.name, .int .i64 ha.vk, .int .i64 ha.vn, .string ha.vs, .int .i64 ha.dev, .string ha.cl, .string ha.at_, .slice Aa ka.length ca] 32)) := ((Below.refl _ _).al _).al _
  have hv0 : Blk ((w.alloc (.cells #[.slice IA V.items.length ic, .string V.mode, .int .i64 V.minute, .slice MA V.members.length mc] 25)).alloc (.cells #[.int .i64 ha.kind, .int .i64 ha.n, .int .i64 ha.m, .string ha.name, .int .i64 ha.vk, .int .i64 ha.vn, .string ha.vs, .int .i64 ha.dev, .string ha.cl, .string ha.at_, .slice Aa ka.length ca] 32)) w.heap.size 25 #[.slice IA V.items.length ic, .string V.mode, .int .i64 V.minute, .slice MA V.members.length mc] := (Blk.new _ _ _).alloc _
  have he0 : Blk ((w.alloc (.cells #[.slice IA V.items.length ic, .string V.mode, .int .i64 V.minute, .slice MA V.members.length mc] 25)).alloc (.cells #[.int .i64 ha.kind, .int .i64 ha.n, .int .i64 ha.m, .string ha.name, .int .i64 ha.vk, .int .i64 ha.vn, .string ha.vs, .int .i64 ha.dev, .string ha.cl, .string ha.at_, .slice Aa ka.length ca] 32)) (w.heap.size + 1) 32 #[.int .i64 ha.kind, .int .i64 ha.n, .int .i64 ha.m, .string ha.name, .int .i64 ha.vk, .int .i64 ha.vn, .string ha.vs, .int .i64 ha.dev, .string ha.cl, .string ha.at_, .slice Aa ka.length ca] := Blk.at1 _ _ _ _
  have hl0 : w.heap.size + 2 = ((w.alloc (.cells #[.slice IA V.items.length ic, .string V.mode, .int .i64 V.minute, .slice MA V.members.length mc] 25)).alloc (.cells #[.int .i64 ha.kind, .int .i64 ha.n, .int .i64 ha.m, .string ha.name, .int .i64 ha.vk, .int .i64 ha.vn, .string ha.vs, .int .i64 ha.dev, .string ha.cl, .string ha.at_, .slice Aa ka.length ca] 32)).heap.size := by simp
  go_enter Try.func3, Try.ntmps3
  go_upto_region 1 with fail
  generalize ((w.alloc (.cells #[.slice IA V.items.length ic, .string V.mode, .int .i64 V.minute, .slice MA V.members.length mc] 25)).alloc (.cells #[.int .i64 ha.kind, .int .i64 ha.n, .int .i64 ha.m, .string ha.name, .int .i64 ha.vk, .int .i64 ha.vn, .string ha.vs, .int .i64 ha.dev, .string ha.cl, .string ha.at_, .slice Aa ka.length ca] 32)) = W0 at *
  have cv := hv0.cell
  have ce := he0.cell
  have hl1 : w.heap.size + 2 ≤ W0.heap.size := by omega
  clear hl0
  go_wp2_with fail
  refine (HS _ (hbw0.mono hB) (by omega)).out.mono ?_
  rintro r w1 ⟨rfl, hb1⟩
  have hbw1 := hbw0.th hb1
  have hv1 := hv0.below hb1
  have he1 := he0.below hb1
  have hs1 := hb1.size
  clear HS cv ce hv0 he0
  rcases Bool.eq_false_or_eq_true (smallB V e) with hs | hs
  · rw [hs]
    clear hs
    generalize evalE V e = E at *
    obtain ⟨ek, en, es, eok⟩ := E
    generalize hT : isTrue ⟨ek, en, es, eok⟩ = T at *
    clear hT
    have cv1 := hv1.cell
    have ce1 := he1.cell
    go_wp2_with fail
    refine (H1 _ (hbw1.mono hB) (by omega)).out.mono ?_
    rintro r w2 ⟨rfl, hb2⟩
    have hbw2 := hbw1.th hb2
    have hv2 := hv1.below hb2
    have he2 := he1.below hb2
    have hs2 := hb2.size
    clear H1 cv1 ce1 hv1 he1
    have cv2 := (hv2.alloc (.cells #[.int .i64 ek, .int .i64 en, .string es] 27)).cell
    have ce2 := (he2.alloc (.cells #[.int .i64 ek, .int .i64 en, .string es] 27)).cell
    go_wp2_with fail
    refine (H2 _ ((hbw2.al _).mono hB) (by simp; omega)).out.mono ?_
    rintro r w3 ⟨rfl, hb3⟩
    have hbw3 := (hbw2.al _).th hb3
    have hv3 := (hv2.alloc _).below hb3
    have he3 := (he2.alloc _).below hb3
    have hx3 := (Blk.new w2 27 #[.int .i64 ek, .int .i64 en, .string es]).below hb3
    have hs3 := hb3.size
    rw [World.size_alloc] at hs3
    clear H2 cv2 ce2 hv2 he2
    go_upto_region 5 with fail
    have hbw4 := hbw3.al (.cells #[.int .i64 ek, .int .i64 en, .string es] 27)
    have hv4 := hv3.alloc (.cells #[.int .i64 ek, .int .i64 en, .string es] 27)
    have he4 := he3.alloc (.cells #[.int .i64 ek, .int .i64 en, .string es] 27)
    have hx4 := hx3.alloc (.cells #[.int .i64 ek, .int .i64 en, .string es] 27)
    have hy4 := Blk.new w3 27 #[.int .i64 ek, .int .i64 en, .string es]
    have hs4 : w.heap.size ≤ (w3.alloc (.cells #[.int .i64 ek, .int .i64 en, .string es] 27)).heap.size := hbw4.size
    clear hbw3 hv3 he3 hx3
    generalize w3.alloc (.cells #[.int .i64 ek, .int .i64 en, .string es] 27) = w4 at *
    generalize w3.heap.size = g3 at *
    generalize w2.heap.size = g2 at *
    have hbB : ∀ W, Lat w4 W → Below B w W ∧ B ≤ W.heap.size := fun W hL => ⟨((hbw4.trans (hL.mono (by omega))).mono hB), by have := hL.size; omega⟩
    have H3' := Lib.hid (fun W (h : Lat w4 W) => (H3 W (hbB W h).1 (hbB W h).2).out)
    have H4' := Lib.hid (fun W (h : Lat w4 W) => (H4 W (hbB W h).1 (hbB W h).2).out)
    clear H3 H4
    refine wp_rely (by kernel_rfl) (by kernel_rfl) ?_
    apply RelyL.val
    · intro ν w' hL hF K hK
      refine take_op rfl ?_
      refine wp_load_blk rfl rfl (hx4.lat hL) Try.underlying27 rfl (by kernel_rfl : (Try.prog.info? 27).map (·.size) = some 3) rfl ?_
      exact hK.out _ _ rfl (Lat.refl _)
    simp only [Act.put, List.setIfInBounds_toArray, List.set_cons_zero, List.set_cons_succ, Nat.reduceAdd]
    apply RelyL.val
    · intro ν w' hL hF K hK
      refine take_op rfl ?_
      refine wp_load_blk rfl rfl (hy4.lat hL) Try.underlying27 rfl (by kernel_rfl : (Try.prog.info? 27).map (·.size) = some 3) rfl ?_
      exact hK.out _ _ rfl (Lat.refl _)
    simp only [Act.put, List.setIfInBounds_toArray, List.set_cons_zero, List.set_cons_succ, Nat.reduceAdd]
    apply RelyL.val
    · intro ν w' hL hF K hK
      go_simp
      exact hK.out _ _ rfl (Lat.refl _)
    simp only [Act.put, List.setIfInBounds_toArray, List.set_cons_zero, List.set_cons_succ, Nat.reduceAdd]
    apply RelyL.val
    · intro ν w' hL hF K hK
      go_simp
      exact hK.out _ _ rfl (Lat.refl _)
    simp only [Act.put, List.setIfInBounds_toArray, List.set_cons_zero, List.set_cons_succ, Nat.reduceAdd]
    apply RelyL.val
    · intro ν w' hL hF K hK
      go_simp
      exact hK.out _ _ rfl (Lat.refl _)
    simp only [Act.put, List.setIfInBounds_toArray, List.set_cons_zero, List.set_cons_succ, Nat.reduceAdd]
    apply RelyL.val
    · intro ν w' hL hF K hK
      go_simp
      exact hK.out _ _ rfl (Lat.refl _)
    simp only [Act.put, List.setIfInBounds_toArray, List.set_cons_zero, List.set_cons_succ, Nat.reduceAdd]
    apply RelyL.val
    · intro ν w' hL hF K hK
      go_simp
      exact hK.out _ _ rfl (Lat.refl _)
    simp only [Act.put, List.setIfInBounds_toArray, List.set_cons_zero, List.set_cons_succ, Nat.reduceAdd]
    apply RelyL.val
    · intro ν w' hL hF K hK
      go_simp
      exact hK.out _ _ rfl (Lat.refl _)
    simp only [Act.put, List.setIfInBounds_toArray, List.set_cons_zero, List.set_cons_succ, Nat.reduceAdd]
    apply RelyL.val
    · intro ν w' hL hF K hK
      go_simp
      exact hK.out _ _ rfl (Lat.refl _)
    simp only [Act.put, List.setIfInBounds_toArray, List.set_cons_zero, List.set_cons_succ, Nat.reduceAdd]
    apply RelyL.val
    · intro ν w' hL hF K hK
      refine take_op rfl ?_
      refine wp_load_blk rfl rfl (hv4.lat hL) Try.underlying25 rfl (by kernel_rfl : (Try.prog.info? 25).map (·.size) = some 4) rfl ?_
      exact hK.out _ _ rfl (Lat.refl _)
    simp only [Act.put, List.setIfInBounds_toArray, List.set_cons_zero, List.set_cons_succ, Nat.reduceAdd]
    apply RelyL.val
    · intro ν w' hL hF K hK
      refine take_op rfl ?_
      refine wp_load_blk rfl rfl (he4.lat hL) Try.underlying32 rfl (by kernel_rfl : (Try.prog.info? 32).map (·.size) = some 11) rfl ?_
      exact hK.out _ _ rfl (Lat.refl _)
    simp only [Act.put, List.setIfInBounds_toArray, List.set_cons_zero, List.set_cons_succ, Nat.reduceAdd]
    apply RelyL.val
    · intro ν w' hL hF K hK
      have H := H3'.out w' hL
      go_simp
      go_at_call 21
      refine H.mono ?_
      rintro r w'' ⟨rfl, hbp⟩
      exact hK.out _ _ rfl hbp
    simp only [Act.put, List.setIfInBounds_toArray, List.set_cons_zero, List.set_cons_succ, Nat.reduceAdd]
    apply RelyL.val
    · intro ν w' hL hF K hK
      refine take_op rfl ?_
      refine wp_load_blk rfl rfl (hv4.lat hL) Try.underlying25 rfl (by kernel_rfl : (Try.prog.info? 25).map (·.size) = some 4) rfl ?_
      exact hK.out _ _ rfl (Lat.refl _)
    simp only [Act.put, List.setIfInBounds_toArray, List.set_cons_zero, List.set_cons_succ, Nat.reduceAdd]
    apply RelyL.val
    · intro ν w' hL hF K hK
      refine take_op rfl ?_
      refine wp_load_blk rfl rfl (he4.lat hL) Try.underlying32 rfl (by kernel_rfl : (Try.prog.info? 32).map (·.size) = some 11) rfl ?_
      exact hK.out _ _ rfl (Lat.refl _)
    simp only [Act.put, List.setIfInBounds_toArray, List.set_cons_zero, List.set_cons_succ, Nat.reduceAdd]
    apply RelyL.val
    · intro ν w' hL hF K hK
      have H := H4'.out w' hL
      go_simp
      go_at_call 22
      refine H.mono ?_
      rintro r w'' ⟨rfl, hbp⟩
      exact hK.out _ _ rfl hbp
    simp only [Act.put, List.setIfInBounds_toArray, List.set_cons_zero, List.set_cons_succ, Nat.reduceAdd]
    apply RelyL.val
    · intro ν w' hL hF K hK
      go_simp
      exact hK.out _ _ rfl (Lat.refl _)
    simp only [Act.put, List.setIfInBounds_toArray, List.set_cons_zero, List.set_cons_succ, Nat.reduceAdd]
    apply RelyL.val
    · intro ν w' hL hF K hK
      go_simp
      exact hK.out _ _ rfl (Lat.refl _)
    simp only [Act.put, List.setIfInBounds_toArray, List.set_cons_zero, List.set_cons_succ, Nat.reduceAdd]
    apply RelyL.val
    · intro ν w' hL hF K hK
      go_simp
      exact hK.out _ _ rfl (Lat.refl _)
    simp only [Act.put, List.setIfInBounds_toArray, List.set_cons_zero, List.set_cons_succ, Nat.reduceAdd]
    apply RelyL.val
    · intro ν w' hL hF K hK
      have H := awake_any w'
      go_simp
      go_at_call 18
      refine H.mono ?_
      rintro r w'' ⟨rfl, hbp⟩
      exact hK.out _ _ rfl hbp
    simp only [Act.put, List.setIfInBounds_toArray, List.set_cons_zero, List.set_cons_succ, Nat.reduceAdd]
    apply RelyL.val
    · intro ν w' hL hF K hK
      go_simp
      exact hK.out _ _ rfl (Lat.refl _)
    simp only [Act.put, List.setIfInBounds_toArray, List.set_cons_zero, List.set_cons_succ, Nat.reduceAdd]
    apply RelyL.val
    · intro ν w' hL hF K hK
      go_simp
      exact hK.out _ _ rfl (Lat.refl _)
    simp only [Act.put, List.setIfInBounds_toArray, List.set_cons_zero, List.set_cons_succ, Nat.reduceAdd]
    refine RelyL.done fun ν w5 hL hF => ?_
    have hbw5 := hbw4.th hL
    clear hF H3' H4' hbB hbw4 hL hv4 he4 hx4 hy4
    go_wp2_with fail
    go_ret
    exact ⟨rfl, hbw5⟩
  · rw [hs]
    clear hs
    go_wp2_with fail
    refine (awake_any _).mono ?_
    rintro r w3 ⟨rfl, hb3⟩
    go_wp2_with fail
    go_ret
    exact ⟨rfl, hbw1.th hb3⟩

end Go.Proofs.Ytnelgblmogciiaa
