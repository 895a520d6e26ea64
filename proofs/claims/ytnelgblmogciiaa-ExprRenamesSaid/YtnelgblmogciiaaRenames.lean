/- ExprRenames: the walk. -/
import Derived.Test.YtnelgblmogciiaaChecks
import Derived.Test.YtnelgblmogciiaaRRename
set_option linter.unusedSimpArgs false
set_option linter.unusedVariables false
namespace Go.Proofs.Ytnelgblmogciiaa
open Go.RowKit

set_option maxRecDepth 100000 in
set_option maxHeartbeats 4000000 in
theorem exprRenames_any (e : LExpr) (f t : Int) (cs : List Value) (B : Nat) (w : World) (hB : B ≤ w.heap.size) (he : IsExpr B w e cs) (hf : I64 f) (ht : I64 t) :
    Calls Try.prog 13 #[.agg cs.toArray, .int .i64 f, .int .i64 t] w fun r w' => r = .returned (.bool true) ∧ Below w.heap.size w w' := by
  have HZ := fun W (hb' : Below B w W) (hl : B ≤ W.heap.size) => Lib.hid (rsize_any e cs B W hl (he.carry hb'))
  have HP := fun W (hb' : Below B w W) (hl : B ≤ W.heap.size) => Lib.hid (rename_any f t ht e cs B W hl (he.carry hb'))
  have HR := fun W (hb' : Below B w W) (hl : B ≤ W.heap.size) => Lib.hid (rrename_any f t ht e cs B W hl (he.carry hb'))
  have HS := fun W cf cg (hx : IsExpr W.heap.size W (renE f t e) cf) (hy : IsExpr W.heap.size W (renE f t e) cg) => Lib.hid (rsame_any (renE f t e) (renE f t e) cf cg _ W (Nat.le_refl _) hx hy)
  simp only [sameE_self] at HS
  obtain ⟨ha, ka, Aa, ca, qa, rfl, _⟩ := he.form
  clear qa he
  unfold Hd.cells at HZ HP HR ⊢
  have hbw0 : Below w.heap.size w (w.alloc (.cells #[.int .i64 ha.kind, .int .i64 ha.n, .int .i64 ha.m, .string ha.name, .int .i64 ha.vk, .int .i64 ha.vn, .string ha.vs, .int .i64 ha.dev, .string ha.cl, .string ha.at_, .slice Aa ka.length ca] 32)) := (Below.refl _ _).al _
  have he0 : Blk (w.alloc (.cells #[.int .i64 ha.kind, .int .i64 ha.n, .int .i64 ha.m, .string ha.name, .int .i64 ha.vk, .int .i64 ha.vn, .string ha.vs, .int .i64 ha.dev, .string ha.cl, .string ha.at_, .slice Aa ka.length ca] 32)) w.heap.size 32 #[.int .i64 ha.kind, .int .i64 ha.n, .int .i64 ha.m, .string ha.name, .int .i64 ha.vk, .int .i64 ha.vn, .string ha.vs, .int .i64 ha.dev, .string ha.cl, .string ha.at_, .slice Aa ka.length ca] := Blk.new _ _ _
  go_enter Try.func13, Try.ntmps13
  go_upto_region 1 with fail
  generalize w.alloc (.cells #[.int .i64 ha.kind, .int .i64 ha.n, .int .i64 ha.m, .string ha.name, .int .i64 ha.vk, .int .i64 ha.vn, .string ha.vs, .int .i64 ha.dev, .string ha.cl, .string ha.at_, .slice Aa ka.length ca] 32) = W0 at *
  have hBw : ∀ W, Lat W0 W → Below B w W ∧ B ≤ W.heap.size := fun W h => ⟨(hbw0.trans (h.mono hbw0.size)).mono hB, by have := h.size; have := hbw0.size; omega⟩
  replace HZ := fun W h => HZ W (hBw W h).1 (hBw W h).2
  replace HP := fun W h => HP W (hBw W h).1 (hBw W h).2
  replace HR := fun W h => HR W (hBw W h).1 (hBw W h).2
  generalize wrap64 (sizeE e : Int) = S at *
  generalize renE f t e = R at *
  by_cases hs : 2000 < S
  · have q1 : decide ((2000 : Int) < S) = true := by simpa using hs
    refine wp_rely (by kernel_rfl) (by kernel_rfl) ?_
    repeat
      (apply RelyL.val
       focus (intro ν w' hL hF K hK; first
         | (refine skip_op rfl ?_; exact hK.out _ _ rfl (Lat.refl _))
         | (refine take_op rfl ?_; first | (refine wp_load_blk rfl rfl (he0.lat hL) Try.underlying32 rfl (by kernel_rfl : (Try.prog.info? 32).map (·.size) = some 11) rfl ?_; exact hK.out _ _ rfl (Lat.refl _)))
         | (go_simp; first | exact hK.out _ _ rfl (Lat.refl _) | (go_at_call 28; first | ((with_reducible refine ((HZ _ hL).out).mono ?_); rintro r w'' ⟨rfl, hbp⟩; exact hK.out _ _ rfl hbp)) | (go_at_call 30; first | ((with_reducible refine (lives_any _).mono ?_); rintro r w'' ⟨rfl, hbp⟩; exact hK.out _ _ rfl hbp))))
       simp only [Act.put, List.setIfInBounds_toArray, List.set_cons_zero, List.set_cons_succ, Nat.reduceAdd])
    refine RelyL.done fun ν w1 hL hF => ?_
    have hbw1 := hbw0.th hL
    clear hF
    go_wp2_with fail
    go_ret
    exact ⟨rfl, hbw1⟩
  · have q1 : decide ((2000 : Int) < S) = false := by simpa using hs
    refine wp_rely (by kernel_rfl) (by kernel_rfl) ?_
    repeat
      (apply RelyL.val
       focus (intro ν w' hL hF K hK; first
         | (refine skip_op rfl ?_; exact hK.out _ _ rfl (Lat.refl _))
         | (refine take_op rfl ?_; first | (refine wp_load_blk rfl rfl (he0.lat hL) Try.underlying32 rfl (by kernel_rfl : (Try.prog.info? 32).map (·.size) = some 11) rfl ?_; exact hK.out _ _ rfl (Lat.refl _)))
         | (go_simp; first | exact hK.out _ _ rfl (Lat.refl _) | (go_at_call 28; first | ((with_reducible refine ((HZ _ hL).out).mono ?_); rintro r w'' ⟨rfl, hbp⟩; exact hK.out _ _ rfl hbp)) | (go_at_call 30; first | ((with_reducible refine (lives_any _).mono ?_); rintro r w'' ⟨rfl, hbp⟩; exact hK.out _ _ rfl hbp))))
       simp only [Act.put, List.setIfInBounds_toArray, List.set_cons_zero, List.set_cons_succ, Nat.reduceAdd])
    refine RelyL.law (IsEx R) (fun v w1 w2 hl h => IsEx.lat h hl) (fun ν w' hL hF K hK => ?_) ?_
    · have H := HP w' hL
      go_simp
      go_at_call 39
      with_reducible refine H.out.mono ?_
      rintro r w'' ⟨⟨v, rfl, cs', rfl, he'⟩, hbp⟩
      exact hK.out _ _ _ rfl ⟨cs', rfl, he'.toIs⟩ hbp
    simp only [Act.put, List.setIfInBounds_toArray, List.set_cons_zero, List.set_cons_succ, Nat.reduceAdd]
    repeat
      (apply RelyL.val
       focus (intro ν w' hL hF K hK; first
         | (refine skip_op rfl ?_; exact hK.out _ _ rfl (Lat.refl _))
         | (refine take_op rfl ?_; first | (refine wp_load_blk rfl rfl (he0.lat hL) Try.underlying32 rfl (by kernel_rfl : (Try.prog.info? 32).map (·.size) = some 11) rfl ?_; exact hK.out _ _ rfl (Lat.refl _)))
         | (go_simp; first | exact hK.out _ _ rfl (Lat.refl _) | (go_at_call 28; first | ((with_reducible refine ((HZ _ hL).out).mono ?_); rintro r w'' ⟨rfl, hbp⟩; exact hK.out _ _ rfl hbp))))
       simp only [Act.put, List.setIfInBounds_toArray, List.set_cons_zero, List.set_cons_succ, Nat.reduceAdd])
    refine RelyL.law (IsEx R) (fun v w1 w2 hl h => IsEx.lat h hl) (fun ν w' hL hF K hK => ?_) ?_
    · have H := HR w' hL
      go_simp
      go_at_call 40
      with_reducible refine H.out.mono ?_
      rintro r w'' ⟨⟨v, rfl, cs', rfl, he'⟩, hbp⟩
      exact hK.out _ _ _ rfl ⟨cs', rfl, he'.toIs⟩ hbp
    simp only [Act.put, List.setIfInBounds_toArray, List.set_cons_zero, List.set_cons_succ, Nat.reduceAdd]
    apply RelyL.val
    · intro ν w' hL hF K hK
      have h3 := hF.get 1 rfl (by kernel_rfl)
      have h4 := hF.get 0 rfl (by kernel_rfl)
      dsimp only at h3 h4
      generalize ν 7 = x3 at *
      generalize ν 11 = x4 at *
      obtain ⟨cs3, rfl, he3⟩ := h3
      obtain ⟨cs4, rfl, he4⟩ := h4
      have H := HS w' _ _ he3 he4
      clear hF
      go_simp
      go_at_call 36
      with_reducible refine H.out.mono ?_
      rintro r w'' ⟨rfl, hbp⟩
      exact hK.out _ _ rfl hbp
    simp only [Act.put, List.setIfInBounds_toArray, List.set_cons_zero, List.set_cons_succ, Nat.reduceAdd]
    repeat
      (apply RelyL.val
       focus (intro ν w' hL hF K hK; first
         | (refine skip_op rfl ?_; exact hK.out _ _ rfl (Lat.refl _))
         | (refine take_op rfl ?_; first | (refine wp_load_blk rfl rfl (he0.lat hL) Try.underlying32 rfl (by kernel_rfl : (Try.prog.info? 32).map (·.size) = some 11) rfl ?_; exact hK.out _ _ rfl (Lat.refl _)))
         | (go_simp; first | exact hK.out _ _ rfl (Lat.refl _) | (go_at_call 30; first | ((with_reducible refine (lives_any _).mono ?_); rintro r w'' ⟨rfl, hbp⟩; exact hK.out _ _ rfl hbp))))
       simp only [Act.put, List.setIfInBounds_toArray, List.set_cons_zero, List.set_cons_succ, Nat.reduceAdd])
    refine RelyL.done fun ν w1 hL hF => ?_
    have hbw1 := hbw0.th hL
    clear hF
    go_wp2_with fail
    go_ret
    exact ⟨rfl, hbw1⟩
end Go.Proofs.Ytnelgblmogciiaa
