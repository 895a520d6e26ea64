/- ExprReads, ExprFewer: the walks. -/
import Derived.Test.YtnelgblmogciiaaChecks
import Derived.Test.YtnelgblmogciiaaKKeys
import Derived.Test.YtnelgblmogciiaaKSame
import Derived.Test.YtnelgblmogciiaaKLaw
set_option linter.unusedSimpArgs false
set_option linter.unusedVariables false
namespace Go.Proofs.Ytnelgblmogciiaa
open Go.RowKit

theorem keys_le (e : LExpr) : (keysE e).length ≤ sizeE e := by
  have h1 := len_foldK (readsE e) []
  have h2 := readsE_len e
  rw [keysE]; simp only [List.length_nil] at h1; omega
theorem mul40 {n : Nat} (h : n ≤ 1048576) : n * 40 ≤ 140737488355328 := Nat.le_trans (Nat.mul_le_mul_right 40 h) (by decide)
set_option maxRecDepth 100000 in
set_option maxHeartbeats 4000000 in
theorem exprReads_any (e : LExpr) (cs : List Value) (B : Nat) (w : World) (hB : B ≤ w.heap.size) (he : IsExpr B w e cs) (hbk : sizeE e ≤ 1048576) :
    Calls Try.prog 9 #[.agg cs.toArray] w fun r w' => r = .returned (.bool true) ∧ Below w.heap.size w w' := by
  have HZ := fun W (hb' : Below B w W) (hl : B ≤ W.heap.size) => Lib.hid (rsize_any e cs B W hl (he.carry hb'))
  have HS := fun W (hb' : Below B w W) (hl : B ≤ W.heap.size) => Lib.hid (size_any e cs B W hl (he.carry hb'))
  have HD := fun W (hb' : Below B w W) (hl : B ≤ W.heap.size) => Lib.hid (depth_any e cs B W hl (he.carry hb'))
  have HR := fun W (hb' : Below B w W) (hl : B ≤ W.heap.size) => Lib.hid (rdepthI_any e cs B W hl (he.carry hb'))
  have HK := fun (hs : sizeE e ≤ 2000) W (hb' : Below B w W) (hl : B ≤ W.heap.size) => Lib.hid (keys_any e cs B W hl (he.carry hb') (by have := readsE_len e; omega))
  have HQ := fun (hs : sizeE e ≤ 2000) W (hb' : Below B w W) (hl : B ≤ W.heap.size) => Lib.hid (rkeys_any e cs B W hl (he.carry hb') (by have := readsE_len e; omega))
  simp only [wrap_small _ (show sizeE e ≤ 1000000000000 by omega)] at HZ
  simp only [size_is e (by omega)] at HS
  have hde := depthE_le e
  simp only [rdI_small e (by omega)] at HR
  have hkl := mul40 (Nat.le_trans (keys_le e) hbk)
  have HKL := Lib.hid hkl
  have HDI := Lib.hid (fun (hs : sizeE e ≤ 2000) => depth_is e (by omega))
  obtain ⟨ha, ka, Aa, ca, qa, rfl, _⟩ := he.form
  clear qa he hkl hde hbk
  unfold Hd.cells at HZ HS HD HR HK HQ ⊢
  have hbw0 : Below w.heap.size w (w.alloc (.cells #[.int .i64 ha.kind, .int .i64 ha.n, .int .i64 ha.m, .string ha.name, .int .i64 ha.vk, .int .i64 ha.vn, .string ha.vs, .int .i64 ha.dev, .string ha.cl, .string ha.at_, .slice Aa ka.length ca] 32)) := (Below.refl _ _).al _
  have he0 : Blk (w.alloc (.cells #[.int .i64 ha.kind, .int .i64 ha.n, .int .i64 ha.m, .string ha.name, .int .i64 ha.vk, .int .i64 ha.vn, .string ha.vs, .int .i64 ha.dev, .string ha.cl, .string ha.at_, .slice Aa ka.length ca] 32)) w.heap.size 32 #[.int .i64 ha.kind, .int .i64 ha.n, .int .i64 ha.m, .string ha.name, .int .i64 ha.vk, .int .i64 ha.vn, .string ha.vs, .int .i64 ha.dev, .string ha.cl, .string ha.at_, .slice Aa ka.length ca] := Blk.new _ _ _
  go_enter Try.func9, Try.ntmps9
  go_upto_region 1 with fail
  generalize w.alloc (.cells #[.int .i64 ha.kind, .int .i64 ha.n, .int .i64 ha.m, .string ha.name, .int .i64 ha.vk, .int .i64 ha.vn, .string ha.vs, .int .i64 ha.dev, .string ha.cl, .string ha.at_, .slice Aa ka.length ca] 32) = W0 at *
  have hBw : ∀ W, Lat W0 W → Below B w W ∧ B ≤ W.heap.size := fun W h => ⟨(hbw0.trans (h.mono hbw0.size)).mono hB, by have := h.size; have := hbw0.size; omega⟩
  replace HZ := fun W h => HZ W (hBw W h).1 (hBw W h).2
  replace HS := fun W h => HS W (hBw W h).1 (hBw W h).2
  replace HD := fun W h => HD W (hBw W h).1 (hBw W h).2
  replace HR := fun W h => HR W (hBw W h).1 (hBw W h).2
  replace HK := fun hs W h => HK hs W (hBw W h).1 (hBw W h).2
  replace HQ := fun hs W h => HQ hs W (hBw W h).1 (hBw W h).2
  generalize keysE e = KS at *
  have ce0 := he0.cell
  go_wp2_with fail
  refine (HZ _ (Lat.refl _)).out.mono ?_
  rintro r w1 ⟨rfl, hb1⟩
  have hl1 : Lat W0 w1 := hb1
  have he1 := he0.lat hb1
  have hbw1 := hbw0.th hb1
  clear ce0
  by_cases hs : 2000 < sizeE e
  · have q1 : decide ((2000 : Int) < (sizeE e : Int)) = true := by simp; omega
    generalize (sizeE e : Int) = S at *
    go_wp2_with fail
    refine (lives_any _).mono ?_
    rintro r w3 ⟨rfl, hb3⟩
    go_wp2_with fail
    go_ret
    exact ⟨rfl, hbw1.th hb3⟩
  have q1 : decide ((2000 : Int) < (sizeE e : Int)) = false := by simp; omega
  replace HK := HK (by omega)
  replace HQ := HQ (by omega)
  simp only [HDI.out (by omega)] at HD
  clear HDI hs
  generalize (sizeE e : Int) = S at *
  generalize (depthE e : Int) = D at *
  go_upto_region 3 with fail
  replace HZ := fun W h => HZ W (hl1.trans h)
  replace HS := fun W h => HS W (hl1.trans h)
  replace HD := fun W h => HD W (hl1.trans h)
  replace HR := fun W h => HR W (hl1.trans h)
  replace HK := fun W h => HK W (hl1.trans h)
  replace HQ := fun W h => HQ W (hl1.trans h)
  refine wp_rely (by kernel_rfl) (by kernel_rfl) ?_
  repeat
    (apply RelyL.val
     focus (intro ν w' hL hF K hK; first
       | (refine skip_op rfl ?_; exact hK.out _ _ rfl (Lat.refl _))
       | (refine take_op rfl ?_; first | (refine wp_load_blk rfl rfl (he1.lat hL) Try.underlying32 rfl (by kernel_rfl : (Try.prog.info? 32).map (·.size) = some 11) rfl ?_; exact hK.out _ _ rfl (Lat.refl _)))
       | (go_simp; first | exact hK.out _ _ rfl (Lat.refl _) | (go_at_call 31; first | ((with_reducible refine ((HS _ hL).out).mono ?_); rintro r w'' ⟨rfl, hbp⟩; exact hK.out _ _ rfl hbp)) | (go_at_call 28; first | ((with_reducible refine ((HZ _ hL).out).mono ?_); rintro r w'' ⟨rfl, hbp⟩; exact hK.out _ _ rfl hbp)) | (go_at_call 32; first | ((with_reducible refine ((HD _ hL).out).mono ?_); rintro r w'' ⟨rfl, hbp⟩; exact hK.out _ _ rfl hbp)) | (go_at_call 25; first | ((with_reducible refine ((HR _ hL).out).mono ?_); rintro r w'' ⟨rfl, hbp⟩; exact hK.out _ _ rfl hbp))))
     simp only [Act.put, List.setIfInBounds_toArray, List.set_cons_zero, List.set_cons_succ, Nat.reduceAdd])
  refine RelyL.law (fun v w => KRows w KS v) (fun v w1 w2 hl h => KRows.lat h hl) (fun ν w' hL hF K hK => ?_) ?_
  · have H := HK w' hL
    go_simp
    go_at_call 34
    with_reducible refine H.out.mono ?_
    rintro r w'' ⟨⟨v, rfl, hv⟩, hbp⟩
    exact hK.out _ _ _ rfl hv hbp
  simp only [Act.put, List.setIfInBounds_toArray, List.set_cons_zero, List.set_cons_succ, Nat.reduceAdd]
  repeat
    (apply RelyL.val
     focus (intro ν w' hL hF K hK; first
       | (refine skip_op rfl ?_; exact hK.out _ _ rfl (Lat.refl _))
       | (refine take_op rfl ?_; first | (refine wp_load_blk rfl rfl (he1.lat hL) Try.underlying32 rfl (by kernel_rfl : (Try.prog.info? 32).map (·.size) = some 11) rfl ?_; exact hK.out _ _ rfl (Lat.refl _)))
       | (go_simp; first | exact hK.out _ _ rfl (Lat.refl _) | (go_at_call 31; first | ((with_reducible refine ((HS _ hL).out).mono ?_); rintro r w'' ⟨rfl, hbp⟩; exact hK.out _ _ rfl hbp))))
     simp only [Act.put, List.setIfInBounds_toArray, List.set_cons_zero, List.set_cons_succ, Nat.reduceAdd])
  refine RelyL.law (fun v w => KRows w KS v) (fun v w1 w2 hl h => KRows.lat h hl) (fun ν w' hL hF K hK => ?_) ?_
  · have H := HQ w' hL
    go_simp
    go_at_call 35
    with_reducible refine H.out.mono ?_
    rintro r w'' ⟨⟨v, rfl, hv⟩, hbp⟩
    exact hK.out _ _ _ rfl hv hbp
  simp only [Act.put, List.setIfInBounds_toArray, List.set_cons_zero, List.set_cons_succ, Nat.reduceAdd]
  apply RelyL.val
  · intro ν w' hL hF K hK
    have h3 := hF.get 1 rfl (by kernel_rfl)
    have h4 := hF.get 0 rfl (by kernel_rfl)
    dsimp only at h3 h4
    generalize ν 14 = x3 at *
    generalize ν 16 = x4 at *
    obtain ⟨A3, c3, rfl, hr3⟩ := h3
    obtain ⟨A4, c4, rfl, hr4⟩ := h4
    have H := samekeys_any KS KS A3 A4 c3 c4 _ w' (Nat.le_refl _) hr3 hr4 HKL.out
    rw [decide_eq_true rfl] at H
    have H' := Lib.hid H
    clear hF H
    go_simp
    go_at_call 33
    with_reducible refine H'.out.mono ?_
    rintro r w'' ⟨rfl, hbp⟩
    exact hK.out _ _ rfl hbp
  simp only [Act.put, List.setIfInBounds_toArray, List.set_cons_zero, List.set_cons_succ, Nat.reduceAdd]
  repeat
    (apply RelyL.val
     focus (intro ν w' hL hF K hK; first
       | (refine skip_op rfl ?_; exact hK.out _ _ rfl (Lat.refl _))
       | (refine take_op rfl ?_; first | (refine wp_load_blk rfl rfl (he1.lat hL) Try.underlying32 rfl (by kernel_rfl : (Try.prog.info? 32).map (·.size) = some 11) rfl ?_; exact hK.out _ _ rfl (Lat.refl _)))
       | (go_simp; first | exact hK.out _ _ rfl (Lat.refl _) | (go_at_call 30; first | ((with_reducible refine (lives_any _).mono ?_); rintro r w'' ⟨rfl, hbp⟩; exact hK.out _ _ rfl hbp))))
     simp only [Act.put, List.setIfInBounds_toArray, List.set_cons_zero, List.set_cons_succ, Nat.reduceAdd])
  refine RelyL.done fun ν w2 hL hF => ?_
  have hbw2 := hbw1.th hL
  clear hF
  go_wp2_with fail
  go_ret
  exact ⟨rfl, hbw2⟩
end Go.Proofs.Ytnelgblmogciiaa
