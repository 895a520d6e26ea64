/- ExprSmaller: the walk. -/
import Derived.Test.YtnelgblmogciiaaChecks
import Derived.Test.YtnelgblmogciiaaIdem
import Derived.Test.YtnelgblmogciiaaSize
set_option linter.unusedSimpArgs false
set_option linter.unusedVariables false
namespace Go.Proofs.Ytnelgblmogciiaa
open Go.RowKit


/-- The numbers of nodes and of levels, of an expression and of what it folds to. -/
theorem smaller_nums (e : LExpr) : ∃ SE SF DE DF : Int, SF ≤ SE ∧ DF ≤ DE ∧ SE = wrap64 (sizeE e) ∧
    (∀ (cs : List Value) (B : Nat) (w : World), B ≤ w.heap.size → IsExpr B w (foldE e) cs → Calls Try.prog 28 #[.agg cs.toArray] w fun r w' => r = .returned (.int .i64 SF) ∧ Below w.heap.size w w') ∧
    (∀ (cs : List Value) (B : Nat) (w : World), B ≤ w.heap.size → IsExpr B w e cs → Calls Try.prog 25 #[.agg cs.toArray] w fun r w' => r = .returned (.int .i64 DE) ∧ Below w.heap.size w w') ∧
    (∀ (cs : List Value) (B : Nat) (w : World), B ≤ w.heap.size → IsExpr B w (foldE e) cs → Calls Try.prog 25 #[.agg cs.toArray] w fun r w' => r = .returned (.int .i64 DF) ∧ Below w.heap.size w w') := by
  by_cases h0 : checkE e = 0
  · obtain ⟨h1, h2, h3⟩ := fold_facts e h0
    obtain ⟨_, h5, h6⟩ := (checkE_iff e).1 h0
    refine ⟨sizeE e, sizeE (foldE e), depthE e, depthE (foldE e), by omega, by omega, (wrap_small _ (by omega)).symm, fun cs B w hB he => ?_, fun cs B w hB he => rdepth_any e cs B w hB he (by omega), fun cs B w hB he => rdepth_any _ cs B w hB he (by omega)⟩
    have := rsize_any (foldE e) cs B w hB he
    rwa [wrap_small _ (by omega)] at this
  · have e1 : foldE e = e := if_neg h0
    rw [e1]
    exact ⟨_, _, _, _, Int.le_refl _, Int.le_refl _, rfl, rsize_any e, rdepthI_any e, rdepthI_any e⟩

set_option maxRecDepth 100000 in
set_option maxHeartbeats 4000000 in
theorem exprSmaller_any (e : LExpr) (cs : List Value) (B : Nat) (w : World) (hB : B ≤ w.heap.size) (he : IsExpr B w e cs) :
    Calls Try.prog 15 #[.agg cs.toArray] w fun r w' => r = .returned (.bool true) ∧ Below w.heap.size w w' := by
  obtain ⟨SE, SF, DE, DF, hsf, hdf, hse, kSF, kDE, kDF⟩ := smaller_nums e
  have HZ := fun W (hb' : Below B w W) (hl : B ≤ W.heap.size) => Lib.hid (rsize_any e cs B W hl (he.carry hb'))
  have HC := fun W (hb' : Below B w W) (hl : B ≤ W.heap.size) => Lib.hid (checkE_any e cs B W hl (he.carry hb'))
  have HD := fun W (hb' : Below B w W) (hl : B ≤ W.heap.size) => Lib.hid (kDE cs B W hl (he.carry hb'))
  have HF := fun W (hb' : Below B w W) (hl : B ≤ W.heap.size) => Lib.hid (fold_any e cs B W hl (he.carry hb'))
  have HCf := fun W cf (hx : IsExpr W.heap.size W (foldE e) cf) => Lib.hid (checkE_any (foldE e) cf _ W (Nat.le_refl _) hx)
  have HZf := fun W cf (hx : IsExpr W.heap.size W (foldE e) cf) => Lib.hid (kSF cf _ W (Nat.le_refl _) hx)
  have HDf := fun W cf (hx : IsExpr W.heap.size W (foldE e) cf) => Lib.hid (kDF cf _ W (Nat.le_refl _) hx)
  have HFf := fun W cf (hx : IsExpr W.heap.size W (foldE e) cf) => Lib.hid (fold_any (foldE e) cf _ W (Nat.le_refl _) hx)
  have HSf := fun W cf cg (hx : IsExpr W.heap.size W (foldE e) cf) (hy : IsExpr W.heap.size W (foldE e) cg) => Lib.hid (esame_any (foldE e) (foldE e) cf cg _ W (Nat.le_refl _) hx hy)
  simp only [checkE_is, checkE_fold] at HC HCf
  simp only [← hse] at HZ
  simp only [sameE_self] at HSf
  simp only [foldE_idem] at HFf
  obtain ⟨ha, ka, Aa, ca, qa, rfl, _⟩ := he.form
  clear qa he kSF kDE kDF hse
  unfold Hd.cells at HZ HC HD HF ⊢
  have hbw0 : Below w.heap.size w (w.alloc (.cells #[.int .i64 ha.kind, .int .i64 ha.n, .int .i64 ha.m, .string ha.name, .int .i64 ha.vk, .int .i64 ha.vn, .string ha.vs, .int .i64 ha.dev, .string ha.cl, .string ha.at_, .slice Aa ka.length ca] 32)) := (Below.refl _ _).al _
  have he0 : Blk (w.alloc (.cells #[.int .i64 ha.kind, .int .i64 ha.n, .int .i64 ha.m, .string ha.name, .int .i64 ha.vk, .int .i64 ha.vn, .string ha.vs, .int .i64 ha.dev, .string ha.cl, .string ha.at_, .slice Aa ka.length ca] 32)) w.heap.size 32 #[.int .i64 ha.kind, .int .i64 ha.n, .int .i64 ha.m, .string ha.name, .int .i64 ha.vk, .int .i64 ha.vn, .string ha.vs, .int .i64 ha.dev, .string ha.cl, .string ha.at_, .slice Aa ka.length ca] := Blk.new _ _ _
  go_enter Try.func15, Try.ntmps15
  go_upto_region 1 with fail
  generalize w.alloc (.cells #[.int .i64 ha.kind, .int .i64 ha.n, .int .i64 ha.m, .string ha.name, .int .i64 ha.vk, .int .i64 ha.vn, .string ha.vs, .int .i64 ha.dev, .string ha.cl, .string ha.at_, .slice Aa ka.length ca] 32) = W0 at *
  have hBw : ∀ W, Lat W0 W → Below B w W ∧ B ≤ W.heap.size := fun W h => ⟨(hbw0.trans (h.mono hbw0.size)).mono hB, by have := h.size; have := hbw0.size; omega⟩
  replace HZ := fun W h => HZ W (hBw W h).1 (hBw W h).2
  replace HC := fun W h => HC W (hBw W h).1 (hBw W h).2
  replace HD := fun W h => HD W (hBw W h).1 (hBw W h).2
  replace HF := fun W h => HF W (hBw W h).1 (hBw W h).2
  generalize checkE e = C at *
  generalize foldE e = f at *
  have ce0 := he0.cell
  go_wp2_with fail
  refine (HZ _ (Lat.refl _)).out.mono ?_
  rintro r w1 ⟨rfl, hb1⟩
  have hl1 : Lat W0 w1 := hb1
  have he1 := he0.lat hb1
  have ce1 := he1.cell
  have hbw1 := hbw0.th hb1
  clear ce0
  by_cases hs : 2000 < SE
  · have q1 : decide ((2000 : Int) < SE) = true := by simpa using hs
    go_wp2_with fail
    refine (lives_any _).mono ?_
    rintro r w3 ⟨rfl, hb3⟩
    go_wp2_with fail
    go_ret
    exact ⟨rfl, hbw1.th hb3⟩
  have q1 : decide ((2000 : Int) < SE) = false := by simpa using hs
  have q2 : decide (SE < SF) = false := by simpa using hsf
  have q3 : decide (DE < DF) = false := by simpa using hdf
  go_wp2_with fail
  refine (HF _ hb1).out.mono ?_
  rintro r w2 ⟨⟨v2, rfl, cs2, rfl, hf2⟩, hb2⟩
  have xf := hf2.toIs
  obtain ⟨hf, kf, Af, cf, qf, rfl, _⟩ := xf.form
  have hl2 : Lat W0 w2 := hl1.trans hb2
  clear hf2 hb1 hl1 he1 ce1 hbw1 hb2
  simp only [Hd.cells] at xf ⊢
  go_upto_region 4 with fail
  have hf3 := Blk.new w2 32 #[.int .i64 hf.kind, .int .i64 hf.n, .int .i64 hf.m, .string hf.name, .int .i64 hf.vk, .int .i64 hf.vn, .string hf.vs, .int .i64 hf.dev, .string hf.cl, .string hf.at_, .slice Af kf.length cf]
  have hl3 := hl2.trans (Lat.al w2 (.cells #[.int .i64 hf.kind, .int .i64 hf.n, .int .i64 hf.m, .string hf.name, .int .i64 hf.vk, .int .i64 hf.vn, .string hf.vs, .int .i64 hf.dev, .string hf.cl, .string hf.at_, .slice Af kf.length cf] 32))
  have xf3 := xf.lat (Nat.le_refl _) (Lat.al w2 (.cells #[.int .i64 hf.kind, .int .i64 hf.n, .int .i64 hf.m, .string hf.name, .int .i64 hf.vk, .int .i64 hf.vn, .string hf.vs, .int .i64 hf.dev, .string hf.cl, .string hf.at_, .slice Af kf.length cf] 32))
  have he3 := he0.lat hl3
  clear hl2 xf
  generalize w2.alloc (.cells #[.int .i64 hf.kind, .int .i64 hf.n, .int .i64 hf.m, .string hf.name, .int .i64 hf.vk, .int .i64 hf.vn, .string hf.vs, .int .i64 hf.dev, .string hf.cl, .string hf.at_, .slice Af kf.length cf] 32) = W3 at *
  generalize w2.heap.size = g3 at *
  refine wp_rely (by kernel_rfl) (by kernel_rfl) ?_
  repeat
    (apply RelyL.val
     focus (intro ν w' hL hF K hK; first
       | (refine skip_op rfl ?_; exact hK.out _ _ rfl (Lat.refl _))
       | (refine take_op rfl ?_; first | (refine wp_load_blk rfl rfl (he3.lat hL) Try.underlying32 rfl (by kernel_rfl : (Try.prog.info? 32).map (·.size) = some 11) rfl ?_; exact hK.out _ _ rfl (Lat.refl _)) | (refine wp_load_blk rfl rfl (hf3.lat hL) Try.underlying32 rfl (by kernel_rfl : (Try.prog.info? 32).map (·.size) = some 11) rfl ?_; exact hK.out _ _ rfl (Lat.refl _)))
       | (go_simp; first | exact hK.out _ _ rfl (Lat.refl _) | (go_at_call 29; first | ((with_reducible refine ((HC _ (hl3.trans hL)).out).mono ?_); rintro r w'' ⟨rfl, hbp⟩; exact hK.out _ _ rfl hbp) | ((with_reducible refine ((HCf _ _ (xf3.lat (Nat.le_refl _) hL)).out).mono ?_); rintro r w'' ⟨rfl, hbp⟩; exact hK.out _ _ rfl hbp)) | (go_at_call 28; first | ((with_reducible refine ((HZ _ (hl3.trans hL)).out).mono ?_); rintro r w'' ⟨rfl, hbp⟩; exact hK.out _ _ rfl hbp) | ((with_reducible refine ((HZf _ _ (xf3.lat (Nat.le_refl _) hL)).out).mono ?_); rintro r w'' ⟨rfl, hbp⟩; exact hK.out _ _ rfl hbp)) | (go_at_call 25; first | ((with_reducible refine ((HD _ (hl3.trans hL)).out).mono ?_); rintro r w'' ⟨rfl, hbp⟩; exact hK.out _ _ rfl hbp) | ((with_reducible refine ((HDf _ _ (xf3.lat (Nat.le_refl _) hL)).out).mono ?_); rintro r w'' ⟨rfl, hbp⟩; exact hK.out _ _ rfl hbp))))
     simp only [Act.put, List.setIfInBounds_toArray, List.set_cons_zero, List.set_cons_succ, Nat.reduceAdd])
  refine RelyL.done fun ν w4 hL hF => ?_
  have hf4 := hf3.lat hL
  have hl4 := hl3.trans hL
  have xf4 := xf3.lat (Nat.le_refl _) hL
  clear hF hl3 xf3 hf3 hL
  go_wp2_with fail
  refine wp_rely (by kernel_rfl) (by kernel_rfl) ?_
  apply RelyL.val
  · intro ν w' hL hF K hK
    refine take_op rfl ?_
    refine wp_load_blk rfl rfl (hf4.lat hL) Try.underlying32 rfl (by kernel_rfl : (Try.prog.info? 32).map (·.size) = some 11) rfl ?_
    exact hK.out _ _ rfl (Lat.refl _)
  simp only [Act.put, List.setIfInBounds_toArray, List.set_cons_zero, List.set_cons_succ, Nat.reduceAdd]
  refine RelyL.law (IsEx f) (fun v w1 w2 hl h => IsEx.lat h hl) (fun ν w' hL hF K hK => ?_) ?_
  · have H := HFf w' _ (xf4.lat (Nat.le_refl _) hL)
    go_simp
    go_at_call 37
    with_reducible refine H.out.mono ?_
    rintro r w'' ⟨⟨v, rfl, cs', rfl, he'⟩, hbp⟩
    exact hK.out _ _ _ rfl ⟨cs', rfl, he'.toIs⟩ hbp
  simp only [Act.put, List.setIfInBounds_toArray, List.set_cons_zero, List.set_cons_succ, Nat.reduceAdd]
  apply RelyL.val
  · intro ν w' hL hF K hK
    refine take_op rfl ?_
    refine wp_load_blk rfl rfl (hf4.lat hL) Try.underlying32 rfl (by kernel_rfl : (Try.prog.info? 32).map (·.size) = some 11) rfl ?_
    exact hK.out _ _ rfl (Lat.refl _)
  simp only [Act.put, List.setIfInBounds_toArray, List.set_cons_zero, List.set_cons_succ, Nat.reduceAdd]
  apply RelyL.val
  · intro ν w' hL hF K hK
    have h3 := hF.get 0 rfl (by kernel_rfl)
    dsimp only at h3
    generalize ν 1 = x3 at *
    obtain ⟨cs3, rfl, he3'⟩ := h3
    obtain ⟨h3, k3, A3, c3, q3', rfl, _⟩ := he3'.form
    have H := HSf w' _ _ he3' (xf4.lat (Nat.le_refl _) hL)
    clear hF
    unfold Hd.cells at H ⊢
    go_simp
    go_at_call 41
    with_reducible refine H.out.mono ?_
    rintro r w'' ⟨rfl, hbp⟩
    exact hK.out _ _ rfl hbp
  simp only [Act.put, List.setIfInBounds_toArray, List.set_cons_zero, List.set_cons_succ, Nat.reduceAdd]
  repeat
    (apply RelyL.val
     focus (intro ν w' hL hF K hK; first
       | (refine skip_op rfl ?_; exact hK.out _ _ rfl (Lat.refl _))
       | (refine take_op rfl ?_; first | (refine wp_load_blk rfl rfl (hf4.lat hL) Try.underlying32 rfl (by kernel_rfl : (Try.prog.info? 32).map (·.size) = some 11) rfl ?_; exact hK.out _ _ rfl (Lat.refl _)))
       | (go_simp; first | exact hK.out _ _ rfl (Lat.refl _) | (go_at_call 30; first | ((with_reducible refine (lives_any _).mono ?_); rintro r w'' ⟨rfl, hbp⟩; exact hK.out _ _ rfl hbp))))
     simp only [Act.put, List.setIfInBounds_toArray, List.set_cons_zero, List.set_cons_succ, Nat.reduceAdd])
  refine RelyL.done fun ν w5 hL hF => ?_
  have hbw5 := hbw0.th (hl4.trans hL)
  clear hF
  go_wp2_with fail
  go_ret
  exact ⟨rfl, hbw5⟩
end Go.Proofs.Ytnelgblmogciiaa
