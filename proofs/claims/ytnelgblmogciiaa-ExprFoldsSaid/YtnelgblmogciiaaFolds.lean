/- ExprFolds: the walk. -/
import Derived.Test.YtnelgblmogciiaaChecks
import Derived.Test.YtnelgblmogciiaaRFold
set_option linter.unusedSimpArgs false
set_option linter.unusedVariables false
namespace Go.Proofs.Ytnelgblmogciiaa
open Go.RowKit

set_option maxRecDepth 100000 in
set_option maxHeartbeats 2000000 in
theorem rFold_any (e : LExpr) (cs : List Value) (B : Nat) (w : World) (hB : B ≤ w.heap.size) (he : IsExpr B w e cs) :
    Calls Try.prog 38 #[.agg cs.toArray] w fun r w' => (∃ v', r = .returned v' ∧ IsEx (foldE e) v' w') ∧ Below w.heap.size w w' := by
  have HC := fun W (hb' : Below B w W) (hl : B ≤ W.heap.size) => Lib.hid (rcheckE_any e cs B W hl (he.carry hb'))
  have HF := fun (h0 : checkE e = 0) W (hb' : Below B w W) (hl : B ≤ W.heap.size) => Lib.hid (rfold_any e cs B W hl (he.carry hb') (checkE_okE h0))
  have HE := he
  obtain ⟨ha, ka, Aa, ca, qa, rfl, _⟩ := he.form
  clear qa he
  have HJ := Lib.hid (show foldE e = if checkE e = 0 then rebE foldN e else e from rfl)
  generalize foldE e = R at *
  unfold Hd.cells at HC HF ⊢
  go_enter Try.func38, Try.ntmps38
  go_upto_region 1 with fail
  have hbw : Below w.heap.size w ((w.alloc (.cells #[.int .i64 ha.kind, .int .i64 ha.n, .int .i64 ha.m, .string ha.name, .int .i64 ha.vk, .int .i64 ha.vn, .string ha.vs, .int .i64 ha.dev, .string ha.cl, .string ha.at_, .slice Aa ka.length ca] 32)).alloc (.cells #[.int .i64 0, .int .i64 0, .int .i64 0, .string { data := #[] }, .int .i64 0, .int .i64 0, .string { data := #[] }, .int .i64 0, .string { data := #[] }, .string { data := #[] }, .slice none 0 0] 32)) := ((Below.refl _ _).al _).al _
  have hx : Blk ((w.alloc (.cells #[.int .i64 ha.kind, .int .i64 ha.n, .int .i64 ha.m, .string ha.name, .int .i64 ha.vk, .int .i64 ha.vn, .string ha.vs, .int .i64 ha.dev, .string ha.cl, .string ha.at_, .slice Aa ka.length ca] 32)).alloc (.cells #[.int .i64 0, .int .i64 0, .int .i64 0, .string { data := #[] }, .int .i64 0, .int .i64 0, .string { data := #[] }, .int .i64 0, .string { data := #[] }, .string { data := #[] }, .slice none 0 0] 32)) w.heap.size 32 #[.int .i64 ha.kind, .int .i64 ha.n, .int .i64 ha.m, .string ha.name, .int .i64 ha.vk, .int .i64 ha.vn, .string ha.vs, .int .i64 ha.dev, .string ha.cl, .string ha.at_, .slice Aa ka.length ca] := (Blk.new _ _ _).alloc _
  have hr : Blk ((w.alloc (.cells #[.int .i64 ha.kind, .int .i64 ha.n, .int .i64 ha.m, .string ha.name, .int .i64 ha.vk, .int .i64 ha.vn, .string ha.vs, .int .i64 ha.dev, .string ha.cl, .string ha.at_, .slice Aa ka.length ca] 32)).alloc (.cells #[.int .i64 0, .int .i64 0, .int .i64 0, .string { data := #[] }, .int .i64 0, .int .i64 0, .string { data := #[] }, .int .i64 0, .string { data := #[] }, .string { data := #[] }, .slice none 0 0] 32)) (w.heap.size + 1) 32 zero11 := Blk.at1 _ _ _ _
  generalize ((w.alloc (.cells #[.int .i64 ha.kind, .int .i64 ha.n, .int .i64 ha.m, .string ha.name, .int .i64 ha.vk, .int .i64 ha.vn, .string ha.vs, .int .i64 ha.dev, .string ha.cl, .string ha.at_, .slice Aa ka.length ca] 32)).alloc (.cells #[.int .i64 0, .int .i64 0, .int .i64 0, .string { data := #[] }, .int .i64 0, .int .i64 0, .string { data := #[] }, .int .i64 0, .string { data := #[] }, .string { data := #[] }, .slice none 0 0] 32)) = W1 at *
  have HC1 := HC W1 (hbw.mono hB) (by have := hbw.size; omega)
  clear HC
  have cx := hx.cell
  by_cases h0 : checkE e = 0
  · have hR : R = rebE foldN e := by rw [HJ.out, if_pos h0]
    rw [h0] at HC1
    replace HF := HF h0
    have HR := Lib.hid hR
    clear hR HJ h0 HE
    go_wp2_with fail
    refine HC1.out.mono ?_
    rintro r w2 ⟨rfl, hb2⟩
    have HF1 := HF w2 ((hbw.th hb2).mono hB) (by have := (hbw.th hb2).size; omega)
    replace hx := hx.below hb2
    replace hr := hr.below hb2
    replace hbw := hbw.th hb2
    clear hb2 HC1 HF cx
    have cx := hx.cell
    go_wp2_with fail
    refine HF1.out.mono ?_
    rintro r w3 ⟨⟨v', rfl, cs', rfl, he'⟩, hb3⟩
    obtain ⟨hd2, k2, A2, c2, hcs2⟩ := he'.form
    subst hcs2
    have hlr2 := hr.lt
    replace hr := hr.below hb3
    have hbw3 := hbw.th hb3
    have hl2 := hbw.size
    have hlr := hr.lt
    have hl1 := hx.lt
    have hr3 := hr.setRow (hd2.cells (.slice A2 k2 c2)).toArray
    have he3 := he'.carry (w' := w3.setRow (w.heap.size + 1) (hd2.cells (.slice A2 k2 c2)).toArray) (fun b hb _ => setRow_other _ _ _ _ (by have hb' : w2.heap.size ≤ b := hb; omega))
    have hbw4 : Below w.heap.size w (w3.setRow (w.heap.size + 1) (hd2.cells (.slice A2 k2 c2)).toArray) := below_setRow hbw3 (by omega) _
    clear he' hb3 HF1 cx
    unfold Hd.cells at hr3 he3 hbw4 ⊢
    go_wp2_with (refine wpList_store_row rfl 32 _ _ rfl (w.heap.size + 1) _ rfl rfl 32 _ hr (by kernel_rfl : (Try.prog.info? 32).map (·.size) = some 11) rfl (cells_one hd2 A2 k2 c2) ?_)
    have cR := hr3.cell
    refine bodyPost_ret (v := ?_) ?_ rfl ?_
    rotate_left
    · simp [results, Try.results38, go_sem, cR]; exact rfl
    rw [HR.out]
    exact ⟨⟨_, rfl, _, rfl, he3.toIs⟩, hbw4⟩
  · have hR : R = e := by rw [HJ.out, if_neg h0]
    have HR := Lib.hid hR
    have q : (checkE e != 0) = true := by simpa using h0
    have q2 : (checkE e == 0) = false := by simpa using h0
    clear hR HJ HF
    generalize checkE e = C at *
    go_wp2_with fail
    refine HC1.out.mono ?_
    rintro r w2 ⟨rfl, hb2⟩
    replace hx := hx.below hb2
    replace hr := hr.below hb2
    replace hbw := hbw.th hb2
    clear hb2 HC1 cx
    have cx := hx.cell
    have hr3 := hr.setRow #[.int .i64 ha.kind, .int .i64 ha.n, .int .i64 ha.m, .string ha.name, .int .i64 ha.vk, .int .i64 ha.vn, .string ha.vs, .int .i64 ha.dev, .string ha.cl, .string ha.at_, .slice Aa ka.length ca]
    have he3 : IsExpr B (w2.setRow (w.heap.size + 1) #[.int .i64 ha.kind, .int .i64 ha.n, .int .i64 ha.m, .string ha.name, .int .i64 ha.vk, .int .i64 ha.vn, .string ha.vs, .int .i64 ha.dev, .string ha.cl, .string ha.at_, .slice Aa ka.length ca]) e _ := HE.carry ((below_setRow hbw (by omega) _).mono hB)
    have hbw4 : Below w.heap.size w (w2.setRow (w.heap.size + 1) #[.int .i64 ha.kind, .int .i64 ha.n, .int .i64 ha.m, .string ha.name, .int .i64 ha.vk, .int .i64 ha.vn, .string ha.vs, .int .i64 ha.dev, .string ha.cl, .string ha.at_, .slice Aa ka.length ca]) := below_setRow hbw (by omega) _
    have hsz : B ≤ (w2.setRow (w.heap.size + 1) #[.int .i64 ha.kind, .int .i64 ha.n, .int .i64 ha.m, .string ha.name, .int .i64 ha.vk, .int .i64 ha.vn, .string ha.vs, .int .i64 ha.dev, .string ha.cl, .string ha.at_, .slice Aa ka.length ca]).heap.size := by have := hbw4.size; omega
    unfold Hd.cells at he3
    clear HE
    go_wp2_with (refine wpList_store_row rfl 32 _ _ rfl (w.heap.size + 1) _ rfl rfl 32 _ hr (by kernel_rfl : (Try.prog.info? 32).map (·.size) = some 11) rfl (cells_one ha Aa ka.length ca) ?_)
    have cR := hr3.cell
    refine bodyPost_ret (v := ?_) ?_ rfl ?_
    rotate_left
    · simp [results, Try.results38, go_sem, cR]; exact rfl
    rw [HR.out]
    exact ⟨⟨_, rfl, _, rfl, he3.mono hsz⟩, hbw4⟩

set_option maxRecDepth 100000 in
set_option maxHeartbeats 4000000 in
theorem exprFolds_any (e : LExpr) (cs : List Value) (B : Nat) (w : World) (hB : B ≤ w.heap.size) (he : IsExpr B w e cs) :
    Calls Try.prog 10 #[.agg cs.toArray] w fun r w' => r = .returned (.bool true) ∧ Below w.heap.size w w' := by
  have HZ := fun W (hb' : Below B w W) (hl : B ≤ W.heap.size) => Lib.hid (rsize_any e cs B W hl (he.carry hb'))
  have HP := fun W (hb' : Below B w W) (hl : B ≤ W.heap.size) => Lib.hid (fold_any e cs B W hl (he.carry hb'))
  have HR := fun W (hb' : Below B w W) (hl : B ≤ W.heap.size) => Lib.hid (rFold_any e cs B W hl (he.carry hb'))
  have HS := fun W cf cg (hx : IsExpr W.heap.size W (foldE e) cf) (hy : IsExpr W.heap.size W (foldE e) cg) => Lib.hid (rsame_any (foldE e) (foldE e) cf cg _ W (Nat.le_refl _) hx hy)
  simp only [sameE_self] at HS
  obtain ⟨ha, ka, Aa, ca, qa, rfl, _⟩ := he.form
  clear qa he
  unfold Hd.cells at HZ HP HR ⊢
  have hbw0 : Below w.heap.size w (w.alloc (.cells #[.int .i64 ha.kind, .int .i64 ha.n, .int .i64 ha.m, .string ha.name, .int .i64 ha.vk, .int .i64 ha.vn, .string ha.vs, .int .i64 ha.dev, .string ha.cl, .string ha.at_, .slice Aa ka.length ca] 32)) := (Below.refl _ _).al _
  have he0 : Blk (w.alloc (.cells #[.int .i64 ha.kind, .int .i64 ha.n, .int .i64 ha.m, .string ha.name, .int .i64 ha.vk, .int .i64 ha.vn, .string ha.vs, .int .i64 ha.dev, .string ha.cl, .string ha.at_, .slice Aa ka.length ca] 32)) w.heap.size 32 #[.int .i64 ha.kind, .int .i64 ha.n, .int .i64 ha.m, .string ha.name, .int .i64 ha.vk, .int .i64 ha.vn, .string ha.vs, .int .i64 ha.dev, .string ha.cl, .string ha.at_, .slice Aa ka.length ca] := Blk.new _ _ _
  go_enter Try.func10, Try.ntmps10
  go_upto_region 1 with fail
  generalize w.alloc (.cells #[.int .i64 ha.kind, .int .i64 ha.n, .int .i64 ha.m, .string ha.name, .int .i64 ha.vk, .int .i64 ha.vn, .string ha.vs, .int .i64 ha.dev, .string ha.cl, .string ha.at_, .slice Aa ka.length ca] 32) = W0 at *
  have hBw : ∀ W, Lat W0 W → Below B w W ∧ B ≤ W.heap.size := fun W h => ⟨(hbw0.trans (h.mono hbw0.size)).mono hB, by have := h.size; have := hbw0.size; omega⟩
  replace HZ := fun W h => HZ W (hBw W h).1 (hBw W h).2
  replace HP := fun W h => HP W (hBw W h).1 (hBw W h).2
  replace HR := fun W h => HR W (hBw W h).1 (hBw W h).2
  generalize wrap64 (sizeE e : Int) = S at *
  generalize foldE e = R at *
  by_cases hs : 2000 < S
  · have q1 : decide ((2000 : Int) < S) = true := by simpa using hs
    refine wp_rely (by kernel_rfl) (by kernel_rfl) ?_
    repeat
      (apply RelyL.val
       focus (intro ν w' hL hF K hK; first
         | (refine skip_op rfl ?_; exact hK.out _ _ rfl (Lat.refl _))
         | (refine take_op rfl ?_; first | (refine wp_load_blk rfl rfl (he0.lat hL) Try.underlying32 rfl (by kernel_rfl : (Try.prog.info? 32).map (·.size) = some 11) rfl ?_; exact hK.out _ _ rfl (Lat.refl _)))
         | (go_simp; first | exact hK.out _ _ rfl (Lat.refl _) | (go_at_call 28; first | ((with_reducible refine ((HZ _ hL).out).mono ?_); rintro r w'' ⟨rfl, hbp⟩; exact hK.out _ _ rfl hbp)) | (go_at_call 30; first | ((with_reducible refine (lives_any _).mono ?_); rintro r w'' ⟨rfl, hbp⟩; exact hK.out _ _ rfl hbp))))
       simp only [Act.put, List.setIfInBounds_toArray, List.set_cons_zero, List.set_cons_succ, Nat.reduceAdd])
    refine RelyL.done fun ν w1 hL hF => ?_
    have hbw1 := hbw0.th hL
    clear hF
    go_wp2_with fail
    go_ret
    exact ⟨rfl, hbw1⟩
  · have q1 : decide ((2000 : Int) < S) = false := by simpa using hs
    refine wp_rely (by kernel_rfl) (by kernel_rfl) ?_
    repeat
      (apply RelyL.val
       focus (intro ν w' hL hF K hK; first
         | (refine skip_op rfl ?_; exact hK.out _ _ rfl (Lat.refl _))
         | (refine take_op rfl ?_; first | (refine wp_load_blk rfl rfl (he0.lat hL) Try.underlying32 rfl (by kernel_rfl : (Try.prog.info? 32).map (·.size) = some 11) rfl ?_; exact hK.out _ _ rfl (Lat.refl _)))
         | (go_simp; first | exact hK.out _ _ rfl (Lat.refl _) | (go_at_call 28; first | ((with_reducible refine ((HZ _ hL).out).mono ?_); rintro r w'' ⟨rfl, hbp⟩; exact hK.out _ _ rfl hbp)) | (go_at_call 30; first | ((with_reducible refine (lives_any _).mono ?_); rintro r w'' ⟨rfl, hbp⟩; exact hK.out _ _ rfl hbp))))
       simp only [Act.put, List.setIfInBounds_toArray, List.set_cons_zero, List.set_cons_succ, Nat.reduceAdd])
    refine RelyL.law (IsEx R) (fun v w1 w2 hl h => IsEx.lat h hl) (fun ν w' hL hF K hK => ?_) ?_
    · have H := HP w' hL
      go_simp
      go_at_call 37
      with_reducible refine H.out.mono ?_
      (rintro r w'' ⟨⟨v, rfl, cs', rfl, he'⟩, hbp⟩; have hx : IsEx R _ w'' := ⟨cs', rfl, he'.toIs⟩)
      exact hK.out _ _ _ rfl hx hbp
    simp only [Act.put, List.setIfInBounds_toArray, List.set_cons_zero, List.set_cons_succ, Nat.reduceAdd]
    repeat
      (apply RelyL.val
       focus (intro ν w' hL hF K hK; first
         | (refine skip_op rfl ?_; exact hK.out _ _ rfl (Lat.refl _))
         | (refine take_op rfl ?_; first | (refine wp_load_blk rfl rfl (he0.lat hL) Try.underlying32 rfl (by kernel_rfl : (Try.prog.info? 32).map (·.size) = some 11) rfl ?_; exact hK.out _ _ rfl (Lat.refl _)))
         | (go_simp; first | exact hK.out _ _ rfl (Lat.refl _) | (go_at_call 28; first | ((with_reducible refine ((HZ _ hL).out).mono ?_); rintro r w'' ⟨rfl, hbp⟩; exact hK.out _ _ rfl hbp))))
       simp only [Act.put, List.setIfInBounds_toArray, List.set_cons_zero, List.set_cons_succ, Nat.reduceAdd])
    refine RelyL.law (IsEx R) (fun v w1 w2 hl h => IsEx.lat h hl) (fun ν w' hL hF K hK => ?_) ?_
    · have H := HR w' hL
      go_simp
      go_at_call 38
      with_reducible refine H.out.mono ?_
      (rintro r w'' ⟨⟨v, rfl, hx⟩, hbp⟩)
      exact hK.out _ _ _ rfl hx hbp
    simp only [Act.put, List.setIfInBounds_toArray, List.set_cons_zero, List.set_cons_succ, Nat.reduceAdd]
    apply RelyL.val
    · intro ν w' hL hF K hK
      have h3 := hF.get 1 rfl (by kernel_rfl)
      have h4 := hF.get 0 rfl (by kernel_rfl)
      dsimp only at h3 h4
      generalize ν 5 = x3 at *
      generalize ν 7 = x4 at *
      obtain ⟨cs3, rfl, he3⟩ := h3
      obtain ⟨cs4, rfl, he4⟩ := h4
      have H := HS w' _ _ he3 he4
      clear hF
      go_simp
      go_at_call 36
      with_reducible refine H.out.mono ?_
      rintro r w'' ⟨rfl, hbp⟩
      exact hK.out _ _ rfl hbp
    simp only [Act.put, List.setIfInBounds_toArray, List.set_cons_zero, List.set_cons_succ, Nat.reduceAdd]
    repeat
      (apply RelyL.val
       focus (intro ν w' hL hF K hK; first
         | (refine skip_op rfl ?_; exact hK.out _ _ rfl (Lat.refl _))
         | (refine take_op rfl ?_; first | (refine wp_load_blk rfl rfl (he0.lat hL) Try.underlying32 rfl (by kernel_rfl : (Try.prog.info? 32).map (·.size) = some 11) rfl ?_; exact hK.out _ _ rfl (Lat.refl _)))
         | (go_simp; first | exact hK.out _ _ rfl (Lat.refl _) | (go_at_call 30; first | ((with_reducible refine (lives_any _).mono ?_); rintro r w'' ⟨rfl, hbp⟩; exact hK.out _ _ rfl hbp))))
       simp only [Act.put, List.setIfInBounds_toArray, List.set_cons_zero, List.set_cons_succ, Nat.reduceAdd])
    refine RelyL.done fun ν w1 hL hF => ?_
    have hbw1 := hbw0.th hL
    clear hF
    go_wp2_with fail
    go_ret
    exact ⟨rfl, hbw1⟩
end Go.Proofs.Ytnelgblmogciiaa
