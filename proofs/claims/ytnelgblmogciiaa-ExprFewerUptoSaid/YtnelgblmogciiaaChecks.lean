/- ExprChecks, ExprSame: the walks. -/
import Derived.Test.YtnelgblmogciiaaLives
set_option linter.unusedSimpArgs false
set_option linter.unusedVariables false
namespace Go.Proofs.Ytnelgblmogciiaa
open Go.RowKit

set_option maxRecDepth 100000 in
set_option maxHeartbeats 4000000 in
theorem exprChecks_any (e : LExpr) (cs : List Value) (B : Nat) (w : World) (hB : B ≤ w.heap.size) (he : IsExpr B w e cs) :
    Calls Try.prog 8 #[.agg cs.toArray] w fun r w' => r = .returned (.bool true) ∧ Below w.heap.size w w' := by
  have HZ := fun W (hb' : Below B w W) (hl : B ≤ W.heap.size) => Lib.hid (rsize_any e cs B W hl (he.carry hb'))
  have HC := fun W (hb' : Below B w W) (hl : B ≤ W.heap.size) => Lib.hid (checkE_any e cs B W hl (he.carry hb'))
  have HR := fun W (hb' : Below B w W) (hl : B ≤ W.heap.size) => Lib.hid (rcheckE_any e cs B W hl (he.carry hb'))
  simp only [checkE_is] at HC
  obtain ⟨ha, ka, Aa, ca, qa, rfl, _⟩ := he.form
  clear qa he
  unfold Hd.cells at HZ HC HR ⊢
  have hbw0 : Below w.heap.size w (w.alloc (.cells #[.int .i64 ha.kind, .int .i64 ha.n, .int .i64 ha.m, .string ha.name, .int .i64 ha.vk, .int .i64 ha.vn, .string ha.vs, .int .i64 ha.dev, .string ha.cl, .string ha.at_, .slice Aa ka.length ca] 32)) := (Below.refl _ _).al _
  have he0 : Blk (w.alloc (.cells #[.int .i64 ha.kind, .int .i64 ha.n, .int .i64 ha.m, .string ha.name, .int .i64 ha.vk, .int .i64 ha.vn, .string ha.vs, .int .i64 ha.dev, .string ha.cl, .string ha.at_, .slice Aa ka.length ca] 32)) w.heap.size 32 #[.int .i64 ha.kind, .int .i64 ha.n, .int .i64 ha.m, .string ha.name, .int .i64 ha.vk, .int .i64 ha.vn, .string ha.vs, .int .i64 ha.dev, .string ha.cl, .string ha.at_, .slice Aa ka.length ca] := Blk.new _ _ _
  go_enter Try.func8, Try.ntmps8
  go_upto_region 1 with fail
  generalize w.alloc (.cells #[.int .i64 ha.kind, .int .i64 ha.n, .int .i64 ha.m, .string ha.name, .int .i64 ha.vk, .int .i64 ha.vn, .string ha.vs, .int .i64 ha.dev, .string ha.cl, .string ha.at_, .slice Aa ka.length ca] 32) = W0 at *
  have hBw : ∀ W, Lat W0 W → Below B w W ∧ B ≤ W.heap.size := fun W h => ⟨(hbw0.trans (h.mono hbw0.size)).mono hB, by have := h.size; have := hbw0.size; omega⟩
  replace HZ := fun W h => HZ W (hBw W h).1 (hBw W h).2
  replace HC := fun W h => HC W (hBw W h).1 (hBw W h).2
  replace HR := fun W h => HR W (hBw W h).1 (hBw W h).2
  generalize wrap64 (sizeE e : Int) = S at *
  generalize checkE e = C at *
  by_cases hs : 2000 < S
  · have q1 : decide ((2000 : Int) < S) = true := by simpa using hs
    refine wp_rely (by kernel_rfl) (by kernel_rfl) ?_
    repeat
      (apply RelyL.val
       focus (intro ν w' hL hF K hK; first
         | (refine skip_op rfl ?_; exact hK.out _ _ rfl (Lat.refl _))
         | (refine take_op rfl ?_; first | (refine wp_load_blk rfl rfl (he0.lat hL) Try.underlying32 rfl (by kernel_rfl : (Try.prog.info? 32).map (·.size) = some 11) rfl ?_; exact hK.out _ _ rfl (Lat.refl _)))
         | (go_simp; first | exact hK.out _ _ rfl (Lat.refl _) | (go_at_call 28; first | ((with_reducible refine ((HZ _ hL).out).mono ?_); rintro r w'' ⟨rfl, hbp⟩; exact hK.out _ _ rfl hbp)) | (go_at_call 29; first | ((with_reducible refine ((HC _ hL).out).mono ?_); rintro r w'' ⟨rfl, hbp⟩; exact hK.out _ _ rfl hbp)) | (go_at_call 24; first | ((with_reducible refine ((HR _ hL).out).mono ?_); rintro r w'' ⟨rfl, hbp⟩; exact hK.out _ _ rfl hbp)) | (go_at_call 30; first | ((with_reducible refine (lives_any _).mono ?_); rintro r w'' ⟨rfl, hbp⟩; exact hK.out _ _ rfl hbp))))
       simp only [Act.put, List.setIfInBounds_toArray, List.set_cons_zero, List.set_cons_succ, Nat.reduceAdd])
    refine RelyL.done fun ν w1 hL hF => ?_
    have hbw1 := hbw0.th hL
    clear hF
    go_wp2_with fail
    go_ret
    exact ⟨rfl, hbw1⟩
  · have q1 : decide ((2000 : Int) < S) = false := by simpa using hs
    refine wp_rely (by kernel_rfl) (by kernel_rfl) ?_
    repeat
      (apply RelyL.val
       focus (intro ν w' hL hF K hK; first
         | (refine skip_op rfl ?_; exact hK.out _ _ rfl (Lat.refl _))
         | (refine take_op rfl ?_; first | (refine wp_load_blk rfl rfl (he0.lat hL) Try.underlying32 rfl (by kernel_rfl : (Try.prog.info? 32).map (·.size) = some 11) rfl ?_; exact hK.out _ _ rfl (Lat.refl _)))
         | (go_simp; first | exact hK.out _ _ rfl (Lat.refl _) | (go_at_call 28; first | ((with_reducible refine ((HZ _ hL).out).mono ?_); rintro r w'' ⟨rfl, hbp⟩; exact hK.out _ _ rfl hbp)) | (go_at_call 29; first | ((with_reducible refine ((HC _ hL).out).mono ?_); rintro r w'' ⟨rfl, hbp⟩; exact hK.out _ _ rfl hbp)) | (go_at_call 24; first | ((with_reducible refine ((HR _ hL).out).mono ?_); rintro r w'' ⟨rfl, hbp⟩; exact hK.out _ _ rfl hbp)) | (go_at_call 30; first | ((with_reducible refine (lives_any _).mono ?_); rintro r w'' ⟨rfl, hbp⟩; exact hK.out _ _ rfl hbp))))
       simp only [Act.put, List.setIfInBounds_toArray, List.set_cons_zero, List.set_cons_succ, Nat.reduceAdd])
    refine RelyL.done fun ν w1 hL hF => ?_
    have hbw1 := hbw0.th hL
    clear hF
    go_wp2_with fail
    go_ret
    exact ⟨rfl, hbw1⟩

theorem sameE_swap (a b : LExpr) : sameE b a = sameE a b := by
  rw [Bool.eq_iff_iff, sameE_iff, sameE_iff]
  exact eq_comm
set_option maxRecDepth 100000 in
set_option maxHeartbeats 4000000 in
theorem exprSame_any (a b : LExpr) (csa csb : List Value) (B : Nat) (w : World) (hB : B ≤ w.heap.size) (hea : IsExpr B w a csa) (heb : IsExpr B w b csb) :
    Calls Try.prog 14 #[.agg csa.toArray, .agg csb.toArray] w fun r w' => r = .returned (.bool true) ∧ Below w.heap.size w w' := by
  have HZa := fun W (hb' : Below B w W) (hl : B ≤ W.heap.size) => Lib.hid (rsize_any a csa B W hl (hea.carry hb'))
  have HZb := fun W (hb' : Below B w W) (hl : B ≤ W.heap.size) => Lib.hid (rsize_any b csb B W hl (heb.carry hb'))
  have HE1 := fun W (hb' : Below B w W) (hl : B ≤ W.heap.size) => Lib.hid (esame_any a b csa csb B W hl (hea.carry hb') (heb.carry hb'))
  have HE2 := fun W (hb' : Below B w W) (hl : B ≤ W.heap.size) => Lib.hid (esame_any b a csb csa B W hl (heb.carry hb') (hea.carry hb'))
  have HE3 := fun W (hb' : Below B w W) (hl : B ≤ W.heap.size) => Lib.hid (esame_any a a csa csa B W hl (hea.carry hb') (hea.carry hb'))
  have HR := fun W (hb' : Below B w W) (hl : B ≤ W.heap.size) => Lib.hid (rsame_any a b csa csb B W hl (hea.carry hb') (heb.carry hb'))
  simp only [sameE_swap a b] at HE2
  simp only [sameE_self] at HE3
  obtain ⟨ha, ka, Aa, ca, qa, rfl, _⟩ := hea.form
  obtain ⟨hb, kb, Ab, cb, qb, rfl, _⟩ := heb.form
  clear qa qb hea heb
  unfold Hd.cells at HZa HZb HE1 HE2 HE3 HR ⊢
  have hbw0 : Below w.heap.size w ((w.alloc (.cells #[.int .i64 ha.kind, .int .i64 ha.n, .int .i64 ha.m, .string ha.name, .int .i64 ha.vk, .int .i64 ha.vn, .string ha.vs, .int .i64 ha.dev, .string ha.cl, .string ha.at_, .slice Aa ka.length ca] 32)).alloc (.cells #[.int .i64 hb.kind, .int .i64 hb.n, .int .i64 hb.m, .string hb.name, .int .i64 hb.vk, .int .i64 hb.vn, .string hb.vs, .int .i64 hb.dev, .string hb.cl, .string hb.at_, .slice Ab kb.length cb] 32)) := ((Below.refl _ _).al _).al _
  have ha0 : Blk ((w.alloc (.cells #[.int .i64 ha.kind, .int .i64 ha.n, .int .i64 ha.m, .string ha.name, .int .i64 ha.vk, .int .i64 ha.vn, .string ha.vs, .int .i64 ha.dev, .string ha.cl, .string ha.at_, .slice Aa ka.length ca] 32)).alloc (.cells #[.int .i64 hb.kind, .int .i64 hb.n, .int .i64 hb.m, .string hb.name, .int .i64 hb.vk, .int .i64 hb.vn, .string hb.vs, .int .i64 hb.dev, .string hb.cl, .string hb.at_, .slice Ab kb.length cb] 32)) w.heap.size 32 #[.int .i64 ha.kind, .int .i64 ha.n, .int .i64 ha.m, .string ha.name, .int .i64 ha.vk, .int .i64 ha.vn, .string ha.vs, .int .i64 ha.dev, .string ha.cl, .string ha.at_, .slice Aa ka.length ca] := (Blk.new _ _ _).alloc _
  have hb0 : Blk ((w.alloc (.cells #[.int .i64 ha.kind, .int .i64 ha.n, .int .i64 ha.m, .string ha.name, .int .i64 ha.vk, .int .i64 ha.vn, .string ha.vs, .int .i64 ha.dev, .string ha.cl, .string ha.at_, .slice Aa ka.length ca] 32)).alloc (.cells #[.int .i64 hb.kind, .int .i64 hb.n, .int .i64 hb.m, .string hb.name, .int .i64 hb.vk, .int .i64 hb.vn, .string hb.vs, .int .i64 hb.dev, .string hb.cl, .string hb.at_, .slice Ab kb.length cb] 32)) (w.heap.size + 1) 32 #[.int .i64 hb.kind, .int .i64 hb.n, .int .i64 hb.m, .string hb.name, .int .i64 hb.vk, .int .i64 hb.vn, .string hb.vs, .int .i64 hb.dev, .string hb.cl, .string hb.at_, .slice Ab kb.length cb] := Blk.at1 _ _ _ _
  go_enter Try.func14, Try.ntmps14
  go_upto_region 1 with fail
  generalize ((w.alloc (.cells #[.int .i64 ha.kind, .int .i64 ha.n, .int .i64 ha.m, .string ha.name, .int .i64 ha.vk, .int .i64 ha.vn, .string ha.vs, .int .i64 ha.dev, .string ha.cl, .string ha.at_, .slice Aa ka.length ca] 32)).alloc (.cells #[.int .i64 hb.kind, .int .i64 hb.n, .int .i64 hb.m, .string hb.name, .int .i64 hb.vk, .int .i64 hb.vn, .string hb.vs, .int .i64 hb.dev, .string hb.cl, .string hb.at_, .slice Ab kb.length cb] 32)) = W1 at *
  have hBw : ∀ W, Lat W1 W → Below B w W ∧ B ≤ W.heap.size := fun W h => ⟨(hbw0.trans (h.mono hbw0.size)).mono hB, by have := h.size; have := hbw0.size; omega⟩
  replace HZa := fun W h => HZa W (hBw W h).1 (hBw W h).2
  replace HZb := fun W h => HZb W (hBw W h).1 (hBw W h).2
  replace HE1 := fun W h => HE1 W (hBw W h).1 (hBw W h).2
  replace HE2 := fun W h => HE2 W (hBw W h).1 (hBw W h).2
  replace HE3 := fun W h => HE3 W (hBw W h).1 (hBw W h).2
  replace HR := fun W h => HR W (hBw W h).1 (hBw W h).2
  generalize wrap64 (sizeE a : Int) = SA at *
  generalize wrap64 (sizeE b : Int) = SB at *
  generalize sameE a b = X at *
  have ca0 := ha0.cell
  have cb0 := hb0.cell
  go_wp2_with fail
  refine (HZa _ (Lat.refl _)).out.mono ?_
  rintro r w1 ⟨rfl, hb1⟩
  have ha1 := ha0.lat hb1
  have hb1' := hb0.lat hb1
  have ca1 := ha1.cell
  have cb1 := hb1'.cell
  have hbw1 := hbw0.th hb1
  by_cases hs : 2000 < SA
  · have q1 : decide ((2000 : Int) < SA) = true := by simpa using hs
    go_wp2_with fail
    refine (lives_any _).mono ?_
    rintro r w3 ⟨rfl, hb3⟩
    go_wp2_with fail
    go_ret
    exact ⟨rfl, hbw1.th hb3⟩
  have q1 : decide ((2000 : Int) < SA) = false := by simpa using hs
  go_wp2_with fail
  refine (HZb _ hb1).out.mono ?_
  rintro r w2 ⟨rfl, hb2⟩
  have hl2 : Lat W1 w2 := Lat.trans hb1 hb2
  clear ca1 cb1 ha1 hb1' hbw1 hb1 hb2 ca0 cb0
  have hbw2 := hbw0.th hl2
  by_cases hs2 : 2000 < SB
  · have q2 : decide ((2000 : Int) < SB) = true := by simpa using hs2
    go_wp2_with fail
    refine (lives_any _).mono ?_
    rintro r w3 ⟨rfl, hb3⟩
    go_wp2_with fail
    go_ret
    exact ⟨rfl, hbw2.th hb3⟩
  have q2 : decide ((2000 : Int) < SB) = false := by simpa using hs2
  go_upto_region 3 with fail
  have ha2 := ha0.lat hl2
  have hb2 := hb0.lat hl2
  clear ha0 hb0
  refine wp_rely (by kernel_rfl) (by kernel_rfl) ?_
  cases X
  all_goals
    repeat
      (apply RelyL.val
       focus (intro ν w' hL hF K hK; first
         | (refine skip_op rfl ?_; exact hK.out _ _ rfl (Lat.refl _))
         | (refine take_op rfl ?_; first | (refine wp_load_blk rfl rfl (ha2.lat hL) Try.underlying32 rfl (by kernel_rfl : (Try.prog.info? 32).map (·.size) = some 11) rfl ?_; exact hK.out _ _ rfl (Lat.refl _)) | (refine wp_load_blk rfl rfl (hb2.lat hL) Try.underlying32 rfl (by kernel_rfl : (Try.prog.info? 32).map (·.size) = some 11) rfl ?_; exact hK.out _ _ rfl (Lat.refl _)))
         | (go_simp; first | exact hK.out _ _ rfl (Lat.refl _) | (go_at_call 41; first | ((with_reducible refine ((HE1 _ (hl2.trans hL)).out).mono ?_); rintro r w'' ⟨rfl, hbp⟩; exact hK.out _ _ rfl hbp) | ((with_reducible refine ((HE2 _ (hl2.trans hL)).out).mono ?_); rintro r w'' ⟨rfl, hbp⟩; exact hK.out _ _ rfl hbp) | ((with_reducible refine ((HE3 _ (hl2.trans hL)).out).mono ?_); rintro r w'' ⟨rfl, hbp⟩; exact hK.out _ _ rfl hbp)) | (go_at_call 36; first | ((with_reducible refine ((HR _ (hl2.trans hL)).out).mono ?_); rintro r w'' ⟨rfl, hbp⟩; exact hK.out _ _ rfl hbp)) | (go_at_call 30; first | ((with_reducible refine (lives_any _).mono ?_); rintro r w'' ⟨rfl, hbp⟩; exact hK.out _ _ rfl hbp))))
       simp only [Act.put, List.setIfInBounds_toArray, List.set_cons_zero, List.set_cons_succ, Nat.reduceAdd])
    refine RelyL.done fun ν w4 hL hF => ?_
    have hbw4 := hbw2.th hL
    clear hF
    go_wp2_with fail
    go_ret
    exact ⟨rfl, hbw4⟩
end Go.Proofs.Ytnelgblmogciiaa
