/- ExprRestored: the walk. -/
import Derived.Test.YtnelgblmogciiaaKLaws
import Derived.Test.YtnelgblmogciiaaRename
set_option linter.unusedSimpArgs false
set_option linter.unusedVariables false
namespace Go.Proofs.Ytnelgblmogciiaa
open Go.RowKit

set_option maxRecDepth 100000 in
set_option maxHeartbeats 4000000 in
theorem exprRestored_any (e : LExpr) (f t : Int) (cs : List Value) (B : Nat) (w : World) (hB : B ≤ w.heap.size) (he : IsExpr B w e cs) (hbk : sizeE e ≤ 1048576) (hf : I64 f) (ht : I64 t) :
    Calls Try.prog 16 #[.agg cs.toArray, .int .i64 f, .int .i64 t] w fun r w' => r = .returned (.bool true) ∧ Below w.heap.size w w' := by
  have HZ := fun W (hb' : Below B w W) (hl : B ≤ W.heap.size) => Lib.hid (rsize_any e cs B W hl (he.carry hb'))
  have HP := fun W (hb' : Below B w W) (hl : B ≤ W.heap.size) => Lib.hid (rename_any f t ht e cs B W hl (he.carry hb'))
  have HPB := fun W cf (hx : IsExpr W.heap.size W (renE f t e) cf) => Lib.hid (rename_any t f hf (renE f t e) cf _ W (Nat.le_refl _) hx)
  have HK := fun (hs : sizeE e ≤ 2000) W cf (hx : IsExpr W.heap.size W (renE f t e) cf) => Lib.hid (keys_any (renE f t e) cf _ W (Nat.le_refl _) hx (by have := readsE_len (renE f t e); have := size_ren f t e; omega))
  have HQ := fun (hs : sizeE e ≤ 2000) W (hb' : Below B w W) (hl : B ≤ W.heap.size) => Lib.hid (rkeys_any e cs B W hl (he.carry hb') (by have := readsE_len e; omega))
  have HE := fun W cg (hb' : Below B w W) (hl : B ≤ W.heap.size) (hy : IsExpr W.heap.size W e cg) => Lib.hid (esame_any e e cg cs W.heap.size W (Nat.le_refl _) hy ((he.carry hb').mono hl))
  simp only [sameE_self] at HE
  simp only [wrap_small _ (show sizeE e ≤ 1000000000000 by omega)] at HZ
  have HKL := Lib.hid (fun hs : sizeE e ≤ 2000 => (show (keysE e).length ≤ 2000 from Nat.le_trans (keys_le e) hs))
  have HLEN := Lib.hid (fun hn : ∀ x ∈ keysE e, x.dev ≠ t => keys_ren_len f t e (fun x hx => hn x ((mem_keysE e x).2 hx)))
  have HNO := Lib.hid (fun hft : f ≠ t => keys_ren_no f t hft e)
  have HBACK := Lib.hid (fun hn : ∀ x ∈ keysE e, x.dev ≠ t => ren_back f t e (fun x hx => hn x ((mem_keysE e x).2 hx)))
  obtain ⟨ha, ka, Aa, ca, qa, rfl, _⟩ := he.form
  clear qa he hbk
  unfold Hd.cells at HZ HP HQ HE ⊢
  have hbw0 : Below w.heap.size w (w.alloc (.cells #[.int .i64 ha.kind, .int .i64 ha.n, .int .i64 ha.m, .string ha.name, .int .i64 ha.vk, .int .i64 ha.vn, .string ha.vs, .int .i64 ha.dev, .string ha.cl, .string ha.at_, .slice Aa ka.length ca] 32)) := (Below.refl _ _).al _
  have he0 : Blk (w.alloc (.cells #[.int .i64 ha.kind, .int .i64 ha.n, .int .i64 ha.m, .string ha.name, .int .i64 ha.vk, .int .i64 ha.vn, .string ha.vs, .int .i64 ha.dev, .string ha.cl, .string ha.at_, .slice Aa ka.length ca] 32)) w.heap.size 32 #[.int .i64 ha.kind, .int .i64 ha.n, .int .i64 ha.m, .string ha.name, .int .i64 ha.vk, .int .i64 ha.vn, .string ha.vs, .int .i64 ha.dev, .string ha.cl, .string ha.at_, .slice Aa ka.length ca] := Blk.new _ _ _
  go_enter Try.func16, Try.ntmps16
  go_upto_region 1 with fail
  generalize w.alloc (.cells #[.int .i64 ha.kind, .int .i64 ha.n, .int .i64 ha.m, .string ha.name, .int .i64 ha.vk, .int .i64 ha.vn, .string ha.vs, .int .i64 ha.dev, .string ha.cl, .string ha.at_, .slice Aa ka.length ca] 32) = W0 at *
  have hBw : ∀ W, Lat W0 W → Below B w W ∧ B ≤ W.heap.size := fun W h => ⟨(hbw0.trans (h.mono hbw0.size)).mono hB, by have := h.size; have := hbw0.size; omega⟩
  replace HZ := fun W h => HZ W (hBw W h).1 (hBw W h).2
  replace HP := fun W h => HP W (hBw W h).1 (hBw W h).2
  replace HQ := fun hs W h => HQ hs W (hBw W h).1 (hBw W h).2
  replace HE := fun W cg h => HE W cg (hBw W h).1 (hBw W h).2
  generalize keysE e = KS at *
  generalize keysE (renE f t e) = LS at *
  generalize renE t f (renE f t e) = e2 at *
  generalize renE f t e = fe at *
  have ce0 := he0.cell
  go_wp2_with fail
  refine (HZ _ (Lat.refl _)).out.mono ?_
  rintro r w1 ⟨rfl, hb1⟩
  have hl1 : Lat W0 w1 := hb1
  have he1 := he0.lat hb1
  have hbw1 := hbw0.th hb1
  clear ce0
  by_cases hs : 2000 < sizeE e
  · have q1 : decide ((2000 : Int) < (sizeE e : Int)) = true := by simp; omega
    generalize (sizeE e : Int) = S at *
    go_wp2_with fail
    refine (lives_any _).mono ?_
    rintro r w3 ⟨rfl, hb3⟩
    go_wp2_with fail
    go_ret
    exact ⟨rfl, hbw1.th hb3⟩
  have q1 : decide ((2000 : Int) < (sizeE e : Int)) = false := by simp; omega
  replace HK := HK (by omega)
  replace HQ := HQ (by omega)
  replace HKL := Lib.hid (HKL.out (by omega))
  clear hs
  generalize (sizeE e : Int) = S at *
  by_cases hft : f = t
  · subst hft
    go_wp2_with fail
    refine (lives_any _).mono ?_
    rintro r w3 ⟨rfl, hb3⟩
    go_wp2_with fail
    go_ret
    exact ⟨rfl, hbw1.th hb3⟩
  have hft2 : (f == t) = false := by simpa using hft
  replace HNO := Lib.hid (HNO.out hft)
  clear hft
  have ce1 := he1.cell
  go_wp2_with fail
  refine (HQ _ hl1).out.mono ?_
  rintro r w2 ⟨⟨v2, rfl, hv2⟩, hb2⟩
  have hl2 := hl1.trans hb2
  obtain ⟨A2, c2, rfl, hr2⟩ := hv2
  clear hl1 he1 hbw1 ce1 hb1 hb2 HQ
  have hkl := HKL.out
  clear HKL
  have hbw2 := hbw0.th hl2
  have he2 := he0.lat hl2
  have ce2 := he2.cell
  go_wp2_with fail
  go_loopw [8] (fun i wr => ∃ n : Nat, n ≤ KS.length ∧ i = .int .i64 n ∧ Hid (∀ (j : Nat) (hj : j < KS.length), j < n → KS[j].dev ≠ t) ∧ wr = w2) (fun i _ => KS.length - (intOf i).toNat)
  case atStart => exact ⟨0, Nat.zero_le _, rfl, Lib.hid (fun j _ h => by omega), rfl⟩
  case round =>
    obtain ⟨n, hnl, rfl, HN, rfl⟩ := hrel
    by_cases hln : n < KS.length
    · obtain ⟨b1, o1, rfl, hb1, hr1⟩ := hr2 (by simpa using (by omega : 0 < KS.length))
      have g0 := hr1 n (by simpa using hln)
      simp only [List.getElem_map] at g0
      have g1 := g0 0 (.int .i64 KS[n].dev) rfl
      rw [Nat.add_zero] at g1
      clear g0
      have hnx : KS[n].dev ≠ t → ∀ (j : Nat) (hj : j < KS.length), j < n + 1 → KS[j].dev ≠ t := fun h j hj h2 => by
        by_cases e : j = n
        · subst e; exact h
        · exact HN.out j hj (by omega)
      have HNX := Lib.hid hnx
      clear hnx hr1 HN
      generalize KS[n].dev = d at *
      by_cases hd : d = t
      · subst hd
        go_wp2_with fail
        refine (lives_any _).mono ?_
        rintro r w3 ⟨rfl, hb3⟩
        go_wp2_with fail
        go_ret
        exact ⟨rfl, hbw2.th hb3⟩
      · have hd2 : (d == t) = false := by simpa using hd
        have HN := Lib.hid (HNX.out hd)
        clear HNX hd
        go_wp2_with fail
        go_roundw
        case rel => exact ⟨n + 1, hln, by go_num, HN, trivial⟩
        case measure => simp [intOf]; omega
    · have hall : ∀ x ∈ KS, x.dev ≠ t := fun x hx => by
        obtain ⟨j, hj, rfl⟩ := List.getElem_of_mem hx
        exact HN.out j hj (by omega)
      have hlen := HLEN.out hall
      have hback := HBACK.out hall
      have HL := Lib.hid hlen
      subst hback
      clear HN HLEN HBACK hall hlen hr2
      go_wp2_with fail
      refine (HP _ hl2).out.mono ?_
      rintro r w3 ⟨⟨v3, rfl, cs3, rfl, hf3⟩, hb3⟩
      have xf := hf3.toIs
      obtain ⟨hf, kf, Af, cf, qf, rfl, _⟩ := xf.form
      have hl3 := hl2.trans hb3
      clear hf3 hb3 hl2 hbw2 he2 ce2 HP
      simp only [Hd.cells] at xf ⊢
      go_upto_region 10 with fail
      have hx4 := Blk.new w3 32 #[.int .i64 hf.kind, .int .i64 hf.n, .int .i64 hf.m, .string hf.name, .int .i64 hf.vk, .int .i64 hf.vn, .string hf.vs, .int .i64 hf.dev, .string hf.cl, .string hf.at_, .slice Af kf.length cf]
      have hl4 := hl3.trans (Lat.al w3 (.cells #[.int .i64 hf.kind, .int .i64 hf.n, .int .i64 hf.m, .string hf.name, .int .i64 hf.vk, .int .i64 hf.vn, .string hf.vs, .int .i64 hf.dev, .string hf.cl, .string hf.at_, .slice Af kf.length cf] 32))
      have xf4 := xf.lat (Nat.le_refl _) (Lat.al w3 (.cells #[.int .i64 hf.kind, .int .i64 hf.n, .int .i64 hf.m, .string hf.name, .int .i64 hf.vk, .int .i64 hf.vn, .string hf.vs, .int .i64 hf.dev, .string hf.cl, .string hf.at_, .slice Af kf.length cf] 32))
      clear hl3 xf
      generalize w3.alloc (.cells #[.int .i64 hf.kind, .int .i64 hf.n, .int .i64 hf.m, .string hf.name, .int .i64 hf.vk, .int .i64 hf.vn, .string hf.vs, .int .i64 hf.dev, .string hf.cl, .string hf.at_, .slice Af kf.length cf] 32) = W4 at *
      generalize w3.heap.size = g4 at *
      have cx4 := hx4.cell
      have HK4 := HK W4 _ xf4
      clear HK
      go_wp2_with fail
      refine HK4.out.mono ?_
      rintro r w5 ⟨⟨v5, rfl, hv5⟩, hb5⟩
      have hl5 := hl4.trans hb5
      have hx5 := hx4.lat hb5
      have xf5 := xf4.lat (Nat.le_refl _) hb5
      obtain ⟨A5, c5, rfl, hr5⟩ := hv5
      have he5 := he0.lat hl5
      have hbw5 := hbw0.th hl5
      clear HK4 cx4 hx4 xf4 hl4 hb5
      have hll : LS.length ≤ 2000 := by have := HL.out; omega
      go_wp2_with fail
      go_loopw [11] (fun i wr => ∃ n : Nat, n ≤ LS.length ∧ i = .int .i64 n ∧ wr = w5) (fun i _ => LS.length - (intOf i).toNat)
      case atStart => exact ⟨0, Nat.zero_le _, rfl, rfl⟩
      case round =>
        obtain ⟨n, hnl, rfl, rfl⟩ := hrel
        by_cases hln : n < LS.length
        · obtain ⟨b1, o1, rfl, hb1, hr1⟩ := hr5 (by simpa using (by omega : 0 < LS.length))
          have g0 := hr1 n (by simpa using hln)
          simp only [List.getElem_map] at g0
          have g1 := g0 0 (.int .i64 LS[n].dev) rfl
          rw [Nat.add_zero] at g1
          have hd := HNO.out LS[n] (List.getElem_mem _)
          clear hr1 g0 HNO
          generalize LS[n].dev = d at *
          have hd2 : (d == f) = false := by simpa using hd
          clear hd
          go_wp2_with fail
          go_roundw
          case rel => exact ⟨n + 1, hln, by go_num, trivial⟩
          case measure => simp [intOf]; omega
        · have q5 : ((LS.length : Int) == (KS.length : Int)) = true := by have := HL.out; simp; omega
          clear HL HNO hr5
          replace HE := fun W cg h => HE W cg (hl5.trans h)
          go_upto_region 16 with fail
          refine wp_rely (by kernel_rfl) (by kernel_rfl) ?_
          repeat
            (apply RelyL.val
             focus (intro ν w' hL hF K hK; first
               | (refine skip_op rfl ?_; exact hK.out _ _ rfl (Lat.refl _))
               | (refine take_op rfl ?_; first | (refine wp_load_blk rfl rfl (he5.lat hL) Try.underlying32 rfl (by kernel_rfl : (Try.prog.info? 32).map (·.size) = some 11) rfl ?_; exact hK.out _ _ rfl (Lat.refl _)) | (refine wp_load_blk rfl rfl (hx5.lat hL) Try.underlying32 rfl (by kernel_rfl : (Try.prog.info? 32).map (·.size) = some 11) rfl ?_; exact hK.out _ _ rfl (Lat.refl _)))
               | (go_simp; first | exact hK.out _ _ rfl (Lat.refl _)))
             simp only [Act.put, List.setIfInBounds_toArray, List.set_cons_zero, List.set_cons_succ, Nat.reduceAdd])
          refine RelyL.law (IsEx e2) (fun v w1 w2 hl h => IsEx.lat h hl) (fun ν w' hL hF K hK => ?_) ?_
          · have H := HPB w' _ (xf5.lat (Nat.le_refl _) hL)
            go_simp
            go_at_call 39
            with_reducible refine H.out.mono ?_
            rintro r w'' ⟨⟨v, rfl, cs', rfl, he'⟩, hbp⟩
            exact hK.out _ _ _ rfl ⟨cs', rfl, he'.toIs⟩ hbp
          simp only [Act.put, List.setIfInBounds_toArray, List.set_cons_zero, List.set_cons_succ, Nat.reduceAdd]
          repeat
            (apply RelyL.val
             focus (intro ν w' hL hF K hK; first
               | (refine skip_op rfl ?_; exact hK.out _ _ rfl (Lat.refl _))
               | (refine take_op rfl ?_; first | (refine wp_load_blk rfl rfl (he5.lat hL) Try.underlying32 rfl (by kernel_rfl : (Try.prog.info? 32).map (·.size) = some 11) rfl ?_; exact hK.out _ _ rfl (Lat.refl _)))
               | (go_simp; first | exact hK.out _ _ rfl (Lat.refl _)))
             simp only [Act.put, List.setIfInBounds_toArray, List.set_cons_zero, List.set_cons_succ, Nat.reduceAdd])
          apply RelyL.val
          · intro ν w' hL hF K hK
            have h3 := hF.get 0 rfl (by kernel_rfl)
            dsimp only at h3
            generalize ν 9 = x3 at *
            obtain ⟨cs3, rfl, he3'⟩ := h3
            have H := HE w' _ hL he3'
            clear hF
            go_simp
            go_at_call 41
            with_reducible refine H.out.mono ?_
            rintro r w'' ⟨rfl, hbp⟩
            exact hK.out _ _ rfl hbp
          simp only [Act.put, List.setIfInBounds_toArray, List.set_cons_zero, List.set_cons_succ, Nat.reduceAdd]
          repeat
            (apply RelyL.val
             focus (intro ν w' hL hF K hK; first
               | (refine skip_op rfl ?_; exact hK.out _ _ rfl (Lat.refl _))
               | (refine take_op rfl ?_; first | (refine wp_load_blk rfl rfl (he5.lat hL) Try.underlying32 rfl (by kernel_rfl : (Try.prog.info? 32).map (·.size) = some 11) rfl ?_; exact hK.out _ _ rfl (Lat.refl _)))
               | (go_simp; first | exact hK.out _ _ rfl (Lat.refl _) | (go_at_call 30; first | ((with_reducible refine (lives_any _).mono ?_); rintro r w'' ⟨rfl, hbp⟩; exact hK.out _ _ rfl hbp))))
             simp only [Act.put, List.setIfInBounds_toArray, List.set_cons_zero, List.set_cons_succ, Nat.reduceAdd])
          refine RelyL.done fun ν w6 hL hF => ?_
          have hbw6 := hbw5.th hL
          clear hF
          go_wp2_with fail
          go_ret
          exact ⟨rfl, hbw6⟩
end Go.Proofs.Ytnelgblmogciiaa
