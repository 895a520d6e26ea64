/- ExprFewer: the walk. -/
import Derived.Test.YtnelgblmogciiaaKLaws
set_option linter.unusedSimpArgs false
set_option linter.unusedVariables false
namespace Go.Proofs.Ytnelgblmogciiaa
open Go.RowKit

theorem keys_fewer (e : LExpr) (x : LKey) (h : x ∈ keysE (foldE e)) : x ∈ keysE e := (mem_keysE e x).2 (reads_fold e x ((mem_keysE _ x).1 h))
theorem mem_take {l : List LKey} {k : Nat} {x : LKey} (hk : k < l.length) : decide (x ∈ l.take (k + 1)) = (decide (x ∈ l.take k) || decide (l[k] = x)) := by
  rw [List.take_succ_eq_append_getElem hk, Bool.eq_iff_iff]
  simp only [decide_eq_true_eq, Bool.or_eq_true, List.mem_append, List.mem_singleton]
  exact ⟨fun h => h.imp id Eq.symm, fun h => h.imp id Eq.symm⟩
set_option maxRecDepth 100000 in
set_option maxHeartbeats 4000000 in
theorem exprFewer_any (e : LExpr) (cs : List Value) (B : Nat) (w : World) (hB : B ≤ w.heap.size) (he : IsExpr B w e cs) (hbk : sizeE e ≤ 1048576) :
    Calls Try.prog 11 #[.agg cs.toArray] w fun r w' => r = .returned (.bool true) ∧ Below w.heap.size w w' := by
  have HZ := fun W (hb' : Below B w W) (hl : B ≤ W.heap.size) => Lib.hid (rsize_any e cs B W hl (he.carry hb'))
  have HF := fun W (hb' : Below B w W) (hl : B ≤ W.heap.size) => Lib.hid (fold_any e cs B W hl (he.carry hb'))
  have HK := fun (hs : sizeE e ≤ 2000) W cf (hx : IsExpr W.heap.size W (foldE e) cf) => Lib.hid (keys_any (foldE e) cf _ W (Nat.le_refl _) hx (by have := readsE_len (foldE e); have := size_fold e; omega))
  have HQ := fun (hs : sizeE e ≤ 2000) W (hb' : Below B w W) (hl : B ≤ W.heap.size) => Lib.hid (rkeys_any e cs B W hl (he.carry hb') (by have := readsE_len e; omega))
  simp only [wrap_small _ (show sizeE e ≤ 1000000000000 by omega)] at HZ
  have HSUB := Lib.hid (keys_fewer e)
  have HKL := Lib.hid (fun hs : sizeE e ≤ 2000 => (show (keysE e).length ≤ 2000 from Nat.le_trans (keys_le e) hs))
  have HLL := Lib.hid (fun hs : sizeE e ≤ 2000 => (show (keysE (foldE e)).length ≤ 2000 from Nat.le_trans (keys_le _) (Nat.le_trans (size_fold e) hs)))
  obtain ⟨ha, ka, Aa, ca, qa, rfl, _⟩ := he.form
  clear qa he hbk
  unfold Hd.cells at HZ HF HQ ⊢
  have hbw0 : Below w.heap.size w (w.alloc (.cells #[.int .i64 ha.kind, .int .i64 ha.n, .int .i64 ha.m, .string ha.name, .int .i64 ha.vk, .int .i64 ha.vn, .string ha.vs, .int .i64 ha.dev, .string ha.cl, .string ha.at_, .slice Aa ka.length ca] 32)) := (Below.refl _ _).al _
  have he0 : Blk (w.alloc (.cells #[.int .i64 ha.kind, .int .i64 ha.n, .int .i64 ha.m, .string ha.name, .int .i64 ha.vk, .int .i64 ha.vn, .string ha.vs, .int .i64 ha.dev, .string ha.cl, .string ha.at_, .slice Aa ka.length ca] 32)) w.heap.size 32 #[.int .i64 ha.kind, .int .i64 ha.n, .int .i64 ha.m, .string ha.name, .int .i64 ha.vk, .int .i64 ha.vn, .string ha.vs, .int .i64 ha.dev, .string ha.cl, .string ha.at_, .slice Aa ka.length ca] := Blk.new _ _ _
  go_enter Try.func11, Try.ntmps11
  go_upto_region 1 with fail
  generalize w.alloc (.cells #[.int .i64 ha.kind, .int .i64 ha.n, .int .i64 ha.m, .string ha.name, .int .i64 ha.vk, .int .i64 ha.vn, .string ha.vs, .int .i64 ha.dev, .string ha.cl, .string ha.at_, .slice Aa ka.length ca] 32) = W0 at *
  have hBw : ∀ W, Lat W0 W → Below B w W ∧ B ≤ W.heap.size := fun W h => ⟨(hbw0.trans (h.mono hbw0.size)).mono hB, by have := h.size; have := hbw0.size; omega⟩
  replace HZ := fun W h => HZ W (hBw W h).1 (hBw W h).2
  replace HF := fun W h => HF W (hBw W h).1 (hBw W h).2
  replace HQ := fun hs W h => HQ hs W (hBw W h).1 (hBw W h).2
  generalize keysE e = KS at *
  generalize keysE (foldE e) = LS at *
  have ce0 := he0.cell
  go_wp2_with fail
  refine (HZ _ (Lat.refl _)).out.mono ?_
  rintro r w1 ⟨rfl, hb1⟩
  have hl1 : Lat W0 w1 := hb1
  have he1 := he0.lat hb1
  have hbw1 := hbw0.th hb1
  clear ce0
  by_cases hs : 2000 < sizeE e
  · have q1 : decide ((2000 : Int) < (sizeE e : Int)) = true := by simp; omega
    generalize (sizeE e : Int) = S at *
    go_wp2_with fail
    refine (lives_any _).mono ?_
    rintro r w3 ⟨rfl, hb3⟩
    go_wp2_with fail
    go_ret
    exact ⟨rfl, hbw1.th hb3⟩
  have q1 : decide ((2000 : Int) < (sizeE e : Int)) = false := by simp; omega
  replace HK := HK (by omega)
  replace HQ := HQ (by omega)
  replace HKL := Lib.hid (HKL.out (by omega))
  replace HLL := Lib.hid (HLL.out (by omega))
  clear hs
  generalize (sizeE e : Int) = S at *
  generalize foldE e = f at *
  have ce1 := he1.cell
  go_wp2_with fail
  refine (HF _ hl1).out.mono ?_
  rintro r w2 ⟨⟨v2, rfl, cs2, rfl, hf2⟩, hb2⟩
  have xf := hf2.toIs
  obtain ⟨hf, kf, Af, cf, qf, rfl, _⟩ := xf.form
  have hl2 : Lat W0 w2 := hl1.trans hb2
  have he2 := he0.lat hl2
  clear hf2 hb1 hl1 he1 ce1 hbw1 hb2
  have HK2 := HK w2 _ xf
  clear xf HK
  simp only [Hd.cells] at HK2 ⊢
  go_wp2_with fail
  refine HK2.out.mono ?_
  rintro r w3 ⟨⟨v3, rfl, hv3⟩, hb3⟩
  have hl3 := hl2.trans hb3
  have he3 := he0.lat hl3
  have ce3 := he3.cell
  obtain ⟨A3, c3, rfl, hr3⟩ := hv3
  clear HK2 hl2 he2 hb3
  go_wp2_with fail
  refine (HQ _ hl3).out.mono ?_
  rintro r w4 ⟨⟨v4, rfl, hv4⟩, hb4⟩
  have hl4 := hl3.trans hb4
  have hr4 := (hr3.carry hb4).mono hb4.size
  obtain ⟨A4, c4, rfl, hq4⟩ := hv4
  have hbw4 := hbw0.th hl4
  clear HQ hl3 he3 ce3 hb4 hr3 HF HZ hBw he0 hl4
  have hll := HLL.out
  have hkl := HKL.out
  clear HLL HKL
  go_wp2_with fail
  go_loopw [5, 6, 7] (fun i _ _ wr => ∃ n : Nat, n ≤ LS.length ∧ i = .int .i64 n ∧ Lat w4 wr) (fun i _ _ _ => LS.length - (intOf i).toNat)
  case atStart => exact ⟨0, Nat.zero_le _, rfl, Lat.refl _⟩
  case round =>
    obtain ⟨n, hnl, rfl, hLn⟩ := hrel
    by_cases hln : n < LS.length
    · obtain ⟨b1, o1, rfl, hb1, hr1⟩ := hr4 (by simpa using (by omega : 0 < LS.length))
      have g1 := (hr1 n (by simpa using hln))
      simp only [List.getElem_map] at g1
      have hmem := HSUB.out LS[n] (List.getElem_mem _)
      clear HSUB hr1
      generalize LS[n] = x at *
      obtain ⟨x1, x2, x3⟩ := x
      change RowAt w4 b1 (o1 + n * 3) [.int .i64 x1, .string x2, .string x3] at g1
      have HMEM := Lib.hid hmem
      clear hmem
      go_wp2_with fail
      go_loopw [6, 7] (fun b i wr => ∃ (k : Nat) (bb : Bool), k ≤ KS.length ∧ i = .int .i64 k ∧ b = .bool bb ∧ Hid (bb = decide ((⟨x1, x2, x3⟩ : LKey) ∈ KS.take k)) ∧ Lat w4 wr) (fun _ i _ => KS.length - (intOf i).toNat)
      case atStart => exact ⟨0, false, Nat.zero_le _, rfl, rfl, Lib.hid (by simp), hLn⟩
      case round =>
        clear hLn
        obtain ⟨k, bb, hkk, rfl, rfl, HB, hLk⟩ := hrel
        by_cases hlk : k < KS.length
        · obtain ⟨b2, o2, rfl, hb2, hr2⟩ := hq4 (by simpa using (by omega : 0 < KS.length))
          have g2 := (hr2 k (by simpa using hlk)).below hLk hb2
          simp only [List.getElem_map] at g2
          replace g1 := g1.below hLk hb1
          have hst := mem_take (x := (⟨x1, x2, x3⟩ : LKey)) hlk
          rw [← HB.out] at hst
          clear hr2 HB
          generalize KS[k] = y at *
          obtain ⟨E, hE⟩ : ∃ E, decide (y = ⟨x1, x2, x3⟩) = E := ⟨_, rfl⟩
          rw [hE] at hst
          obtain ⟨y1, y2, y3⟩ := y
          change RowAt wr b2 (o2 + k * 3) [.int .i64 y1, .string y2, .string y3] at g2
          have HE := Lib.hid hE
          have HST := Lib.hid hst
          clear hE hst
          have hw1 : b1 < wr.heap.size := Nat.lt_of_lt_of_le hb1 hLk.size
          have hw2 : b2 < wr.heap.size := Nat.lt_of_lt_of_le hb2 hLk.size
          go_upto_region 12 with fail
          refine wp_rely (by kernel_rfl) (by kernel_rfl) ?_
          cases bb with
          | true =>
            apply RelyL.val
            · intro ν w' hL hF K hK'
              go_simp
              exact hK'.out _ _ rfl (Lat.refl _)
            simp only [Act.put, List.setIfInBounds_toArray, List.set_cons_zero, List.set_cons_succ, Nat.reduceAdd]
            apply RelyL.val
            · intro ν w' hL hF K hK'
              go_simp
              exact hK'.out _ _ rfl (Lat.refl _)
            simp only [Act.put, List.setIfInBounds_toArray, List.set_cons_zero, List.set_cons_succ, Nat.reduceAdd]
            apply RelyL.val
            · intro ν w' hL hF K hK'
              refine skip_op rfl ?_
              exact hK'.out _ _ rfl (Lat.refl _)
            simp only [Act.put, List.setIfInBounds_toArray, List.set_cons_zero, List.set_cons_succ, Nat.reduceAdd]
            apply RelyL.val
            · intro ν w' hL hF K hK'
              refine skip_op rfl ?_
              exact hK'.out _ _ rfl (Lat.refl _)
            simp only [Act.put, List.setIfInBounds_toArray, List.set_cons_zero, List.set_cons_succ, Nat.reduceAdd]
            apply RelyL.val
            · intro ν w' hL hF K hK'
              refine skip_op rfl ?_
              exact hK'.out _ _ rfl (Lat.refl _)
            simp only [Act.put, List.setIfInBounds_toArray, List.set_cons_zero, List.set_cons_succ, Nat.reduceAdd]
            apply RelyL.val
            · intro ν w' hL hF K hK'
              refine skip_op rfl ?_
              exact hK'.out _ _ rfl (Lat.refl _)
            simp only [Act.put, List.setIfInBounds_toArray, List.set_cons_zero, List.set_cons_succ, Nat.reduceAdd]
            apply RelyL.val
            · intro ν w' hL hF K hK'
              refine skip_op rfl ?_
              exact hK'.out _ _ rfl (Lat.refl _)
            simp only [Act.put, List.setIfInBounds_toArray, List.set_cons_zero, List.set_cons_succ, Nat.reduceAdd]
            apply RelyL.val
            · intro ν w' hL hF K hK'
              refine skip_op rfl ?_
              exact hK'.out _ _ rfl (Lat.refl _)
            simp only [Act.put, List.setIfInBounds_toArray, List.set_cons_zero, List.set_cons_succ, Nat.reduceAdd]
            apply RelyL.val
            · intro ν w' hL hF K hK'
              refine skip_op rfl ?_
              exact hK'.out _ _ rfl (Lat.refl _)
            simp only [Act.put, List.setIfInBounds_toArray, List.set_cons_zero, List.set_cons_succ, Nat.reduceAdd]
            apply RelyL.val
            · intro ν w' hL hF K hK'
              refine skip_op rfl ?_
              exact hK'.out _ _ rfl (Lat.refl _)
            simp only [Act.put, List.setIfInBounds_toArray, List.set_cons_zero, List.set_cons_succ, Nat.reduceAdd]
            apply RelyL.val
            · intro ν w' hL hF K hK'
              refine skip_op rfl ?_
              exact hK'.out _ _ rfl (Lat.refl _)
            simp only [Act.put, List.setIfInBounds_toArray, List.set_cons_zero, List.set_cons_succ, Nat.reduceAdd]
            apply RelyL.val
            · intro ν w' hL hF K hK'
              go_simp
              exact hK'.out _ _ rfl (Lat.refl _)
            simp only [Act.put, List.setIfInBounds_toArray, List.set_cons_zero, List.set_cons_succ, Nat.reduceAdd]
            apply RelyL.val
            · intro ν w' hL hF K hK'
              go_simp
              exact hK'.out _ _ rfl (Lat.refl _)
            simp only [Act.put, List.setIfInBounds_toArray, List.set_cons_zero, List.set_cons_succ, Nat.reduceAdd]
            refine RelyL.done fun ν w5 hL hF => ?_
            have hLk5 := hLk.trans hL
            clear hF g1 g2
            go_wp2_with fail
            go_roundw
            case rel => exact ⟨k + 1, true, hlk, by go_num, rfl, Lib.hid (by rw [HST.out]; rfl), hLk5⟩
            case measure => simp [intOf]; omega
          | false =>
            apply RelyL.val
            · intro ν w' hL hF K hK'
              go_simp
              exact hK'.out _ _ rfl (Lat.refl _)
            simp only [Act.put, List.setIfInBounds_toArray, List.set_cons_zero, List.set_cons_succ, Nat.reduceAdd]
            apply RelyL.val
            · intro ν w' hL hF K hK'
              go_simp
              exact hK'.out _ _ rfl (Lat.refl _)
            simp only [Act.put, List.setIfInBounds_toArray, List.set_cons_zero, List.set_cons_succ, Nat.reduceAdd]
            apply RelyL.val
            · intro ν w' hL hF K hK'
              go_simp
              exact hK'.out _ _ rfl (Lat.refl _)
            simp only [Act.put, List.setIfInBounds_toArray, List.set_cons_zero, List.set_cons_succ, Nat.reduceAdd]
            apply RelyL.val
            · intro ν w' hL hF K hK'
              go_simp
              exact hK'.out _ _ rfl (Lat.refl _)
            simp only [Act.put, List.setIfInBounds_toArray, List.set_cons_zero, List.set_cons_succ, Nat.reduceAdd]
            apply RelyL.val
            · intro ν w' hL hF K hK'
              go_simp
              exact hK'.out _ _ rfl (Lat.refl _)
            simp only [Act.put, List.setIfInBounds_toArray, List.set_cons_zero, List.set_cons_succ, Nat.reduceAdd]
            apply RelyL.val
            · intro ν w' hL hF K hK'
              refine take_op rfl ?_
              refine wp_load_at 29 _ rfl b2 (o2 + k * 3) rfl _ _ (g2.below hL hw2) Try.underlying29 rfl (by kernel_rfl) ?_
              exact hK'.out _ _ rfl (Lat.refl _)
            simp only [Act.put, List.setIfInBounds_toArray, List.set_cons_zero, List.set_cons_succ, Nat.reduceAdd]
            apply RelyL.val
            · intro ν w' hL hF K hK'
              go_simp
              exact hK'.out _ _ rfl (Lat.refl _)
            simp only [Act.put, List.setIfInBounds_toArray, List.set_cons_zero, List.set_cons_succ, Nat.reduceAdd]
            apply RelyL.val
            · intro ν w' hL hF K hK'
              go_simp
              exact hK'.out _ _ rfl (Lat.refl _)
            simp only [Act.put, List.setIfInBounds_toArray, List.set_cons_zero, List.set_cons_succ, Nat.reduceAdd]
            apply RelyL.val
            · intro ν w' hL hF K hK'
              go_simp
              exact hK'.out _ _ rfl (Lat.refl _)
            simp only [Act.put, List.setIfInBounds_toArray, List.set_cons_zero, List.set_cons_succ, Nat.reduceAdd]
            apply RelyL.val
            · intro ν w' hL hF K hK'
              refine take_op rfl ?_
              refine wp_load_at 29 _ rfl b1 (o1 + n * 3) rfl _ _ (g1.below hL hw1) Try.underlying29 rfl (by kernel_rfl) ?_
              exact hK'.out _ _ rfl (Lat.refl _)
            simp only [Act.put, List.setIfInBounds_toArray, List.set_cons_zero, List.set_cons_succ, Nat.reduceAdd]
            apply RelyL.val
            · intro ν w' hL hF K hK'
              refine take_op rfl ?_
              refine wp_eql_key _ _ _ rfl ⟨y1, y2, y3⟩ ⟨x1, x2, x3⟩ rfl rfl HE.out ?_
              exact hK'.out _ _ rfl (Lat.refl _)
            simp only [Act.put, List.setIfInBounds_toArray, List.set_cons_zero, List.set_cons_succ, Nat.reduceAdd]
            apply RelyL.val
            · intro ν w' hL hF K hK'
              go_simp
              exact hK'.out _ _ rfl (Lat.refl _)
            simp only [Act.put, List.setIfInBounds_toArray, List.set_cons_zero, List.set_cons_succ, Nat.reduceAdd]
            apply RelyL.val
            · intro ν w' hL hF K hK'
              go_simp
              exact hK'.out _ _ rfl (Lat.refl _)
            simp only [Act.put, List.setIfInBounds_toArray, List.set_cons_zero, List.set_cons_succ, Nat.reduceAdd]
            refine RelyL.done fun ν w5 hL hF => ?_
            have hLk5 := hLk.trans hL
            clear hF g1 g2
            go_wp2_with fail
            go_roundw
            case rel => exact ⟨k + 1, E, hlk, by go_num, rfl, Lib.hid (by rw [HST.out]; rfl), hLk5⟩
            case measure => simp [intOf]; omega
        · have hb := HB.out
          rw [List.take_of_length_le (by omega), decide_eq_true HMEM.out] at hb
          subst hb
          clear HB
          go_wp2_with fail
          go_roundw
          case rel => exact ⟨n + 1, hln, by go_num, hLk⟩
          case measure => simp [intOf]; omega
    · go_wp2_with fail
      refine (lives_any _).mono ?_
      rintro r w5 ⟨rfl, hb5⟩
      go_wp2_with fail
      go_ret
      exact ⟨rfl, hbw4.th (hLn.trans hb5)⟩
end Go.Proofs.Ytnelgblmogciiaa
