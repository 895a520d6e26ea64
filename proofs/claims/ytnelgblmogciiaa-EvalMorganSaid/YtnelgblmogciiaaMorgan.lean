/- EvalMorgan: the walk. -/
import Derived.Test.YtnelgblmogciiaaSame
import Derived.Test.YtnelgblmogciiaaSize
import Derived.Test.YtnelgblmogciiaaAwake2
import Derived.Test.YtnelgblmogciiaaPlain
import Derived.Test.YtnelgblmogciiaaEx
set_option linter.unusedSimpArgs false
set_option linter.unusedVariables false
namespace Go.Proofs.Ytnelgblmogciiaa
open Go.RowKit

set_option maxRecDepth 100000 in
set_option maxHeartbeats 8000000 in
theorem evalMorgan_any (V : LView) (a b : LExpr) (vc csa csb : List Value) (B : Nat) (w : World) (hB : B ≤ w.heap.size) (hv : IsView B w V vc) (hea : IsExpr B w a csa) (heb : IsExpr B w b csb) :
    Calls Try.prog 4 #[.agg vc.toArray, .agg csa.toArray, .agg csb.toArray] w fun r w' => r = .returned (.bool true) ∧ Below w.heap.size w w' := by
  have HSa := fun W (hb' : Below B w W) (hl : B ≤ W.heap.size) => Lib.hid (smallB_any V a vc csa B W hl (hv.carry hb') (hea.carry hb'))
  have HSb := fun W (hb' : Below B w W) (hl : B ≤ W.heap.size) => Lib.hid (smallB_any V b vc csb B W hl (hv.carry hb') (heb.carry hb'))
  have HNa := fun W (hb' : Below B w W) (hl : B ≤ W.heap.size) => Lib.hid (nodesTo_any a csa B 250 W hl (hea.carry hb') (by omega) (by omega))
  have HNb := fun W (hb' : Below B w W) (hl : B ≤ W.heap.size) => Lib.hid (nodesTo_any b csb B 250 W hl (heb.carry hb') (by omega) (by omega))
  have HCa := fun W (hb' : Below B w W) (hl : B ≤ W.heap.size) => Lib.hid (rcheckE_any a csa B W hl (hea.carry hb'))
  have HCb := fun W (hb' : Below B w W) (hl : B ≤ W.heap.size) => Lib.hid (rcheckE_any b csb B W hl (heb.carry hb'))
  have HDa := fun (hd : depthE a ≤ 1000) W (hb' : Below B w W) (hl : B ≤ W.heap.size) => Lib.hid (rdepth_any a csa B W hl (hea.carry hb') hd)
  have HDb := fun (hd : depthE b ≤ 1000) W (hb' : Below B w W) (hl : B ≤ W.heap.size) => Lib.hid (rdepth_any b csb B W hl (heb.carry hb') hd)
  have HX := fun W x y cx cy (hb' : Below B w W) (hl : B ≤ W.heap.size) hx hy => Lib.hid (same_any V x y vc cx cy W.heap.size W (Nat.le_refl _) ((hv.carry hb').mono hl) hx hy)
  have hka := checkE_iff a
  have hkb := checkE_iff b
  have hmor := Lib.hid (morgan V a b)
  obtain ⟨ha, ka, Aa, ca, qa, rfl, _⟩ := hea.form
  obtain ⟨hb, kb, Ab, cb, qb, rfl, _⟩ := heb.form
  obtain ⟨IA, ic, MA, mc, rfl, _⟩ := hv
  clear qa qb
  have hbw0 : Below w.heap.size w (((w.alloc (.cells #[.slice IA V.items.length ic, .string V.mode, .int .i64 V.minute, .slice MA V.members.length mc] 25)).alloc (.cells #[.int .i64 ha.kind, .int .i64 ha.n, .int .i64 ha.m, .string ha.name, .int .i64 ha.vk, .int .i64 ha.vn, .string ha.vs, .int .i64 ha.dev, .string ha.cl, .string ha.at_, .slice Aa ka.length ca] 32)).alloc (.cells #[.int .i64 hb.kind, .int .i64 hb.n, .int .i64 hb.m, .string hb.name, .int .i64 hb.vk, .int .i64 hb.vn, .string hb.vs, .int .i64 hb.dev, .string hb.cl, .string hb.at_, .slice Ab kb.length cb] 32)) := (((Below.refl _ _).al _).al _).al _
  have hv0 : Blk (((w.alloc (.cells #[.slice IA V.items.length ic, .string V.mode, .int .i64 V.minute, .slice MA V.members.length mc] 25)).alloc (.cells #[.int .i64 ha.kind, .int .i64 ha.n, .int .i64 ha.m, .string ha.name, .int .i64 ha.vk, .int .i64 ha.vn, .string ha.vs, .int .i64 ha.dev, .string ha.cl, .string ha.at_, .slice Aa ka.length ca] 32)).alloc (.cells #[.int .i64 hb.kind, .int .i64 hb.n, .int .i64 hb.m, .string hb.name, .int .i64 hb.vk, .int .i64 hb.vn, .string hb.vs, .int .i64 hb.dev, .string hb.cl, .string hb.at_, .slice Ab kb.length cb] 32)) w.heap.size 25 #[.slice IA V.items.length ic, .string V.mode, .int .i64 V.minute, .slice MA V.members.length mc] := ((Blk.new _ _ _).alloc _).alloc _
  have ha0 : Blk (((w.alloc (.cells #[.slice IA V.items.length ic, .string V.mode, .int .i64 V.minute, .slice MA V.members.length mc] 25)).alloc (.cells #[.int .i64 ha.kind, .int .i64 ha.n, .int .i64 ha.m, .string ha.name, .int .i64 ha.vk, .int .i64 ha.vn, .string ha.vs, .int .i64 ha.dev, .string ha.cl, .string ha.at_, .slice Aa ka.length ca] 32)).alloc (.cells #[.int .i64 hb.kind, .int .i64 hb.n, .int .i64 hb.m, .string hb.name, .int .i64 hb.vk, .int .i64 hb.vn, .string hb.vs, .int .i64 hb.dev, .string hb.cl, .string hb.at_, .slice Ab kb.length cb] 32)) (w.heap.size + 1) 32 #[.int .i64 ha.kind, .int .i64 ha.n, .int .i64 ha.m, .string ha.name, .int .i64 ha.vk, .int .i64 ha.vn, .string ha.vs, .int .i64 ha.dev, .string ha.cl, .string ha.at_, .slice Aa ka.length ca] := (Blk.at1 _ _ _ _).alloc _
  have hb0 : Blk (((w.alloc (.cells #[.slice IA V.items.length ic, .string V.mode, .int .i64 V.minute, .slice MA V.members.length mc] 25)).alloc (.cells #[.int .i64 ha.kind, .int .i64 ha.n, .int .i64 ha.m, .string ha.name, .int .i64 ha.vk, .int .i64 ha.vn, .string ha.vs, .int .i64 ha.dev, .string ha.cl, .string ha.at_, .slice Aa ka.length ca] 32)).alloc (.cells #[.int .i64 hb.kind, .int .i64 hb.n, .int .i64 hb.m, .string hb.name, .int .i64 hb.vk, .int .i64 hb.vn, .string hb.vs, .int .i64 hb.dev, .string hb.cl, .string hb.at_, .slice Ab kb.length cb] 32)) (w.heap.size + 1 + 1) 32 #[.int .i64 hb.kind, .int .i64 hb.n, .int .i64 hb.m, .string hb.name, .int .i64 hb.vk, .int .i64 hb.vn, .string hb.vs, .int .i64 hb.dev, .string hb.cl, .string hb.at_, .slice Ab kb.length cb] := Blk.at2 _ _ _ _ _
  have hl0 : w.heap.size + 3 = (((w.alloc (.cells #[.slice IA V.items.length ic, .string V.mode, .int .i64 V.minute, .slice MA V.members.length mc] 25)).alloc (.cells #[.int .i64 ha.kind, .int .i64 ha.n, .int .i64 ha.m, .string ha.name, .int .i64 ha.vk, .int .i64 ha.vn, .string ha.vs, .int .i64 ha.dev, .string ha.cl, .string ha.at_, .slice Aa ka.length ca] 32)).alloc (.cells #[.int .i64 hb.kind, .int .i64 hb.n, .int .i64 hb.m, .string hb.name, .int .i64 hb.vk, .int .i64 hb.vn, .string hb.vs, .int .i64 hb.dev, .string hb.cl, .string hb.at_, .slice Ab kb.length cb] 32)).heap.size := by simp
  unfold Hd.cells at HSa HSb HNa HNb HCa HCb HDa HDb ⊢
  go_enter Try.func4, Try.ntmps4
  go_upto_region 1 with fail
  generalize (((w.alloc (.cells #[.slice IA V.items.length ic, .string V.mode, .int .i64 V.minute, .slice MA V.members.length mc] 25)).alloc (.cells #[.int .i64 ha.kind, .int .i64 ha.n, .int .i64 ha.m, .string ha.name, .int .i64 ha.vk, .int .i64 ha.vn, .string ha.vs, .int .i64 ha.dev, .string ha.cl, .string ha.at_, .slice Aa ka.length ca] 32)).alloc (.cells #[.int .i64 hb.kind, .int .i64 hb.n, .int .i64 hb.m, .string hb.name, .int .i64 hb.vk, .int .i64 hb.vn, .string hb.vs, .int .i64 hb.dev, .string hb.cl, .string hb.at_, .slice Ab kb.length cb] 32)) = W0 at *
  have hBw : ∀ W, Lat W0 W → Below B w W ∧ B ≤ W.heap.size := fun W h => ⟨(hbw0.trans (h.mono (by omega))).mono hB, by have := h.size; omega⟩
  replace HSa := fun W h => HSa W (hBw W h).1 (hBw W h).2
  replace HSb := fun W h => HSb W (hBw W h).1 (hBw W h).2
  replace HNa := fun W h => HNa W (hBw W h).1 (hBw W h).2
  replace HNb := fun W h => HNb W (hBw W h).1 (hBw W h).2
  replace HCa := fun W h => HCa W (hBw W h).1 (hBw W h).2
  replace HCb := fun W h => HCb W (hBw W h).1 (hBw W h).2
  replace HDa := fun hd W h => HDa hd W (hBw W h).1 (hBw W h).2
  replace HDb := fun hd W h => HDb hd W (hBw W h).1 (hBw W h).2
  rcases Bool.eq_false_or_eq_true (smallB V a) with hsa | hsa
  · rcases Bool.eq_false_or_eq_true (smallB V b) with hsb | hsb
    · have HZ : Hid (sizeE a ≤ 250 ∧ sizeE b ≤ 250) := Lib.hid (by
        simp only [smallB, Bool.and_eq_true, decide_eq_true_eq] at hsa hsb
        exact ⟨hsa.2, hsb.2⟩)
      simp only [hsa] at HSa
      simp only [hsb] at HSb
      clear hsa hsb
      have hz1 : sizeE a ≤ 250 := HZ.out.1
      have hz2 : sizeE b ≤ 250 := HZ.out.2
      have hna : (min (sizeE a : Int) (250 + 1)) = sizeE a := by omega
      have hnb : (min (sizeE b : Int) (250 + 1)) = sizeE b := by omega
      rw [hna] at HNa
      rw [hnb] at HNb
      clear hna hnb HZ
      generalize sizeE a = SA at *
      generalize sizeE b = SB at *
      by_cases hn : SA + SB ≤ 150
      · have q0 : decide ((150 : Int) < (SA : Int) + SB) = false := by simp; omega
        by_cases hca : checkE a = 0
        · have Hca := Lib.hid hca
          have hda := (hka.1 hca).2.1
          simp only [hca] at HCa
          replace HDa := HDa (by omega)
          clear hca hka
          by_cases hcb : checkE b = 0
          · have Hcb := Lib.hid hcb
            have hdb := (hkb.1 hcb).2.1
            simp only [hcb] at HCb
            replace HDb := HDb (by omega)
            clear hcb hkb
            generalize depthE a = DA at *
            generalize depthE b = DB at *
            by_cases h20 : DA ≤ 20
            · have q1 : decide ((20 : Int) < DA) = false := by simp; omega
              by_cases h21 : DB ≤ 20
              · have q2 : decide ((20 : Int) < DB) = false := by simp; omega
                have HOa := ((checkE_iff _).1 Hca.out).1
                have HOb := ((checkE_iff _).1 Hcb.out).1
                have HM := Lib.hid (hmor.out Hca.out Hcb.out h20 h21 hn)
                have hwr : IntKind.i64.wrap ((SA : Int) + SB) = SA + SB := IntWalk.i64_in _ (by omega)
                refine wp_rely (by kernel_rfl) (by kernel_rfl) ?_
                repeat
                  (apply RelyL.val
                   focus (intro ν w' hL hF K hK; first
                     | (refine skip_op rfl ?_; exact hK.out _ _ rfl (Lat.refl _))
                     | (refine take_op rfl ?_; first | (refine wp_load_blk rfl rfl (ha0.lat hL) Try.underlying32 rfl (by kernel_rfl : (Try.prog.info? 32).map (·.size) = some 11) rfl ?_; exact hK.out _ _ rfl (Lat.refl _)) | (refine wp_load_blk rfl rfl (hb0.lat hL) Try.underlying32 rfl (by kernel_rfl : (Try.prog.info? 32).map (·.size) = some 11) rfl ?_; exact hK.out _ _ rfl (Lat.refl _)) | (refine wp_load_blk rfl rfl (hv0.lat hL) Try.underlying25 rfl (by kernel_rfl : (Try.prog.info? 25).map (·.size) = some 4) rfl ?_; exact hK.out _ _ rfl (Lat.refl _)))
                     | (go_simp; first | exact hK.out _ _ rfl (Lat.refl _) | (go_at_call 17; first | ((with_reducible refine ((HSa _ hL).out).mono ?_); rintro r w'' ⟨rfl, hbp⟩; exact hK.out _ _ rfl hbp) | ((with_reducible refine ((HSb _ hL).out).mono ?_); rintro r w'' ⟨rfl, hbp⟩; exact hK.out _ _ rfl hbp)) | (go_at_call 23; first | ((with_reducible refine ((HNa _ hL).out).mono ?_); rintro r w'' ⟨rfl, hbp⟩; exact hK.out _ _ rfl hbp) | ((with_reducible refine ((HNb _ hL).out).mono ?_); rintro r w'' ⟨rfl, hbp⟩; exact hK.out _ _ rfl hbp)) | (go_at_call 24; first | ((with_reducible refine ((HCa _ hL).out).mono ?_); rintro r w'' ⟨rfl, hbp⟩; exact hK.out _ _ rfl hbp) | ((with_reducible refine ((HCb _ hL).out).mono ?_); rintro r w'' ⟨rfl, hbp⟩; exact hK.out _ _ rfl hbp)) | (go_at_call 25; first | ((with_reducible refine ((HDa _ hL).out).mono ?_); rintro r w'' ⟨rfl, hbp⟩; exact hK.out _ _ rfl hbp) | ((with_reducible refine ((HDb _ hL).out).mono ?_); rintro r w'' ⟨rfl, hbp⟩; exact hK.out _ _ rfl hbp))))
                   simp only [Act.put, List.setIfInBounds_toArray, List.set_cons_zero, List.set_cons_succ, Nat.reduceAdd])
                refine RelyL.done fun ν w1 hL hF => ?_
                clear hwr HSa HSb HNa HNb HCa HCb HDa HDb hF hmor Hca Hcb q0 q1 q2
                have hbw1 := hbw0.trans (hL.mono (by omega))
                have ha1 := ha0.lat hL
                have hb1 := hb0.lat hL
                have hv1 := hv0.lat hL
                have xa1 := (hea.carry (hbw1.mono hB)).mono (Nat.le_trans hB hbw1.size)
                have xb1 := (heb.carry (hbw1.mono hB)).mono (Nat.le_trans hB hbw1.size)
                clear ha0 hb0 hv0 hBw hea heb
                have ca1 := ha1.cell
                have cb1 := hb1.cell
                go_wp2_with fail
                refine (lnode_any _ _ _ _ _).mono ?_
                rintro r w2 ⟨rfl, hb2⟩
                have hl12 := (Lat.al w1 _).trans hb2
                have x1 := (IsSl.two (c0 := ha.cells (.slice Aa ka.length ca)) (c1 := hb.cells (.slice Ab kb.length cb)) 2 ((Blk.new w1 32 _).below hb2) (xa1.lat (Nat.le_refl _) hl12) (xb1.lat (Nat.le_refl _) hl12)).node (bareH_ok (n := 7) (by unfold I64; omega))
                have ha2 := ha1.lat hl12
                have hb2' := hb1.lat hl12
                have hv2 := hv1.lat hl12
                have xa2 := xa1.lat (Nat.le_refl _) hl12
                have xb2 := xb1.lat (Nat.le_refl _) hl12
                have hbw2 := hbw1.th hl12
                clear ha1 hb1 hv1 ca1 cb1 hb2 xa1 xb1 hl12 hL
                generalize w1.heap.size = g1 at *
                simp only [Hd.cells, bareH, noStr] at x1 ⊢
                go_wp2_with fail
                refine (lnode_any _ _ _ _ _).mono ?_
                rintro r w3 ⟨rfl, hb3⟩
                have hl23 := (Lat.al w2 _).trans hb3
                have x2 := (IsSl.one 1 ((Blk.new w2 32 _).below hb3) (x1.lat (Nat.le_refl _) hl23)).node (bareH_ok (n := 6) (by unfold I64; omega))
                have ha3 := ha2.lat hl23
                have hb3' := hb2'.lat hl23
                have hv3 := hv2.lat hl23
                have xa3 := xa2.lat (Nat.le_refl _) hl23
                have xb3 := xb2.lat (Nat.le_refl _) hl23
                have hbw3 := hbw2.th hl23
                clear ha2 hb2' hv2 xa2 xb2 hb3 x1 hl23
                generalize w2.heap.size = g2 at *
                simp only [Hd.cells, bareH, noStr] at x2 ⊢
                go_upto_region 4 with fail
                have hx4 := Blk.new w3 32 #[.int .i64 6, .int .i64 0, .int .i64 0, .string { data := #[] }, .int .i64 0, .int .i64 0, .string { data := #[] }, .int .i64 0, .string { data := #[] }, .string { data := #[] }, .slice (some ⟨g2, 0, none⟩) 1 1]
                have ha4 := ha3.alloc (.cells #[.int .i64 6, .int .i64 0, .int .i64 0, .string { data := #[] }, .int .i64 0, .int .i64 0, .string { data := #[] }, .int .i64 0, .string { data := #[] }, .string { data := #[] }, .slice (some ⟨g2, 0, none⟩) 1 1] 32)
                have hb4 := hb3'.alloc (.cells #[.int .i64 6, .int .i64 0, .int .i64 0, .string { data := #[] }, .int .i64 0, .int .i64 0, .string { data := #[] }, .int .i64 0, .string { data := #[] }, .string { data := #[] }, .slice (some ⟨g2, 0, none⟩) 1 1] 32)
                have hv4 := hv3.alloc (.cells #[.int .i64 6, .int .i64 0, .int .i64 0, .string { data := #[] }, .int .i64 0, .int .i64 0, .string { data := #[] }, .int .i64 0, .string { data := #[] }, .string { data := #[] }, .slice (some ⟨g2, 0, none⟩) 1 1] 32)
                have xa4 := xa3.lat (Nat.le_refl _) (Lat.al w3 (.cells #[.int .i64 6, .int .i64 0, .int .i64 0, .string { data := #[] }, .int .i64 0, .int .i64 0, .string { data := #[] }, .int .i64 0, .string { data := #[] }, .string { data := #[] }, .slice (some ⟨g2, 0, none⟩) 1 1] 32))
                have xb4 := xb3.lat (Nat.le_refl _) (Lat.al w3 (.cells #[.int .i64 6, .int .i64 0, .int .i64 0, .string { data := #[] }, .int .i64 0, .int .i64 0, .string { data := #[] }, .int .i64 0, .string { data := #[] }, .string { data := #[] }, .slice (some ⟨g2, 0, none⟩) 1 1] 32))
                have x24 := x2.lat (Nat.le_refl _) (Lat.al w3 (.cells #[.int .i64 6, .int .i64 0, .int .i64 0, .string { data := #[] }, .int .i64 0, .int .i64 0, .string { data := #[] }, .int .i64 0, .string { data := #[] }, .string { data := #[] }, .slice (some ⟨g2, 0, none⟩) 1 1] 32))
                have hbw4 := hbw3.al (.cells #[.int .i64 6, .int .i64 0, .int .i64 0, .string { data := #[] }, .int .i64 0, .int .i64 0, .string { data := #[] }, .int .i64 0, .string { data := #[] }, .string { data := #[] }, .slice (some ⟨g2, 0, none⟩) 1 1] 32)
                clear ha3 hb3' hv3 xa3 xb3 x2 hbw3
                generalize w3.alloc (.cells #[.int .i64 6, .int .i64 0, .int .i64 0, .string { data := #[] }, .int .i64 0, .int .i64 0, .string { data := #[] }, .int .i64 0, .string { data := #[] }, .string { data := #[] }, .slice (some ⟨g2, 0, none⟩) 1 1] 32) = W4 at *
                generalize w3.heap.size = g3 at *
                refine wp_rely_last (n := 9) (by kernel_rfl) (by kernel_rfl) rfl (by kernel_rfl) ?_
                simp only [List.take_succ_cons, List.take_zero]
                apply RelyL.val
                · intro ν w' hL hF K hK
                  refine take_op rfl ?_
                  refine wp_load_blk rfl rfl (ha4.lat hL) Try.underlying32 rfl (by kernel_rfl : (Try.prog.info? 32).map (·.size) = some 11) rfl ?_
                  exact hK.out _ _ rfl (Lat.refl _)
                simp only [Act.put, List.setIfInBounds_toArray, List.set_cons_zero, List.set_cons_succ, Nat.reduceAdd]
                refine RelyL.law (IsSl [a]) (fun v w1 w2 hl h => IsSl.lat h hl) (fun ν w' hL hF K hK => ?_) ?_
                · go_simp
                  exact hK.out _ _ _ rfl (IsSl.one (c0 := ha.cells (.slice Aa ka.length ca)) _ (Blk.new _ _ _) (xa4.lat (Nat.le_refl _) (hL.trans (Lat.al _ _)))) (Lat.al _ _)
                simp only [Act.put, List.setIfInBounds_toArray, List.set_cons_zero, List.set_cons_succ, Nat.reduceAdd]
                refine RelyL.law (IsEx (.mk (bareH 6) [a])) (fun v w1 w2 hl h => IsEx.lat h hl) (fun ν w' hL hF K hK => ?_) ?_
                · have h1 := hF.get 0 rfl (by kernel_rfl)
                  dsimp only at h1
                  generalize ν 1 = x1 at *
                  obtain ⟨A1, c1, rfl⟩ := h1.form
                  clear hF
                  go_simp
                  go_at_call 26
                  refine (lnode_any _ _ _ _ _).mono ?_
                  rintro r w'' ⟨rfl, hbp⟩
                  exact hK.out _ _ _ rfl (IsEx.of_form (h1.lat hbp) (bareH_ok (by unfold I64; omega))) hbp
                simp only [Act.put, List.setIfInBounds_toArray, List.set_cons_zero, List.set_cons_succ, Nat.reduceAdd]
                apply RelyL.val
                · intro ν w' hL hF K hK
                  refine take_op rfl ?_
                  refine wp_load_blk rfl rfl (hb4.lat hL) Try.underlying32 rfl (by kernel_rfl : (Try.prog.info? 32).map (·.size) = some 11) rfl ?_
                  exact hK.out _ _ rfl (Lat.refl _)
                simp only [Act.put, List.setIfInBounds_toArray, List.set_cons_zero, List.set_cons_succ, Nat.reduceAdd]
                refine RelyL.law (IsSl [b]) (fun v w1 w2 hl h => IsSl.lat h hl) (fun ν w' hL hF K hK => ?_) ?_
                · go_simp
                  exact hK.out _ _ _ rfl (IsSl.one (c0 := hb.cells (.slice Ab kb.length cb)) _ (Blk.new _ _ _) (xb4.lat (Nat.le_refl _) (hL.trans (Lat.al _ _)))) (Lat.al _ _)
                simp only [Act.put, List.setIfInBounds_toArray, List.set_cons_zero, List.set_cons_succ, Nat.reduceAdd]
                refine RelyL.law (IsEx (.mk (bareH 6) [b])) (fun v w1 w2 hl h => IsEx.lat h hl) (fun ν w' hL hF K hK => ?_) ?_
                · have h1 := hF.get 0 rfl (by kernel_rfl)
                  dsimp only at h1
                  generalize ν 4 = x1 at *
                  obtain ⟨A1, c1, rfl⟩ := h1.form
                  clear hF
                  go_simp
                  go_at_call 26
                  refine (lnode_any _ _ _ _ _).mono ?_
                  rintro r w'' ⟨rfl, hbp⟩
                  exact hK.out _ _ _ rfl (IsEx.of_form (h1.lat hbp) (bareH_ok (by unfold I64; omega))) hbp
                simp only [Act.put, List.setIfInBounds_toArray, List.set_cons_zero, List.set_cons_succ, Nat.reduceAdd]
                refine RelyL.law (IsSl [.mk (bareH 6) [a], .mk (bareH 6) [b]]) (fun v w1 w2 hl h => IsSl.lat h hl) (fun ν w' hL hF K hK => ?_) ?_
                · have h2 := hF.get 2 rfl (by kernel_rfl)
                  have h5 := hF.get 0 rfl (by kernel_rfl)
                  dsimp only at h2 h5
                  generalize ν 2 = x2 at *
                  generalize ν 5 = x5 at *
                  obtain ⟨A2, c2, rfl, s2, y2⟩ := h2.opened
                  obtain ⟨A5, c5, rfl, s5, y5⟩ := h5.opened
                  clear h2 h5 hF
                  simp only [Hd.cells, bareH, noStr] at y2 y5 hK ⊢
                  go_simp
                  exact hK.out _ _ _ rfl (IsSl.two _ (Blk.new _ _ _) (y2.lat (Nat.le_refl _) (Lat.al _ _)) (y5.lat (Nat.le_refl _) (Lat.al _ _))) (Lat.al _ _)
                simp only [Act.put, List.setIfInBounds_toArray, List.set_cons_zero, List.set_cons_succ, Nat.reduceAdd]
                refine RelyL.law (IsEx (.mk (bareH 8) [.mk (bareH 6) [a], .mk (bareH 6) [b]])) (fun v w1 w2 hl h => IsEx.lat h hl) (fun ν w' hL hF K hK => ?_) ?_
                · have h1 := hF.get 0 rfl (by kernel_rfl)
                  dsimp only at h1
                  generalize ν 6 = x1 at *
                  obtain ⟨A1, c1, rfl⟩ := h1.form
                  clear hF
                  go_simp
                  go_at_call 26
                  refine (lnode_any _ _ _ _ _).mono ?_
                  rintro r w'' ⟨rfl, hbp⟩
                  exact hK.out _ _ _ rfl (IsEx.of_form (h1.lat hbp) (bareH_ok (by unfold I64; omega))) hbp
                simp only [Act.put, List.setIfInBounds_toArray, List.set_cons_zero, List.set_cons_succ, Nat.reduceAdd]
                refine RelyL.law (fun v w => ∃ g, v = .pointer (some ⟨g, 0, none⟩) ∧ W4.heap.size ≤ g ∧ Blk w g 32 zero11) (fun v w1 w2 hl h => by obtain ⟨g, h1, h2, h3⟩ := h; exact ⟨g, h1, h2, h3.lat hl⟩) (fun ν w' hL hF K hK => ?_) ?_
                · go_simp
                  exact hK.out _ _ _ rfl ⟨_, rfl, hL.size, Blk.new _ _ _⟩ (Lat.al _ _)
                simp only [Act.put, List.setIfInBounds_toArray, List.set_cons_zero, List.set_cons_succ, Nat.reduceAdd]
                refine RelyL.done fun ν w5 hL hF => ?_
                have h7 := hF.get 1 rfl
                have h8 := hF.get 0 rfl
                dsimp only at h7 h8
                generalize ν 7 = x7 at *
                generalize ν 8 = x8 at *
                obtain ⟨A7, c7, rfl, s7, y7⟩ := h7.opened
                obtain ⟨g8, rfl, hg8, hx8⟩ := h8
                clear h7 hF s7
                have y6 := sep_zero hx8 ((bareH 8).cells (.slice A7 2 c7)).toArray y7 (by
                  intro k hk
                  simp only [LExpr.kids, List.mem_cons, List.not_mem_nil, or_false] at hk
                  rcases hk with rfl | rfl
                  · rw [okE]; exact ⟨bare6, fun k hk => by simp only [List.mem_cons, List.not_mem_nil, or_false] at hk; subst hk; exact HOa⟩
                  · rw [okE]; exact ⟨bare6, fun k hk => by simp only [List.mem_cons, List.not_mem_nil, or_false] at hk; subst hk; exact HOb⟩)
                have b56 : Below W4.heap.size w5 (w5.setRow g8 ((bareH 8).cells (.slice A7 2 c7)).toArray) := lat_setRow ((bareH 8).cells (.slice A7 2 c7)).toArray hg8
                have b46 : Below W4.heap.size W4 (w5.setRow g8 ((bareH 8).cells (.slice A7 2 c7)).toArray) := Below.trans hL b56
                have z6 := (x24.carry b46).mono b46.size
                have hx6 := (hx4.lat hL).apart ((bareH 8).cells (.slice A7 2 c7)).toArray (g' := g8) (by have := hx4.lt; omega)
                have hv6 := (hv4.lat hL).apart ((bareH 8).cells (.slice A7 2 c7)).toArray (g' := g8) (by have := hv4.lt; omega)
                have hg6 := hx8.setRow ((bareH 8).cells (.slice A7 2 c7)).toArray
                have hbw6 := hbw4.trans (b46.mono hbw4.size)
                have y6' := y6.mono (b56.size)
                clear y6 y7 x24 hx4 hv4 hbw4 b46 b56 ha4 hb4 xa4 xb4
                refine wpOp_step rfl (fun K hK => ?_)
                refine take_op rfl ?_
                refine wp_store_row 32 _ _ rfl g8 _ rfl rfl 32 _ hx8 (by kernel_rfl : (Try.prog.info? 32).map (·.size) = some 11) rfl (cells_one _ _ _ _) ?_
                refine hK _ _ ?_
                generalize w5.setRow g8 ((bareH 8).cells (.slice A7 2 c7)).toArray = W6 at *
                have HC := HX W6 (.mk (bareH 6) [.mk (bareH 7) [a, b]]) (.mk (bareH 8) [.mk (bareH 6) [a], .mk (bareH 6) [b]]) _ _ (hbw6.mono hB) (Nat.le_trans hB hbw6.size) z6 y6'
                rw [HM.out, sameB_self] at HC
                simp only [Hd.cells, bareH, noStr, List.length_cons, List.length_nil, Nat.reduceAdd] at hg6 HC ⊢
                have cx6 := hx6.cell
                have cg6 := hg6.cell
                have cv6 := hv6.cell
                clear HX HM hx6 hg6 hv6 z6 y6' hx8 hg8 hL HOa HOb
                go_wp2_with fail
                refine HC.out.mono ?_
                rintro r w7 ⟨rfl, hb7⟩
                clear HC
                go_wp2_with fail
                refine (awake_any _).mono ?_
                rintro r w8 ⟨rfl, hb8⟩
                go_wp2_with fail
                go_ret
                exact ⟨rfl, (hbw6.th hb7).th hb8⟩
              · have q2 : decide ((20 : Int) < DB) = true := by simp; omega
                have hwr : IntKind.i64.wrap ((SA : Int) + SB) = SA + SB := IntWalk.i64_in _ (by omega)
                refine wp_rely (by kernel_rfl) (by kernel_rfl) ?_
                repeat
                  (apply RelyL.val
                   focus (intro ν w' hL hF K hK; first
                     | (refine skip_op rfl ?_; exact hK.out _ _ rfl (Lat.refl _))
                     | (refine take_op rfl ?_; first | (refine wp_load_blk rfl rfl (ha0.lat hL) Try.underlying32 rfl (by kernel_rfl : (Try.prog.info? 32).map (·.size) = some 11) rfl ?_; exact hK.out _ _ rfl (Lat.refl _)) | (refine wp_load_blk rfl rfl (hb0.lat hL) Try.underlying32 rfl (by kernel_rfl : (Try.prog.info? 32).map (·.size) = some 11) rfl ?_; exact hK.out _ _ rfl (Lat.refl _)) | (refine wp_load_blk rfl rfl (hv0.lat hL) Try.underlying25 rfl (by kernel_rfl : (Try.prog.info? 25).map (·.size) = some 4) rfl ?_; exact hK.out _ _ rfl (Lat.refl _)))
                     | (go_simp; first | exact hK.out _ _ rfl (Lat.refl _) | (go_at_call 17; first | ((with_reducible refine ((HSa _ hL).out).mono ?_); rintro r w'' ⟨rfl, hbp⟩; exact hK.out _ _ rfl hbp) | ((with_reducible refine ((HSb _ hL).out).mono ?_); rintro r w'' ⟨rfl, hbp⟩; exact hK.out _ _ rfl hbp)) | (go_at_call 23; first | ((with_reducible refine ((HNa _ hL).out).mono ?_); rintro r w'' ⟨rfl, hbp⟩; exact hK.out _ _ rfl hbp) | ((with_reducible refine ((HNb _ hL).out).mono ?_); rintro r w'' ⟨rfl, hbp⟩; exact hK.out _ _ rfl hbp)) | (go_at_call 24; first | ((with_reducible refine ((HCa _ hL).out).mono ?_); rintro r w'' ⟨rfl, hbp⟩; exact hK.out _ _ rfl hbp) | ((with_reducible refine ((HCb _ hL).out).mono ?_); rintro r w'' ⟨rfl, hbp⟩; exact hK.out _ _ rfl hbp)) | (go_at_call 25; first | ((with_reducible refine ((HDa _ hL).out).mono ?_); rintro r w'' ⟨rfl, hbp⟩; exact hK.out _ _ rfl hbp) | ((with_reducible refine ((HDb _ hL).out).mono ?_); rintro r w'' ⟨rfl, hbp⟩; exact hK.out _ _ rfl hbp))))
                   simp only [Act.put, List.setIfInBounds_toArray, List.set_cons_zero, List.set_cons_succ, Nat.reduceAdd])
                refine RelyL.done fun ν w1 hL hF => ?_
                clear hwr
                have hB2 := hbw0.trans (hL.mono (by omega))
                go_wp2_with fail
                refine (awake_any _).mono ?_
                rintro r w3 ⟨rfl, hb3⟩
                go_wp2_with fail
                go_ret
                exact ⟨rfl, hB2.th hb3⟩
            · have q1 : decide ((20 : Int) < DA) = true := by simp; omega
              have hwr : IntKind.i64.wrap ((SA : Int) + SB) = SA + SB := IntWalk.i64_in _ (by omega)
              refine wp_rely (by kernel_rfl) (by kernel_rfl) ?_
              repeat
                (apply RelyL.val
                 focus (intro ν w' hL hF K hK; first
                   | (refine skip_op rfl ?_; exact hK.out _ _ rfl (Lat.refl _))
                   | (refine take_op rfl ?_; first | (refine wp_load_blk rfl rfl (ha0.lat hL) Try.underlying32 rfl (by kernel_rfl : (Try.prog.info? 32).map (·.size) = some 11) rfl ?_; exact hK.out _ _ rfl (Lat.refl _)) | (refine wp_load_blk rfl rfl (hb0.lat hL) Try.underlying32 rfl (by kernel_rfl : (Try.prog.info? 32).map (·.size) = some 11) rfl ?_; exact hK.out _ _ rfl (Lat.refl _)) | (refine wp_load_blk rfl rfl (hv0.lat hL) Try.underlying25 rfl (by kernel_rfl : (Try.prog.info? 25).map (·.size) = some 4) rfl ?_; exact hK.out _ _ rfl (Lat.refl _)))
                   | (go_simp; first | exact hK.out _ _ rfl (Lat.refl _) | (go_at_call 17; first | ((with_reducible refine ((HSa _ hL).out).mono ?_); rintro r w'' ⟨rfl, hbp⟩; exact hK.out _ _ rfl hbp) | ((with_reducible refine ((HSb _ hL).out).mono ?_); rintro r w'' ⟨rfl, hbp⟩; exact hK.out _ _ rfl hbp)) | (go_at_call 23; first | ((with_reducible refine ((HNa _ hL).out).mono ?_); rintro r w'' ⟨rfl, hbp⟩; exact hK.out _ _ rfl hbp) | ((with_reducible refine ((HNb _ hL).out).mono ?_); rintro r w'' ⟨rfl, hbp⟩; exact hK.out _ _ rfl hbp)) | (go_at_call 24; first | ((with_reducible refine ((HCa _ hL).out).mono ?_); rintro r w'' ⟨rfl, hbp⟩; exact hK.out _ _ rfl hbp) | ((with_reducible refine ((HCb _ hL).out).mono ?_); rintro r w'' ⟨rfl, hbp⟩; exact hK.out _ _ rfl hbp)) | (go_at_call 25; first | ((with_reducible refine ((HDa _ hL).out).mono ?_); rintro r w'' ⟨rfl, hbp⟩; exact hK.out _ _ rfl hbp) | ((with_reducible refine ((HDb _ hL).out).mono ?_); rintro r w'' ⟨rfl, hbp⟩; exact hK.out _ _ rfl hbp))))
                 simp only [Act.put, List.setIfInBounds_toArray, List.set_cons_zero, List.set_cons_succ, Nat.reduceAdd])
              refine RelyL.done fun ν w1 hL hF => ?_
              clear hwr
              have hB2 := hbw0.trans (hL.mono (by omega))
              go_wp2_with fail
              refine (awake_any _).mono ?_
              rintro r w3 ⟨rfl, hb3⟩
              go_wp2_with fail
              go_ret
              exact ⟨rfl, hB2.th hb3⟩
          · have q1 : (checkE b != 0) = true := by simpa using hcb
            have q2 : (checkE b == 0) = false := by simpa using hcb
            replace HDb := HSa
            clear hcb hkb
            generalize checkE b = CB at *
            have hwr : IntKind.i64.wrap ((SA : Int) + SB) = SA + SB := IntWalk.i64_in _ (by omega)
            refine wp_rely (by kernel_rfl) (by kernel_rfl) ?_
            repeat
              (apply RelyL.val
               focus (intro ν w' hL hF K hK; first
                 | (refine skip_op rfl ?_; exact hK.out _ _ rfl (Lat.refl _))
                 | (refine take_op rfl ?_; first | (refine wp_load_blk rfl rfl (ha0.lat hL) Try.underlying32 rfl (by kernel_rfl : (Try.prog.info? 32).map (·.size) = some 11) rfl ?_; exact hK.out _ _ rfl (Lat.refl _)) | (refine wp_load_blk rfl rfl (hb0.lat hL) Try.underlying32 rfl (by kernel_rfl : (Try.prog.info? 32).map (·.size) = some 11) rfl ?_; exact hK.out _ _ rfl (Lat.refl _)) | (refine wp_load_blk rfl rfl (hv0.lat hL) Try.underlying25 rfl (by kernel_rfl : (Try.prog.info? 25).map (·.size) = some 4) rfl ?_; exact hK.out _ _ rfl (Lat.refl _)))
                 | (go_simp; first | exact hK.out _ _ rfl (Lat.refl _) | (go_at_call 17; first | ((with_reducible refine ((HSa _ hL).out).mono ?_); rintro r w'' ⟨rfl, hbp⟩; exact hK.out _ _ rfl hbp) | ((with_reducible refine ((HSb _ hL).out).mono ?_); rintro r w'' ⟨rfl, hbp⟩; exact hK.out _ _ rfl hbp)) | (go_at_call 23; first | ((with_reducible refine ((HNa _ hL).out).mono ?_); rintro r w'' ⟨rfl, hbp⟩; exact hK.out _ _ rfl hbp) | ((with_reducible refine ((HNb _ hL).out).mono ?_); rintro r w'' ⟨rfl, hbp⟩; exact hK.out _ _ rfl hbp)) | (go_at_call 24; first | ((with_reducible refine ((HCa _ hL).out).mono ?_); rintro r w'' ⟨rfl, hbp⟩; exact hK.out _ _ rfl hbp) | ((with_reducible refine ((HCb _ hL).out).mono ?_); rintro r w'' ⟨rfl, hbp⟩; exact hK.out _ _ rfl hbp)) | (go_at_call 25; first | ((with_reducible refine ((HDa _ hL).out).mono ?_); rintro r w'' ⟨rfl, hbp⟩; exact hK.out _ _ rfl hbp) | ((with_reducible refine ((HDb _ hL).out).mono ?_); rintro r w'' ⟨rfl, hbp⟩; exact hK.out _ _ rfl hbp))))
               simp only [Act.put, List.setIfInBounds_toArray, List.set_cons_zero, List.set_cons_succ, Nat.reduceAdd])
            refine RelyL.done fun ν w1 hL hF => ?_
            clear hwr
            have hB2 := hbw0.trans (hL.mono (by omega))
            go_wp2_with fail
            refine (awake_any _).mono ?_
            rintro r w3 ⟨rfl, hb3⟩
            go_wp2_with fail
            go_ret
            exact ⟨rfl, hB2.th hb3⟩
        · have q1 : (checkE a != 0) = true := by simpa using hca
          have q2 : (checkE a == 0) = false := by simpa using hca
          replace HDa := HSa
          replace HDb := HSa
          clear hca hka
          generalize checkE a = CA at *
          have hwr : IntKind.i64.wrap ((SA : Int) + SB) = SA + SB := IntWalk.i64_in _ (by omega)
          refine wp_rely (by kernel_rfl) (by kernel_rfl) ?_
          repeat
            (apply RelyL.val
             focus (intro ν w' hL hF K hK; first
               | (refine skip_op rfl ?_; exact hK.out _ _ rfl (Lat.refl _))
               | (refine take_op rfl ?_; first | (refine wp_load_blk rfl rfl (ha0.lat hL) Try.underlying32 rfl (by kernel_rfl : (Try.prog.info? 32).map (·.size) = some 11) rfl ?_; exact hK.out _ _ rfl (Lat.refl _)) | (refine wp_load_blk rfl rfl (hb0.lat hL) Try.underlying32 rfl (by kernel_rfl : (Try.prog.info? 32).map (·.size) = some 11) rfl ?_; exact hK.out _ _ rfl (Lat.refl _)) | (refine wp_load_blk rfl rfl (hv0.lat hL) Try.underlying25 rfl (by kernel_rfl : (Try.prog.info? 25).map (·.size) = some 4) rfl ?_; exact hK.out _ _ rfl (Lat.refl _)))
               | (go_simp; first | exact hK.out _ _ rfl (Lat.refl _) | (go_at_call 17; first | ((with_reducible refine ((HSa _ hL).out).mono ?_); rintro r w'' ⟨rfl, hbp⟩; exact hK.out _ _ rfl hbp) | ((with_reducible refine ((HSb _ hL).out).mono ?_); rintro r w'' ⟨rfl, hbp⟩; exact hK.out _ _ rfl hbp)) | (go_at_call 23; first | ((with_reducible refine ((HNa _ hL).out).mono ?_); rintro r w'' ⟨rfl, hbp⟩; exact hK.out _ _ rfl hbp) | ((with_reducible refine ((HNb _ hL).out).mono ?_); rintro r w'' ⟨rfl, hbp⟩; exact hK.out _ _ rfl hbp)) | (go_at_call 24; first | ((with_reducible refine ((HCa _ hL).out).mono ?_); rintro r w'' ⟨rfl, hbp⟩; exact hK.out _ _ rfl hbp) | ((with_reducible refine ((HCb _ hL).out).mono ?_); rintro r w'' ⟨rfl, hbp⟩; exact hK.out _ _ rfl hbp)) | (go_at_call 25; first | ((with_reducible refine ((HDa _ hL).out).mono ?_); rintro r w'' ⟨rfl, hbp⟩; exact hK.out _ _ rfl hbp) | ((with_reducible refine ((HDb _ hL).out).mono ?_); rintro r w'' ⟨rfl, hbp⟩; exact hK.out _ _ rfl hbp))))
             simp only [Act.put, List.setIfInBounds_toArray, List.set_cons_zero, List.set_cons_succ, Nat.reduceAdd])
          refine RelyL.done fun ν w1 hL hF => ?_
          clear hwr
          have hB2 := hbw0.trans (hL.mono (by omega))
          go_wp2_with fail
          refine (awake_any _).mono ?_
          rintro r w3 ⟨rfl, hb3⟩
          go_wp2_with fail
          go_ret
          exact ⟨rfl, hB2.th hb3⟩
      · have q0 : decide ((150 : Int) < (SA : Int) + SB) = true := by simp; omega
        replace HDa := HSa
        replace HDb := HSa
        have hwr : IntKind.i64.wrap ((SA : Int) + SB) = SA + SB := IntWalk.i64_in _ (by omega)
        refine wp_rely (by kernel_rfl) (by kernel_rfl) ?_
        repeat
          (apply RelyL.val
           focus (intro ν w' hL hF K hK; first
             | (refine skip_op rfl ?_; exact hK.out _ _ rfl (Lat.refl _))
             | (refine take_op rfl ?_; first | (refine wp_load_blk rfl rfl (ha0.lat hL) Try.underlying32 rfl (by kernel_rfl : (Try.prog.info? 32).map (·.size) = some 11) rfl ?_; exact hK.out _ _ rfl (Lat.refl _)) | (refine wp_load_blk rfl rfl (hb0.lat hL) Try.underlying32 rfl (by kernel_rfl : (Try.prog.info? 32).map (·.size) = some 11) rfl ?_; exact hK.out _ _ rfl (Lat.refl _)) | (refine wp_load_blk rfl rfl (hv0.lat hL) Try.underlying25 rfl (by kernel_rfl : (Try.prog.info? 25).map (·.size) = some 4) rfl ?_; exact hK.out _ _ rfl (Lat.refl _)))
             | (go_simp; first | exact hK.out _ _ rfl (Lat.refl _) | (go_at_call 17; first | ((with_reducible refine ((HSa _ hL).out).mono ?_); rintro r w'' ⟨rfl, hbp⟩; exact hK.out _ _ rfl hbp) | ((with_reducible refine ((HSb _ hL).out).mono ?_); rintro r w'' ⟨rfl, hbp⟩; exact hK.out _ _ rfl hbp)) | (go_at_call 23; first | ((with_reducible refine ((HNa _ hL).out).mono ?_); rintro r w'' ⟨rfl, hbp⟩; exact hK.out _ _ rfl hbp) | ((with_reducible refine ((HNb _ hL).out).mono ?_); rintro r w'' ⟨rfl, hbp⟩; exact hK.out _ _ rfl hbp)) | (go_at_call 24; first | ((with_reducible refine ((HCa _ hL).out).mono ?_); rintro r w'' ⟨rfl, hbp⟩; exact hK.out _ _ rfl hbp) | ((with_reducible refine ((HCb _ hL).out).mono ?_); rintro r w'' ⟨rfl, hbp⟩; exact hK.out _ _ rfl hbp)) | (go_at_call 25; first | ((with_reducible refine ((HDa _ hL).out).mono ?_); rintro r w'' ⟨rfl, hbp⟩; exact hK.out _ _ rfl hbp) | ((with_reducible refine ((HDb _ hL).out).mono ?_); rintro r w'' ⟨rfl, hbp⟩; exact hK.out _ _ rfl hbp))))
           simp only [Act.put, List.setIfInBounds_toArray, List.set_cons_zero, List.set_cons_succ, Nat.reduceAdd])
        refine RelyL.done fun ν w1 hL hF => ?_
        clear hwr
        have hB2 := hbw0.trans (hL.mono (by omega))
        go_wp2_with fail
        refine (awake_any _).mono ?_
        rintro r w3 ⟨rfl, hb3⟩
        go_wp2_with fail
        go_ret
        exact ⟨rfl, hB2.th hb3⟩
    · simp only [hsa] at HSa
      simp only [hsb] at HSb
      replace HDa := HSa
      replace HDb := HSa
      clear hsa hsb hka hkb
      obtain ⟨SA, hSA⟩ : ∃ n : Nat, n ≤ 250 := ⟨0, by omega⟩
      obtain ⟨SB, hSB⟩ : ∃ n : Nat, n ≤ 250 := ⟨0, by omega⟩
      have hwr : IntKind.i64.wrap ((SA : Int) + SB) = SA + SB := IntWalk.i64_in _ (by omega)
      refine wp_rely (by kernel_rfl) (by kernel_rfl) ?_
      repeat
        (apply RelyL.val
         focus (intro ν w' hL hF K hK; first
           | (refine skip_op rfl ?_; exact hK.out _ _ rfl (Lat.refl _))
           | (refine take_op rfl ?_; first | (refine wp_load_blk rfl rfl (ha0.lat hL) Try.underlying32 rfl (by kernel_rfl : (Try.prog.info? 32).map (·.size) = some 11) rfl ?_; exact hK.out _ _ rfl (Lat.refl _)) | (refine wp_load_blk rfl rfl (hb0.lat hL) Try.underlying32 rfl (by kernel_rfl : (Try.prog.info? 32).map (·.size) = some 11) rfl ?_; exact hK.out _ _ rfl (Lat.refl _)) | (refine wp_load_blk rfl rfl (hv0.lat hL) Try.underlying25 rfl (by kernel_rfl : (Try.prog.info? 25).map (·.size) = some 4) rfl ?_; exact hK.out _ _ rfl (Lat.refl _)))
           | (go_simp; first | exact hK.out _ _ rfl (Lat.refl _) | (go_at_call 17; first | ((with_reducible refine ((HSa _ hL).out).mono ?_); rintro r w'' ⟨rfl, hbp⟩; exact hK.out _ _ rfl hbp) | ((with_reducible refine ((HSb _ hL).out).mono ?_); rintro r w'' ⟨rfl, hbp⟩; exact hK.out _ _ rfl hbp)) | (go_at_call 23; first | ((with_reducible refine ((HNa _ hL).out).mono ?_); rintro r w'' ⟨rfl, hbp⟩; exact hK.out _ _ rfl hbp) | ((with_reducible refine ((HNb _ hL).out).mono ?_); rintro r w'' ⟨rfl, hbp⟩; exact hK.out _ _ rfl hbp)) | (go_at_call 24; first | ((with_reducible refine ((HCa _ hL).out).mono ?_); rintro r w'' ⟨rfl, hbp⟩; exact hK.out _ _ rfl hbp) | ((with_reducible refine ((HCb _ hL).out).mono ?_); rintro r w'' ⟨rfl, hbp⟩; exact hK.out _ _ rfl hbp)) | (go_at_call 25; first | ((with_reducible refine ((HDa _ hL).out).mono ?_); rintro r w'' ⟨rfl, hbp⟩; exact hK.out _ _ rfl hbp) | ((with_reducible refine ((HDb _ hL).out).mono ?_); rintro r w'' ⟨rfl, hbp⟩; exact hK.out _ _ rfl hbp))))
         simp only [Act.put, List.setIfInBounds_toArray, List.set_cons_zero, List.set_cons_succ, Nat.reduceAdd])
      refine RelyL.done fun ν w1 hL hF => ?_
      clear hwr
      have hB2 := hbw0.trans (hL.mono (by omega))
      go_wp2_with fail
      refine (awake_any _).mono ?_
      rintro r w3 ⟨rfl, hb3⟩
      go_wp2_with fail
      go_ret
      exact ⟨rfl, hB2.th hb3⟩
  · simp only [hsa] at HSa
    replace HDa := HSa
    replace HDb := HSa
    clear hsa hka hkb
    obtain ⟨SA, hSA⟩ : ∃ n : Nat, n ≤ 250 := ⟨0, by omega⟩
    obtain ⟨SB, hSB⟩ : ∃ n : Nat, n ≤ 250 := ⟨0, by omega⟩
    have hwr : IntKind.i64.wrap ((SA : Int) + SB) = SA + SB := IntWalk.i64_in _ (by omega)
    refine wp_rely (by kernel_rfl) (by kernel_rfl) ?_
    repeat
      (apply RelyL.val
       focus (intro ν w' hL hF K hK; first
         | (refine skip_op rfl ?_; exact hK.out _ _ rfl (Lat.refl _))
         | (refine take_op rfl ?_; first | (refine wp_load_blk rfl rfl (ha0.lat hL) Try.underlying32 rfl (by kernel_rfl : (Try.prog.info? 32).map (·.size) = some 11) rfl ?_; exact hK.out _ _ rfl (Lat.refl _)) | (refine wp_load_blk rfl rfl (hb0.lat hL) Try.underlying32 rfl (by kernel_rfl : (Try.prog.info? 32).map (·.size) = some 11) rfl ?_; exact hK.out _ _ rfl (Lat.refl _)) | (refine wp_load_blk rfl rfl (hv0.lat hL) Try.underlying25 rfl (by kernel_rfl : (Try.prog.info? 25).map (·.size) = some 4) rfl ?_; exact hK.out _ _ rfl (Lat.refl _)))
         | (go_simp; first | exact hK.out _ _ rfl (Lat.refl _) | (go_at_call 17; first | ((with_reducible refine ((HSa _ hL).out).mono ?_); rintro r w'' ⟨rfl, hbp⟩; exact hK.out _ _ rfl hbp) | ((with_reducible refine ((HSb _ hL).out).mono ?_); rintro r w'' ⟨rfl, hbp⟩; exact hK.out _ _ rfl hbp)) | (go_at_call 23; first | ((with_reducible refine ((HNa _ hL).out).mono ?_); rintro r w'' ⟨rfl, hbp⟩; exact hK.out _ _ rfl hbp) | ((with_reducible refine ((HNb _ hL).out).mono ?_); rintro r w'' ⟨rfl, hbp⟩; exact hK.out _ _ rfl hbp)) | (go_at_call 24; first | ((with_reducible refine ((HCa _ hL).out).mono ?_); rintro r w'' ⟨rfl, hbp⟩; exact hK.out _ _ rfl hbp) | ((with_reducible refine ((HCb _ hL).out).mono ?_); rintro r w'' ⟨rfl, hbp⟩; exact hK.out _ _ rfl hbp)) | (go_at_call 25; first | ((with_reducible refine ((HDa _ hL).out).mono ?_); rintro r w'' ⟨rfl, hbp⟩; exact hK.out _ _ rfl hbp) | ((with_reducible refine ((HDb _ hL).out).mono ?_); rintro r w'' ⟨rfl, hbp⟩; exact hK.out _ _ rfl hbp))))
       simp only [Act.put, List.setIfInBounds_toArray, List.set_cons_zero, List.set_cons_succ, Nat.reduceAdd])
    refine RelyL.done fun ν w1 hL hF => ?_
    clear hwr
    have hB2 := hbw0.trans (hL.mono (by omega))
    go_wp2_with fail
    refine (awake_any _).mono ?_
    rintro r w3 ⟨rfl, hb3⟩
    go_wp2_with fail
    go_ret
    exact ⟨rfl, hB2.th hb3⟩

end Go.Proofs.Ytnelgblmogciiaa
