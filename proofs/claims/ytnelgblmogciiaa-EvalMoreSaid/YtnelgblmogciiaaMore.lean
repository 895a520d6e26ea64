/- EvalMore: the walk. -/
import Derived.Test.YtnelgblmogciiaaSame
import Derived.Test.YtnelgblmogciiaaSize
import Derived.Test.YtnelgblmogciiaaAwake2
import Derived.Test.YtnelgblmogciiaaPlain
import Derived.Test.YtnelgblmogciiaaFlat
set_option linter.unusedSimpArgs false
set_option linter.unusedVariables false
namespace Go.Proofs.Ytnelgblmogciiaa
open Go.RowKit

theorem infoItem : (Try.prog.info? 90).map (fun i => (i.zero, i.size, i.bytes)) = some (some (.agg #[.int .i64 0, .string { data := #[] }, .string { data := #[] }, .int .i64 0, .int .i64 0, .string { data := #[] }, .int .i64 0]), 7, 80) := by kernel_rfl
theorem items_len (l : List LItem) : ∀ r ∈ l.map LItem.cells, r.length = 7 := fun r hr => by obtain ⟨x, _, rfl⟩ := List.mem_map.1 hr; rfl
theorem items_one (l : List LItem) : ∀ u ∈ (l.map LItem.cells).flatten, u.oneCell' = true := fun u hu => by
  obtain ⟨r, hr, hu⟩ := List.mem_flatten.1 hu
  obtain ⟨x, _, rfl⟩ := List.mem_map.1 hr
  simp [LItem.cells] at hu
  rcases hu with rfl | rfl | rfl | rfl | rfl | rfl | rfl <;> rfl
set_option maxRecDepth 100000 in
set_option maxHeartbeats 4000000 in
theorem evalMore_any (V : LView) (m : List LItem) (e : LExpr) (vc : List Value) (A : Option Addr) (c : Nat) (cs : List Value) (B : Nat) (w : World) (hB : B ≤ w.heap.size) (hv : IsView B w V vc) (hvn : ∀ c, vc.head? = some (.slice none 0 c) → c = 0) (hm : IsRows B w 7 (m.map LItem.cells) A) (hml : m.length ≤ 140737488351232) (hmn : A = none → c = 0 ∧ m.length = 0) (he : IsExpr B w e cs) :
    Calls Try.prog 5 #[.agg vc.toArray, .slice A m.length c, .agg cs.toArray] w fun r w' => r = .returned (.bool true) ∧ Below w.heap.size w w' := by
  have HS := fun W (hb' : Below B w W) (hl : B ≤ W.heap.size) => Lib.hid (smallB_any V e vc cs B W hl (hv.carry hb') (he.carry hb'))
  have HE := fun W (hb' : Below B w W) (hl : B ≤ W.heap.size) => Lib.hid (eval_any V e vc cs B W hl (hv.carry hb') (he.carry hb'))
  have HX := fun W cv (hb' : Below B w W) (hl : B ≤ W.heap.size) hx => Lib.hid (eval_any (moreV V m) e cv cs W.heap.size W (Nat.le_refl _) hx ((he.carry hb').mono hl))
  have hmore := Lib.hid (evalE_more V m e)
  obtain ⟨ha, ka, Aa, ca, qa, rfl, _⟩ := he.form
  obtain ⟨IA, ic, MA, mc, rfl, hIr, hMr, hmi, hvl, hml2⟩ := hv
  have hin : IA = none → ic = 0 ∧ V.items.length = 0 := by
    rintro rfl
    by_cases h0 : 0 < V.items.length
    · obtain ⟨b, off, hA, _⟩ := hIr (by simpa using h0)
      cases hA
    · have h0' : V.items.length = 0 := by omega
      exact ⟨hvn ic (by rw [h0']; rfl), h0'⟩
  clear qa hvn he
  unfold Hd.cells at HS HE HX ⊢
  have hbw0 : Below w.heap.size w ((w.alloc (.cells #[.slice IA V.items.length ic, .string V.mode, .int .i64 V.minute, .slice MA V.members.length mc] 25)).alloc (.cells #[.int .i64 ha.kind, .int .i64 ha.n, .int .i64 ha.m, .string ha.name, .int .i64 ha.vk, .int .i64 ha.vn, .string ha.vs, .int .i64 ha.dev, .string ha.cl, .string ha.at_, .slice Aa ka.length ca] 32)) := ((Below.refl _ _).al _).al _
  have hv0 : Blk ((w.alloc (.cells #[.slice IA V.items.length ic, .string V.mode, .int .i64 V.minute, .slice MA V.members.length mc] 25)).alloc (.cells #[.int .i64 ha.kind, .int .i64 ha.n, .int .i64 ha.m, .string ha.name, .int .i64 ha.vk, .int .i64 ha.vn, .string ha.vs, .int .i64 ha.dev, .string ha.cl, .string ha.at_, .slice Aa ka.length ca] 32)) w.heap.size 25 #[.slice IA V.items.length ic, .string V.mode, .int .i64 V.minute, .slice MA V.members.length mc] := (Blk.new _ _ _).alloc _
  have he0 : Blk ((w.alloc (.cells #[.slice IA V.items.length ic, .string V.mode, .int .i64 V.minute, .slice MA V.members.length mc] 25)).alloc (.cells #[.int .i64 ha.kind, .int .i64 ha.n, .int .i64 ha.m, .string ha.name, .int .i64 ha.vk, .int .i64 ha.vn, .string ha.vs, .int .i64 ha.dev, .string ha.cl, .string ha.at_, .slice Aa ka.length ca] 32)) (w.heap.size + 1) 32 #[.int .i64 ha.kind, .int .i64 ha.n, .int .i64 ha.m, .string ha.name, .int .i64 ha.vk, .int .i64 ha.vn, .string ha.vs, .int .i64 ha.dev, .string ha.cl, .string ha.at_, .slice Aa ka.length ca] := Blk.at1 _ _ _ _
  have hl0 : w.heap.size + 2 = ((w.alloc (.cells #[.slice IA V.items.length ic, .string V.mode, .int .i64 V.minute, .slice MA V.members.length mc] 25)).alloc (.cells #[.int .i64 ha.kind, .int .i64 ha.n, .int .i64 ha.m, .string ha.name, .int .i64 ha.vk, .int .i64 ha.vn, .string ha.vs, .int .i64 ha.dev, .string ha.cl, .string ha.at_, .slice Aa ka.length ca] 32)).heap.size := by simp
  go_enter Try.func5, Try.ntmps5
  go_upto_region 1 with fail
  generalize ((w.alloc (.cells #[.slice IA V.items.length ic, .string V.mode, .int .i64 V.minute, .slice MA V.members.length mc] 25)).alloc (.cells #[.int .i64 ha.kind, .int .i64 ha.n, .int .i64 ha.m, .string ha.name, .int .i64 ha.vk, .int .i64 ha.vn, .string ha.vs, .int .i64 ha.dev, .string ha.cl, .string ha.at_, .slice Aa ka.length ca] 32)) = W0 at *
  have cv := hv0.cell
  have ce := he0.cell
  go_wp2_with fail
  refine (HS _ (hbw0.mono hB) (by omega)).out.mono ?_
  rintro r w1 ⟨rfl, hb1⟩
  have hbw1 := hbw0.th hb1
  have hv1 := hv0.below hb1
  have he1 := he0.below hb1
  clear HS cv ce hv0 he0
  rcases Bool.eq_false_or_eq_true (smallB V e) with hs | hs
  · by_cases hm40 : m.length ≤ 40
    · have q1 : decide ((40 : Int) < m.length) = false := by simp; omega
      have h80 : V.items.length ≤ 80 := by simp only [smallB, Bool.and_eq_true, decide_eq_true_eq] at hs; exact hs.1.1
      have Hs := Lib.hid hs
      rw [hs]
      clear hs
      have cv1 := hv1.cell
      have ce1 := he1.cell
      go_upto_region 4 with fail
      have hx2 := Blk.new w1 25 #[.slice IA V.items.length ic, .string V.mode, .int .i64 V.minute, .slice MA V.members.length mc]
      have hv2 := hv1.alloc (.cells #[.slice IA V.items.length ic, .string V.mode, .int .i64 V.minute, .slice MA V.members.length mc] 25)
      have he2 := he1.alloc (.cells #[.slice IA V.items.length ic, .string V.mode, .int .i64 V.minute, .slice MA V.members.length mc] 25)
      have hbw2 := hbw1.al (.cells #[.slice IA V.items.length ic, .string V.mode, .int .i64 V.minute, .slice MA V.members.length mc] 25)
      have hn21 := hv1.lt
      have hn22 := he1.lt
      clear hv1 he1 cv1 ce1 hb1 hbw1
      generalize w1.alloc (.cells #[.slice IA V.items.length ic, .string V.mode, .int .i64 V.minute, .slice MA V.members.length mc] 25) = W2 at *
      generalize w1.heap.size = g2 at *
      have cv2 := hv2.cell
      have ce2 := he2.cell
      obtain ⟨i0, hi, hz0, hz1, hz2⟩ := info_parts infoItem
      have l2v := hv2.lt
      have l2e := he2.lt
      have l2x := hx2.lt
      have hlI : ∀ r ∈ V.items.map LItem.cells, r.length = 7 := items_len V.items
      have hlm : ∀ r ∈ m.map LItem.cells, r.length = 7 := items_len m
      have hown0 := World.ownsRow_made (e := 90) W2 #[] 0 (Nat.le_refl _) (by unfold maxLen; omega) rfl (size := 7)
      have hB2 : Below W2.heap.size W2 (W2.alloc (.cells #[] 90)) := (Below.refl _ _).al _
      have hIr2 := fun W (hb : Below w.heap.size w W) => hIr.carry (hb.mono hB)
      have hmr2 := fun W (hb : Below w.heap.size w W) => hm.carry (hb.mono hB)
      have hIr3 := hIr2 _ (hbw2.th hB2)
      go_wp2_with (first | (at_builtin; refine append_rows rfl _ _ 22 rfl W2.heap.size 90 i0 _ 7 80 Try.underlying22 hi hz0 hz1 hz2 rfl (by decide) _ [] rfl hown0 IA V.items.length ic B (V.items.map LItem.cells) rfl (by simp) hin hIr3 hlI (items_one V.items) (by simp [maxLen]; omega) (by simp; omega) (by simp) ?_; intro v1 w3 hown1 hg1; clear hown0; go_must (have hB3 := hB2.grown hg1 (by simp) (fun k hk => ownBlock_le hk); have hmr3 := hmr2 _ (hbw2.th hB3))) | (at_builtin; refine append_rows rfl _ _ 22 rfl W2.heap.size 90 i0 _ 7 80 Try.underlying22 hi hz0 hz1 hz2 rfl (by decide) _ ([] ++ V.items.map LItem.cells) rfl hown1 A m.length c B (m.map LItem.cells) rfl (by simp) hmn hmr3 hlm (items_one m) (by simp [maxLen]; omega) (by simp; omega) hB3.size ?_; intro v2 w4 hown2 hg2; go_must (have hB4 := hB3.grown hg2 hB3.size (fun k hk => (hown1.lt k hk).1); obtain ⟨A2, c2, rfl, hr2⟩ := ownsRow_rows hown2 (by simpa using items_len (V.items ++ m)) rfl; have hx4 := hx2.below hB4; have hv4 := hv2.below hB4; have he4 := he2.below hB4; have cx4 := hx4.cell; have cv4 := hv4.cell; have ce4 := he4.cell; have fx4 := hx4.free; clear cv2 ce2 hown1 hown2 hg1 hg2)))
      have hx5 := hx4.set 0 (.slice A2 (V.items.length + m.length) c2)
      have hv5 := hv4.far (by omega : w.heap.size ≠ g2) 0 (.slice A2 (V.items.length + m.length) c2)
      have he5 := he4.far (by omega : w.heap.size + 1 ≠ g2) 0 (.slice A2 (V.items.length + m.length) c2)
      have hb5 := (hbw2.th hB4).setCell (p := ⟨g2, 0, none⟩) (by dsimp only; omega) (.slice A2 (V.items.length + m.length) c2)
      have hr5 := hr2 (w4.setCell ⟨g2, 0, none⟩ (.slice A2 (V.items.length + m.length) c2)) (by simp) (fun k hk _ => heap_setCell_other _ _ _ _ (by dsimp only; omega))
      have hw5 : IsView (w4.setCell ⟨g2, 0, none⟩ (.slice A2 (V.items.length + m.length) c2)).heap.size (w4.setCell ⟨g2, 0, none⟩ (.slice A2 (V.items.length + m.length) c2)) (moreV V m) [.slice A2 (V.items.length + m.length) c2, .string V.mode, .int .i64 V.minute, .slice MA V.members.length mc] :=
        ⟨A2, c2, MA, mc, by simp [moreV], by simpa [moreV] using hr5, ((hMr.carry (hb5.mono hB)).mono (Nat.le_trans hB hb5.size)), hmi, by simp only [moreV, List.length_append]; omega, hml2⟩
      have n2 := hx5.lt
      clear hr2 hr5 hx2 hv2 he2 hx4 hv4 he4 cx4 cv4 ce4 fx4 hIr hMr hm hmn hin hIr2 hmr2 hIr3 hmr3 hB2 hB3 hB4 hbw2 hi hz0 hz1 hz2 hlI hlm l2v l2e l2x hl0 hbw0
      have HE1 := HE _ (hb5.mono hB) (Nat.le_trans hB hb5.size)
      clear HE
      generalize w4.setCell ⟨g2, 0, none⟩ (.slice A2 (V.items.length + m.length) c2) = W5 at *
      refine HE1.out.mono ?_
      rintro r w6 ⟨rfl, hb6⟩
      clear HE1
      have hx6 := hx5.below hb6
      have hv6 := hv5.below hb6
      have he6 := he5.below hb6
      have hbw6 := hb5.th hb6
      have hw6 := (hw5.carry hb6).mono hb6.size
      clear hx5 hv5 he5 hb5 hb6 hw5
      generalize evalE V e = E at *
      obtain ⟨xk, xn, xs, xok⟩ := E
      cases xok with
      | false =>
        go_wp2_with fail
        refine (awake_any _).mono ?_
        rintro r w3 ⟨rfl, hb3⟩
        go_wp2_with fail
        go_ret
        exact ⟨rfl, (hbw6.al _).th hb3⟩
      | true =>
        have HX7 := HX (w6.alloc (.cells #[.int .i64 xk, .int .i64 xn, .string xs] 27)) _ ((hbw6.al _).mono hB) (Nat.le_trans hB (hbw6.al _).size) ((hw6.carry (Lat.al _ _)).mono (by simp))
        rw [hmore.out rfl] at HX7
        clear HX hmore
        have cx6 := hx6.cell
        have ce6 := he6.cell
        have l6 := hx6.lt
        have l6e := he6.lt
        go_wp2_with fail
        refine HX7.out.mono ?_
        rintro r w7 ⟨rfl, hb7⟩
        have hX := (Blk.new w6 _ _).below hb7
        have cX := hX.cell
        have lX := hX.lt
        have hbw7 := (hbw6.al _).th hb7
        clear HX7 cx6 ce6 hx6 hv6 he6 hbw6 hw6 hb7 hX
        go_wp2_with fail
        refine (awake_any _).mono ?_
        rintro r w3 ⟨rfl, hb3⟩
        go_wp2_with fail
        go_ret
        exact ⟨rfl, (hbw7.al _).th hb3⟩
    · have q1 : decide ((40 : Int) < m.length) = true := by simp; omega
      rw [hs]
      clear hs
      go_wp2_with fail
      refine (awake_any _).mono ?_
      rintro r w3 ⟨rfl, hb3⟩
      go_wp2_with fail
      go_ret
      exact ⟨rfl, hbw1.th hb3⟩
  · rw [hs]
    clear hs
    go_wp2_with fail
    refine (awake_any _).mono ?_
    rintro r w3 ⟨rfl, hb3⟩
    go_wp2_with fail
    go_ret
    exact ⟨rfl, hbw1.th hb3⟩

end Go.Proofs.Ytnelgblmogciiaa
