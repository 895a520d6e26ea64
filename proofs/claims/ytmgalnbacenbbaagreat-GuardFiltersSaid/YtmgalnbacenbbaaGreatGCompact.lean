/- Guard: slices.Compact at keys in order. -/
import Derived.Test.YtmgalnbacenbbaaGreatGCpt
import Derived.Test.YtmgalnbacenbbaaGreatGRSort
import Derived.BigFrame
set_option linter.unusedSimpArgs false
set_option linter.unusedVariables false
namespace Go.Proofs.YtmgalnbacenbbaaGreat
open Go.RowKit

theorem run_sl_add (g j : Nat) : (⟨g, 0, none⟩ : Addr).add j = ⟨g, j, none⟩ := by unfold Addr.add; split <;> simp_all
theorem slFrom (g n c j : Nat) (hj : j ≤ n) (hc : j < c) (w : World) : (Instr.slice 53 (.slice (some ⟨g, 0, none⟩) n c) (some (.int .i64 (j : Int))) none none).run Tryz.prog w = .ok (.slice (some ⟨g, j * 3, none⟩) (n - j) (c - j)) w := by
  have h := EK.run_sl (some ⟨g, 0, none⟩) n c j hj w
  unfold Elt.sl at h
  rw [if_neg (by omega), Option.map_some, run_sl_add] at h
  exact h
theorem slTo (g n c j : Nat) (hj : j ≤ n) (hc : n ≤ c) (w : World) : (Instr.slice 53 (.slice (some ⟨g, 0, none⟩) n c) none (some (.int .i64 (j : Int))) none).run Tryz.prog w = .ok (.slice (some ⟨g, 0, none⟩) j c) w := by
  have hel : Tryz.prog.elem EK.t = EK.e := by simp [Program.elem, EK.ht]
  have hu : Tryz.prog.underlying EK.t = some (.slice (Tryz.prog.elem EK.t)) := by rw [hel]; exact EK.ht
  have h := run_slice_h (P := Tryz.prog) w EK.t (some ⟨g, 0, none⟩) n c hu .i64 j (by omega) (by omega)
  rw [hel] at h
  simp [sizeOf, typeInfo, EK.hi, EK.hs, Sem.run_bind, sliced, Addr.add_zero'] at h
  exact h
theorem zeroK : ∀ w, (zeroValue EK.e).run Tryz.prog w = .ok EK.z w := fun w => by kernel_rfl
set_option maxRecDepth 100000 in
set_option maxHeartbeats 4000000 in
theorem compact_any (l : List LKey) (v : Value) (base : Nat) (w : World) (hown : EK.Own w base l v) (hs : l.Pairwise (fun a b => kless b a = false)) (hl : l.length ≤ 1000000) :
    Calls Tryz.prog 51 #[v] w fun r w' => ∃ ks v', r = .returned v' ∧ EK.Own w' base ks v' ∧ ks.length ≤ l.length ∧ ks.Pairwise (fun a b => kless a b = true) ∧ (∀ x, x ∈ ks ↔ x ∈ l) ∧ Below base w w' := by
  have HS := Lib.hid hs
  clear hs
  by_cases h2 : l.length < 2
  · obtain ⟨A, c, rfl⟩ := hown.slice
    have f1 : (l.length : Int) < 2 := by omega
    have HA : Hid (l.Pairwise (fun a b => kless a b = true)) := Lib.hid (by
      cases l with
      | nil => exact List.Pairwise.nil
      | cons a r =>
        cases r with
        | nil => exact List.pairwise_singleton _ _
        | cons b r => simp at h2; omega)
    clear h2
    go_enter Tryz.func51, Tryz.ntmps51
    go_wp2_with fail
    go_ret
    exact ⟨l, _, rfl, hown, Nat.le_refl _, HA.out, fun x => Iff.rfl, Below.refl _ _⟩
  · have f1 : ¬ ((l.length : Int) < 2) := by omega
    obtain ⟨g, cap, rfl, hbg, _⟩ := hown.form (by omega)
    have hcap := hown.cap
    have HC0 : Hid (Cpt l (l.take 1) 1) := Lib.hid (Cpt.one (by omega))
    have hn2 : 2 ≤ l.length := by omega
    clear h2
    go_enter Tryz.func51, Tryz.ntmps51
    go_wp2_with fail
    go_loopw [3] (fun kv wr => ∃ q : Nat, q + 1 ≤ l.length ∧ kv = .int .i64 ((q : Int) + 1) ∧ Hid (Cpt l (l.take (q + 1)) (q + 1)) ∧ EK.Own wr base l (.slice (some ⟨g, 0, none⟩) l.length cap) ∧ Below base w wr) (fun kv _ => l.length - (intOf kv).toNat)
    case atStart => exact ⟨0, by omega, by rfl, HC0, hown, Below.refl _ _⟩
    case round =>
      clear hown HC0
      obtain ⟨q, hql, rfl, HC, hown, hLW⟩ := hrel
      by_cases hlt : q + 1 < l.length
      · have hrx : RowAt wr g ((q + 1) * 3) (kC l[q + 1]) := own_row hown (q + 1) hlt
        have hry : RowAt wr g (q * 3) (kC l[q]) := own_row hown q (by omega)
        have hgl := hown.base_le.2
        have hbs : base ≤ wr.heap.size := by omega
        have a1 : (q : Int) + 1 < (l.length : Int) := by omega
        have a2 : (q : Int) < (l.length : Int) := by omega
        have a3 : (0 : Int) ≤ (q : Int) + 1 := by omega
        have a4 : ((q : Int) + 1).toNat = q + 1 := by omega
        have a5 : IntKind.i64.wrap (q : Int) = (q : Int) := by rw [IntKind.wrap_i64]; omega
        have a6 : IntKind.i64.wrap ((q : Int) + 1) = (q : Int) + 1 := by rw [IntKind.wrap_i64]; omega
        have a7 : IntKind.i64.wrap ((q : Int) + 1 + 1) = (q : Int) + 1 + 1 := by rw [IntKind.wrap_i64]; omega
        by_cases he : l[q + 1] = l[q]
        · have HE := Lib.hid (decide_eq_true he)
          have HC2 := Lib.hid (HC.out.same hlt he)
          have HM2 := Lib.hid (CptM.start hlt)
          clear he HC
          go_wp2_with fail
          refine wp_rely (by kernel_rfl) (by kernel_rfl) ?_
          apply RelyL.val
          · intro ν w' hL hF K hK'
            go_simp
            exact hK'.out _ _ rfl (Lat.refl _)
          simp only [Act.put, List.setIfInBounds_toArray, List.set_cons_zero, List.set_cons_succ, Nat.reduceAdd]
          apply RelyL.val
          · intro ν w' hL hF K hK'
            go_simp
            exact hK'.out _ _ rfl (Lat.refl _)
          simp only [Act.put, List.setIfInBounds_toArray, List.set_cons_zero, List.set_cons_succ, Nat.reduceAdd]
          apply RelyL.val
          · intro ν w' hL hF K hK'
            go_simp
            exact hK'.out _ _ rfl (Lat.refl _)
          simp only [Act.put, List.setIfInBounds_toArray, List.set_cons_zero, List.set_cons_succ, Nat.reduceAdd]
          apply RelyL.val
          · intro ν w' hL hF K hK'
            refine take_op rfl ?_
            refine wp_load_at 34 _ rfl g (((q + 1) * 3)) rfl _ _ (hrx.below hL hgl) Tryz.underlying34 rfl (by kernel_rfl) ?_
            exact hK'.out _ _ rfl (Lat.refl _)
          simp only [Act.put, List.setIfInBounds_toArray, List.set_cons_zero, List.set_cons_succ, Nat.reduceAdd]
          apply RelyL.val
          · intro ν w' hL hF K hK'
            go_simp
            exact hK'.out _ _ rfl (Lat.refl _)
          simp only [Act.put, List.setIfInBounds_toArray, List.set_cons_zero, List.set_cons_succ, Nat.reduceAdd]
          apply RelyL.val
          · intro ν w' hL hF K hK'
            go_simp
            exact hK'.out _ _ rfl (Lat.refl _)
          simp only [Act.put, List.setIfInBounds_toArray, List.set_cons_zero, List.set_cons_succ, Nat.reduceAdd]
          apply RelyL.val
          · intro ν w' hL hF K hK'
            go_simp
            exact hK'.out _ _ rfl (Lat.refl _)
          simp only [Act.put, List.setIfInBounds_toArray, List.set_cons_zero, List.set_cons_succ, Nat.reduceAdd]
          apply RelyL.val
          · intro ν w' hL hF K hK'
            go_simp
            exact hK'.out _ _ rfl (Lat.refl _)
          simp only [Act.put, List.setIfInBounds_toArray, List.set_cons_zero, List.set_cons_succ, Nat.reduceAdd]
          apply RelyL.val
          · intro ν w' hL hF K hK'
            refine take_op rfl ?_
            refine wp_load_at 34 _ rfl g ((q * 3)) rfl _ _ (hry.below hL hgl) Tryz.underlying34 rfl (by kernel_rfl) ?_
            exact hK'.out _ _ rfl (Lat.refl _)
          simp only [Act.put, List.setIfInBounds_toArray, List.set_cons_zero, List.set_cons_succ, Nat.reduceAdd]
          apply RelyL.val
          · intro ν w' hL hF K hK'
            refine take_op rfl ?_
            refine wp_eql_k _ _ _ rfl l[q + 1] l[q] rfl rfl HE.out ?_
            exact hK'.out _ _ rfl (Lat.refl _)
          simp only [Act.put, List.setIfInBounds_toArray, List.set_cons_zero, List.set_cons_succ, Nat.reduceAdd]
          refine RelyL.done fun ν w9 hL9 hF => ?_
          clear hF
          have hown9 := hown.lat hL9
          have hLW9 := Below.trans hLW (Below.mono hL9 hbs)
          have hsl : ∀ w, (Instr.slice 53 (.slice (some ⟨g, 0, none⟩) l.length cap) (some (.int .i64 ((q : Int) + 1))) none none).run Tryz.prog w = .ok (.slice (some ⟨g, (q + 1) * 3, none⟩) (l.length - (q + 1)) (cap - (q + 1))) w := fun w => by
            exact slFrom g l.length cap (q + 1) (by omega) (by omega) w
          clear hown hLW hL9 hrx hry HE hbs
          go_wp2_with fail
          clear hsl a4 a5 a6 a7
          have hks0 : (l.take (q + 1)).length = q + 1 := by rw [List.length_take]; omega
          have HL9 := Lib.hid hLW9
          go_loopw [3, 5] (fun kv k2v wr => ∃ (ks m : List LKey) (p : Nat), kv = .int .i64 (ks.length : Int) ∧ k2v = .int .i64 ((p : Int) + 1) ∧ q + p + 2 ≤ l.length ∧ Hid (Cpt l ks (q + p + 2)) ∧ Hid (CptM l ks m (q + p + 2)) ∧ EK.Own wr base m (.slice (some ⟨g, 0, none⟩) l.length cap) ∧ Below base w wr) (fun _ k2v _ => l.length - (intOf k2v).toNat)
          case atStart => exact ⟨l.take (q + 1), l, 0, by rw [hks0]; rfl, rfl, by omega, HC2, HM2, hown9, hLW9⟩
          case round =>
            clear hown9 hLW9 HC2 HM2 hks0 HL9
            obtain ⟨ks, m, p, rfl, rfl, hpl, HC, HM, hown, hLW⟩ := hrel
            have hml := HM.out.len
            have hkl := HM.out.low
            have hbs : base ≤ wr.heap.size := by have := hown.base_le; omega
            by_cases hlt2 : q + p + 2 < l.length
            · have e1 : (q + p + 2) * 3 = (q + 1) * 3 + (p + 1) * 3 := by omega
              have e2 : (q + p + 1) * 3 = (q + 1) * 3 + p * 3 := by omega
              have hrx : RowAt wr g ((q + 1) * 3 + (p + 1) * 3) (kC l[q + p + 2]) := by
                have := own_row hown (q + p + 2) (by omega)
                rw [HM.out.at (q + p + 2) (by omega) hlt2] at this
                rw [← e1]; exact this
              have hry : RowAt wr g ((q + 1) * 3 + p * 3) (kC l[q + p + 1]) := by
                have := own_row hown (q + p + 1) (by omega)
                rw [HM.out.at (q + p + 1) (by omega) (by omega)] at this
                rw [← e2]; exact this
              have hgl := hown.base_le.2
              clear e1 e2
              have b1 : (p : Int) + 1 < ((l.length - (q + 1) : Nat) : Int) := by omega
              have b2 : (p : Int) < ((l.length - (q + 1) : Nat) : Int) := by omega
              have b3 : (0 : Int) ≤ (p : Int) + 1 := by omega
              have b4 : ((p : Int) + 1).toNat = p + 1 := by omega
              have b5 : IntKind.i64.wrap (p : Int) = (p : Int) := by rw [IntKind.wrap_i64]; omega
              have b6 : IntKind.i64.wrap ((p : Int) + 1) = (p : Int) + 1 := by rw [IntKind.wrap_i64]; omega
              have b7 : IntKind.i64.wrap ((p : Int) + 1 + 1) = (p : Int) + 1 + 1 := by rw [IntKind.wrap_i64]; omega
              by_cases he2 : l[q + p + 2] = l[q + p + 1]
              · have HE := Lib.hid (decide_eq_true he2)
                have HC2 : Hid (Cpt l ks (q + p + 3)) := Lib.hid (Cpt.same (q := q + p + 1) HC.out hlt2 he2)
                have HM2 : Hid (CptM l ks m (q + p + 3)) := Lib.hid HM.out.same
                clear he2 HC HM
                go_wp2_with fail
                refine wp_rely (by kernel_rfl) (by kernel_rfl) ?_
                apply RelyL.val
                · intro ν w' hL hF K hK'
                  go_simp
                  exact hK'.out _ _ rfl (Lat.refl _)
                simp only [Act.put, List.setIfInBounds_toArray, List.set_cons_zero, List.set_cons_succ, Nat.reduceAdd]
                apply RelyL.val
                · intro ν w' hL hF K hK'
                  go_simp
                  exact hK'.out _ _ rfl (Lat.refl _)
                simp only [Act.put, List.setIfInBounds_toArray, List.set_cons_zero, List.set_cons_succ, Nat.reduceAdd]
                apply RelyL.val
                · intro ν w' hL hF K hK'
                  go_simp
                  exact hK'.out _ _ rfl (Lat.refl _)
                simp only [Act.put, List.setIfInBounds_toArray, List.set_cons_zero, List.set_cons_succ, Nat.reduceAdd]
                apply RelyL.val
                · intro ν w' hL hF K hK'
                  refine take_op rfl ?_
                  refine wp_load_at 34 _ rfl g (((q + 1) * 3 + (p + 1) * 3)) rfl _ _ (hrx.below hL hgl) Tryz.underlying34 rfl (by kernel_rfl) ?_
                  exact hK'.out _ _ rfl (Lat.refl _)
                simp only [Act.put, List.setIfInBounds_toArray, List.set_cons_zero, List.set_cons_succ, Nat.reduceAdd]
                apply RelyL.val
                · intro ν w' hL hF K hK'
                  go_simp
                  exact hK'.out _ _ rfl (Lat.refl _)
                simp only [Act.put, List.setIfInBounds_toArray, List.set_cons_zero, List.set_cons_succ, Nat.reduceAdd]
                apply RelyL.val
                · intro ν w' hL hF K hK'
                  go_simp
                  exact hK'.out _ _ rfl (Lat.refl _)
                simp only [Act.put, List.setIfInBounds_toArray, List.set_cons_zero, List.set_cons_succ, Nat.reduceAdd]
                apply RelyL.val
                · intro ν w' hL hF K hK'
                  go_simp
                  exact hK'.out _ _ rfl (Lat.refl _)
                simp only [Act.put, List.setIfInBounds_toArray, List.set_cons_zero, List.set_cons_succ, Nat.reduceAdd]
                apply RelyL.val
                · intro ν w' hL hF K hK'
                  go_simp
                  exact hK'.out _ _ rfl (Lat.refl _)
                simp only [Act.put, List.setIfInBounds_toArray, List.set_cons_zero, List.set_cons_succ, Nat.reduceAdd]
                apply RelyL.val
                · intro ν w' hL hF K hK'
                  refine take_op rfl ?_
                  refine wp_load_at 34 _ rfl g (((q + 1) * 3 + p * 3)) rfl _ _ (hry.below hL hgl) Tryz.underlying34 rfl (by kernel_rfl) ?_
                  exact hK'.out _ _ rfl (Lat.refl _)
                simp only [Act.put, List.setIfInBounds_toArray, List.set_cons_zero, List.set_cons_succ, Nat.reduceAdd]
                apply RelyL.val
                · intro ν w' hL hF K hK'
                  refine take_op rfl ?_
                  refine wp_neq_k _ _ _ rfl l[q + p + 2] l[q + p + 1] rfl rfl HE.out ?_
                  exact hK'.out _ _ rfl (Lat.refl _)
                simp only [Act.put, List.setIfInBounds_toArray, List.set_cons_zero, List.set_cons_succ, Nat.reduceAdd]
                refine RelyL.done fun ν w9 hL9 hF => ?_
                clear hF
                have hown9 := hown.lat hL9
                have hLW9 := Below.trans hLW (Below.mono hL9 hbs)
                clear hown hLW hL9 hrx hry
                go_wp2_with fail
                go_roundw
                case rel => exact ⟨ks, m, p + 1, rfl, by go_num, by omega, HC2, HM2, hown9, hLW9⟩
                case measure => simp [intOf]; omega
              · have HE := Lib.hid (decide_eq_false he2)
                have HC2 : Hid (Cpt l (ks ++ [l[q + p + 2]]) (q + p + 3)) := Lib.hid (Cpt.new (q := q + p + 1) HC.out HS.out hlt2 he2)
                have HM2 : Hid (CptM l (ks ++ [l[q + p + 2]]) (m.set ks.length l[q + p + 2]) (q + p + 3)) := Lib.hid (HM.out.new _ hlt2)
                have HIK : Hid ((Tryz.prog.info? 34).map (·.size) = some (Value.agg (kC l[q + p + 2]).toArray).cells.size) := Lib.hid (by kernel_rfl)
                have HZ : Hid (kC l[q + p + 2] = splice (kC (m[ks.length]'(by omega))) 0 (kC l[q + p + 2])) := Lib.hid (by rw [splice_all _ _ 0 rfl]; rfl)
                have HJ := Lib.hid (show ks.length < m.length by omega)
                clear he2 HC HM
                go_wp2_with fail
                refine wp_rely (by kernel_rfl) (by kernel_rfl) ?_
                apply RelyL.val
                · intro ν w' hL hF K hK'
                  go_simp
                  exact hK'.out _ _ rfl (Lat.refl _)
                simp only [Act.put, List.setIfInBounds_toArray, List.set_cons_zero, List.set_cons_succ, Nat.reduceAdd]
                apply RelyL.val
                · intro ν w' hL hF K hK'
                  go_simp
                  exact hK'.out _ _ rfl (Lat.refl _)
                simp only [Act.put, List.setIfInBounds_toArray, List.set_cons_zero, List.set_cons_succ, Nat.reduceAdd]
                apply RelyL.val
                · intro ν w' hL hF K hK'
                  go_simp
                  exact hK'.out _ _ rfl (Lat.refl _)
                simp only [Act.put, List.setIfInBounds_toArray, List.set_cons_zero, List.set_cons_succ, Nat.reduceAdd]
                apply RelyL.val
                · intro ν w' hL hF K hK'
                  refine take_op rfl ?_
                  refine wp_load_at 34 _ rfl g (((q + 1) * 3 + (p + 1) * 3)) rfl _ _ (hrx.below hL hgl) Tryz.underlying34 rfl (by kernel_rfl) ?_
                  exact hK'.out _ _ rfl (Lat.refl _)
                simp only [Act.put, List.setIfInBounds_toArray, List.set_cons_zero, List.set_cons_succ, Nat.reduceAdd]
                apply RelyL.val
                · intro ν w' hL hF K hK'
                  go_simp
                  exact hK'.out _ _ rfl (Lat.refl _)
                simp only [Act.put, List.setIfInBounds_toArray, List.set_cons_zero, List.set_cons_succ, Nat.reduceAdd]
                apply RelyL.val
                · intro ν w' hL hF K hK'
                  go_simp
                  exact hK'.out _ _ rfl (Lat.refl _)
                simp only [Act.put, List.setIfInBounds_toArray, List.set_cons_zero, List.set_cons_succ, Nat.reduceAdd]
                apply RelyL.val
                · intro ν w' hL hF K hK'
                  go_simp
                  exact hK'.out _ _ rfl (Lat.refl _)
                simp only [Act.put, List.setIfInBounds_toArray, List.set_cons_zero, List.set_cons_succ, Nat.reduceAdd]
                apply RelyL.val
                · intro ν w' hL hF K hK'
                  go_simp
                  exact hK'.out _ _ rfl (Lat.refl _)
                simp only [Act.put, List.setIfInBounds_toArray, List.set_cons_zero, List.set_cons_succ, Nat.reduceAdd]
                apply RelyL.val
                · intro ν w' hL hF K hK'
                  refine take_op rfl ?_
                  refine wp_load_at 34 _ rfl g (((q + 1) * 3 + p * 3)) rfl _ _ (hry.below hL hgl) Tryz.underlying34 rfl (by kernel_rfl) ?_
                  exact hK'.out _ _ rfl (Lat.refl _)
                simp only [Act.put, List.setIfInBounds_toArray, List.set_cons_zero, List.set_cons_succ, Nat.reduceAdd]
                apply RelyL.val
                · intro ν w' hL hF K hK'
                  refine take_op rfl ?_
                  refine wp_neq_k _ _ _ rfl l[q + p + 2] l[q + p + 1] rfl rfl HE.out ?_
                  exact hK'.out _ _ rfl (Lat.refl _)
                simp only [Act.put, List.setIfInBounds_toArray, List.set_cons_zero, List.set_cons_succ, Nat.reduceAdd]
                refine RelyL.done fun ν w9 hL9 hF => ?_
                clear hF
                have hown9 := hown.lat hL9
                have hLW9 := Below.trans hLW (Below.mono hL9 hbs)
                have hrx9 := hrx.below hL9 hgl
                have c1 : (ks.length : Int) < (l.length : Int) := by omega
                have c2 : IntKind.i64.wrap ((ks.length : Int) + 1) = (ks.length : Int) + 1 := by rw [IntKind.wrap_i64]; omega
                clear hown hLW hL9 hrx hry
                go_wp2_with (first | (with_reducible refine wpList_load_at rfl 34 _ rfl g ((q + 1) * 3 + (p + 1) * 3) rfl _ _ hrx9 Tryz.underlying34 rfl (by kernel_rfl) ?_) | (refine EK.put rfl 34 _ _ rfl base m g l.length cap hown9 ks.length 0 HJ.out (ks.length * 3) rfl rfl (.agg (kC l[q + p + 2]).toArray) rfl HIK.out (EK.one _) (by show 0 + 3 ≤ 3; decide) l[q + p + 2] HZ.out ?_; intro w5 hD5 ho5 hb5; go_must (have hLW5 := Below.trans hLW9 hb5; clear hown9 hLW9 hrx9 hb5 ho5)))
                go_roundw
                case rel => exact ⟨ks ++ [l[q + p + 2]], m.set ks.length l[q + p + 2], p + 1, by rw [List.length_append]; rfl, by go_num, by omega, HC2, HM2, hD5, hLW5⟩
                case measure => simp [intOf]; omega
            · have hend : l.length ≤ q + p + 2 := by omega
              have b1 : ¬ ((p : Int) + 1 < ((l.length - (q + 1) : Nat) : Int)) := by omega
              have hkn : ks.length < l.length := by omega
              have HF : Hid (ks.Pairwise (fun a b => kless a b = true) ∧ ∀ x, x ∈ ks ↔ x ∈ l) := Lib.hid ⟨HC.out.asc, HC.out.all hend⟩
              have hcl : ∀ ty, (Builtin.clear_ #[53] ty #[.slice (some ⟨g, ks.length * 3, none⟩) (l.length - ks.length) (cap - ks.length)]).run Tryz.prog wr = .ok (.tuple #[]) (wr.setCells g (ks.length * 3) (Builtin.zeroCells EK.z.cells (l.length - ks.length)).toList) := fun ty => EK.run_clear zeroK (by
                  intro v hv
                  have : v ∈ [Value.int .i64 0, .string { data := #[] }, .string { data := #[] }] := hv
                  simp only [List.mem_cons, List.not_mem_nil, or_false] at this
                  rcases this with rfl | rfl | rfl <;> rfl) wr g (ks.length * 3) _ _ ty (fun t ht => by
                    have hn3 : EK.n = 3 := rfl
                    rw [hn3] at ht
                    have hd : (ks.length * 3 + t) / 3 < m.length := by omega
                    have h := hown.cell ((ks.length * 3 + t) / 3) ((ks.length * 3 + t) % 3) hd (Nat.mod_lt _ (by decide))
                    rw [hn3, Nat.div_add_mod'] at h
                    rw [h, List.getElem?_eq_getElem (by rw [EK.len]; exact Nat.mod_lt _ (by decide))]
                    rfl) (fun t ht => hown.free _) (by omega)
              have hpre := HM.out.pre
              have hfin := hown.cutAt ks.length (by omega) (Builtin.zeroCells EK.z.cells (l.length - ks.length)).toList
              rw [hpre] at hfin
              have hLW2 : Below base w (wr.setCells g (ks.length * 3) (Builtin.zeroCells EK.z.cells (l.length - ks.length)).toList) := Below.trans hLW (below_cells hbg _ _ _)
              have hs1 := fun w => slFrom g l.length cap ks.length (by omega) (by omega) w
              have hs2 := fun w => slTo g l.length cap ks.length (by omega) (by omega) w
              have hfin2 : EK.Own (wr.setCells g (ks.length * 3) (Builtin.zeroCells EK.z.cells (l.length - ks.length)).toList) base ks (.slice (some ⟨g, 0, none⟩) ks.length cap) := hfin
              clear hfin hpre HC HM hown hLW
              generalize (wr.setCells g (ks.length * 3) (Builtin.zeroCells EK.z.cells (l.length - ks.length)).toList) = wz at *
              generalize l.length - ks.length = D at *
              generalize cap - ks.length = D2 at *
              go_wp2_with (simp only [hcl])
              go_ret
              exact ⟨ks, _, rfl, hfin2, Nat.le_of_lt hkn, HF.out.1, HF.out.2, hLW2⟩
        · have HE := Lib.hid (decide_eq_false he)
          have HC2 := Lib.hid (HC.out.snoc HS.out hlt he)
          clear he HC
          go_wp2_with fail
          refine wp_rely (by kernel_rfl) (by kernel_rfl) ?_
          apply RelyL.val
          · intro ν w' hL hF K hK'
            go_simp
            exact hK'.out _ _ rfl (Lat.refl _)
          simp only [Act.put, List.setIfInBounds_toArray, List.set_cons_zero, List.set_cons_succ, Nat.reduceAdd]
          apply RelyL.val
          · intro ν w' hL hF K hK'
            go_simp
            exact hK'.out _ _ rfl (Lat.refl _)
          simp only [Act.put, List.setIfInBounds_toArray, List.set_cons_zero, List.set_cons_succ, Nat.reduceAdd]
          apply RelyL.val
          · intro ν w' hL hF K hK'
            go_simp
            exact hK'.out _ _ rfl (Lat.refl _)
          simp only [Act.put, List.setIfInBounds_toArray, List.set_cons_zero, List.set_cons_succ, Nat.reduceAdd]
          apply RelyL.val
          · intro ν w' hL hF K hK'
            refine take_op rfl ?_
            refine wp_load_at 34 _ rfl g (((q + 1) * 3)) rfl _ _ (hrx.below hL hgl) Tryz.underlying34 rfl (by kernel_rfl) ?_
            exact hK'.out _ _ rfl (Lat.refl _)
          simp only [Act.put, List.setIfInBounds_toArray, List.set_cons_zero, List.set_cons_succ, Nat.reduceAdd]
          apply RelyL.val
          · intro ν w' hL hF K hK'
            go_simp
            exact hK'.out _ _ rfl (Lat.refl _)
          simp only [Act.put, List.setIfInBounds_toArray, List.set_cons_zero, List.set_cons_succ, Nat.reduceAdd]
          apply RelyL.val
          · intro ν w' hL hF K hK'
            go_simp
            exact hK'.out _ _ rfl (Lat.refl _)
          simp only [Act.put, List.setIfInBounds_toArray, List.set_cons_zero, List.set_cons_succ, Nat.reduceAdd]
          apply RelyL.val
          · intro ν w' hL hF K hK'
            go_simp
            exact hK'.out _ _ rfl (Lat.refl _)
          simp only [Act.put, List.setIfInBounds_toArray, List.set_cons_zero, List.set_cons_succ, Nat.reduceAdd]
          apply RelyL.val
          · intro ν w' hL hF K hK'
            go_simp
            exact hK'.out _ _ rfl (Lat.refl _)
          simp only [Act.put, List.setIfInBounds_toArray, List.set_cons_zero, List.set_cons_succ, Nat.reduceAdd]
          apply RelyL.val
          · intro ν w' hL hF K hK'
            refine take_op rfl ?_
            refine wp_load_at 34 _ rfl g ((q * 3)) rfl _ _ (hry.below hL hgl) Tryz.underlying34 rfl (by kernel_rfl) ?_
            exact hK'.out _ _ rfl (Lat.refl _)
          simp only [Act.put, List.setIfInBounds_toArray, List.set_cons_zero, List.set_cons_succ, Nat.reduceAdd]
          apply RelyL.val
          · intro ν w' hL hF K hK'
            refine take_op rfl ?_
            refine wp_eql_k _ _ _ rfl l[q + 1] l[q] rfl rfl HE.out ?_
            exact hK'.out _ _ rfl (Lat.refl _)
          simp only [Act.put, List.setIfInBounds_toArray, List.set_cons_zero, List.set_cons_succ, Nat.reduceAdd]
          refine RelyL.done fun ν w9 hL9 hF => ?_
          clear hF
          have hown9 := hown.lat hL9
          have hLW9 := Below.trans hLW (Below.mono hL9 hbs)
          clear hown hLW hL9 hrx hry
          go_wp2_with fail
          go_roundw
          case rel => exact ⟨q + 1, by omega, by go_num, HC2, hown9, hLW9⟩
          case measure => simp [intOf]; omega
      · have hq : q + 1 = l.length := by omega
        have HF := Lib.hid HC.out.asc
        have a1 : ¬ ((q : Int) + 1 < (l.length : Int)) := by omega
        clear HC
        go_wp2_with fail
        go_ret
        refine ⟨l, _, rfl, hown, Nat.le_refl _, ?_, fun x => Iff.rfl, hLW⟩
        have := HF.out
        rwa [hq, List.take_length] at this
end Go.Proofs.YtmgalnbacenbbaaGreat
