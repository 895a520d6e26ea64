/- Keys in order: the reference's Put. -/
import Derived.Test.YtnelgblmogciiaaKOps
import Derived.Test.YtnelgblmogciiaaKLessR
import Derived.Test.YtnelgblmogciiaaREvB
set_option linter.unusedSimpArgs false
set_option linter.unusedVariables false
namespace Go.Proofs.Ytnelgblmogciiaa
open Go.RowKit


set_option maxRecDepth 100000 in
set_option maxHeartbeats 4000000 in
theorem put_any (l : List LKey) (k : LKey) (A : Option Addr) (c B : Nat) (w : World) (hB : B ≤ w.heap.size) (h : IsRows B w 3 (l.map kcells) A) (hm : (l.length + 2) * 40 ≤ 140737488355328) :
    Calls Try.prog 94 #[.slice A l.length c, .agg (kcells k).toArray] w fun r w' => (∃ A' c', r = .returned (.slice A' (putK false l k).length c') ∧ IsRows w'.heap.size w' 3 ((putK false l k).map kcells) A') ∧ Below w.heap.size w w' := by
  have HR0 : Hid (putK false l k = [] ++ putK false (l.drop 0) k) := rfl
  generalize putK false l k = R at *
  obtain ⟨k1, k2, k3⟩ := k
  change Calls Try.prog 94 #[.slice A l.length c, .agg #[.int .i64 k1, .string k2, .string k3]] w _
  go_enter Try.func94, Try.ntmps94
  go_wp2_with fail
  go_loopw [5, 6, 7] (fun v d i wr => ∃ (j : Nat) (dn : Bool) (o : List LKey), j ≤ l.length ∧ d = .bool dn ∧ i = .int .i64 j ∧ Hid (R = o ++ putK dn (l.drop j) ⟨k1, k2, k3⟩) ∧ o.length ≤ j + dn.toNat ∧
      OwnK wr (w.heap.size + 1) o v ∧ Blk wr w.heap.size 29 #[.int .i64 k1, .string k2, .string k3] ∧ Below w.heap.size w wr) (fun _ _ i _ => l.length - (intOf i).toNat)
  case atStart => exact ⟨0, false, [], Nat.zero_le _, rfl, rfl, HR0, Nat.le_refl _, OwnK.nil _ _, Blk.new _ _ _, (Below.refl _ _).al _⟩
  case round =>
    obtain ⟨j, dn, o, hjl, rfl, rfl, HH, hol, hown, hK, hbw⟩ := hrel
    clear HR0
    by_cases hlj : j < l.length
    · obtain ⟨b, off, rfl, hb, hr⟩ := h (by simp; omega)
      have g := (hr j (by simpa using hlj)).below hbw (by omega)
      have hbl : b < wr.heap.size := by have := hbw.size; omega
      have hst := HH.out
      rw [List.drop_eq_getElem_cons hlj, putK] at hst
      simp only [List.getElem_map] at g
      clear HH hr
      generalize l[j] = x at *
      have HR := Lib.hid (rless_any x ⟨k1, k2, k3⟩)
      have HT0 : ∀ d, R = o ++ ((if !d && !kless x ⟨k1, k2, k3⟩ then [⟨k1, k2, k3⟩] else []) ++ (if x = ⟨k1, k2, k3⟩ then [] else [x]) ++ putK (d || !kless x ⟨k1, k2, k3⟩) (l.drop (j + 1)) ⟨k1, k2, k3⟩) → decide (x = ⟨k1, k2, k3⟩) = true → R = (o ++ if !d && !kless x ⟨k1, k2, k3⟩ then [⟨k1, k2, k3⟩] else []) ++ putK (d || !kless x ⟨k1, k2, k3⟩) (l.drop (j + 1)) ⟨k1, k2, k3⟩ := fun d h h' => by rw [h, if_pos (of_decide_eq_true h')]; simp
      have HF0 : ∀ d, R = o ++ ((if !d && !kless x ⟨k1, k2, k3⟩ then [⟨k1, k2, k3⟩] else []) ++ (if x = ⟨k1, k2, k3⟩ then [] else [x]) ++ putK (d || !kless x ⟨k1, k2, k3⟩) (l.drop (j + 1)) ⟨k1, k2, k3⟩) → decide (x = ⟨k1, k2, k3⟩) = false → R = (o ++ if !d && !kless x ⟨k1, k2, k3⟩ then [⟨k1, k2, k3⟩] else []) ++ [x] ++ putK (d || !kless x ⟨k1, k2, k3⟩) (l.drop (j + 1)) ⟨k1, k2, k3⟩ := fun d h h' => by rw [h, if_neg (of_decide_eq_false h')]; simp
      have HT1 := HT0 _ hst
      have HF1 := HF0 _ hst
      clear hst HT0 HF0
      obtain ⟨E, hE⟩ : ∃ E, decide (x = ⟨k1, k2, k3⟩) = E := ⟨_, rfl⟩
      rw [hE] at HT1 HF1
      have HE := Lib.hid hE
      clear hE
      generalize kless x ⟨k1, k2, k3⟩ = L at *
      obtain ⟨x1, x2, x3⟩ := x
      change RowAt wr b (off + j * 3) [.int .i64 x1, .string x2, .string x3] at g
      replace HE : Hid (decide ((⟨x1, x2, x3⟩ : LKey) = ⟨k1, k2, k3⟩) = E) := HE
      have HR' : Hid (∀ w, Calls Try.prog 115 #[.agg #[.int .i64 x1, .string x2, .string x3], .agg #[.int .i64 k1, .string k2, .string k3]] w fun r w' => r = .returned (.bool L) ∧ Below w.heap.size w w') := HR
      clear HR
      have HR := HR'
      clear HR'
      cases dn
      · cases L
        · simp only [Bool.not_false, Bool.not_true, Bool.and_self, Bool.false_and, Bool.and_false, Bool.true_and, Bool.true_or, Bool.or_true, Bool.false_or, Bool.or_false, if_true, Bool.false_eq_true, if_false, List.append_nil] at HT1 HF1
          have HT := Lib.hid HT1
          have HF := Lib.hid HF1
          clear HT1 HF1
          simp only [Bool.toNat_false] at hol
          have hl1 : (o.length + 1) * 40 ≤ 140737488355328 := by omega
          have hl2 : ∀ m, m = o.length + 1 → (m + 1) * 40 ≤ 140737488355328 := fun m hm => by omega
          have hl3 : o.length + 1 ≤ j + 1 + 0 := by omega
          have hl4 : o.length + 1 + 1 ≤ j + 1 + 1 := by omega
          have hj1 : j + 1 ≤ l.length := hlj
          go_upto_region 6 with fail
          refine wp_rely (by kernel_rfl) (by kernel_rfl) ?_
          apply RelyL.val
          · intro ν w' hL hF K hK'
            go_simp
            exact hK'.out _ _ rfl (Lat.refl _)
          simp only [Act.put, List.setIfInBounds_toArray, List.set_cons_zero, List.set_cons_succ, Nat.reduceAdd]
          apply RelyL.val
          · intro ν w' hL hF K hK'
            go_simp
            exact hK'.out _ _ rfl (Lat.refl _)
          simp only [Act.put, List.setIfInBounds_toArray, List.set_cons_zero, List.set_cons_succ, Nat.reduceAdd]
          apply RelyL.val
          · intro ν w' hL hF K hK'
            go_simp
            exact hK'.out _ _ rfl (Lat.refl _)
          simp only [Act.put, List.setIfInBounds_toArray, List.set_cons_zero, List.set_cons_succ, Nat.reduceAdd]
          apply RelyL.val
          · intro ν w' hL hF K hK'
            go_simp
            exact hK'.out _ _ rfl (Lat.refl _)
          simp only [Act.put, List.setIfInBounds_toArray, List.set_cons_zero, List.set_cons_succ, Nat.reduceAdd]
          apply RelyL.val
          · intro ν w' hL hF K hK'
            go_simp
            exact hK'.out _ _ rfl (Lat.refl _)
          simp only [Act.put, List.setIfInBounds_toArray, List.set_cons_zero, List.set_cons_succ, Nat.reduceAdd]
          apply RelyL.val
          · intro ν w' hL hF K hK'
            go_simp
            exact hK'.out _ _ rfl (Lat.refl _)
          simp only [Act.put, List.setIfInBounds_toArray, List.set_cons_zero, List.set_cons_succ, Nat.reduceAdd]
          apply RelyL.val
          · intro ν w' hL hF K hK'
            refine take_op rfl ?_
            refine wp_load_at 29 _ rfl b (off + j * 3) rfl _ _ (g.below hL hbl) Try.underlying29 rfl (by kernel_rfl) ?_
            exact hK'.out _ _ rfl (Lat.refl _)
          simp only [Act.put, List.setIfInBounds_toArray, List.set_cons_zero, List.set_cons_succ, Nat.reduceAdd]
          apply RelyL.val
          · intro ν w' hL hF K hK'
            refine take_op rfl ?_
            refine wp_load_blk rfl rfl (hK.lat hL) Try.underlying29 rfl (by kernel_rfl : (Try.prog.info? 29).map (·.size) = some 3) rfl ?_
            exact hK'.out _ _ rfl (Lat.refl _)
          simp only [Act.put, List.setIfInBounds_toArray, List.set_cons_zero, List.set_cons_succ, Nat.reduceAdd]
          apply RelyL.val
          · intro ν w' hL hF K hK'
            have H := HR.out w'
            go_simp
            go_at_call 115
            refine H.mono ?_
            rintro r w'' ⟨rfl, hbp⟩
            exact hK'.out _ _ rfl hbp
          simp only [Act.put, List.setIfInBounds_toArray, List.set_cons_zero, List.set_cons_succ, Nat.reduceAdd]
          apply RelyL.val
          · intro ν w' hL hF K hK'
            go_simp
            exact hK'.out _ _ rfl (Lat.refl _)
          simp only [Act.put, List.setIfInBounds_toArray, List.set_cons_zero, List.set_cons_succ, Nat.reduceAdd]
          apply RelyL.val
          · intro ν w' hL hF K hK'
            go_simp
            exact hK'.out _ _ rfl (Lat.refl _)
          simp only [Act.put, List.setIfInBounds_toArray, List.set_cons_zero, List.set_cons_succ, Nat.reduceAdd]
          refine RelyL.done fun ν w1 hL hF => ?_
          replace hown := hown.lat hL
          replace hK := hK.lat hL
          replace g := g.below hL hbl
          replace hbw := hbw.th hL
          replace hbl := Nat.lt_of_lt_of_le hbl hL.size
          clear hF hL
          have hownA := hown.al (.cells #[.int .i64 k1, .string k2, .string k3] 29)
          have hKA := hK.alloc (.cells #[.int .i64 k1, .string k2, .string k3] 29)
          have hbwA := hbw.al (.cells #[.int .i64 k1, .string k2, .string k3] 29)
          have hnewA := Blk.new w1 29 #[.int .i64 k1, .string k2, .string k3]
          have hneA : some w.heap.size ≠ u5.ownBlock := fun e => by have := (hown.lt _ e.symm).1; omega
          have hltA := hbw.size
          have hleA := fun q (hq : u5.ownBlock = some q) => (hown.lt q hq).1
          have gA := g.below (Lat.al w1 (.cells #[.int .i64 k1, .string k2, .string k3] 29)) hbl
          have hbA : b < w.heap.size := by omega
          have cK := hK.cell
          go_upto_region 9 with (at_builtin; refine append_key rfl _ _ rfl (w.heap.size + 1) o u5 rfl hownA w1.heap.size 1 (LKey.mk k1 k2 k3) rfl 29 hnewA hl1 (by rw [World.size_alloc]; exact Nat.succ_le_succ hltA) ?_; intro v3 w3 hown3 hg3; go_must (have hs3 := hg3.size; have hK3 := hKA.grown hg3 hneA; have hbw3 := hbwA.grown hg3 (by simp; omega) (fun q hq => by have := hleA q hq; omega); clear cK))
          replace hK := hK3
          replace hown := hown3
          replace hbw := hbw3
          replace g := rowAt_block gA (hg3.block b (by simp; omega) (fun e => by have := hleA _ e.symm; omega))
          replace hbl : b < w3.heap.size := by simp at hs3; omega
          clear hK3 hown3 hbw3 gA hownA hKA hbwA hnewA hneA hltA hleA hg3 hs3
          go_upto_region 9 with fail
          refine wp_rely (by kernel_rfl) (by kernel_rfl) ?_
          apply RelyL.val
          · intro ν w' hL hF K hK'
            go_simp
            exact hK'.out _ _ rfl (Lat.refl _)
          simp only [Act.put, List.setIfInBounds_toArray, List.set_cons_zero, List.set_cons_succ, Nat.reduceAdd]
          apply RelyL.val
          · intro ν w' hL hF K hK'
            go_simp
            exact hK'.out _ _ rfl (Lat.refl _)
          simp only [Act.put, List.setIfInBounds_toArray, List.set_cons_zero, List.set_cons_succ, Nat.reduceAdd]
          apply RelyL.val
          · intro ν w' hL hF K hK'
            go_simp
            exact hK'.out _ _ rfl (Lat.refl _)
          simp only [Act.put, List.setIfInBounds_toArray, List.set_cons_zero, List.set_cons_succ, Nat.reduceAdd]
          apply RelyL.val
          · intro ν w' hL hF K hK'
            refine take_op rfl ?_
            refine wp_load_at 29 _ rfl b (off + j * 3) rfl _ _ (g.below hL hbl) Try.underlying29 rfl (by kernel_rfl) ?_
            exact hK'.out _ _ rfl (Lat.refl _)
          simp only [Act.put, List.setIfInBounds_toArray, List.set_cons_zero, List.set_cons_succ, Nat.reduceAdd]
          apply RelyL.val
          · intro ν w' hL hF K hK'
            refine take_op rfl ?_
            refine wp_load_blk rfl rfl (hK.lat hL) Try.underlying29 rfl (by kernel_rfl : (Try.prog.info? 29).map (·.size) = some 3) rfl ?_
            exact hK'.out _ _ rfl (Lat.refl _)
          simp only [Act.put, List.setIfInBounds_toArray, List.set_cons_zero, List.set_cons_succ, Nat.reduceAdd]
          apply RelyL.val
          · intro ν w' hL hF K hK'
            refine take_op rfl ?_
            refine wp_neq_key _ _ _ rfl ⟨x1, x2, x3⟩ ⟨k1, k2, k3⟩ rfl rfl HE.out ?_
            exact hK'.out _ _ rfl (Lat.refl _)
          simp only [Act.put, List.setIfInBounds_toArray, List.set_cons_zero, List.set_cons_succ, Nat.reduceAdd]
          refine RelyL.done fun ν w4 hL hF => ?_
          replace hown := hown.lat hL
          replace hK := hK.lat hL
          replace g := g.below hL hbl
          replace hbw := hbw.th hL
          replace hbl := Nat.lt_of_lt_of_le hbl hL.size
          clear hF hL
          cases E with
          | true =>
            go_wp2_with fail
            go_roundw
            case rel => exact ⟨j + 1, true, o ++ [LKey.mk k1 k2 k3], hj1, rfl, by go_num, HT.out rfl, (by rw [List.length_append]; exact Nat.le_succ_of_le hl3), hown, hK, hbw⟩
            case measure => simp [intOf]; omega
          | false =>
            have cK := hK.cell
            have hownA := hown.al (.cells #[.int .i64 x1, .string x2, .string x3] 29)
            have hKA := hK.alloc (.cells #[.int .i64 x1, .string x2, .string x3] 29)
            have hbwA := hbw.al (.cells #[.int .i64 x1, .string x2, .string x3] 29)
            have hnewA := Blk.new w4 29 #[.int .i64 x1, .string x2, .string x3]
            have hneA : some w.heap.size ≠ v3.ownBlock := fun e => absurd (hown.lt _ e.symm).1 (Nat.not_succ_le_self _)
            have hltA := hbw.size
            have hleA := fun q (hq : v3.ownBlock = some q) => (hown.lt q hq).1
            have hlenA : ((o ++ [LKey.mk k1 k2 k3]).length + 1) * 40 ≤ 140737488355328 := (hl2 _ (by rw [List.length_append]; rfl))
            have hbaseA : w.heap.size + 1 ≤ (w4.alloc (.cells #[.int .i64 x1, .string x2, .string x3] 29)).heap.size := by rw [World.size_alloc]; exact Nat.succ_le_succ hltA
            have hleB := fun q (hq : v3.ownBlock = some q) => (Nat.le_of_succ_le (hleA q hq) : w.heap.size ≤ q)
            have hbB : w.heap.size ≤ (w4.alloc (.cells #[.int .i64 x1, .string x2, .string x3] 29)).heap.size := Nat.le_of_succ_le hbaseA
            clear hK
            go_wp2_with (first | (with_reducible refine wpList_load_at rfl 29 _ rfl b (off + j * 3) rfl _ _ g Try.underlying29 rfl (by kernel_rfl) ?_) | (at_builtin; refine append_key rfl _ _ rfl (w.heap.size + 1) (o ++ [LKey.mk k1 k2 k3]) v3 rfl hownA w4.heap.size 1 (LKey.mk x1 x2 x3) rfl 29 hnewA hlenA hbaseA ?_; intro v6 w6 hown6 hg6; go_must (have hK6 := hKA.grown hg6 hneA; have hbw6 := hbwA.grown hg6 hbB hleB; clear cK)))
            go_roundw
            case rel => exact ⟨j + 1, true, (o ++ [LKey.mk k1 k2 k3]) ++ [LKey.mk x1 x2 x3], hj1, rfl, by go_num, HF.out rfl, (by rw [List.length_append, List.length_append]; exact hl4), hown6, hK6, hbw6⟩
            case measure => simp [intOf]; omega
        · simp only [Bool.not_false, Bool.not_true, Bool.and_self, Bool.false_and, Bool.and_false, Bool.true_and, Bool.true_or, Bool.or_true, Bool.false_or, Bool.or_false, if_true, Bool.false_eq_true, if_false, List.append_nil] at HT1 HF1
          have HT := Lib.hid HT1
          have HF := Lib.hid HF1
          clear HT1 HF1
          simp only [Bool.toNat_false] at hol
          have hl1 : (o.length + 1) * 40 ≤ 140737488355328 := by omega
          have hl2 : ∀ m, m = o.length + 1 → (m + 1) * 40 ≤ 140737488355328 := fun m hm => by omega
          have hl3 : o.length + 1 ≤ j + 1 + 0 := by omega
          have hl4 : o.length + 1 + 1 ≤ j + 1 + 1 := by omega
          have hj1 : j + 1 ≤ l.length := hlj
          go_upto_region 6 with fail
          refine wp_rely (by kernel_rfl) (by kernel_rfl) ?_
          apply RelyL.val
          · intro ν w' hL hF K hK'
            go_simp
            exact hK'.out _ _ rfl (Lat.refl _)
          simp only [Act.put, List.setIfInBounds_toArray, List.set_cons_zero, List.set_cons_succ, Nat.reduceAdd]
          apply RelyL.val
          · intro ν w' hL hF K hK'
            go_simp
            exact hK'.out _ _ rfl (Lat.refl _)
          simp only [Act.put, List.setIfInBounds_toArray, List.set_cons_zero, List.set_cons_succ, Nat.reduceAdd]
          apply RelyL.val
          · intro ν w' hL hF K hK'
            go_simp
            exact hK'.out _ _ rfl (Lat.refl _)
          simp only [Act.put, List.setIfInBounds_toArray, List.set_cons_zero, List.set_cons_succ, Nat.reduceAdd]
          apply RelyL.val
          · intro ν w' hL hF K hK'
            go_simp
            exact hK'.out _ _ rfl (Lat.refl _)
          simp only [Act.put, List.setIfInBounds_toArray, List.set_cons_zero, List.set_cons_succ, Nat.reduceAdd]
          apply RelyL.val
          · intro ν w' hL hF K hK'
            go_simp
            exact hK'.out _ _ rfl (Lat.refl _)
          simp only [Act.put, List.setIfInBounds_toArray, List.set_cons_zero, List.set_cons_succ, Nat.reduceAdd]
          apply RelyL.val
          · intro ν w' hL hF K hK'
            go_simp
            exact hK'.out _ _ rfl (Lat.refl _)
          simp only [Act.put, List.setIfInBounds_toArray, List.set_cons_zero, List.set_cons_succ, Nat.reduceAdd]
          apply RelyL.val
          · intro ν w' hL hF K hK'
            refine take_op rfl ?_
            refine wp_load_at 29 _ rfl b (off + j * 3) rfl _ _ (g.below hL hbl) Try.underlying29 rfl (by kernel_rfl) ?_
            exact hK'.out _ _ rfl (Lat.refl _)
          simp only [Act.put, List.setIfInBounds_toArray, List.set_cons_zero, List.set_cons_succ, Nat.reduceAdd]
          apply RelyL.val
          · intro ν w' hL hF K hK'
            refine take_op rfl ?_
            refine wp_load_blk rfl rfl (hK.lat hL) Try.underlying29 rfl (by kernel_rfl : (Try.prog.info? 29).map (·.size) = some 3) rfl ?_
            exact hK'.out _ _ rfl (Lat.refl _)
          simp only [Act.put, List.setIfInBounds_toArray, List.set_cons_zero, List.set_cons_succ, Nat.reduceAdd]
          apply RelyL.val
          · intro ν w' hL hF K hK'
            have H := HR.out w'
            go_simp
            go_at_call 115
            refine H.mono ?_
            rintro r w'' ⟨rfl, hbp⟩
            exact hK'.out _ _ rfl hbp
          simp only [Act.put, List.setIfInBounds_toArray, List.set_cons_zero, List.set_cons_succ, Nat.reduceAdd]
          apply RelyL.val
          · intro ν w' hL hF K hK'
            go_simp
            exact hK'.out _ _ rfl (Lat.refl _)
          simp only [Act.put, List.setIfInBounds_toArray, List.set_cons_zero, List.set_cons_succ, Nat.reduceAdd]
          apply RelyL.val
          · intro ν w' hL hF K hK'
            go_simp
            exact hK'.out _ _ rfl (Lat.refl _)
          simp only [Act.put, List.setIfInBounds_toArray, List.set_cons_zero, List.set_cons_succ, Nat.reduceAdd]
          refine RelyL.done fun ν w1 hL hF => ?_
          replace hown := hown.lat hL
          replace hK := hK.lat hL
          replace g := g.below hL hbl
          replace hbw := hbw.th hL
          replace hbl := Nat.lt_of_lt_of_le hbl hL.size
          clear hF hL
          go_upto_region 9 with fail
          refine wp_rely (by kernel_rfl) (by kernel_rfl) ?_
          apply RelyL.val
          · intro ν w' hL hF K hK'
            go_simp
            exact hK'.out _ _ rfl (Lat.refl _)
          simp only [Act.put, List.setIfInBounds_toArray, List.set_cons_zero, List.set_cons_succ, Nat.reduceAdd]
          apply RelyL.val
          · intro ν w' hL hF K hK'
            go_simp
            exact hK'.out _ _ rfl (Lat.refl _)
          simp only [Act.put, List.setIfInBounds_toArray, List.set_cons_zero, List.set_cons_succ, Nat.reduceAdd]
          apply RelyL.val
          · intro ν w' hL hF K hK'
            go_simp
            exact hK'.out _ _ rfl (Lat.refl _)
          simp only [Act.put, List.setIfInBounds_toArray, List.set_cons_zero, List.set_cons_succ, Nat.reduceAdd]
          apply RelyL.val
          · intro ν w' hL hF K hK'
            refine take_op rfl ?_
            refine wp_load_at 29 _ rfl b (off + j * 3) rfl _ _ (g.below hL hbl) Try.underlying29 rfl (by kernel_rfl) ?_
            exact hK'.out _ _ rfl (Lat.refl _)
          simp only [Act.put, List.setIfInBounds_toArray, List.set_cons_zero, List.set_cons_succ, Nat.reduceAdd]
          apply RelyL.val
          · intro ν w' hL hF K hK'
            refine take_op rfl ?_
            refine wp_load_blk rfl rfl (hK.lat hL) Try.underlying29 rfl (by kernel_rfl : (Try.prog.info? 29).map (·.size) = some 3) rfl ?_
            exact hK'.out _ _ rfl (Lat.refl _)
          simp only [Act.put, List.setIfInBounds_toArray, List.set_cons_zero, List.set_cons_succ, Nat.reduceAdd]
          apply RelyL.val
          · intro ν w' hL hF K hK'
            refine take_op rfl ?_
            refine wp_neq_key _ _ _ rfl ⟨x1, x2, x3⟩ ⟨k1, k2, k3⟩ rfl rfl HE.out ?_
            exact hK'.out _ _ rfl (Lat.refl _)
          simp only [Act.put, List.setIfInBounds_toArray, List.set_cons_zero, List.set_cons_succ, Nat.reduceAdd]
          refine RelyL.done fun ν w4 hL hF => ?_
          replace hown := hown.lat hL
          replace hK := hK.lat hL
          replace g := g.below hL hbl
          replace hbw := hbw.th hL
          replace hbl := Nat.lt_of_lt_of_le hbl hL.size
          clear hF hL
          cases E with
          | true =>
            go_wp2_with fail
            go_roundw
            case rel => exact ⟨j + 1, false, o, hj1, rfl, by go_num, HT.out rfl, (Nat.le_of_succ_le hl3), hown, hK, hbw⟩
            case measure => simp [intOf]; omega
          | false =>
            have cK := hK.cell
            have hownA := hown.al (.cells #[.int .i64 x1, .string x2, .string x3] 29)
            have hKA := hK.alloc (.cells #[.int .i64 x1, .string x2, .string x3] 29)
            have hbwA := hbw.al (.cells #[.int .i64 x1, .string x2, .string x3] 29)
            have hnewA := Blk.new w4 29 #[.int .i64 x1, .string x2, .string x3]
            have hneA : some w.heap.size ≠ u5.ownBlock := fun e => absurd (hown.lt _ e.symm).1 (Nat.not_succ_le_self _)
            have hltA := hbw.size
            have hleA := fun q (hq : u5.ownBlock = some q) => (hown.lt q hq).1
            have hlenA : ((o).length + 1) * 40 ≤ 140737488355328 := hl1
            have hbaseA : w.heap.size + 1 ≤ (w4.alloc (.cells #[.int .i64 x1, .string x2, .string x3] 29)).heap.size := by rw [World.size_alloc]; exact Nat.succ_le_succ hltA
            have hleB := fun q (hq : u5.ownBlock = some q) => (Nat.le_of_succ_le (hleA q hq) : w.heap.size ≤ q)
            have hbB : w.heap.size ≤ (w4.alloc (.cells #[.int .i64 x1, .string x2, .string x3] 29)).heap.size := Nat.le_of_succ_le hbaseA
            clear hK
            go_wp2_with (first | (with_reducible refine wpList_load_at rfl 29 _ rfl b (off + j * 3) rfl _ _ g Try.underlying29 rfl (by kernel_rfl) ?_) | (at_builtin; refine append_key rfl _ _ rfl (w.heap.size + 1) (o) u5 rfl hownA w4.heap.size 1 (LKey.mk x1 x2 x3) rfl 29 hnewA hlenA hbaseA ?_; intro v6 w6 hown6 hg6; go_must (have hK6 := hKA.grown hg6 hneA; have hbw6 := hbwA.grown hg6 hbB hleB; clear cK)))
            go_roundw
            case rel => exact ⟨j + 1, false, (o) ++ [LKey.mk x1 x2 x3], hj1, rfl, by go_num, HF.out rfl, (by rw [List.length_append]; exact hl3), hown6, hK6, hbw6⟩
            case measure => simp [intOf]; omega
      · simp only [Bool.not_false, Bool.not_true, Bool.and_self, Bool.false_and, Bool.and_false, Bool.true_and, Bool.true_or, Bool.or_true, Bool.false_or, Bool.or_false, if_true, Bool.false_eq_true, if_false, List.append_nil] at HT1 HF1
        have HT := Lib.hid HT1
        have HF := Lib.hid HF1
        clear HT1 HF1
        simp only [Bool.toNat_true] at hol
        have hl1 : (o.length + 1) * 40 ≤ 140737488355328 := by omega
        have hl3 : o.length + 1 ≤ j + 1 + 1 := by omega
        have hj1 : j + 1 ≤ l.length := hlj
        go_upto_region 6 with fail
        refine wp_rely (by kernel_rfl) (by kernel_rfl) ?_
        apply RelyL.val
        · intro ν w' hL hF K hK'
          go_simp
          exact hK'.out _ _ rfl (Lat.refl _)
        simp only [Act.put, List.setIfInBounds_toArray, List.set_cons_zero, List.set_cons_succ, Nat.reduceAdd]
        apply RelyL.val
        · intro ν w' hL hF K hK'
          go_simp
          exact hK'.out _ _ rfl (Lat.refl _)
        simp only [Act.put, List.setIfInBounds_toArray, List.set_cons_zero, List.set_cons_succ, Nat.reduceAdd]
        apply RelyL.val
        · intro ν w' hL hF K hK'
          go_simp
          exact hK'.out _ _ rfl (Lat.refl _)
        simp only [Act.put, List.setIfInBounds_toArray, List.set_cons_zero, List.set_cons_succ, Nat.reduceAdd]
        apply RelyL.val
        · intro ν w' hL hF K hK'
          refine skip_op rfl ?_
          exact hK'.out _ _ rfl (Lat.refl _)
        simp only [Act.put, List.setIfInBounds_toArray, List.set_cons_zero, List.set_cons_succ, Nat.reduceAdd]
        apply RelyL.val
        · intro ν w' hL hF K hK'
          refine skip_op rfl ?_
          exact hK'.out _ _ rfl (Lat.refl _)
        simp only [Act.put, List.setIfInBounds_toArray, List.set_cons_zero, List.set_cons_succ, Nat.reduceAdd]
        apply RelyL.val
        · intro ν w' hL hF K hK'
          refine skip_op rfl ?_
          exact hK'.out _ _ rfl (Lat.refl _)
        simp only [Act.put, List.setIfInBounds_toArray, List.set_cons_zero, List.set_cons_succ, Nat.reduceAdd]
        apply RelyL.val
        · intro ν w' hL hF K hK'
          refine skip_op rfl ?_
          exact hK'.out _ _ rfl (Lat.refl _)
        simp only [Act.put, List.setIfInBounds_toArray, List.set_cons_zero, List.set_cons_succ, Nat.reduceAdd]
        apply RelyL.val
        · intro ν w' hL hF K hK'
          refine skip_op rfl ?_
          exact hK'.out _ _ rfl (Lat.refl _)
        simp only [Act.put, List.setIfInBounds_toArray, List.set_cons_zero, List.set_cons_succ, Nat.reduceAdd]
        apply RelyL.val
        · intro ν w' hL hF K hK'
          refine skip_op rfl ?_
          exact hK'.out _ _ rfl (Lat.refl _)
        simp only [Act.put, List.setIfInBounds_toArray, List.set_cons_zero, List.set_cons_succ, Nat.reduceAdd]
        apply RelyL.val
        · intro ν w' hL hF K hK'
          refine skip_op rfl ?_
          exact hK'.out _ _ rfl (Lat.refl _)
        simp only [Act.put, List.setIfInBounds_toArray, List.set_cons_zero, List.set_cons_succ, Nat.reduceAdd]
        apply RelyL.val
        · intro ν w' hL hF K hK'
          go_simp
          exact hK'.out _ _ rfl (Lat.refl _)
        simp only [Act.put, List.setIfInBounds_toArray, List.set_cons_zero, List.set_cons_succ, Nat.reduceAdd]
        refine RelyL.done fun ν w1 hL hF => ?_
        replace hown := hown.lat hL
        replace hK := hK.lat hL
        replace g := g.below hL hbl
        replace hbw := hbw.th hL
        replace hbl := Nat.lt_of_lt_of_le hbl hL.size
        clear hF hL
        go_upto_region 9 with fail
        refine wp_rely (by kernel_rfl) (by kernel_rfl) ?_
        apply RelyL.val
        · intro ν w' hL hF K hK'
          go_simp
          exact hK'.out _ _ rfl (Lat.refl _)
        simp only [Act.put, List.setIfInBounds_toArray, List.set_cons_zero, List.set_cons_succ, Nat.reduceAdd]
        apply RelyL.val
        · intro ν w' hL hF K hK'
          go_simp
          exact hK'.out _ _ rfl (Lat.refl _)
        simp only [Act.put, List.setIfInBounds_toArray, List.set_cons_zero, List.set_cons_succ, Nat.reduceAdd]
        apply RelyL.val
        · intro ν w' hL hF K hK'
          go_simp
          exact hK'.out _ _ rfl (Lat.refl _)
        simp only [Act.put, List.setIfInBounds_toArray, List.set_cons_zero, List.set_cons_succ, Nat.reduceAdd]
        apply RelyL.val
        · intro ν w' hL hF K hK'
          refine take_op rfl ?_
          refine wp_load_at 29 _ rfl b (off + j * 3) rfl _ _ (g.below hL hbl) Try.underlying29 rfl (by kernel_rfl) ?_
          exact hK'.out _ _ rfl (Lat.refl _)
        simp only [Act.put, List.setIfInBounds_toArray, List.set_cons_zero, List.set_cons_succ, Nat.reduceAdd]
        apply RelyL.val
        · intro ν w' hL hF K hK'
          refine take_op rfl ?_
          refine wp_load_blk rfl rfl (hK.lat hL) Try.underlying29 rfl (by kernel_rfl : (Try.prog.info? 29).map (·.size) = some 3) rfl ?_
          exact hK'.out _ _ rfl (Lat.refl _)
        simp only [Act.put, List.setIfInBounds_toArray, List.set_cons_zero, List.set_cons_succ, Nat.reduceAdd]
        apply RelyL.val
        · intro ν w' hL hF K hK'
          refine take_op rfl ?_
          refine wp_neq_key _ _ _ rfl ⟨x1, x2, x3⟩ ⟨k1, k2, k3⟩ rfl rfl HE.out ?_
          exact hK'.out _ _ rfl (Lat.refl _)
        simp only [Act.put, List.setIfInBounds_toArray, List.set_cons_zero, List.set_cons_succ, Nat.reduceAdd]
        refine RelyL.done fun ν w4 hL hF => ?_
        replace hown := hown.lat hL
        replace hK := hK.lat hL
        replace g := g.below hL hbl
        replace hbw := hbw.th hL
        replace hbl := Nat.lt_of_lt_of_le hbl hL.size
        clear hF hL
        cases E with
        | true =>
          go_wp2_with fail
          go_roundw
          case rel => exact ⟨j + 1, true, o, hj1, rfl, by go_num, HT.out rfl, (Nat.le_of_succ_le hl3), hown, hK, hbw⟩
          case measure => simp [intOf]; omega
        | false =>
          have cK := hK.cell
          have hownA := hown.al (.cells #[.int .i64 x1, .string x2, .string x3] 29)
          have hKA := hK.alloc (.cells #[.int .i64 x1, .string x2, .string x3] 29)
          have hbwA := hbw.al (.cells #[.int .i64 x1, .string x2, .string x3] 29)
          have hnewA := Blk.new w4 29 #[.int .i64 x1, .string x2, .string x3]
          have hneA : some w.heap.size ≠ u5.ownBlock := fun e => absurd (hown.lt _ e.symm).1 (Nat.not_succ_le_self _)
          have hltA := hbw.size
          have hleA := fun q (hq : u5.ownBlock = some q) => (hown.lt q hq).1
          have hlenA : ((o).length + 1) * 40 ≤ 140737488355328 := hl1
          have hbaseA : w.heap.size + 1 ≤ (w4.alloc (.cells #[.int .i64 x1, .string x2, .string x3] 29)).heap.size := by rw [World.size_alloc]; exact Nat.succ_le_succ hltA
          have hleB := fun q (hq : u5.ownBlock = some q) => (Nat.le_of_succ_le (hleA q hq) : w.heap.size ≤ q)
          have hbB : w.heap.size ≤ (w4.alloc (.cells #[.int .i64 x1, .string x2, .string x3] 29)).heap.size := Nat.le_of_succ_le hbaseA
          clear hK
          go_wp2_with (first | (with_reducible refine wpList_load_at rfl 29 _ rfl b (off + j * 3) rfl _ _ g Try.underlying29 rfl (by kernel_rfl) ?_) | (at_builtin; refine append_key rfl _ _ rfl (w.heap.size + 1) (o) u5 rfl hownA w4.heap.size 1 (LKey.mk x1 x2 x3) rfl 29 hnewA hlenA hbaseA ?_; intro v6 w6 hown6 hg6; go_must (have hK6 := hKA.grown hg6 hneA; have hbw6 := hbwA.grown hg6 hbB hleB; clear cK)))
          go_roundw
          case rel => exact ⟨j + 1, true, (o) ++ [LKey.mk x1 x2 x3], hj1, rfl, by go_num, HF.out rfl, (by rw [List.length_append]; exact hl3), hown6, hK6, hbw6⟩
          case measure => simp [intOf]; omega
    · have hj : j = l.length := by omega
      subst hj
      have hl2 : (o.length + 1) * 40 ≤ 140737488355328 := by rcases dn with _ | _ <;> simp only [Bool.toNat_false, Bool.toNat_true] at hol <;> omega
      have hz : w.heap.size + 1 ≤ (wr.alloc (.cells #[.int .i64 k1, .string k2, .string k3] 29)).heap.size := by rw [World.size_alloc]; have := hbw.size; omega
      have hst := HH.out
      rw [List.drop_length] at hst
      clear HH
      cases dn with
      | true =>
        rw [putK, if_pos rfl, List.append_nil] at hst
        subst hst
        go_wp2_with fail
        obtain ⟨A', c', rfl, hr'⟩ := hown.rows
        go_ret
        exact ⟨⟨_, _, rfl, hr'⟩, hbw.mono (by omega)⟩
      | false =>
        rw [putK, if_neg (by simp)] at hst
        simp only [Bool.toNat_false] at hol
        subst hst
        have cK := hK.cell
        have hownA := hown.al (.cells #[.int .i64 k1, .string k2, .string k3] 29)
        have hbwA := hbw.al (.cells #[.int .i64 k1, .string k2, .string k3] 29)
        have hnewA := Blk.new wr 29 #[.int .i64 k1, .string k2, .string k3]
        have hltA := hbw.size
        have hleA := fun q (hq : u5.ownBlock = some q) => (hown.lt q hq).1
        go_wp2_with (at_builtin; refine append_key rfl _ _ rfl (w.heap.size + 1) o u5 rfl hownA wr.heap.size 1 (LKey.mk k1 k2 k3) rfl 29 hnewA hl2 hz ?_; intro v3 w3 hown3 hg3; go_must (have hbw3 := hbwA.grown hg3 (Nat.le_of_succ_le hz) (fun q hq => Nat.le_of_succ_le (hleA q hq))); obtain ⟨A', c', rfl, hr'⟩ := hown3.rows)
        go_ret
        exact ⟨⟨A', c', by rw [List.length_append]; rfl, hr'⟩, hbw3.mono (by omega)⟩
end Go.Proofs.Ytnelgblmogciiaa
