/- Hold: limit, valid, byName. -/
import Derived.Test.YtafodibbcfoclaaGreatHPlains
import Derived.Carry
import Derived.Deep.AppendLies
import Derived.Deep.DeepCutAuto
set_option linter.unusedSimpArgs false
set_option linter.unusedVariables false
namespace Go.Proofs.YtafodibbcfoclaaGreat
open Go.RowKit

set_option maxRecDepth 100000 in
theorem limit_any (n : Int) (w : World) : Calls Tryz.prog 20 #[.int .i64 n] w fun r w' => r = .returned (.int .i64 (lim n)) ∧ w' = w := by
  have hma : ∀ (ats : Array TypeId) (ty : TypeId) (w : World), (Builtin.max_ ats ty #[.int .i64 n, .int .i64 0]).run Tryz.prog w = .ok (.int .i64 (mx n)) w := fun _ _ _ => rfl
  have hmi : ∀ (ats : Array TypeId) (ty : TypeId) (w : World), (Builtin.min_ ats ty #[.int .i64 (mx n), .int .i64 1099511627776]).run Tryz.prog w = .ok (.int .i64 (lim n)) w := fun _ _ _ => rfl
  generalize lim n = L at *
  generalize mx n = M at *
  go_enter Tryz.func20, Tryz.ntmps20
  go_wp2_with fail
  go_ret
  exact ⟨rfl, rfl⟩
set_option maxRecDepth 100000 in
set_option maxHeartbeats 1000000 in
theorem cloneT_any (xs : List LTim) (A : Option Addr) (c : Nat) (w : World) (h : ET.Rd w xs (.slice A xs.length c)) (hl : xs.length ≤ 1000000) :
    Calls Tryz.prog 28 #[.slice A xs.length c] w fun r w' => ∃ v, r = .returned v ∧ ET.Own w' w.heap.size xs v ∧ Lat w w' := by
  obtain ⟨A', c', hv, hr, hn⟩ := h
  injection hv with e1 e2 e3
  subst e1 e3
  have q33 : ∀ (w : World) (a : Option Addr) (n c n' c' : Nat), (binOp .eql 22 (.slice a n c) (.slice none n' c')).run Tryz.prog w = .ok (.bool a.isNone) w := fun w a n c n' c' => Lib.run_eql_slice_nil w _ _ a n c n' c' Tryz.underlying22
  go_enter Tryz.func28, Tryz.ntmps28
  cases A with
  | none =>
    obtain ⟨rfl, h0⟩ := hn rfl
    obtain rfl := List.eq_nil_of_length_eq_zero h0
    go_wp2_with fail
    go_ret
    exact ⟨_, rfl, Elt.Own.nil _ _, Lat.refl _⟩
  | some ad =>
    have hown0 : ET.Own (w.alloc (.cells #[] 50)) w.heap.size [] (.slice (some ⟨w.heap.size, 0, none⟩) 0 0) := World.ownsRow_made (e := 50) w #[] 0 (Nat.le_refl _) (by unfold maxLen; omega) rfl (size := 3)
    have hr1 : IsRows (w.alloc (.cells #[] 50)).heap.size (w.alloc (.cells #[] 50)) ET.n (xs.map ET.f) (some ad) := (hr.carry (Lat.al _ _)).mono (Lat.al _ _).size
    have hmax : ([] : List LTim).length + xs.length ≤ maxLen := by unfold maxLen; simp; omega
    have hby : (([] : List LTim).length + xs.length) * ET.bytes ≤ 140737488355328 := Nat.le_trans (Nat.mul_le_mul_right ET.bytes (by simp; omega : ([] : List LTim).length + xs.length ≤ 1000000)) (by decide)
    go_wp2_with (at_builtin; refine ET.appends rfl _ _ rfl w.heap.size [] _ rfl hown0 (some ad) xs.length c xs rfl rfl (fun e => by cases e) hr1 hmax hby (by rw [World.size_alloc]; omega) ?_; intro v3 w3 hown3 hg3)
    go_ret
    refine ⟨_, rfl, by simpa using hown3, hg3.os, hg3.tape, hg3.output, Nat.le_trans (Lat.al w (.cells #[] 50)).size hg3.size, fun k hk => ?_⟩
    refine (hg3.block k (by rw [World.size_alloc]; omega) (fun e => ?_)).trans (Below.heap_alloc w _ k hk)
    injection e with e
    have e' : k = w.heap.size := e
    omega


set_option maxRecDepth 100000 in
set_option maxHeartbeats 4000000 in
theorem valid_any (l : List LTim) (A : Option Addr) (c : Nat) (w : World) (hx : ET.Rd w l (.slice A l.length c)) :
    Calls Tryz.prog 17 #[.slice A l.length c] w fun r w' => ∃ v, r = .returned v ∧ ET.Own w' w.heap.size (validP l) v ∧ Lat w w' := by
  go_enter Tryz.func17, Tryz.ntmps17
  by_cases h40 : 40 < l.length
  · have a1 : (40 : Int) < (l.length : Int) := by omega
    have hv : validP l = [] := by
      unfold validP okT
      rw [decide_eq_false (by omega)]; rfl
    rw [hv]
    clear h40 hv
    go_wp2_with fail
    go_ret
    exact ⟨_, rfl, Elt.Own.nil _ _, Lat.refl _⟩
  · have a1 : ¬ ((40 : Int) < (l.length : Int)) := by omega
    have H0 : Hid (okT l = okF (prevT l 0) (l.drop 0)) := Lib.hid (by unfold okT; rw [decide_eq_true (by omega)]; rfl)
    go_wp2_with fail
    go_loopw [10] (fun i wr => ∃ j : Nat, j ≤ l.length ∧ i = .int .i64 j ∧ Hid (okT l = okF (prevT l j) (l.drop j)) ∧ Lat w wr) (fun i _ => l.length - (intOf i).toNat)
    case atStart => exact ⟨0, Nat.zero_le _, rfl, H0, Lat.refl _⟩
    case round =>
      clear H0
      obtain ⟨j, hjl, rfl, HJ, hLW⟩ := hrel
      by_cases hlt : j < l.length
      · obtain ⟨b, off, hA, hb0, hr1'⟩ := (hx.lat hLW).row j hlt
        subst hA
        have hr1 : RowAt wr b (off + j * 3) (tC l[j]) := hr1'
        have HS := Lib.hid (okF_step l j hlt)
        have hprev : ∀ q, j = q + 1 → wr.cell? ⟨b, off + q * 3, none⟩ = some (.string (l[q]?.getD ⟨noStr, 0, false⟩).rule) ∧ prevT l j = some (l[q]?.getD ⟨noStr, 0, false⟩).rule := fun q hq => by
          obtain ⟨b', off', hA', _, hr'⟩ := (hx.lat hLW).row q (by omega)
          injection hA' with e
          injection e with e1 e2
          subst e1 e2
          have hg : l[q]? = some l[q] := List.getElem?_eq_getElem (by omega)
          rw [hg]
          refine ⟨hr' 0 _ rfl, ?_⟩
          subst hq
          unfold prevT
          rw [if_neg (by omega), Nat.add_sub_cancel, hg]
          rfl
        have hLB : Lat wr (wr.alloc (.cells (tC l[j]).toArray 50)) := Lat.al _ _
        have hprev2 : ∀ q, j = q + 1 → (wr.alloc (.cells (tC l[j]).toArray 50)).cell? ⟨b, off + q * 3, none⟩ = some (.string (l[q]?.getD ⟨noStr, 0, false⟩).rule) ∧ prevT l j = some (l[q]?.getD ⟨noStr, 0, false⟩).rule := fun q hq => ⟨(hLB.cell (p := ⟨b, off + q * 3, none⟩) hb0).trans (hprev q hq).1, (hprev q hq).2⟩
        have hbx := Blk.new wr 50 (tC l[j]).toArray
        have hLW3 := hLW.trans hLB
        have hb1 : b < (wr.alloc (.cells (tC l[j]).toArray 50)).heap.size := Nat.lt_of_lt_of_le hb0 hLB.size
        clear hr1' hprev hLB hLW
        generalize l[j] = X at *
        have hP0 : Hid (j = 0 → prevT l j = none) := Lib.hid (fun e => by unfold prevT; rw [if_pos e])
        have HP : ∀ q, j = q + 1 → Hid (prevT l j = some (l[q]?.getD ⟨noStr, 0, false⟩).rule) := fun q hq => Lib.hid (hprev2 q hq).2
        have hprev2 := fun q hq => (hprev2 q hq).1
        obtain ⟨x1, x2, x3⟩ := X
        simp only [tC] at hr1 hbx hLW3 hprev2 hb1
        dsimp only at HS
        go_upto_region 6 with (with_reducible refine wpList_load_at rfl 50 _ rfl b (off + j * 3) rfl _ _ hr1 Tryz.underlying50 rfl (by kernel_rfl) ?_)
        clear hr1
        generalize wr.alloc (.cells #[.string x1, .int .i64 x2, .bool x3] 50) = w4 at *
        generalize wr.heap.size = g at *
        by_cases h1 : x2 < 0
        · have HF : Hid (okT l = false) := Lib.hid (HJ.out.trans (HS.out.trans (by rw [decide_eq_false (by omega : ¬ 0 ≤ x2)]; rfl)))
          clear HJ HS hprev2
          refine wp_rely (by kernel_rfl) (by kernel_rfl) ?_
          apply RelyL.val
          · intro ν w' hL hF K hK'
            have cb := (hbx.lat hL).cell
            go_simp
            exact hK'.out _ _ rfl (Lat.refl _)
          simp only [Act.put, List.setIfInBounds_toArray, List.set_cons_zero, List.set_cons_succ, Nat.reduceAdd]
          apply RelyL.val
          · intro ν w' hL hF K hK'
            have cb := (hbx.lat hL).cell
            go_simp
            exact hK'.out _ _ rfl (Lat.refl _)
          simp only [Act.put, List.setIfInBounds_toArray, List.set_cons_zero, List.set_cons_succ, Nat.reduceAdd]
          apply RelyL.val
          · intro ν w' hL hF K hK'
            have cb := (hbx.lat hL).cell
            go_simp
            exact hK'.out _ _ rfl (Lat.refl _)
          simp only [Act.put, List.setIfInBounds_toArray, List.set_cons_zero, List.set_cons_succ, Nat.reduceAdd]
          apply RelyL.val
          · intro ν w' hL hF K hK'
            have cb := (hbx.lat hL).cell
            go_simp
            exact hK'.out _ _ rfl (Lat.refl _)
          simp only [Act.put, List.setIfInBounds_toArray, List.set_cons_zero, List.set_cons_succ, Nat.reduceAdd]
          apply RelyL.val
          · intro ν w' hL hF K hK'
            refine skip_op rfl ?_
            exact hK'.out _ _ rfl (Lat.refl _)
          simp only [Act.put, List.setIfInBounds_toArray, List.set_cons_zero, List.set_cons_succ, Nat.reduceAdd]
          apply RelyL.val
          · intro ν w' hL hF K hK'
            refine skip_op rfl ?_
            exact hK'.out _ _ rfl (Lat.refl _)
          simp only [Act.put, List.setIfInBounds_toArray, List.set_cons_zero, List.set_cons_succ, Nat.reduceAdd]
          apply RelyL.val
          · intro ν w' hL hF K hK'
            refine skip_op rfl ?_
            exact hK'.out _ _ rfl (Lat.refl _)
          simp only [Act.put, List.setIfInBounds_toArray, List.set_cons_zero, List.set_cons_succ, Nat.reduceAdd]
          apply RelyL.val
          · intro ν w' hL hF K hK'
            have cb := (hbx.lat hL).cell
            go_simp
            exact hK'.out _ _ rfl (Lat.refl _)
          simp only [Act.put, List.setIfInBounds_toArray, List.set_cons_zero, List.set_cons_succ, Nat.reduceAdd]
          apply RelyL.val
          · intro ν w' hL hF K hK'
            have cb := (hbx.lat hL).cell
            go_simp
            exact hK'.out _ _ rfl (Lat.refl _)
          simp only [Act.put, List.setIfInBounds_toArray, List.set_cons_zero, List.set_cons_succ, Nat.reduceAdd]
          apply RelyL.val
          · intro ν w' hL hF K hK'
            refine skip_op rfl ?_
            exact hK'.out _ _ rfl (Lat.refl _)
          simp only [Act.put, List.setIfInBounds_toArray, List.set_cons_zero, List.set_cons_succ, Nat.reduceAdd]
          apply RelyL.val
          · intro ν w' hL hF K hK'
            refine skip_op rfl ?_
            exact hK'.out _ _ rfl (Lat.refl _)
          simp only [Act.put, List.setIfInBounds_toArray, List.set_cons_zero, List.set_cons_succ, Nat.reduceAdd]
          apply RelyL.val
          · intro ν w' hL hF K hK'
            refine skip_op rfl ?_
            exact hK'.out _ _ rfl (Lat.refl _)
          simp only [Act.put, List.setIfInBounds_toArray, List.set_cons_zero, List.set_cons_succ, Nat.reduceAdd]
          apply RelyL.val
          · intro ν w' hL hF K hK'
            refine skip_op rfl ?_
            exact hK'.out _ _ rfl (Lat.refl _)
          simp only [Act.put, List.setIfInBounds_toArray, List.set_cons_zero, List.set_cons_succ, Nat.reduceAdd]
          apply RelyL.val
          · intro ν w' hL hF K hK'
            refine skip_op rfl ?_
            exact hK'.out _ _ rfl (Lat.refl _)
          simp only [Act.put, List.setIfInBounds_toArray, List.set_cons_zero, List.set_cons_succ, Nat.reduceAdd]
          apply RelyL.val
          · intro ν w' hL hF K hK'
            refine skip_op rfl ?_
            exact hK'.out _ _ rfl (Lat.refl _)
          simp only [Act.put, List.setIfInBounds_toArray, List.set_cons_zero, List.set_cons_succ, Nat.reduceAdd]
          apply RelyL.val
          · intro ν w' hL hF K hK'
            refine skip_op rfl ?_
            exact hK'.out _ _ rfl (Lat.refl _)
          simp only [Act.put, List.setIfInBounds_toArray, List.set_cons_zero, List.set_cons_succ, Nat.reduceAdd]
          apply RelyL.val
          · intro ν w' hL hF K hK'
            refine skip_op rfl ?_
            exact hK'.out _ _ rfl (Lat.refl _)
          simp only [Act.put, List.setIfInBounds_toArray, List.set_cons_zero, List.set_cons_succ, Nat.reduceAdd]
          apply RelyL.val
          · intro ν w' hL hF K hK'
            refine skip_op rfl ?_
            exact hK'.out _ _ rfl (Lat.refl _)
          simp only [Act.put, List.setIfInBounds_toArray, List.set_cons_zero, List.set_cons_succ, Nat.reduceAdd]
          apply RelyL.val
          · intro ν w' hL hF K hK'
            refine skip_op rfl ?_
            exact hK'.out _ _ rfl (Lat.refl _)
          simp only [Act.put, List.setIfInBounds_toArray, List.set_cons_zero, List.set_cons_succ, Nat.reduceAdd]
          apply RelyL.val
          · intro ν w' hL hF K hK'
            refine skip_op rfl ?_
            exact hK'.out _ _ rfl (Lat.refl _)
          simp only [Act.put, List.setIfInBounds_toArray, List.set_cons_zero, List.set_cons_succ, Nat.reduceAdd]
          apply RelyL.val
          · intro ν w' hL hF K hK'
            refine skip_op rfl ?_
            exact hK'.out _ _ rfl (Lat.refl _)
          simp only [Act.put, List.setIfInBounds_toArray, List.set_cons_zero, List.set_cons_succ, Nat.reduceAdd]
          apply RelyL.val
          · intro ν w' hL hF K hK'
            refine skip_op rfl ?_
            exact hK'.out _ _ rfl (Lat.refl _)
          simp only [Act.put, List.setIfInBounds_toArray, List.set_cons_zero, List.set_cons_succ, Nat.reduceAdd]
          apply RelyL.val
          · intro ν w' hL hF K hK'
            have cb := (hbx.lat hL).cell
            go_simp
            exact hK'.out _ _ rfl (Lat.refl _)
          simp only [Act.put, List.setIfInBounds_toArray, List.set_cons_zero, List.set_cons_succ, Nat.reduceAdd]
          refine RelyL.done fun ν w5 hL hF => ?_
          have hLW5 := hLW3.trans hL
          clear hF hL hbx
          go_wp2_with fail
          go_ret
          have hv : validP l = [] := by unfold validP; rw [HF.out]; rfl
          rw [hv]
          exact ⟨_, rfl, Elt.Own.nil _ _, hLW5⟩
        · by_cases h2 : 1099511627776 < x2
          · have HF : Hid (okT l = false) := Lib.hid (HJ.out.trans (HS.out.trans (by rw [decide_eq_false (by unfold MT; omega : ¬ x2 ≤ MT), Bool.and_false]; rfl)))
            clear HJ HS hprev2
            refine wp_rely (by kernel_rfl) (by kernel_rfl) ?_
            apply RelyL.val
            · intro ν w' hL hF K hK'
              have cb := (hbx.lat hL).cell
              go_simp
              exact hK'.out _ _ rfl (Lat.refl _)
            simp only [Act.put, List.setIfInBounds_toArray, List.set_cons_zero, List.set_cons_succ, Nat.reduceAdd]
            apply RelyL.val
            · intro ν w' hL hF K hK'
              have cb := (hbx.lat hL).cell
              go_simp
              exact hK'.out _ _ rfl (Lat.refl _)
            simp only [Act.put, List.setIfInBounds_toArray, List.set_cons_zero, List.set_cons_succ, Nat.reduceAdd]
            apply RelyL.val
            · intro ν w' hL hF K hK'
              have cb := (hbx.lat hL).cell
              go_simp
              exact hK'.out _ _ rfl (Lat.refl _)
            simp only [Act.put, List.setIfInBounds_toArray, List.set_cons_zero, List.set_cons_succ, Nat.reduceAdd]
            apply RelyL.val
            · intro ν w' hL hF K hK'
              have cb := (hbx.lat hL).cell
              go_simp
              exact hK'.out _ _ rfl (Lat.refl _)
            simp only [Act.put, List.setIfInBounds_toArray, List.set_cons_zero, List.set_cons_succ, Nat.reduceAdd]
            apply RelyL.val
            · intro ν w' hL hF K hK'
              have cb := (hbx.lat hL).cell
              go_simp
              exact hK'.out _ _ rfl (Lat.refl _)
            simp only [Act.put, List.setIfInBounds_toArray, List.set_cons_zero, List.set_cons_succ, Nat.reduceAdd]
            apply RelyL.val
            · intro ν w' hL hF K hK'
              have cb := (hbx.lat hL).cell
              go_simp
              exact hK'.out _ _ rfl (Lat.refl _)
            simp only [Act.put, List.setIfInBounds_toArray, List.set_cons_zero, List.set_cons_succ, Nat.reduceAdd]
            apply RelyL.val
            · intro ν w' hL hF K hK'
              have cb := (hbx.lat hL).cell
              go_simp
              exact hK'.out _ _ rfl (Lat.refl _)
            simp only [Act.put, List.setIfInBounds_toArray, List.set_cons_zero, List.set_cons_succ, Nat.reduceAdd]
            apply RelyL.val
            · intro ν w' hL hF K hK'
              have cb := (hbx.lat hL).cell
              go_simp
              exact hK'.out _ _ rfl (Lat.refl _)
            simp only [Act.put, List.setIfInBounds_toArray, List.set_cons_zero, List.set_cons_succ, Nat.reduceAdd]
            apply RelyL.val
            · intro ν w' hL hF K hK'
              have cb := (hbx.lat hL).cell
              go_simp
              exact hK'.out _ _ rfl (Lat.refl _)
            simp only [Act.put, List.setIfInBounds_toArray, List.set_cons_zero, List.set_cons_succ, Nat.reduceAdd]
            apply RelyL.val
            · intro ν w' hL hF K hK'
              refine skip_op rfl ?_
              exact hK'.out _ _ rfl (Lat.refl _)
            simp only [Act.put, List.setIfInBounds_toArray, List.set_cons_zero, List.set_cons_succ, Nat.reduceAdd]
            apply RelyL.val
            · intro ν w' hL hF K hK'
              refine skip_op rfl ?_
              exact hK'.out _ _ rfl (Lat.refl _)
            simp only [Act.put, List.setIfInBounds_toArray, List.set_cons_zero, List.set_cons_succ, Nat.reduceAdd]
            apply RelyL.val
            · intro ν w' hL hF K hK'
              refine skip_op rfl ?_
              exact hK'.out _ _ rfl (Lat.refl _)
            simp only [Act.put, List.setIfInBounds_toArray, List.set_cons_zero, List.set_cons_succ, Nat.reduceAdd]
            apply RelyL.val
            · intro ν w' hL hF K hK'
              refine skip_op rfl ?_
              exact hK'.out _ _ rfl (Lat.refl _)
            simp only [Act.put, List.setIfInBounds_toArray, List.set_cons_zero, List.set_cons_succ, Nat.reduceAdd]
            apply RelyL.val
            · intro ν w' hL hF K hK'
              refine skip_op rfl ?_
              exact hK'.out _ _ rfl (Lat.refl _)
            simp only [Act.put, List.setIfInBounds_toArray, List.set_cons_zero, List.set_cons_succ, Nat.reduceAdd]
            apply RelyL.val
            · intro ν w' hL hF K hK'
              refine skip_op rfl ?_
              exact hK'.out _ _ rfl (Lat.refl _)
            simp only [Act.put, List.setIfInBounds_toArray, List.set_cons_zero, List.set_cons_succ, Nat.reduceAdd]
            apply RelyL.val
            · intro ν w' hL hF K hK'
              refine skip_op rfl ?_
              exact hK'.out _ _ rfl (Lat.refl _)
            simp only [Act.put, List.setIfInBounds_toArray, List.set_cons_zero, List.set_cons_succ, Nat.reduceAdd]
            apply RelyL.val
            · intro ν w' hL hF K hK'
              refine skip_op rfl ?_
              exact hK'.out _ _ rfl (Lat.refl _)
            simp only [Act.put, List.setIfInBounds_toArray, List.set_cons_zero, List.set_cons_succ, Nat.reduceAdd]
            apply RelyL.val
            · intro ν w' hL hF K hK'
              refine skip_op rfl ?_
              exact hK'.out _ _ rfl (Lat.refl _)
            simp only [Act.put, List.setIfInBounds_toArray, List.set_cons_zero, List.set_cons_succ, Nat.reduceAdd]
            apply RelyL.val
            · intro ν w' hL hF K hK'
              refine skip_op rfl ?_
              exact hK'.out _ _ rfl (Lat.refl _)
            simp only [Act.put, List.setIfInBounds_toArray, List.set_cons_zero, List.set_cons_succ, Nat.reduceAdd]
            apply RelyL.val
            · intro ν w' hL hF K hK'
              refine skip_op rfl ?_
              exact hK'.out _ _ rfl (Lat.refl _)
            simp only [Act.put, List.setIfInBounds_toArray, List.set_cons_zero, List.set_cons_succ, Nat.reduceAdd]
            apply RelyL.val
            · intro ν w' hL hF K hK'
              refine skip_op rfl ?_
              exact hK'.out _ _ rfl (Lat.refl _)
            simp only [Act.put, List.setIfInBounds_toArray, List.set_cons_zero, List.set_cons_succ, Nat.reduceAdd]
            apply RelyL.val
            · intro ν w' hL hF K hK'
              refine skip_op rfl ?_
              exact hK'.out _ _ rfl (Lat.refl _)
            simp only [Act.put, List.setIfInBounds_toArray, List.set_cons_zero, List.set_cons_succ, Nat.reduceAdd]
            apply RelyL.val
            · intro ν w' hL hF K hK'
              have cb := (hbx.lat hL).cell
              go_simp
              exact hK'.out _ _ rfl (Lat.refl _)
            simp only [Act.put, List.setIfInBounds_toArray, List.set_cons_zero, List.set_cons_succ, Nat.reduceAdd]
            refine RelyL.done fun ν w5 hL hF => ?_
            have hLW5 := hLW3.trans hL
            clear hF hL hbx
            go_wp2_with fail
            go_ret
            have hv : validP l = [] := by unfold validP; rw [HF.out]; rfl
            rw [hv]
            exact ⟨_, rfl, Elt.Own.nil _ _, hLW5⟩
          · have e1 : decide (0 ≤ x2) = true := decide_eq_true (by omega)
            have e2 : decide (x2 ≤ MT) = true := decide_eq_true (by unfold MT; omega)
            rw [e1, e2] at HS
            clear e1 e2
            by_cases hj0 : j = 0
            · have HT : Hid (okT l = okF (prevT l (j + 1)) (l.drop (j + 1))) := Lib.hid (HJ.out.trans (HS.out.trans (by rw [hP0.out hj0]; rfl)))
              clear HJ HS hprev2 HP hP0
              subst hj0
              refine wp_rely (by kernel_rfl) (by kernel_rfl) ?_
              apply RelyL.val
              · intro ν w' hL hF K hK'
                have cb := (hbx.lat hL).cell
                go_simp
                exact hK'.out _ _ rfl (Lat.refl _)
              simp only [Act.put, List.setIfInBounds_toArray, List.set_cons_zero, List.set_cons_succ, Nat.reduceAdd]
              apply RelyL.val
              · intro ν w' hL hF K hK'
                have cb := (hbx.lat hL).cell
                go_simp
                exact hK'.out _ _ rfl (Lat.refl _)
              simp only [Act.put, List.setIfInBounds_toArray, List.set_cons_zero, List.set_cons_succ, Nat.reduceAdd]
              apply RelyL.val
              · intro ν w' hL hF K hK'
                have cb := (hbx.lat hL).cell
                go_simp
                exact hK'.out _ _ rfl (Lat.refl _)
              simp only [Act.put, List.setIfInBounds_toArray, List.set_cons_zero, List.set_cons_succ, Nat.reduceAdd]
              apply RelyL.val
              · intro ν w' hL hF K hK'
                have cb := (hbx.lat hL).cell
                go_simp
                exact hK'.out _ _ rfl (Lat.refl _)
              simp only [Act.put, List.setIfInBounds_toArray, List.set_cons_zero, List.set_cons_succ, Nat.reduceAdd]
              apply RelyL.val
              · intro ν w' hL hF K hK'
                have cb := (hbx.lat hL).cell
                go_simp
                exact hK'.out _ _ rfl (Lat.refl _)
              simp only [Act.put, List.setIfInBounds_toArray, List.set_cons_zero, List.set_cons_succ, Nat.reduceAdd]
              apply RelyL.val
              · intro ν w' hL hF K hK'
                have cb := (hbx.lat hL).cell
                go_simp
                exact hK'.out _ _ rfl (Lat.refl _)
              simp only [Act.put, List.setIfInBounds_toArray, List.set_cons_zero, List.set_cons_succ, Nat.reduceAdd]
              apply RelyL.val
              · intro ν w' hL hF K hK'
                have cb := (hbx.lat hL).cell
                go_simp
                exact hK'.out _ _ rfl (Lat.refl _)
              simp only [Act.put, List.setIfInBounds_toArray, List.set_cons_zero, List.set_cons_succ, Nat.reduceAdd]
              apply RelyL.val
              · intro ν w' hL hF K hK'
                have cb := (hbx.lat hL).cell
                go_simp
                exact hK'.out _ _ rfl (Lat.refl _)
              simp only [Act.put, List.setIfInBounds_toArray, List.set_cons_zero, List.set_cons_succ, Nat.reduceAdd]
              apply RelyL.val
              · intro ν w' hL hF K hK'
                have cb := (hbx.lat hL).cell
                go_simp
                exact hK'.out _ _ rfl (Lat.refl _)
              simp only [Act.put, List.setIfInBounds_toArray, List.set_cons_zero, List.set_cons_succ, Nat.reduceAdd]
              apply RelyL.val
              · intro ν w' hL hF K hK'
                have cb := (hbx.lat hL).cell
                go_simp
                exact hK'.out _ _ rfl (Lat.refl _)
              simp only [Act.put, List.setIfInBounds_toArray, List.set_cons_zero, List.set_cons_succ, Nat.reduceAdd]
              apply RelyL.val
              · intro ν w' hL hF K hK'
                have cb := (hbx.lat hL).cell
                go_simp
                exact hK'.out _ _ rfl (Lat.refl _)
              simp only [Act.put, List.setIfInBounds_toArray, List.set_cons_zero, List.set_cons_succ, Nat.reduceAdd]
              apply RelyL.val
              · intro ν w' hL hF K hK'
                have cb := (hbx.lat hL).cell
                go_simp
                exact hK'.out _ _ rfl (Lat.refl _)
              simp only [Act.put, List.setIfInBounds_toArray, List.set_cons_zero, List.set_cons_succ, Nat.reduceAdd]
              apply RelyL.val
              · intro ν w' hL hF K hK'
                refine skip_op rfl ?_
                exact hK'.out _ _ rfl (Lat.refl _)
              simp only [Act.put, List.setIfInBounds_toArray, List.set_cons_zero, List.set_cons_succ, Nat.reduceAdd]
              apply RelyL.val
              · intro ν w' hL hF K hK'
                refine skip_op rfl ?_
                exact hK'.out _ _ rfl (Lat.refl _)
              simp only [Act.put, List.setIfInBounds_toArray, List.set_cons_zero, List.set_cons_succ, Nat.reduceAdd]
              apply RelyL.val
              · intro ν w' hL hF K hK'
                refine skip_op rfl ?_
                exact hK'.out _ _ rfl (Lat.refl _)
              simp only [Act.put, List.setIfInBounds_toArray, List.set_cons_zero, List.set_cons_succ, Nat.reduceAdd]
              apply RelyL.val
              · intro ν w' hL hF K hK'
                refine skip_op rfl ?_
                exact hK'.out _ _ rfl (Lat.refl _)
              simp only [Act.put, List.setIfInBounds_toArray, List.set_cons_zero, List.set_cons_succ, Nat.reduceAdd]
              apply RelyL.val
              · intro ν w' hL hF K hK'
                refine skip_op rfl ?_
                exact hK'.out _ _ rfl (Lat.refl _)
              simp only [Act.put, List.setIfInBounds_toArray, List.set_cons_zero, List.set_cons_succ, Nat.reduceAdd]
              apply RelyL.val
              · intro ν w' hL hF K hK'
                refine skip_op rfl ?_
                exact hK'.out _ _ rfl (Lat.refl _)
              simp only [Act.put, List.setIfInBounds_toArray, List.set_cons_zero, List.set_cons_succ, Nat.reduceAdd]
              apply RelyL.val
              · intro ν w' hL hF K hK'
                refine skip_op rfl ?_
                exact hK'.out _ _ rfl (Lat.refl _)
              simp only [Act.put, List.setIfInBounds_toArray, List.set_cons_zero, List.set_cons_succ, Nat.reduceAdd]
              apply RelyL.val
              · intro ν w' hL hF K hK'
                refine skip_op rfl ?_
                exact hK'.out _ _ rfl (Lat.refl _)
              simp only [Act.put, List.setIfInBounds_toArray, List.set_cons_zero, List.set_cons_succ, Nat.reduceAdd]
              apply RelyL.val
              · intro ν w' hL hF K hK'
                refine skip_op rfl ?_
                exact hK'.out _ _ rfl (Lat.refl _)
              simp only [Act.put, List.setIfInBounds_toArray, List.set_cons_zero, List.set_cons_succ, Nat.reduceAdd]
              apply RelyL.val
              · intro ν w' hL hF K hK'
                have cb := (hbx.lat hL).cell
                go_simp
                exact hK'.out _ _ rfl (Lat.refl _)
              simp only [Act.put, List.setIfInBounds_toArray, List.set_cons_zero, List.set_cons_succ, Nat.reduceAdd]
              apply RelyL.val
              · intro ν w' hL hF K hK'
                have cb := (hbx.lat hL).cell
                go_simp
                exact hK'.out _ _ rfl (Lat.refl _)
              simp only [Act.put, List.setIfInBounds_toArray, List.set_cons_zero, List.set_cons_succ, Nat.reduceAdd]
              refine RelyL.done fun ν w5 hL hF => ?_
              have hLW5 := hLW3.trans hL
              clear hF hL hbx
              go_wp2_with fail
              go_roundw
              case rel => exact ⟨1, by omega, by go_num, HT, hLW5⟩
              case measure => simp [intOf]; omega
            · obtain ⟨q, rfl⟩ : ∃ q, j = q + 1 := ⟨j - 1, by omega⟩
              have hcq := hprev2 q rfl
              have hp := HP q rfl
              clear hprev2 HP hP0
              generalize (l[q]?.getD ⟨noStr, 0, false⟩).rule = pr at *
              have ec : ((q + 1 : Nat) : Int) = (q : Int) + 1 := Int.natCast_add q 1
              simp only [ec]
              clear ec
              have wq : IntKind.i64.wrap (q : Int) = q := by rw [IntKind.wrap_i64]; omega
              have hq0 : (0 : Int) < (q : Int) + 1 := by omega
              have hql : (q : Int) < l.length := by omega
              have hqn : q < l.length := by omega
              cases hlt1 : ltB pr x1 with
              | true =>
                have HT : Hid (okT l = okF (prevT l (q + 1 + 1)) (l.drop (q + 1 + 1))) := Lib.hid (HJ.out.trans (HS.out.trans (by rw [hp.out, show pOk (some pr) x1 = ltB pr x1 from rfl, hlt1]; rfl)))
                have b1 : Op.bytesLess pr.toList x1.toList = true := hlt1
                have b2 : Op.bytesLess x1.toList pr.toList = false := sto_ltB.asym hlt1
                have b3 : (pr.toList == x1.toList) = false := by rw [toList_beq]; simpa using sto_ltB.ne hlt1
                clear HJ HS hp hlt1 hj0
                refine wp_rely (by kernel_rfl) (by kernel_rfl) ?_
                apply RelyL.val
                · intro ν w' hL hF K hK'
                  have cb := (hbx.lat hL).cell
                  go_simp
                  exact hK'.out _ _ rfl (Lat.refl _)
                simp only [Act.put, List.setIfInBounds_toArray, List.set_cons_zero, List.set_cons_succ, Nat.reduceAdd]
                apply RelyL.val
                · intro ν w' hL hF K hK'
                  have cb := (hbx.lat hL).cell
                  go_simp
                  exact hK'.out _ _ rfl (Lat.refl _)
                simp only [Act.put, List.setIfInBounds_toArray, List.set_cons_zero, List.set_cons_succ, Nat.reduceAdd]
                apply RelyL.val
                · intro ν w' hL hF K hK'
                  have cb := (hbx.lat hL).cell
                  go_simp
                  exact hK'.out _ _ rfl (Lat.refl _)
                simp only [Act.put, List.setIfInBounds_toArray, List.set_cons_zero, List.set_cons_succ, Nat.reduceAdd]
                apply RelyL.val
                · intro ν w' hL hF K hK'
                  have cb := (hbx.lat hL).cell
                  go_simp
                  exact hK'.out _ _ rfl (Lat.refl _)
                simp only [Act.put, List.setIfInBounds_toArray, List.set_cons_zero, List.set_cons_succ, Nat.reduceAdd]
                apply RelyL.val
                · intro ν w' hL hF K hK'
                  have cb := (hbx.lat hL).cell
                  go_simp
                  exact hK'.out _ _ rfl (Lat.refl _)
                simp only [Act.put, List.setIfInBounds_toArray, List.set_cons_zero, List.set_cons_succ, Nat.reduceAdd]
                apply RelyL.val
                · intro ν w' hL hF K hK'
                  have cb := (hbx.lat hL).cell
                  go_simp
                  exact hK'.out _ _ rfl (Lat.refl _)
                simp only [Act.put, List.setIfInBounds_toArray, List.set_cons_zero, List.set_cons_succ, Nat.reduceAdd]
                apply RelyL.val
                · intro ν w' hL hF K hK'
                  have cb := (hbx.lat hL).cell
                  go_simp
                  exact hK'.out _ _ rfl (Lat.refl _)
                simp only [Act.put, List.setIfInBounds_toArray, List.set_cons_zero, List.set_cons_succ, Nat.reduceAdd]
                apply RelyL.val
                · intro ν w' hL hF K hK'
                  have cb := (hbx.lat hL).cell
                  go_simp
                  exact hK'.out _ _ rfl (Lat.refl _)
                simp only [Act.put, List.setIfInBounds_toArray, List.set_cons_zero, List.set_cons_succ, Nat.reduceAdd]
                apply RelyL.val
                · intro ν w' hL hF K hK'
                  have cb := (hbx.lat hL).cell
                  go_simp
                  exact hK'.out _ _ rfl (Lat.refl _)
                simp only [Act.put, List.setIfInBounds_toArray, List.set_cons_zero, List.set_cons_succ, Nat.reduceAdd]
                apply RelyL.val
                · intro ν w' hL hF K hK'
                  have cb := (hbx.lat hL).cell
                  go_simp
                  exact hK'.out _ _ rfl (Lat.refl _)
                simp only [Act.put, List.setIfInBounds_toArray, List.set_cons_zero, List.set_cons_succ, Nat.reduceAdd]
                apply RelyL.val
                · intro ν w' hL hF K hK'
                  have cb := (hbx.lat hL).cell
                  go_simp
                  exact hK'.out _ _ rfl (Lat.refl _)
                simp only [Act.put, List.setIfInBounds_toArray, List.set_cons_zero, List.set_cons_succ, Nat.reduceAdd]
                apply RelyL.val
                · intro ν w' hL hF K hK'
                  have cb := (hbx.lat hL).cell
                  go_simp
                  exact hK'.out _ _ rfl (Lat.refl _)
                simp only [Act.put, List.setIfInBounds_toArray, List.set_cons_zero, List.set_cons_succ, Nat.reduceAdd]
                apply RelyL.val
                · intro ν w' hL hF K hK'
                  have cb := (hbx.lat hL).cell
                  go_simp
                  exact hK'.out _ _ rfl (Lat.refl _)
                simp only [Act.put, List.setIfInBounds_toArray, List.set_cons_zero, List.set_cons_succ, Nat.reduceAdd]
                apply RelyL.val
                · intro ν w' hL hF K hK'
                  have cb := (hbx.lat hL).cell
                  go_simp
                  exact hK'.out _ _ rfl (Lat.refl _)
                simp only [Act.put, List.setIfInBounds_toArray, List.set_cons_zero, List.set_cons_succ, Nat.reduceAdd]
                apply RelyL.val
                · intro ν w' hL hF K hK'
                  have cb := (hbx.lat hL).cell
                  go_simp
                  exact hK'.out _ _ rfl (Lat.refl _)
                simp only [Act.put, List.setIfInBounds_toArray, List.set_cons_zero, List.set_cons_succ, Nat.reduceAdd]
                apply RelyL.val
                · intro ν w' hL hF K hK'
                  have cb := (hbx.lat hL).cell
                  go_simp
                  exact hK'.out _ _ rfl (Lat.refl _)
                simp only [Act.put, List.setIfInBounds_toArray, List.set_cons_zero, List.set_cons_succ, Nat.reduceAdd]
                apply RelyL.val
                · intro ν w' hL hF K hK'
                  have cb := (hbx.lat hL).cell
                  go_simp
                  exact hK'.out _ _ rfl (Lat.refl _)
                simp only [Act.put, List.setIfInBounds_toArray, List.set_cons_zero, List.set_cons_succ, Nat.reduceAdd]
                apply RelyL.val
                · intro ν w' hL hF K hK'
                  have cb := (hbx.lat hL).cell
                  have cq := (hL.cell (p := ⟨b, off + q * 3, none⟩) hb1).trans hcq
                  go_simp
                  exact hK'.out _ _ rfl (Lat.refl _)
                simp only [Act.put, List.setIfInBounds_toArray, List.set_cons_zero, List.set_cons_succ, Nat.reduceAdd]
                apply RelyL.val
                · intro ν w' hL hF K hK'
                  have cb := (hbx.lat hL).cell
                  go_simp
                  exact hK'.out _ _ rfl (Lat.refl _)
                simp only [Act.put, List.setIfInBounds_toArray, List.set_cons_zero, List.set_cons_succ, Nat.reduceAdd]
                apply RelyL.val
                · intro ν w' hL hF K hK'
                  have cb := (hbx.lat hL).cell
                  go_simp
                  exact hK'.out _ _ rfl (Lat.refl _)
                simp only [Act.put, List.setIfInBounds_toArray, List.set_cons_zero, List.set_cons_succ, Nat.reduceAdd]
                apply RelyL.val
                · intro ν w' hL hF K hK'
                  have cb := (hbx.lat hL).cell
                  go_simp
                  exact hK'.out _ _ rfl (Lat.refl _)
                simp only [Act.put, List.setIfInBounds_toArray, List.set_cons_zero, List.set_cons_succ, Nat.reduceAdd]
                apply RelyL.val
                · intro ν w' hL hF K hK'
                  have cb := (hbx.lat hL).cell
                  go_simp
                  exact hK'.out _ _ rfl (Lat.refl _)
                simp only [Act.put, List.setIfInBounds_toArray, List.set_cons_zero, List.set_cons_succ, Nat.reduceAdd]
                apply RelyL.val
                · intro ν w' hL hF K hK'
                  have cb := (hbx.lat hL).cell
                  go_simp
                  exact hK'.out _ _ rfl (Lat.refl _)
                simp only [Act.put, List.setIfInBounds_toArray, List.set_cons_zero, List.set_cons_succ, Nat.reduceAdd]
                refine RelyL.done fun ν w5 hL hF => ?_
                have hLW5 := hLW3.trans hL
                clear hF hL hbx
                go_wp2_with fail
                go_roundw
                case rel => exact ⟨q + 1 + 1, by omega, by go_num, HT, hLW5⟩
                case measure => simp [intOf]; omega
              | false =>
                have HF : Hid (okT l = false) := Lib.hid (HJ.out.trans (HS.out.trans (by rw [hp.out, show pOk (some pr) x1 = ltB pr x1 from rfl, hlt1]; rfl)))
                have b1 : Op.bytesLess pr.toList x1.toList = false := hlt1
                by_cases he : pr = x1
                · subst he
                  clear HJ HS hp hlt1 hj0
                  refine wp_rely (by kernel_rfl) (by kernel_rfl) ?_
                  apply RelyL.val
                  · intro ν w' hL hF K hK'
                    have cb := (hbx.lat hL).cell
                    go_simp
                    exact hK'.out _ _ rfl (Lat.refl _)
                  simp only [Act.put, List.setIfInBounds_toArray, List.set_cons_zero, List.set_cons_succ, Nat.reduceAdd]
                  apply RelyL.val
                  · intro ν w' hL hF K hK'
                    have cb := (hbx.lat hL).cell
                    go_simp
                    exact hK'.out _ _ rfl (Lat.refl _)
                  simp only [Act.put, List.setIfInBounds_toArray, List.set_cons_zero, List.set_cons_succ, Nat.reduceAdd]
                  apply RelyL.val
                  · intro ν w' hL hF K hK'
                    have cb := (hbx.lat hL).cell
                    go_simp
                    exact hK'.out _ _ rfl (Lat.refl _)
                  simp only [Act.put, List.setIfInBounds_toArray, List.set_cons_zero, List.set_cons_succ, Nat.reduceAdd]
                  apply RelyL.val
                  · intro ν w' hL hF K hK'
                    have cb := (hbx.lat hL).cell
                    go_simp
                    exact hK'.out _ _ rfl (Lat.refl _)
                  simp only [Act.put, List.setIfInBounds_toArray, List.set_cons_zero, List.set_cons_succ, Nat.reduceAdd]
                  apply RelyL.val
                  · intro ν w' hL hF K hK'
                    have cb := (hbx.lat hL).cell
                    go_simp
                    exact hK'.out _ _ rfl (Lat.refl _)
                  simp only [Act.put, List.setIfInBounds_toArray, List.set_cons_zero, List.set_cons_succ, Nat.reduceAdd]
                  apply RelyL.val
                  · intro ν w' hL hF K hK'
                    have cb := (hbx.lat hL).cell
                    go_simp
                    exact hK'.out _ _ rfl (Lat.refl _)
                  simp only [Act.put, List.setIfInBounds_toArray, List.set_cons_zero, List.set_cons_succ, Nat.reduceAdd]
                  apply RelyL.val
                  · intro ν w' hL hF K hK'
                    have cb := (hbx.lat hL).cell
                    go_simp
                    exact hK'.out _ _ rfl (Lat.refl _)
                  simp only [Act.put, List.setIfInBounds_toArray, List.set_cons_zero, List.set_cons_succ, Nat.reduceAdd]
                  apply RelyL.val
                  · intro ν w' hL hF K hK'
                    have cb := (hbx.lat hL).cell
                    go_simp
                    exact hK'.out _ _ rfl (Lat.refl _)
                  simp only [Act.put, List.setIfInBounds_toArray, List.set_cons_zero, List.set_cons_succ, Nat.reduceAdd]
                  apply RelyL.val
                  · intro ν w' hL hF K hK'
                    have cb := (hbx.lat hL).cell
                    go_simp
                    exact hK'.out _ _ rfl (Lat.refl _)
                  simp only [Act.put, List.setIfInBounds_toArray, List.set_cons_zero, List.set_cons_succ, Nat.reduceAdd]
                  apply RelyL.val
                  · intro ν w' hL hF K hK'
                    have cb := (hbx.lat hL).cell
                    go_simp
                    exact hK'.out _ _ rfl (Lat.refl _)
                  simp only [Act.put, List.setIfInBounds_toArray, List.set_cons_zero, List.set_cons_succ, Nat.reduceAdd]
                  apply RelyL.val
                  · intro ν w' hL hF K hK'
                    have cb := (hbx.lat hL).cell
                    go_simp
                    exact hK'.out _ _ rfl (Lat.refl _)
                  simp only [Act.put, List.setIfInBounds_toArray, List.set_cons_zero, List.set_cons_succ, Nat.reduceAdd]
                  apply RelyL.val
                  · intro ν w' hL hF K hK'
                    have cb := (hbx.lat hL).cell
                    go_simp
                    exact hK'.out _ _ rfl (Lat.refl _)
                  simp only [Act.put, List.setIfInBounds_toArray, List.set_cons_zero, List.set_cons_succ, Nat.reduceAdd]
                  apply RelyL.val
                  · intro ν w' hL hF K hK'
                    have cb := (hbx.lat hL).cell
                    go_simp
                    exact hK'.out _ _ rfl (Lat.refl _)
                  simp only [Act.put, List.setIfInBounds_toArray, List.set_cons_zero, List.set_cons_succ, Nat.reduceAdd]
                  apply RelyL.val
                  · intro ν w' hL hF K hK'
                    have cb := (hbx.lat hL).cell
                    go_simp
                    exact hK'.out _ _ rfl (Lat.refl _)
                  simp only [Act.put, List.setIfInBounds_toArray, List.set_cons_zero, List.set_cons_succ, Nat.reduceAdd]
                  apply RelyL.val
                  · intro ν w' hL hF K hK'
                    have cb := (hbx.lat hL).cell
                    go_simp
                    exact hK'.out _ _ rfl (Lat.refl _)
                  simp only [Act.put, List.setIfInBounds_toArray, List.set_cons_zero, List.set_cons_succ, Nat.reduceAdd]
                  apply RelyL.val
                  · intro ν w' hL hF K hK'
                    have cb := (hbx.lat hL).cell
                    go_simp
                    exact hK'.out _ _ rfl (Lat.refl _)
                  simp only [Act.put, List.setIfInBounds_toArray, List.set_cons_zero, List.set_cons_succ, Nat.reduceAdd]
                  apply RelyL.val
                  · intro ν w' hL hF K hK'
                    have cb := (hbx.lat hL).cell
                    go_simp
                    exact hK'.out _ _ rfl (Lat.refl _)
                  simp only [Act.put, List.setIfInBounds_toArray, List.set_cons_zero, List.set_cons_succ, Nat.reduceAdd]
                  apply RelyL.val
                  · intro ν w' hL hF K hK'
                    have cb := (hbx.lat hL).cell
                    have cq := (hL.cell (p := ⟨b, off + q * 3, none⟩) hb1).trans hcq
                    go_simp
                    exact hK'.out _ _ rfl (Lat.refl _)
                  simp only [Act.put, List.setIfInBounds_toArray, List.set_cons_zero, List.set_cons_succ, Nat.reduceAdd]
                  apply RelyL.val
                  · intro ν w' hL hF K hK'
                    have cb := (hbx.lat hL).cell
                    go_simp
                    exact hK'.out _ _ rfl (Lat.refl _)
                  simp only [Act.put, List.setIfInBounds_toArray, List.set_cons_zero, List.set_cons_succ, Nat.reduceAdd]
                  apply RelyL.val
                  · intro ν w' hL hF K hK'
                    have cb := (hbx.lat hL).cell
                    go_simp
                    exact hK'.out _ _ rfl (Lat.refl _)
                  simp only [Act.put, List.setIfInBounds_toArray, List.set_cons_zero, List.set_cons_succ, Nat.reduceAdd]
                  apply RelyL.val
                  · intro ν w' hL hF K hK'
                    have cb := (hbx.lat hL).cell
                    go_simp
                    exact hK'.out _ _ rfl (Lat.refl _)
                  simp only [Act.put, List.setIfInBounds_toArray, List.set_cons_zero, List.set_cons_succ, Nat.reduceAdd]
                  apply RelyL.val
                  · intro ν w' hL hF K hK'
                    have cb := (hbx.lat hL).cell
                    go_simp
                    exact hK'.out _ _ rfl (Lat.refl _)
                  simp only [Act.put, List.setIfInBounds_toArray, List.set_cons_zero, List.set_cons_succ, Nat.reduceAdd]
                  apply RelyL.val
                  · intro ν w' hL hF K hK'
                    have cb := (hbx.lat hL).cell
                    go_simp
                    exact hK'.out _ _ rfl (Lat.refl _)
                  simp only [Act.put, List.setIfInBounds_toArray, List.set_cons_zero, List.set_cons_succ, Nat.reduceAdd]
                  refine RelyL.done fun ν w5 hL hF => ?_
                  have hLW5 := hLW3.trans hL
                  clear hF hL hbx
                  go_wp2_with fail
                  go_ret
                  have hv : validP l = [] := by unfold validP; rw [HF.out]; rfl
                  rw [hv]
                  exact ⟨_, rfl, Elt.Own.nil _ _, hLW5⟩
                · have b2 : Op.bytesLess x1.toList pr.toList = true := sto_ltB.tri _ _ hlt1 he
                  have b3 : (pr.toList == x1.toList) = false := by rw [toList_beq]; simpa using he
                  clear HJ HS hp hlt1 hj0 he
                  refine wp_rely (by kernel_rfl) (by kernel_rfl) ?_
                  apply RelyL.val
                  · intro ν w' hL hF K hK'
                    have cb := (hbx.lat hL).cell
                    go_simp
                    exact hK'.out _ _ rfl (Lat.refl _)
                  simp only [Act.put, List.setIfInBounds_toArray, List.set_cons_zero, List.set_cons_succ, Nat.reduceAdd]
                  apply RelyL.val
                  · intro ν w' hL hF K hK'
                    have cb := (hbx.lat hL).cell
                    go_simp
                    exact hK'.out _ _ rfl (Lat.refl _)
                  simp only [Act.put, List.setIfInBounds_toArray, List.set_cons_zero, List.set_cons_succ, Nat.reduceAdd]
                  apply RelyL.val
                  · intro ν w' hL hF K hK'
                    have cb := (hbx.lat hL).cell
                    go_simp
                    exact hK'.out _ _ rfl (Lat.refl _)
                  simp only [Act.put, List.setIfInBounds_toArray, List.set_cons_zero, List.set_cons_succ, Nat.reduceAdd]
                  apply RelyL.val
                  · intro ν w' hL hF K hK'
                    have cb := (hbx.lat hL).cell
                    go_simp
                    exact hK'.out _ _ rfl (Lat.refl _)
                  simp only [Act.put, List.setIfInBounds_toArray, List.set_cons_zero, List.set_cons_succ, Nat.reduceAdd]
                  apply RelyL.val
                  · intro ν w' hL hF K hK'
                    have cb := (hbx.lat hL).cell
                    go_simp
                    exact hK'.out _ _ rfl (Lat.refl _)
                  simp only [Act.put, List.setIfInBounds_toArray, List.set_cons_zero, List.set_cons_succ, Nat.reduceAdd]
                  apply RelyL.val
                  · intro ν w' hL hF K hK'
                    have cb := (hbx.lat hL).cell
                    go_simp
                    exact hK'.out _ _ rfl (Lat.refl _)
                  simp only [Act.put, List.setIfInBounds_toArray, List.set_cons_zero, List.set_cons_succ, Nat.reduceAdd]
                  apply RelyL.val
                  · intro ν w' hL hF K hK'
                    have cb := (hbx.lat hL).cell
                    go_simp
                    exact hK'.out _ _ rfl (Lat.refl _)
                  simp only [Act.put, List.setIfInBounds_toArray, List.set_cons_zero, List.set_cons_succ, Nat.reduceAdd]
                  apply RelyL.val
                  · intro ν w' hL hF K hK'
                    have cb := (hbx.lat hL).cell
                    go_simp
                    exact hK'.out _ _ rfl (Lat.refl _)
                  simp only [Act.put, List.setIfInBounds_toArray, List.set_cons_zero, List.set_cons_succ, Nat.reduceAdd]
                  apply RelyL.val
                  · intro ν w' hL hF K hK'
                    have cb := (hbx.lat hL).cell
                    go_simp
                    exact hK'.out _ _ rfl (Lat.refl _)
                  simp only [Act.put, List.setIfInBounds_toArray, List.set_cons_zero, List.set_cons_succ, Nat.reduceAdd]
                  apply RelyL.val
                  · intro ν w' hL hF K hK'
                    have cb := (hbx.lat hL).cell
                    go_simp
                    exact hK'.out _ _ rfl (Lat.refl _)
                  simp only [Act.put, List.setIfInBounds_toArray, List.set_cons_zero, List.set_cons_succ, Nat.reduceAdd]
                  apply RelyL.val
                  · intro ν w' hL hF K hK'
                    have cb := (hbx.lat hL).cell
                    go_simp
                    exact hK'.out _ _ rfl (Lat.refl _)
                  simp only [Act.put, List.setIfInBounds_toArray, List.set_cons_zero, List.set_cons_succ, Nat.reduceAdd]
                  apply RelyL.val
                  · intro ν w' hL hF K hK'
                    have cb := (hbx.lat hL).cell
                    go_simp
                    exact hK'.out _ _ rfl (Lat.refl _)
                  simp only [Act.put, List.setIfInBounds_toArray, List.set_cons_zero, List.set_cons_succ, Nat.reduceAdd]
                  apply RelyL.val
                  · intro ν w' hL hF K hK'
                    have cb := (hbx.lat hL).cell
                    go_simp
                    exact hK'.out _ _ rfl (Lat.refl _)
                  simp only [Act.put, List.setIfInBounds_toArray, List.set_cons_zero, List.set_cons_succ, Nat.reduceAdd]
                  apply RelyL.val
                  · intro ν w' hL hF K hK'
                    have cb := (hbx.lat hL).cell
                    go_simp
                    exact hK'.out _ _ rfl (Lat.refl _)
                  simp only [Act.put, List.setIfInBounds_toArray, List.set_cons_zero, List.set_cons_succ, Nat.reduceAdd]
                  apply RelyL.val
                  · intro ν w' hL hF K hK'
                    have cb := (hbx.lat hL).cell
                    go_simp
                    exact hK'.out _ _ rfl (Lat.refl _)
                  simp only [Act.put, List.setIfInBounds_toArray, List.set_cons_zero, List.set_cons_succ, Nat.reduceAdd]
                  apply RelyL.val
                  · intro ν w' hL hF K hK'
                    have cb := (hbx.lat hL).cell
                    go_simp
                    exact hK'.out _ _ rfl (Lat.refl _)
                  simp only [Act.put, List.setIfInBounds_toArray, List.set_cons_zero, List.set_cons_succ, Nat.reduceAdd]
                  apply RelyL.val
                  · intro ν w' hL hF K hK'
                    have cb := (hbx.lat hL).cell
                    go_simp
                    exact hK'.out _ _ rfl (Lat.refl _)
                  simp only [Act.put, List.setIfInBounds_toArray, List.set_cons_zero, List.set_cons_succ, Nat.reduceAdd]
                  apply RelyL.val
                  · intro ν w' hL hF K hK'
                    have cb := (hbx.lat hL).cell
                    have cq := (hL.cell (p := ⟨b, off + q * 3, none⟩) hb1).trans hcq
                    go_simp
                    exact hK'.out _ _ rfl (Lat.refl _)
                  simp only [Act.put, List.setIfInBounds_toArray, List.set_cons_zero, List.set_cons_succ, Nat.reduceAdd]
                  apply RelyL.val
                  · intro ν w' hL hF K hK'
                    have cb := (hbx.lat hL).cell
                    go_simp
                    exact hK'.out _ _ rfl (Lat.refl _)
                  simp only [Act.put, List.setIfInBounds_toArray, List.set_cons_zero, List.set_cons_succ, Nat.reduceAdd]
                  apply RelyL.val
                  · intro ν w' hL hF K hK'
                    have cb := (hbx.lat hL).cell
                    go_simp
                    exact hK'.out _ _ rfl (Lat.refl _)
                  simp only [Act.put, List.setIfInBounds_toArray, List.set_cons_zero, List.set_cons_succ, Nat.reduceAdd]
                  apply RelyL.val
                  · intro ν w' hL hF K hK'
                    have cb := (hbx.lat hL).cell
                    go_simp
                    exact hK'.out _ _ rfl (Lat.refl _)
                  simp only [Act.put, List.setIfInBounds_toArray, List.set_cons_zero, List.set_cons_succ, Nat.reduceAdd]
                  apply RelyL.val
                  · intro ν w' hL hF K hK'
                    have cb := (hbx.lat hL).cell
                    go_simp
                    exact hK'.out _ _ rfl (Lat.refl _)
                  simp only [Act.put, List.setIfInBounds_toArray, List.set_cons_zero, List.set_cons_succ, Nat.reduceAdd]
                  apply RelyL.val
                  · intro ν w' hL hF K hK'
                    have cb := (hbx.lat hL).cell
                    go_simp
                    exact hK'.out _ _ rfl (Lat.refl _)
                  simp only [Act.put, List.setIfInBounds_toArray, List.set_cons_zero, List.set_cons_succ, Nat.reduceAdd]
                  refine RelyL.done fun ν w5 hL hF => ?_
                  have hLW5 := hLW3.trans hL
                  clear hF hL hbx
                  go_wp2_with fail
                  go_ret
                  have hv : validP l = [] := by unfold validP; rw [HF.out]; rfl
                  rw [hv]
                  exact ⟨_, rfl, Elt.Own.nil _ _, hLW5⟩
      · have hj : j = l.length := by omega
        subst hj
        have hv : validP l = l := by
          unfold validP
          rw [HJ.out, List.drop_length]
          rfl
        have HCL := Lib.hid (cloneT_any l A c wr (hx.lat hLW) (by omega))
        have HV := Lib.hid hv
        clear HJ hx hv
        go_wp2_with fail
        refine HCL.out.mono ?_
        rintro r w5 ⟨v5, rfl, hown5, hl5⟩
        have hL5 := hLW.trans hl5
        go_wp2_with fail
        go_ret
        rw [HV.out]
        exact ⟨_, rfl, hown5.mono hLW.size, hL5⟩
end Go.Proofs.YtafodibbcfoclaaGreat
