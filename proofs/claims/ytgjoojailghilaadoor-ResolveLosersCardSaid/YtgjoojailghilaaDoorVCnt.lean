/- Resolve: the law's own count and among. -/
import Derived.Test.YtgjoojailghilaaDoorVIns
import Derived.Test.YtgjoojailghilaaDoorVMerge
set_option linter.unusedSimpArgs false
set_option linter.unusedVariables false
namespace Go.Proofs.YtgjoojailghilaaDoor
open Go.RowKit


set_option maxRecDepth 100000 in
set_option maxHeartbeats 1000000 in
theorem among_any (l : List LW) (x : LW) (A : Option Addr) (c : Nat) (w : World) (hx : EW.Rd w l (.slice A l.length c)) (hl : l.length ≤ 100000) :
    Calls Tryd.prog 27 #[.slice A l.length c, .agg (wC x).toArray] w fun r w' => r = .returned (.bool (decide (x ∈ l))) ∧ Lat w w' := by
  have HR : Hid (decide (x ∈ l) = decide (x ∈ l.drop 0)) := Lib.hid rfl
  generalize decide (x ∈ l) = R at *
  have hL0 : Lat w (w.alloc (.cells (wC x).toArray 29)) := Lat.al _ _
  have hbox := Blk.new w 29 (wC x).toArray
  go_enter Tryd.func27, Tryd.ntmps27
  go_wp2_with fail
  go_loopw [5] (fun i wr => ∃ j : Nat, j ≤ l.length ∧ i = .int .i64 j ∧ Hid (R = decide (x ∈ l.drop j)) ∧ Lat (w.alloc (.cells (wC x).toArray 29)) wr) (fun i _ => l.length - (intOf i).toNat)
  case atStart => exact ⟨0, Nat.zero_le _, rfl, HR, Lat.refl _⟩
  case round =>
    clear HR
    obtain ⟨j, hjl, rfl, HR, hLW⟩ := hrel
    have hxr := hbox.lat hLW
    have hrx : RowAt wr w.heap.size 0 (wC x) := hxr.row
    have hbx := hxr.lt
    clear hxr
    by_cases hlt : j < l.length
    · obtain ⟨b, off, hA, hb1, hr1'⟩ := (hx.lat (hL0.trans hLW)).row j hlt
      subst hA
      have hr1 : RowAt wr b (off + j * 10) (wC l[j]) := hr1'
      clear hr1'
      have hdj : l.drop j = l[j] :: l.drop (j + 1) := List.drop_eq_getElem_cons hlt
      rw [hdj] at HR
      clear hdj
      by_cases he : l[j] = x
      · have HE := Lib.hid (decide_eq_true he)
        have hR : R = true := HR.out.trans (by rw [he]; simp)
        clear he HR
        go_wp2_with fail
        refine wp_rely (by kernel_rfl) (by kernel_rfl) ?_
        apply RelyL.val
        · intro ν w' hL hF K hK'
          go_simp
          exact hK'.out _ _ rfl (Lat.refl _)
        simp only [Act.put, List.setIfInBounds_toArray, List.set_cons_zero, List.set_cons_succ, Nat.reduceAdd]
        apply RelyL.val
        · intro ν w' hL hF K hK'
          go_simp
          exact hK'.out _ _ rfl (Lat.refl _)
        simp only [Act.put, List.setIfInBounds_toArray, List.set_cons_zero, List.set_cons_succ, Nat.reduceAdd]
        apply RelyL.val
        · intro ν w' hL hF K hK'
          go_simp
          exact hK'.out _ _ rfl (Lat.refl _)
        simp only [Act.put, List.setIfInBounds_toArray, List.set_cons_zero, List.set_cons_succ, Nat.reduceAdd]
        apply RelyL.val
        · intro ν w' hL hF K hK'
          refine take_op rfl ?_
          refine wp_load_at 29 _ rfl b ((off + j * 10)) rfl _ _ (hr1.below hL hb1) Tryd.underlying29 rfl (by kernel_rfl) ?_
          exact hK'.out _ _ rfl (Lat.refl _)
        simp only [Act.put, List.setIfInBounds_toArray, List.set_cons_zero, List.set_cons_succ, Nat.reduceAdd]
        apply RelyL.val
        · intro ν w' hL hF K hK'
          refine take_op rfl ?_
          refine wp_load_at 29 _ rfl w.heap.size (0) rfl _ _ (hrx.below hL hbx) Tryd.underlying29 rfl (by kernel_rfl) ?_
          exact hK'.out _ _ rfl (Lat.refl _)
        simp only [Act.put, List.setIfInBounds_toArray, List.set_cons_zero, List.set_cons_succ, Nat.reduceAdd]
        apply RelyL.val
        · intro ν w' hL hF K hK'
          refine take_op rfl ?_
          refine wp_eql_w _ _ _ rfl l[j] x rfl rfl HE.out ?_
          exact hK'.out _ _ rfl (Lat.refl _)
        simp only [Act.put, List.setIfInBounds_toArray, List.set_cons_zero, List.set_cons_succ, Nat.reduceAdd]
        refine RelyL.done fun ν w4 hL hF => ?_
        clear hF
        have hL4 := hLW.trans hL
        go_wp2_with fail
        go_ret
        subst hR
        exact ⟨rfl, hL0.trans hL4⟩
      · have HE := Lib.hid (decide_eq_false he)
        have HR2 : Hid (R = decide (x ∈ l.drop (j + 1))) := Lib.hid (HR.out.trans (by
          have hne : ¬ x = l[j] := fun e => he e.symm
          rw [decide_eq_decide, List.mem_cons]
          exact ⟨fun h => h.elim (fun e => absurd e hne) id, .inr⟩))
        clear he HR
        go_wp2_with fail
        refine wp_rely (by kernel_rfl) (by kernel_rfl) ?_
        apply RelyL.val
        · intro ν w' hL hF K hK'
          go_simp
          exact hK'.out _ _ rfl (Lat.refl _)
        simp only [Act.put, List.setIfInBounds_toArray, List.set_cons_zero, List.set_cons_succ, Nat.reduceAdd]
        apply RelyL.val
        · intro ν w' hL hF K hK'
          go_simp
          exact hK'.out _ _ rfl (Lat.refl _)
        simp only [Act.put, List.setIfInBounds_toArray, List.set_cons_zero, List.set_cons_succ, Nat.reduceAdd]
        apply RelyL.val
        · intro ν w' hL hF K hK'
          go_simp
          exact hK'.out _ _ rfl (Lat.refl _)
        simp only [Act.put, List.setIfInBounds_toArray, List.set_cons_zero, List.set_cons_succ, Nat.reduceAdd]
        apply RelyL.val
        · intro ν w' hL hF K hK'
          refine take_op rfl ?_
          refine wp_load_at 29 _ rfl b ((off + j * 10)) rfl _ _ (hr1.below hL hb1) Tryd.underlying29 rfl (by kernel_rfl) ?_
          exact hK'.out _ _ rfl (Lat.refl _)
        simp only [Act.put, List.setIfInBounds_toArray, List.set_cons_zero, List.set_cons_succ, Nat.reduceAdd]
        apply RelyL.val
        · intro ν w' hL hF K hK'
          refine take_op rfl ?_
          refine wp_load_at 29 _ rfl w.heap.size (0) rfl _ _ (hrx.below hL hbx) Tryd.underlying29 rfl (by kernel_rfl) ?_
          exact hK'.out _ _ rfl (Lat.refl _)
        simp only [Act.put, List.setIfInBounds_toArray, List.set_cons_zero, List.set_cons_succ, Nat.reduceAdd]
        apply RelyL.val
        · intro ν w' hL hF K hK'
          refine take_op rfl ?_
          refine wp_eql_w _ _ _ rfl l[j] x rfl rfl HE.out ?_
          exact hK'.out _ _ rfl (Lat.refl _)
        simp only [Act.put, List.setIfInBounds_toArray, List.set_cons_zero, List.set_cons_succ, Nat.reduceAdd]
        refine RelyL.done fun ν w4 hL hF => ?_
        clear hF
        have hL4 := hLW.trans hL
        go_wp2_with fail
        go_roundw
        case rel => exact ⟨j + 1, by omega, by go_num, HR2, hL4⟩
        case measure => simp [intOf]; omega
    · have hd : l.drop j = [] := List.drop_of_length_le (by omega)
      have hR : R = false := HR.out.trans (by rw [hd]; simp)
      clear HR hd
      go_wp2_with fail
      go_ret
      subst hR
      exact ⟨rfl, hL0.trans hLW⟩
theorem count_take (ds : List LD) (x : LW) (j : Nat) (h : j < ds.length) : (allW (ds.take (j + 1))).count x = (allW (ds.take j)).count x + (if ds[j].win = x then 1 else 0) + ds[j].los.count x := by
  rw [allW_take ds j h, List.count_append, List.count_cons]
  by_cases e : ds[j].win = x
  · simp [e]; omega
  · simp [e]
theorem count_take1 (l : List LW) (x : LW) (j : Nat) (h : j < l.length) : (l.take (j + 1)).count x = (l.take j).count x + (if l[j] = x then 1 else 0) := by
  rw [List.take_succ_eq_append_getElem h, List.count_append]
  by_cases e : l[j] = x
  · simp [e]
  · simp [e, List.count_cons]
set_option maxRecDepth 100000 in
set_option maxHeartbeats 2000000 in
theorem count_any (ds : List LD) (x : LW) (A : Option Addr) (c : Nat) (w : World) (hx : RdD w ds (.slice A ds.length c)) (hl : ds.length ≤ 100000) (hall : (allW ds).length ≤ 100000) :
    Calls Tryd.prog 26 #[.slice A ds.length c, .agg (wC x).toArray] w fun r w' => r = .returned (.int .i64 ((allW ds).count x : Nat)) ∧ Lat w w' := by
  have hL0 : Lat w (w.alloc (.cells (wC x).toArray 29)) := Lat.al _ _
  have hbox := Blk.new w 29 (wC x).toArray
  go_enter Tryd.func26, Tryd.ntmps26
  go_wp2_with fail
  go_loopw [5, 6] (fun n i wr => ∃ j : Nat, j ≤ ds.length ∧ i = .int .i64 j ∧ n = .int .i64 ((allW (ds.take j)).count x : Nat) ∧ Lat (w.alloc (.cells (wC x).toArray 29)) wr) (fun _ i _ => ds.length - (intOf i).toNat)
  case atStart => exact ⟨0, Nat.zero_le _, rfl, by simp [allW], Lat.refl _⟩
  case round =>
    obtain ⟨j, hjl, rfl, rfl, hLW⟩ := hrel
    obtain ⟨w3, rfl⟩ : ∃ w, w = wr := ⟨_, rfl⟩
    have hxr := hbox.lat hLW
    have hrx : RowAt w3 w.heap.size 0 (wC x) := hxr.row
    have hbx := hxr.lt
    clear hxr
    by_cases hlt : j < ds.length
    · obtain ⟨b, off, A1, n1, m1, hA, hb1, hr1, hlr⟩ := (hx.lat (hL0.trans hLW)).row j hlt
      subst hA
      have htk := count_take ds x j hlt
      have hcl : (allW (ds.take (j + 1))).length ≤ 100000 := Nat.le_trans (allW_len ds (j + 1)) hall
      have hcl2 := hcl
      rw [allW_take ds j hlt, List.length_append, List.length_cons] at hcl2
      have hc1 := List.count_le_length (l := allW (ds.take j)) (a := x)
      generalize hwin : ds[j].win = win at *
      generalize hlos : ds[j].los = los at *
      obtain ⟨A1', m1', hv1⟩ : ∃ A' c', Value.slice A1 n1 m1 = .slice A' los.length c' := by obtain ⟨A', c', h, _⟩ := hlr; exact ⟨A', c', h⟩
      injection hv1 with f1 f2 f3
      subst f1 f2 f3
      have hw1 := dec_win hr1
      generalize ds[j].key = kd at *
      generalize ds[j].err = ed at *
      generalize (allW (ds.take j)).count x = N0 at *
      have HTK := Lib.hid htk
      clear htk hwin hlos hcl
      by_cases he : win = x
      · have HE := Lib.hid (decide_eq_true he)
        rw [if_pos he] at HTK
        clear he
        go_wp2_with fail
        refine wp_rely (by kernel_rfl) (by kernel_rfl) ?_
        apply RelyL.val
        · intro ν w' hL hF K hK'
          go_simp
          exact hK'.out _ _ rfl (Lat.refl _)
        simp only [Act.put, List.setIfInBounds_toArray, List.set_cons_zero, List.set_cons_succ, Nat.reduceAdd]
        apply RelyL.val
        · intro ν w' hL hF K hK'
          go_simp
          exact hK'.out _ _ rfl (Lat.refl _)
        simp only [Act.put, List.setIfInBounds_toArray, List.set_cons_zero, List.set_cons_succ, Nat.reduceAdd]
        apply RelyL.val
        · intro ν w' hL hF K hK'
          go_simp
          exact hK'.out _ _ rfl (Lat.refl _)
        simp only [Act.put, List.setIfInBounds_toArray, List.set_cons_zero, List.set_cons_succ, Nat.reduceAdd]
        apply RelyL.val
        · intro ν w' hL hF K hK'
          go_simp
          exact hK'.out _ _ rfl (Lat.refl _)
        simp only [Act.put, List.setIfInBounds_toArray, List.set_cons_zero, List.set_cons_succ, Nat.reduceAdd]
        apply RelyL.val
        · intro ν w' hL hF K hK'
          refine take_op rfl ?_
          refine wp_load_at 29 _ rfl b ((off + j * 15 + 3)) rfl _ _ (hw1.below hL hb1) Tryd.underlying29 rfl (by kernel_rfl) ?_
          exact hK'.out _ _ rfl (Lat.refl _)
        simp only [Act.put, List.setIfInBounds_toArray, List.set_cons_zero, List.set_cons_succ, Nat.reduceAdd]
        apply RelyL.val
        · intro ν w' hL hF K hK'
          refine take_op rfl ?_
          refine wp_load_at 29 _ rfl w.heap.size (0) rfl _ _ (hrx.below hL hbx) Tryd.underlying29 rfl (by kernel_rfl) ?_
          exact hK'.out _ _ rfl (Lat.refl _)
        simp only [Act.put, List.setIfInBounds_toArray, List.set_cons_zero, List.set_cons_succ, Nat.reduceAdd]
        apply RelyL.val
        · intro ν w' hL hF K hK'
          refine take_op rfl ?_
          refine wp_eql_w _ _ _ rfl win x rfl rfl HE.out ?_
          exact hK'.out _ _ rfl (Lat.refl _)
        simp only [Act.put, List.setIfInBounds_toArray, List.set_cons_zero, List.set_cons_succ, Nat.reduceAdd]
        refine RelyL.done fun ν w4 hL hF => ?_
        clear hF
        have hL4 := hLW.trans hL
        have HROW := Lib.hid (hr1.below hL hb1)
        have HB4 := Lib.hid (Nat.lt_of_lt_of_le hb1 hL.size)
        have HLOS := Lib.hid (hlr.lat hL)
        have HRX := Lib.hid (hrx.below hL hbx)
        have HBX := Lib.hid (Nat.lt_of_lt_of_le hbx hL.size)
        obtain ⟨N, hN⟩ : ∃ N, N = N0 + 1 := ⟨_, rfl⟩
        have hNb : N + los.length ≤ 100000 := by omega
        have HN := Lib.hid hN.symm
        clear hN HE hw1 hr1 hlr hrx hbx hb1 hx hLW hL
        go_wp2_with fail
        go_loopw [5, 7] (fun n k wr => ∃ q : Nat, q ≤ los.length ∧ k = .int .i64 q ∧ n = .int .i64 ((N + (los.take q).count x : Nat) : Int) ∧ Lat w4 wr) (fun _ k _ => los.length - (intOf k).toNat)
        case atStart => exact ⟨0, Nat.zero_le _, rfl, by first | rfl | (simp; done) | (rw [← HN.out]; simp; done), Lat.refl _⟩
        case round =>
          obtain ⟨q, hql, rfl, rfl, hLW5⟩ := hrel
          obtain ⟨w5, rfl⟩ : ∃ w, w = wr := ⟨_, rfl⟩
          have hr2 := HROW.out.below hLW5 HB4.out
          have hb2 : b < w5.heap.size := Nat.lt_of_lt_of_le HB4.out hLW5.size
          have c13 := (dec_los hr2).1
          have hcq := List.count_le_length (l := los.take q) (a := x)
          by_cases hlq : q < los.length
          · obtain ⟨bl, offl, hAl, hbl, hrl'⟩ := (HLOS.out.lat hLW5).row q hlq
            subst hAl
            have hrl : RowAt w5 bl (offl + q * 10) (wC los[q]) := hrl'
            have hrx : RowAt w5 w.heap.size 0 (wC x) := HRX.out.below hLW5 HBX.out
            have hbx : w.heap.size < w5.heap.size := Nat.lt_of_lt_of_le HBX.out hLW5.size
            have htk1 := count_take1 los x q hlq
            rw [List.length_take] at hcq
            clear hrl'
            by_cases he : los[q] = x
            · have HE := Lib.hid (decide_eq_true he)
              rw [if_pos he] at htk1
              have HT := Lib.hid htk1
              clear he htk1
              go_wp2_with fail
              refine wp_rely (by kernel_rfl) (by kernel_rfl) ?_
              apply RelyL.val
              · intro ν w' hL hF K hK'
                go_simp
                exact hK'.out _ _ rfl (Lat.refl _)
              simp only [Act.put, List.setIfInBounds_toArray, List.set_cons_zero, List.set_cons_succ, Nat.reduceAdd]
              apply RelyL.val
              · intro ν w' hL hF K hK'
                go_simp
                exact hK'.out _ _ rfl (Lat.refl _)
              simp only [Act.put, List.setIfInBounds_toArray, List.set_cons_zero, List.set_cons_succ, Nat.reduceAdd]
              apply RelyL.val
              · intro ν w' hL hF K hK'
                go_simp
                exact hK'.out _ _ rfl (Lat.refl _)
              simp only [Act.put, List.setIfInBounds_toArray, List.set_cons_zero, List.set_cons_succ, Nat.reduceAdd]
              apply RelyL.val
              · intro ν w' hL hF K hK'
                go_simp
                exact hK'.out _ _ rfl (Lat.refl _)
              simp only [Act.put, List.setIfInBounds_toArray, List.set_cons_zero, List.set_cons_succ, Nat.reduceAdd]
              apply RelyL.val
              · intro ν w' hL hF K hK'
                have c13 := (dec_los (hr2.below hL hb2)).1
                go_simp
                exact hK'.out _ _ rfl (Lat.refl _)
              simp only [Act.put, List.setIfInBounds_toArray, List.set_cons_zero, List.set_cons_succ, Nat.reduceAdd]
              apply RelyL.val
              · intro ν w' hL hF K hK'
                go_simp
                exact hK'.out _ _ rfl (Lat.refl _)
              simp only [Act.put, List.setIfInBounds_toArray, List.set_cons_zero, List.set_cons_succ, Nat.reduceAdd]
              apply RelyL.val
              · intro ν w' hL hF K hK'
                go_simp
                exact hK'.out _ _ rfl (Lat.refl _)
              simp only [Act.put, List.setIfInBounds_toArray, List.set_cons_zero, List.set_cons_succ, Nat.reduceAdd]
              apply RelyL.val
              · intro ν w' hL hF K hK'
                refine take_op rfl ?_
                refine wp_load_at 29 _ rfl bl ((offl + q * 10)) rfl _ _ (hrl.below hL hbl) Tryd.underlying29 rfl (by kernel_rfl) ?_
                exact hK'.out _ _ rfl (Lat.refl _)
              simp only [Act.put, List.setIfInBounds_toArray, List.set_cons_zero, List.set_cons_succ, Nat.reduceAdd]
              apply RelyL.val
              · intro ν w' hL hF K hK'
                refine take_op rfl ?_
                refine wp_load_at 29 _ rfl w.heap.size (0) rfl _ _ (hrx.below hL hbx) Tryd.underlying29 rfl (by kernel_rfl) ?_
                exact hK'.out _ _ rfl (Lat.refl _)
              simp only [Act.put, List.setIfInBounds_toArray, List.set_cons_zero, List.set_cons_succ, Nat.reduceAdd]
              apply RelyL.val
              · intro ν w' hL hF K hK'
                refine take_op rfl ?_
                refine wp_eql_w _ _ _ rfl los[q] x rfl rfl HE.out ?_
                exact hK'.out _ _ rfl (Lat.refl _)
              simp only [Act.put, List.setIfInBounds_toArray, List.set_cons_zero, List.set_cons_succ, Nat.reduceAdd]
              refine RelyL.done fun ν w6 hL hF => ?_
              clear hF
              have hL6 := hLW5.trans hL
              clear HE hr2 hrl hrx
              go_wp2_with fail
              go_roundw
              case rel => exact ⟨q + 1, by omega, by go_num, by rw [HT.out]; go_num, hL6⟩
              case measure => simp [intOf]; omega
            · have HE := Lib.hid (decide_eq_false he)
              rw [if_neg he] at htk1
              have HT := Lib.hid htk1
              clear he htk1
              go_wp2_with fail
              refine wp_rely (by kernel_rfl) (by kernel_rfl) ?_
              apply RelyL.val
              · intro ν w' hL hF K hK'
                go_simp
                exact hK'.out _ _ rfl (Lat.refl _)
              simp only [Act.put, List.setIfInBounds_toArray, List.set_cons_zero, List.set_cons_succ, Nat.reduceAdd]
              apply RelyL.val
              · intro ν w' hL hF K hK'
                go_simp
                exact hK'.out _ _ rfl (Lat.refl _)
              simp only [Act.put, List.setIfInBounds_toArray, List.set_cons_zero, List.set_cons_succ, Nat.reduceAdd]
              apply RelyL.val
              · intro ν w' hL hF K hK'
                go_simp
                exact hK'.out _ _ rfl (Lat.refl _)
              simp only [Act.put, List.setIfInBounds_toArray, List.set_cons_zero, List.set_cons_succ, Nat.reduceAdd]
              apply RelyL.val
              · intro ν w' hL hF K hK'
                go_simp
                exact hK'.out _ _ rfl (Lat.refl _)
              simp only [Act.put, List.setIfInBounds_toArray, List.set_cons_zero, List.set_cons_succ, Nat.reduceAdd]
              apply RelyL.val
              · intro ν w' hL hF K hK'
                have c13 := (dec_los (hr2.below hL hb2)).1
                go_simp
                exact hK'.out _ _ rfl (Lat.refl _)
              simp only [Act.put, List.setIfInBounds_toArray, List.set_cons_zero, List.set_cons_succ, Nat.reduceAdd]
              apply RelyL.val
              · intro ν w' hL hF K hK'
                go_simp
                exact hK'.out _ _ rfl (Lat.refl _)
              simp only [Act.put, List.setIfInBounds_toArray, List.set_cons_zero, List.set_cons_succ, Nat.reduceAdd]
              apply RelyL.val
              · intro ν w' hL hF K hK'
                go_simp
                exact hK'.out _ _ rfl (Lat.refl _)
              simp only [Act.put, List.setIfInBounds_toArray, List.set_cons_zero, List.set_cons_succ, Nat.reduceAdd]
              apply RelyL.val
              · intro ν w' hL hF K hK'
                refine take_op rfl ?_
                refine wp_load_at 29 _ rfl bl ((offl + q * 10)) rfl _ _ (hrl.below hL hbl) Tryd.underlying29 rfl (by kernel_rfl) ?_
                exact hK'.out _ _ rfl (Lat.refl _)
              simp only [Act.put, List.setIfInBounds_toArray, List.set_cons_zero, List.set_cons_succ, Nat.reduceAdd]
              apply RelyL.val
              · intro ν w' hL hF K hK'
                refine take_op rfl ?_
                refine wp_load_at 29 _ rfl w.heap.size (0) rfl _ _ (hrx.below hL hbx) Tryd.underlying29 rfl (by kernel_rfl) ?_
                exact hK'.out _ _ rfl (Lat.refl _)
              simp only [Act.put, List.setIfInBounds_toArray, List.set_cons_zero, List.set_cons_succ, Nat.reduceAdd]
              apply RelyL.val
              · intro ν w' hL hF K hK'
                refine take_op rfl ?_
                refine wp_eql_w _ _ _ rfl los[q] x rfl rfl HE.out ?_
                exact hK'.out _ _ rfl (Lat.refl _)
              simp only [Act.put, List.setIfInBounds_toArray, List.set_cons_zero, List.set_cons_succ, Nat.reduceAdd]
              refine RelyL.done fun ν w6 hL hF => ?_
              clear hF
              have hL6 := hLW5.trans hL
              clear HE hr2 hrl hrx
              go_wp2_with fail
              go_roundw
              case rel => exact ⟨q + 1, by omega, by go_num, by rw [HT.out]; first | rfl | go_num, hL6⟩
              case measure => simp [intOf]; omega
          · have hq : los.take q = los := List.take_of_length_le (by omega)
            rw [hq]
            clear hq hcq
            go_wp2_with fail
            go_roundw
            case rel => exact ⟨j + 1, by omega, by go_num, by first | (rw [HTK.out, HN.out]; done) | (rw [HTK.out, HN.out]; go_num), hL4.trans hLW5⟩
            case measure => simp [intOf]; omega
      · have HE := Lib.hid (decide_eq_false he)
        rw [if_neg he] at HTK
        clear he
        go_wp2_with fail
        refine wp_rely (by kernel_rfl) (by kernel_rfl) ?_
        apply RelyL.val
        · intro ν w' hL hF K hK'
          go_simp
          exact hK'.out _ _ rfl (Lat.refl _)
        simp only [Act.put, List.setIfInBounds_toArray, List.set_cons_zero, List.set_cons_succ, Nat.reduceAdd]
        apply RelyL.val
        · intro ν w' hL hF K hK'
          go_simp
          exact hK'.out _ _ rfl (Lat.refl _)
        simp only [Act.put, List.setIfInBounds_toArray, List.set_cons_zero, List.set_cons_succ, Nat.reduceAdd]
        apply RelyL.val
        · intro ν w' hL hF K hK'
          go_simp
          exact hK'.out _ _ rfl (Lat.refl _)
        simp only [Act.put, List.setIfInBounds_toArray, List.set_cons_zero, List.set_cons_succ, Nat.reduceAdd]
        apply RelyL.val
        · intro ν w' hL hF K hK'
          go_simp
          exact hK'.out _ _ rfl (Lat.refl _)
        simp only [Act.put, List.setIfInBounds_toArray, List.set_cons_zero, List.set_cons_succ, Nat.reduceAdd]
        apply RelyL.val
        · intro ν w' hL hF K hK'
          refine take_op rfl ?_
          refine wp_load_at 29 _ rfl b ((off + j * 15 + 3)) rfl _ _ (hw1.below hL hb1) Tryd.underlying29 rfl (by kernel_rfl) ?_
          exact hK'.out _ _ rfl (Lat.refl _)
        simp only [Act.put, List.setIfInBounds_toArray, List.set_cons_zero, List.set_cons_succ, Nat.reduceAdd]
        apply RelyL.val
        · intro ν w' hL hF K hK'
          refine take_op rfl ?_
          refine wp_load_at 29 _ rfl w.heap.size (0) rfl _ _ (hrx.below hL hbx) Tryd.underlying29 rfl (by kernel_rfl) ?_
          exact hK'.out _ _ rfl (Lat.refl _)
        simp only [Act.put, List.setIfInBounds_toArray, List.set_cons_zero, List.set_cons_succ, Nat.reduceAdd]
        apply RelyL.val
        · intro ν w' hL hF K hK'
          refine take_op rfl ?_
          refine wp_eql_w _ _ _ rfl win x rfl rfl HE.out ?_
          exact hK'.out _ _ rfl (Lat.refl _)
        simp only [Act.put, List.setIfInBounds_toArray, List.set_cons_zero, List.set_cons_succ, Nat.reduceAdd]
        refine RelyL.done fun ν w4 hL hF => ?_
        clear hF
        have hL4 := hLW.trans hL
        have HROW := Lib.hid (hr1.below hL hb1)
        have HB4 := Lib.hid (Nat.lt_of_lt_of_le hb1 hL.size)
        have HLOS := Lib.hid (hlr.lat hL)
        have HRX := Lib.hid (hrx.below hL hbx)
        have HBX := Lib.hid (Nat.lt_of_lt_of_le hbx hL.size)
        obtain ⟨N, hN⟩ : ∃ N, N = N0 + 0 := ⟨_, rfl⟩
        have hNb : N + los.length ≤ 100000 := by omega
        have HN := Lib.hid hN.symm
        rw [Nat.add_zero] at hN
        subst hN
        clear HE hw1 hr1 hlr hrx hbx hb1 hx hLW hL
        go_wp2_with fail
        go_loopw [5, 7] (fun n k wr => ∃ q : Nat, q ≤ los.length ∧ k = .int .i64 q ∧ n = .int .i64 ((N + (los.take q).count x : Nat) : Int) ∧ Lat w4 wr) (fun _ k _ => los.length - (intOf k).toNat)
        case atStart => exact ⟨0, Nat.zero_le _, rfl, by first | rfl | (simp; done) | (rw [← HN.out]; simp; done), Lat.refl _⟩
        case round =>
          obtain ⟨q, hql, rfl, rfl, hLW5⟩ := hrel
          obtain ⟨w5, rfl⟩ : ∃ w, w = wr := ⟨_, rfl⟩
          have hr2 := HROW.out.below hLW5 HB4.out
          have hb2 : b < w5.heap.size := Nat.lt_of_lt_of_le HB4.out hLW5.size
          have c13 := (dec_los hr2).1
          have hcq := List.count_le_length (l := los.take q) (a := x)
          by_cases hlq : q < los.length
          · obtain ⟨bl, offl, hAl, hbl, hrl'⟩ := (HLOS.out.lat hLW5).row q hlq
            subst hAl
            have hrl : RowAt w5 bl (offl + q * 10) (wC los[q]) := hrl'
            have hrx : RowAt w5 w.heap.size 0 (wC x) := HRX.out.below hLW5 HBX.out
            have hbx : w.heap.size < w5.heap.size := Nat.lt_of_lt_of_le HBX.out hLW5.size
            have htk1 := count_take1 los x q hlq
            rw [List.length_take] at hcq
            clear hrl'
            by_cases he : los[q] = x
            · have HE := Lib.hid (decide_eq_true he)
              rw [if_pos he] at htk1
              have HT := Lib.hid htk1
              clear he htk1
              go_wp2_with fail
              refine wp_rely (by kernel_rfl) (by kernel_rfl) ?_
              apply RelyL.val
              · intro ν w' hL hF K hK'
                go_simp
                exact hK'.out _ _ rfl (Lat.refl _)
              simp only [Act.put, List.setIfInBounds_toArray, List.set_cons_zero, List.set_cons_succ, Nat.reduceAdd]
              apply RelyL.val
              · intro ν w' hL hF K hK'
                go_simp
                exact hK'.out _ _ rfl (Lat.refl _)
              simp only [Act.put, List.setIfInBounds_toArray, List.set_cons_zero, List.set_cons_succ, Nat.reduceAdd]
              apply RelyL.val
              · intro ν w' hL hF K hK'
                go_simp
                exact hK'.out _ _ rfl (Lat.refl _)
              simp only [Act.put, List.setIfInBounds_toArray, List.set_cons_zero, List.set_cons_succ, Nat.reduceAdd]
              apply RelyL.val
              · intro ν w' hL hF K hK'
                go_simp
                exact hK'.out _ _ rfl (Lat.refl _)
              simp only [Act.put, List.setIfInBounds_toArray, List.set_cons_zero, List.set_cons_succ, Nat.reduceAdd]
              apply RelyL.val
              · intro ν w' hL hF K hK'
                have c13 := (dec_los (hr2.below hL hb2)).1
                go_simp
                exact hK'.out _ _ rfl (Lat.refl _)
              simp only [Act.put, List.setIfInBounds_toArray, List.set_cons_zero, List.set_cons_succ, Nat.reduceAdd]
              apply RelyL.val
              · intro ν w' hL hF K hK'
                go_simp
                exact hK'.out _ _ rfl (Lat.refl _)
              simp only [Act.put, List.setIfInBounds_toArray, List.set_cons_zero, List.set_cons_succ, Nat.reduceAdd]
              apply RelyL.val
              · intro ν w' hL hF K hK'
                go_simp
                exact hK'.out _ _ rfl (Lat.refl _)
              simp only [Act.put, List.setIfInBounds_toArray, List.set_cons_zero, List.set_cons_succ, Nat.reduceAdd]
              apply RelyL.val
              · intro ν w' hL hF K hK'
                refine take_op rfl ?_
                refine wp_load_at 29 _ rfl bl ((offl + q * 10)) rfl _ _ (hrl.below hL hbl) Tryd.underlying29 rfl (by kernel_rfl) ?_
                exact hK'.out _ _ rfl (Lat.refl _)
              simp only [Act.put, List.setIfInBounds_toArray, List.set_cons_zero, List.set_cons_succ, Nat.reduceAdd]
              apply RelyL.val
              · intro ν w' hL hF K hK'
                refine take_op rfl ?_
                refine wp_load_at 29 _ rfl w.heap.size (0) rfl _ _ (hrx.below hL hbx) Tryd.underlying29 rfl (by kernel_rfl) ?_
                exact hK'.out _ _ rfl (Lat.refl _)
              simp only [Act.put, List.setIfInBounds_toArray, List.set_cons_zero, List.set_cons_succ, Nat.reduceAdd]
              apply RelyL.val
              · intro ν w' hL hF K hK'
                refine take_op rfl ?_
                refine wp_eql_w _ _ _ rfl los[q] x rfl rfl HE.out ?_
                exact hK'.out _ _ rfl (Lat.refl _)
              simp only [Act.put, List.setIfInBounds_toArray, List.set_cons_zero, List.set_cons_succ, Nat.reduceAdd]
              refine RelyL.done fun ν w6 hL hF => ?_
              clear hF
              have hL6 := hLW5.trans hL
              clear HE hr2 hrl hrx
              go_wp2_with fail
              go_roundw
              case rel => exact ⟨q + 1, by omega, by go_num, by rw [HT.out]; go_num, hL6⟩
              case measure => simp [intOf]; omega
            · have HE := Lib.hid (decide_eq_false he)
              rw [if_neg he] at htk1
              have HT := Lib.hid htk1
              clear he htk1
              go_wp2_with fail
              refine wp_rely (by kernel_rfl) (by kernel_rfl) ?_
              apply RelyL.val
              · intro ν w' hL hF K hK'
                go_simp
                exact hK'.out _ _ rfl (Lat.refl _)
              simp only [Act.put, List.setIfInBounds_toArray, List.set_cons_zero, List.set_cons_succ, Nat.reduceAdd]
              apply RelyL.val
              · intro ν w' hL hF K hK'
                go_simp
                exact hK'.out _ _ rfl (Lat.refl _)
              simp only [Act.put, List.setIfInBounds_toArray, List.set_cons_zero, List.set_cons_succ, Nat.reduceAdd]
              apply RelyL.val
              · intro ν w' hL hF K hK'
                go_simp
                exact hK'.out _ _ rfl (Lat.refl _)
              simp only [Act.put, List.setIfInBounds_toArray, List.set_cons_zero, List.set_cons_succ, Nat.reduceAdd]
              apply RelyL.val
              · intro ν w' hL hF K hK'
                go_simp
                exact hK'.out _ _ rfl (Lat.refl _)
              simp only [Act.put, List.setIfInBounds_toArray, List.set_cons_zero, List.set_cons_succ, Nat.reduceAdd]
              apply RelyL.val
              · intro ν w' hL hF K hK'
                have c13 := (dec_los (hr2.below hL hb2)).1
                go_simp
                exact hK'.out _ _ rfl (Lat.refl _)
              simp only [Act.put, List.setIfInBounds_toArray, List.set_cons_zero, List.set_cons_succ, Nat.reduceAdd]
              apply RelyL.val
              · intro ν w' hL hF K hK'
                go_simp
                exact hK'.out _ _ rfl (Lat.refl _)
              simp only [Act.put, List.setIfInBounds_toArray, List.set_cons_zero, List.set_cons_succ, Nat.reduceAdd]
              apply RelyL.val
              · intro ν w' hL hF K hK'
                go_simp
                exact hK'.out _ _ rfl (Lat.refl _)
              simp only [Act.put, List.setIfInBounds_toArray, List.set_cons_zero, List.set_cons_succ, Nat.reduceAdd]
              apply RelyL.val
              · intro ν w' hL hF K hK'
                refine take_op rfl ?_
                refine wp_load_at 29 _ rfl bl ((offl + q * 10)) rfl _ _ (hrl.below hL hbl) Tryd.underlying29 rfl (by kernel_rfl) ?_
                exact hK'.out _ _ rfl (Lat.refl _)
              simp only [Act.put, List.setIfInBounds_toArray, List.set_cons_zero, List.set_cons_succ, Nat.reduceAdd]
              apply RelyL.val
              · intro ν w' hL hF K hK'
                refine take_op rfl ?_
                refine wp_load_at 29 _ rfl w.heap.size (0) rfl _ _ (hrx.below hL hbx) Tryd.underlying29 rfl (by kernel_rfl) ?_
                exact hK'.out _ _ rfl (Lat.refl _)
              simp only [Act.put, List.setIfInBounds_toArray, List.set_cons_zero, List.set_cons_succ, Nat.reduceAdd]
              apply RelyL.val
              · intro ν w' hL hF K hK'
                refine take_op rfl ?_
                refine wp_eql_w _ _ _ rfl los[q] x rfl rfl HE.out ?_
                exact hK'.out _ _ rfl (Lat.refl _)
              simp only [Act.put, List.setIfInBounds_toArray, List.set_cons_zero, List.set_cons_succ, Nat.reduceAdd]
              refine RelyL.done fun ν w6 hL hF => ?_
              clear hF
              have hL6 := hLW5.trans hL
              clear HE hr2 hrl hrx
              go_wp2_with fail
              go_roundw
              case rel => exact ⟨q + 1, by omega, by go_num, by rw [HT.out]; first | rfl | go_num, hL6⟩
              case measure => simp [intOf]; omega
          · have hq : los.take q = los := List.take_of_length_le (by omega)
            rw [hq]
            clear hq hcq
            go_wp2_with fail
            go_roundw
            case rel => exact ⟨j + 1, by omega, by go_num, by first | (rw [HTK.out, HN.out]; done) | (rw [HTK.out, HN.out]; go_num), hL4.trans hLW5⟩
            case measure => simp [intOf]; omega
    · have hj : ds.take j = ds := List.take_of_length_le (by omega)
      rw [hj] at *
      clear hj
      go_wp2_with fail
      go_ret
      exact ⟨rfl, hL0.trans hLW⟩
end Go.Proofs.YtgjoojailghilaaDoor
