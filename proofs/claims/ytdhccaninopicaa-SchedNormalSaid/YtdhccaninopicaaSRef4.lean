/- The reference's next change. -/
import Derived.Test.YtdhccaninopicaaSRef3
import Derived.IntWalk
set_option linter.unusedSimpArgs false
set_option linter.unusedVariables false
namespace Go.Proofs.Ytdhccaninopicaa
open Go.RowKit

set_option maxRecDepth 100000 in
set_option maxHeartbeats 4000000 in
theorem rnext_any (l : List Sp) (A : Option Addr) (c : Nat) (m : Int) (B : Nat) (w : World) (hB : B ≤ w.heap.size) (hr : IsRows B w 2 (l.map spC) A) (hl : l.length ≤ 140737488351232) (hm : I64 m) :
    Calls Try.prog 21 #[.slice A l.length c, .int .i64 m] w fun r w' => r = .returned (.int .i64 (nextI (memS l) (wrapI m))) ∧ Below w.heap.size w w' := by
  have H1 := Lib.hid (minutes_any l A c B w hB hr hl)
  have HW := fun w => Lib.hid (minute_any m w hm)
  obtain ⟨hm1, hm2⟩ := hm
  have hM := wrapI_bd m
  clear hr
  generalize memS l = S at *
  generalize wrapI m = M at *
  obtain ⟨mn, rfl⟩ : ∃ mn : Nat, M = mn := ⟨M.toNat, by omega⟩
  obtain ⟨R, hR⟩ : ∃ R, R = nextI S mn := ⟨_, rfl⟩
  rw [← hR]
  have HR : Hid (R = nextTo S mn 10080 1) := Lib.hid hR
  clear hR
  go_enter Try.func21, Try.ntmps21
  go_wp2_with (first | (go_at_call 37; refine H1.out.mono ?_; rintro r w2 ⟨g, rfl, hg, hb, hlow⟩; clear H1) | (go_at_call 39; refine (HW _).out.mono ?_; rintro r w2 ⟨rfl, rfl⟩))
  clear HW
  go_loopw [6] (fun i wr => ∃ (f n : Nat), f + n = 10081 ∧ 1 ≤ n ∧ i = .int .i64 n ∧ Hid (R = nextTo S mn f n) ∧ Below w.heap.size w wr ∧ Blk wr g 4 (minsOf S)) (fun i _ => 10081 - (intOf i).toNat)
  case atStart => exact ⟨10080, 1, rfl, by omega, rfl, HR, hlow, hb⟩
  case round =>
    clear HR hlow hb
    obtain ⟨f, n, hfn, hn1, rfl, HH, hbw, kM⟩ := hrel
    cases f with
    | zero =>
      have hn : n = 10081 := by omega
      subst hn
      go_wp2_with fail
      go_ret
      exact ⟨ret_int HH.out.symm, hbw⟩
    | succ f =>
      have hst := HH.out
      rw [nextTo] at hst
      clear HH
      have hX := wrapI_bd ((mn : Int) + n)
      have HMn := fun w => Lib.hid (minute_any ((mn : Int) + n) w ⟨by omega, by omega⟩)
      generalize wrapI ((mn : Int) + n) = X at *
      obtain ⟨xn, rfl⟩ : ∃ xn : Nat, X = xn := ⟨X.toNat, by omega⟩
      have hnle : (n : Int) ≤ 10080 := by omega
      generalize hb1 : S (xn : Int) = b1 at *
      generalize hb2 : S (mn : Int) = b2 at *
      have HC1 := Lib.hid (fun (w' : World) (hL : Lat wr w') => show w'.cell? ⟨g, xn, none⟩ = some (.bool b1) by rw [(kM.lat hL).cell, minsOf_get _ (by omega), hb1])
      have HC2 := Lib.hid (fun (w' : World) (hL : Lat wr w') => show w'.cell? ⟨g, mn, none⟩ = some (.bool b2) by rw [(kM.lat hL).cell, minsOf_get _ (by omega), hb2])
      clear hb1 hb2
      have hsum : IntKind.i64.wrap ((mn : Int) + (n : Int)) = (mn : Int) + n := IntWalk.i64_in _ (by omega)
      have HS2 := Lib.hid hsum
      clear hsum
      cases b1 <;> cases b2
      all_goals
        simp only [if_true, Bool.false_eq_true, Bool.true_eq_false, if_false] at hst
        have HST := Lib.hid hst
        clear hst
        go_upto_region 6 with fail
        have hsum := HS2.out
        refine wp_rely (by kernel_rfl) (by kernel_rfl) ?_
        apply RelyL.val
        · intro ν w' hL hF K hK
          skip
          go_simp
          exact hK.out _ _ rfl (Lat.refl _)
        simp only [Act.put, List.setIfInBounds_toArray, List.set_cons_zero, List.set_cons_succ, Nat.reduceAdd]
        apply RelyL.val
        · intro ν w' hL hF K hK
          skip
          go_simp
          exact hK.out _ _ rfl (Lat.refl _)
        simp only [Act.put, List.setIfInBounds_toArray, List.set_cons_zero, List.set_cons_succ, Nat.reduceAdd]
        apply RelyL.val
        · intro ν w' hL hF K hK
          skip
          go_simp
          exact hK.out _ _ rfl (Lat.refl _)
        simp only [Act.put, List.setIfInBounds_toArray, List.set_cons_zero, List.set_cons_succ, Nat.reduceAdd]
        apply RelyL.val
        · intro ν w' hL hF K hK
          skip
          go_simp
          exact hK.out _ _ rfl (Lat.refl _)
        simp only [Act.put, List.setIfInBounds_toArray, List.set_cons_zero, List.set_cons_succ, Nat.reduceAdd]
        apply RelyL.val
        · intro ν w' hL hF K hK
          go_simp
          go_at_call 39
          refine (HMn w').out.mono ?_
          rintro r w'' ⟨rfl, rfl⟩
          exact hK.out _ _ rfl (Lat.refl _)
        simp only [Act.put, List.setIfInBounds_toArray, List.set_cons_zero, List.set_cons_succ, Nat.reduceAdd]
        apply RelyL.val
        · intro ν w' hL hF K hK
          skip
          go_simp
          exact hK.out _ _ rfl (Lat.refl _)
        simp only [Act.put, List.setIfInBounds_toArray, List.set_cons_zero, List.set_cons_succ, Nat.reduceAdd]
        apply RelyL.val
        · intro ν w' hL hF K hK
          have c1 := HC1.out w' hL
          have c2 := HC2.out w' hL
          go_simp
          exact hK.out _ _ rfl (Lat.refl _)
        simp only [Act.put, List.setIfInBounds_toArray, List.set_cons_zero, List.set_cons_succ, Nat.reduceAdd]
        apply RelyL.val
        · intro ν w' hL hF K hK
          skip
          go_simp
          exact hK.out _ _ rfl (Lat.refl _)
        simp only [Act.put, List.setIfInBounds_toArray, List.set_cons_zero, List.set_cons_succ, Nat.reduceAdd]
        apply RelyL.val
        · intro ν w' hL hF K hK
          skip
          go_simp
          exact hK.out _ _ rfl (Lat.refl _)
        simp only [Act.put, List.setIfInBounds_toArray, List.set_cons_zero, List.set_cons_succ, Nat.reduceAdd]
        apply RelyL.val
        · intro ν w' hL hF K hK
          skip
          go_simp
          exact hK.out _ _ rfl (Lat.refl _)
        simp only [Act.put, List.setIfInBounds_toArray, List.set_cons_zero, List.set_cons_succ, Nat.reduceAdd]
        apply RelyL.val
        · intro ν w' hL hF K hK
          have c1 := HC1.out w' hL
          have c2 := HC2.out w' hL
          go_simp
          exact hK.out _ _ rfl (Lat.refl _)
        simp only [Act.put, List.setIfInBounds_toArray, List.set_cons_zero, List.set_cons_succ, Nat.reduceAdd]
        apply RelyL.val
        · intro ν w' hL hF K hK
          skip
          go_simp
          exact hK.out _ _ rfl (Lat.refl _)
        simp only [Act.put, List.setIfInBounds_toArray, List.set_cons_zero, List.set_cons_succ, Nat.reduceAdd]
        refine RelyL.done fun ν w1 hL hF => ?_
        clear hF hsum
        have hbw1 := hbw.th hL
        have kM1 := kM.lat hL
        clear hL kM hbw
        go_wp2_with fail
      · go_roundw
        case rel => exact ⟨f, n + 1, by omega, by omega, by go_num, HST, hbw1, kM1⟩
        case measure => simp [intOf]; omega
      · go_ret
        exact ⟨ret_int HST.out.symm, hbw1⟩
      · go_ret
        exact ⟨ret_int HST.out.symm, hbw1⟩
      · go_roundw
        case rel => exact ⟨f, n + 1, by omega, by omega, by go_num, HST, hbw1, kM1⟩
        case measure => simp [intOf]; omega

end Go.Proofs.Ytdhccaninopicaa
