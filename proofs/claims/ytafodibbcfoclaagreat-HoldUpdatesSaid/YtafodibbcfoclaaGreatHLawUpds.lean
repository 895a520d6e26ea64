/- Hold: Update of the program and of the reference agree: the law walked. -/
import Derived.Test.YtafodibbcfoclaaGreatHRUpd
import Derived.Test.YtafodibbcfoclaaGreatHAwake
import Derived.Test.YtafodibbcfoclaaGreatHFews
import Derived.Test.YtafodibbcfoclaaGreatHSame
import Derived.Test.YtafodibbcfoclaaGreatHView
set_option linter.unusedSimpArgs false
set_option linter.unusedVariables false
namespace Go.Proofs.YtafodibbcfoclaaGreat
open Go.RowKit

theorem rsame_self (xs : List LTim) (A B : Option Addr) (c c' : Nat) (w : World) (hx : ET.Rd w xs (.slice A xs.length c)) (hy : ET.Rd w xs (.slice B xs.length c')) (hbig : xs.length ≤ 1000000) :
    Calls Tryz.prog 7 #[.slice A xs.length c, .slice B xs.length c'] w fun r w' => r = .returned (.bool true) ∧ Lat w w' := by
  have h := rsame_any xs xs A B c c' w hx hy hbig
  rwa [decide_eq_true (rfl : xs = xs)] at h
set_option maxRecDepth 100000 in
set_option maxHeartbeats 2000000 in
theorem lawUpdates (l : List LTim) (A : Option Addr) (c : Nat) (ps : List RP) (B : Option Addr) (m : Nat) (V : Ev.LView) (vc : List Value) (now : Int) (w : World) (hx : RdT w l (.slice A l.length c)) (hy : RdR w ps (.slice B ps.length m)) (hv : Ev.IsView w.heap.size w V vc) :
    Calls Tryz.prog 3 #[.slice A l.length c, .slice B ps.length m, .agg vc.toArray, .int .i64 now] w fun r w' => r = .returned (.bool true) ∧ Lat w w' := by
  have HAW := Lib.hid awake_any
  have HV := Lib.hid hv
  obtain ⟨IA, ic, MA, mc, rfl, -⟩ := hv
  have hL0 : Lat w (w.alloc (.cells #[.slice IA V.items.length ic, .string V.mode, .int .i64 V.minute, .slice MA V.members.length mc] 27)) := Lat.al _ _
  have hb0 := Blk.new w 27 #[.slice IA V.items.length ic, .string V.mode, .int .i64 V.minute, .slice MA V.members.length mc]
  have HF := Lib.hid (few_any l A c ps B m _ (hy.lat hL0))
  have HVW := fun (w' : World) (h : Lat w w') => Lib.hid (view_any V _ w.heap.size w' (HV.out.carry h))
  have HU1 := fun (hf : FewR l ps) (w' : World) (h : Lat w w') => Lib.hid (update_any l A c ps B m V _ now w' (hx.lat h) (hy.lat h) ((HV.out.carry h).mono h.size) (by have := hf.rules; omega) (fun p hp => by have := hf.ons p hp; omega))
  have HU2 := fun (hf : FewR l ps) (w' : World) (h : Lat w w') => Lib.hid (rupdate_any l A c ps B m V _ now w' (hx.lat h) (hy.lat h) ((HV.out.carry h).mono h.size) (by have := hf.rules; omega) (fun p hp => by have := hf.ons p hp; omega))
  have HUL : (updP V (holdsP ps) (validP l) now).length ≤ 40 := Nat.le_trans (updP_len _ _ _ _) (holdsP_len ps)
  generalize updP V (holdsP ps) (validP l) now = U at *
  clear hx hy HV
  go_enter Tryz.func3, Tryz.ntmps3
  go_wp2_with fail
  refine HF.out.mono ?_
  rintro r w1 ⟨⟨b, rfl, hb⟩, hl1⟩
  have hL1 := hL0.trans hl1
  have hb1 := hb0.lat hl1
  have hrv : RowAt w1 w.heap.size 0 [.slice IA V.items.length ic, .string V.mode, .int .i64 V.minute, .slice MA V.members.length mc] := hb1.row
  clear HF hb0 hL0 hl1
  cases b
  · clear hb HVW HU1 HU2 hrv hb1
    go_wp2_with fail
    refine (HAW.out _).mono ?_
    rintro r w9 ⟨rfl, hl9⟩
    have hL9 := hL1.trans hl9
    clear HAW
    go_wp2_with fail
    go_ret
    exact ⟨rfl, hL9⟩
  have hf := hb rfl
  have HU1 := HU1 hf
  have HU2 := HU2 hf
  have HVW1 := HVW w1 hL1
  clear HVW hb hf
  go_wp2_with (refine wpList_load_atG rfl 27 _ rfl w.heap.size 0 rfl _ _ hrv Tryz.underlying27 rfl (by kernel_rfl) ?_)
  refine HVW1.out.mono ?_
  rintro r w2 ⟨⟨b, rfl⟩, hl2⟩
  have hL2 := hL1.trans hl2
  have hb2 := hb1.lat hl2
  clear HVW1 hL1 hl2 hrv hb1
  cases b
  · clear HU1 HU2 hb2
    go_wp2_with fail
    refine (HAW.out _).mono ?_
    rintro r w9 ⟨rfl, hl9⟩
    have hL9 := hL2.trans hl9
    clear HAW
    go_wp2_with fail
    go_ret
    exact ⟨rfl, hL9⟩
  have HU1 := fun w' h => HU1 w' (hL2.trans h)
  have HU2 := fun w' h => HU2 w' (hL2.trans h)
  go_upto_region 3 with fail
  refine wp_rely (by kernel_rfl) (by kernel_rfl) ?_
  apply RelyL.val
  · intro ν w' hL hF K hK'
    clear hF
    go_simp
    exact hK'.out _ _ rfl (Lat.refl _)
  simp only [Act.put, List.setIfInBounds_toArray, List.set_cons_zero, List.set_cons_succ, Nat.reduceAdd]
  apply RelyL.val
  · intro ν w' hL hF K hK'
    clear hF
    go_simp
    exact hK'.out _ _ rfl (Lat.refl _)
  simp only [Act.put, List.setIfInBounds_toArray, List.set_cons_zero, List.set_cons_succ, Nat.reduceAdd]
  apply RelyL.val
  · intro ν w' hL hF K hK'
    clear hF
    refine take_op rfl ?_
    refine wp_load_blk rfl rfl (hb2.lat hL) Tryz.underlying27 rfl (by kernel_rfl : (Tryz.prog.info? 27).map (·.size) = some 4) rfl ?_
    exact hK'.out _ _ rfl (Lat.refl _)
  simp only [Act.put, List.setIfInBounds_toArray, List.set_cons_zero, List.set_cons_succ, Nat.reduceAdd]
  apply RelyL.val
  · intro ν w' hL hF K hK'
    clear hF
    go_simp
    exact hK'.out _ _ rfl (Lat.refl _)
  simp only [Act.put, List.setIfInBounds_toArray, List.set_cons_zero, List.set_cons_succ, Nat.reduceAdd]
  refine RelyL.law (fun v w => ∃ A c, v = .slice A U.length c ∧ ET.Rd w U (.slice A U.length c)) (fun v w1 w2 hl h => by obtain ⟨A, c, h1, h2⟩ := h; exact ⟨A, c, h1, h2.lat hl⟩) (fun ν w' hL hF K hK => ?_) ?_
  · have H := HU1 w' hL
    clear hF
    go_simp
    go_at_call 8
    refine H.out.mono ?_
    rintro r w'' ⟨⟨v, rfl, hrd⟩, hl⟩
    obtain ⟨A', c', rfl⟩ := rd_slice hrd
    exact hK.out _ _ _ rfl ⟨_, _, rfl, hrd⟩ hl
  simp only [Act.put, List.setIfInBounds_toArray, List.set_cons_zero, List.set_cons_succ, Nat.reduceAdd]
  apply RelyL.val
  · intro ν w' hL hF K hK'
    clear hF
    go_simp
    exact hK'.out _ _ rfl (Lat.refl _)
  simp only [Act.put, List.setIfInBounds_toArray, List.set_cons_zero, List.set_cons_succ, Nat.reduceAdd]
  apply RelyL.val
  · intro ν w' hL hF K hK'
    clear hF
    go_simp
    exact hK'.out _ _ rfl (Lat.refl _)
  simp only [Act.put, List.setIfInBounds_toArray, List.set_cons_zero, List.set_cons_succ, Nat.reduceAdd]
  apply RelyL.val
  · intro ν w' hL hF K hK'
    clear hF
    refine take_op rfl ?_
    refine wp_load_blk rfl rfl (hb2.lat hL) Tryz.underlying27 rfl (by kernel_rfl : (Tryz.prog.info? 27).map (·.size) = some 4) rfl ?_
    exact hK'.out _ _ rfl (Lat.refl _)
  simp only [Act.put, List.setIfInBounds_toArray, List.set_cons_zero, List.set_cons_succ, Nat.reduceAdd]
  apply RelyL.val
  · intro ν w' hL hF K hK'
    clear hF
    go_simp
    exact hK'.out _ _ rfl (Lat.refl _)
  simp only [Act.put, List.setIfInBounds_toArray, List.set_cons_zero, List.set_cons_succ, Nat.reduceAdd]
  refine RelyL.law (fun v w => ∃ A c, v = .slice A U.length c ∧ ET.Rd w U (.slice A U.length c)) (fun v w1 w2 hl h => by obtain ⟨A, c, h1, h2⟩ := h; exact ⟨A, c, h1, h2.lat hl⟩) (fun ν w' hL hF K hK => ?_) ?_
  · have H := HU2 w' hL
    clear hF
    go_simp
    go_at_call 9
    refine H.out.mono ?_
    rintro r w'' ⟨⟨v, rfl, hrd⟩, hl⟩
    obtain ⟨A', c', rfl⟩ := rd_slice hrd
    exact hK.out _ _ _ rfl ⟨_, _, rfl, hrd⟩ hl
  simp only [Act.put, List.setIfInBounds_toArray, List.set_cons_zero, List.set_cons_succ, Nat.reduceAdd]
  apply RelyL.val
  · intro ν w' hL hF K hK'
    have h4 := hF.get 0 rfl (by kernel_rfl)
    have h5 := hF.get 1 rfl (by kernel_rfl)
    dsimp only at h4 h5
    generalize ν 9 = y9 at *
    generalize ν 4 = y4 at *
    obtain ⟨A1, c1, rfl, h4⟩ := h4
    obtain ⟨A2, c2, rfl, h5⟩ := h5
    have H := Lib.hid (rsame_self U A2 A1 c2 c1 w' h5 h4 (by omega))
    clear hF h4 h5
    go_simp
    go_at_call 7
    refine H.out.mono ?_
    rintro r w'' ⟨rfl, hl⟩
    exact hK'.out _ _ rfl hl
  simp only [Act.put, List.setIfInBounds_toArray, List.set_cons_zero, List.set_cons_succ, Nat.reduceAdd]
  apply RelyL.val
  · intro ν w' hL hF K hK'
    clear hF
    go_simp
    exact hK'.out _ _ rfl (Lat.refl _)
  simp only [Act.put, List.setIfInBounds_toArray, List.set_cons_zero, List.set_cons_succ, Nat.reduceAdd]
  apply RelyL.val
  · intro ν w' hL hF K hK'
    clear hF
    have H := Lib.hid (HAW.out w')
    go_simp
    go_at_call 6
    refine H.out.mono ?_
    rintro r w'' ⟨rfl, hl⟩
    exact hK'.out _ _ rfl hl
  simp only [Act.put, List.setIfInBounds_toArray, List.set_cons_zero, List.set_cons_succ, Nat.reduceAdd]
  apply RelyL.val
  · intro ν w' hL hF K hK'
    clear hF
    go_simp
    exact hK'.out _ _ rfl (Lat.refl _)
  simp only [Act.put, List.setIfInBounds_toArray, List.set_cons_zero, List.set_cons_succ, Nat.reduceAdd]
  apply RelyL.val
  · intro ν w' hL hF K hK'
    clear hF
    go_simp
    exact hK'.out _ _ rfl (Lat.refl _)
  simp only [Act.put, List.setIfInBounds_toArray, List.set_cons_zero, List.set_cons_succ, Nat.reduceAdd]
  refine RelyL.done fun ν w3 hL hF => ?_
  have hL3 := hL2.trans hL
  clear hF hL hL2 hb2 HAW HU1 HU2
  go_wp2_with fail
  go_ret
  exact ⟨rfl, hL3⟩
end Go.Proofs.YtafodibbcfoclaaGreat
