/- Guard: resolve's comparisons of values, of numbers and texts. Resolve: rank and Before, the program's and the reference's. Guard: the comparison that Decide sorts by. -/
import Derived.Test.YtmgalnbacenbbaaGreatGOps
import Derived.Deep.DeepCutAuto
namespace Go.Proofs.YtmgalnbacenbbaaGreat
section
set_option linter.unusedSimpArgs false
set_option linter.unusedVariables false
open Go.RowKit
namespace Dr

set_option maxHeartbeats 1000000 in
theorem vless_any (a b : LVal) (w : World) : Calls Tryz.prog 62 #[.agg (vC a).toArray, .agg (vC b).toArray] w fun r w' => r = .returned (.bool (vless a b)) ∧ Lat w w' := by
  obtain ⟨a1, a2, a3⟩ := a
  obtain ⟨b1, b2, b3⟩ := b
  unfold vC
  go_enter Tryz.func62, Tryz.ntmps62
  by_cases e1 : a1 = b1
  · subst e1
    by_cases e2 : a2 = b2
    · subst e2
      have hk : vless ⟨a1, a2, a3⟩ ⟨a1, a2, b3⟩ = Op.bytesLess a3.toList b3.toList := by simp [vless, ltB]
      rw [hk]
      clear hk
      go_wp2_with fail
      go_ret
      exact ⟨rfl, ((Lat.al _ _).trans (Lat.al _ _))⟩
    · have e2' : (a2 != b2) = true := by simp [e2]
      have hk : vless ⟨a1, a2, a3⟩ ⟨a1, b2, b3⟩ = decide (a2 < b2) := by simp [vless, e2, ltI]
      rw [hk]
      clear hk
      go_wp2_with fail
      go_ret
      exact ⟨rfl, ((Lat.al _ _).trans (Lat.al _ _))⟩
  · have hk : vless ⟨a1, a2, a3⟩ ⟨b1, b2, b3⟩ = decide (a1 < b1) := by simp [vless, e1, ltI]
    rw [hk]
    have e1' : (a1 != b1) = true := by simp [e1]
    clear hk
    go_wp2_with fail
    go_ret
    exact ⟨rfl, ((Lat.al _ _).trans (Lat.al _ _))⟩

set_option maxHeartbeats 1000000 in
theorem cmpInt_any (a b : Int) (w : World) : Calls Tryz.prog 60 #[.int .i64 a, .int .i64 b] w fun r w' => r = .returned (.int .i64 (cmpI ltI a b)) ∧ w' = w := by
  have hk : cmpI ltI a b = if a < b then -1 else if b < a then 1 else 0 := by simp [cmpI, ltI]
  rw [hk]
  clear hk
  go_enter Tryz.func60, Tryz.ntmps60
  go_wp2_with fail
  all_goals (go_ret; refine ⟨ret_int ?_, rfl⟩; (repeat' split) <;> first | rfl | (exfalso; omega))
set_option maxHeartbeats 1000000 in
theorem cmpStr_any (a b : ByteArray) (w : World) : Calls Tryz.prog 61 #[.string a, .string b] w fun r w' => r = .returned (.int .i64 (cmpI ltB a b)) ∧ w' = w := by
  have hk : cmpI ltB a b = if Op.bytesLess a.toList b.toList = true then -1 else if Op.bytesLess b.toList a.toList = true then 1 else 0 := rfl
  rw [hk]
  clear hk
  go_enter Tryz.func61, Tryz.ntmps61
  rcases Bool.eq_false_or_eq_true (Op.bytesLess a.toList b.toList) with h1 | h1
  · rw [if_pos h1]
    go_wp2_with fail
    go_ret
    exact ⟨rfl, rfl⟩
  · rw [if_neg (by rw [h1]; simp)]
    by_cases e : a = b
    · subst e
      rw [if_neg (by rw [h1]; simp)]
      go_wp2_with fail
      go_ret
      exact ⟨rfl, rfl⟩
    · have h2 : Op.bytesLess b.toList a.toList = true := sto_ltB.tri a b h1 e
      have h3 : (a.toList == b.toList) = false := by rw [toList_beq]; simpa using e
      rw [if_pos h2]
      clear h2
      go_wp2_with fail
      go_ret
      exact ⟨rfl, rfl⟩
set_option maxHeartbeats 1000000 in
theorem sides_any (a b : Bool) (w : World) : Calls Tryz.prog 35 #[.bool a, .bool b] w fun r w' => r = .returned (.int .i64 (if a = true then -1 else if b = true then 1 else 0)) ∧ w' = w := by
  go_enter Tryz.func35, Tryz.ntmps35
  cases a <;> cases b <;> (go_wp2_with fail; go_ret; exact ⟨rfl, rfl⟩)
/-- The first that is not nil. -/
def firstI : List Int → Int
  | [] => 0
  | x :: l => if x ≠ 0 then x else firstI l
set_option maxHeartbeats 1000000 in
theorem decided_any (l : List Int) (g : Nat) (w : World) (hb : Blk w g 3 (l.map (Value.int .i64)).toArray) (hl : l.length ≤ 1000) : Calls Tryz.prog 34 #[.slice (some ⟨g, 0, none⟩) l.length l.length] w fun r w' => r = .returned (.int .i64 (firstI l)) ∧ w' = w := by
  have HF : Hid (firstI l = firstI (l.drop 0)) := rfl
  generalize firstI l = F at *
  go_enter Tryz.func34, Tryz.ntmps34
  have hc := hb.cell
  go_wp2_with fail
  go_loopw [4, 7] (fun _ i wr => ∃ k : Nat, k ≤ l.length ∧ i = .int .i64 k ∧ Hid (F = firstI (l.drop k)) ∧ wr = w) (fun _ i _ => l.length - (intOf i).toNat)
  case atStart => exact ⟨0, Nat.zero_le _, rfl, HF, rfl⟩
  case round =>
    obtain ⟨k, hk, rfl, HK, rfl⟩ := hrel
    by_cases hlk : k < l.length
    · have hg := hc k
      rw [show ((l.map (Value.int .i64)).toArray[k]? : Option Value) = some (.int .i64 l[k]) from by simp [List.getElem?_eq_getElem hlk]] at hg
      have hst := HK.out
      rw [List.drop_eq_getElem_cons hlk, firstI] at hst
      clear hc hb HK HF
      generalize l[k] = x at *
      by_cases hx : x = 0
      · rw [if_neg (by simpa using hx)] at hst
        have HST := Lib.hid hst
        have hx2 : (x != 0) = false := by simpa using hx
        clear hst
        go_wp2_with fail
        go_roundw
        case rel => exact ⟨k + 1, hlk, by go_num, HST, trivial⟩
        case measure => simp [intOf]; omega
      · rw [if_pos hx] at hst
        have HST := Lib.hid hst
        have hx2 : (x != 0) = true := by simpa using hx
        clear hst
        go_wp2_with fail
        go_ret
        exact ⟨ret_int HST.out.symm, rfl⟩
    · have hst := HK.out
      rw [List.drop_of_length_le (by omega), firstI] at hst
      have HST := Lib.hid hst
      clear hst hc HK HF
      go_wp2_with fail
      go_ret
      exact ⟨ret_int HST.out.symm, rfl⟩
end Dr
end
end Go.Proofs.YtmgalnbacenbbaaGreat

namespace Go.Proofs.YtmgalnbacenbbaaGreat
section
set_option linter.unusedSimpArgs false
set_option linter.unusedVariables false
open Go.RowKit
namespace Dr

theorem six_firstI (a b c d e f : Int) : firstI [a, b, c, d, e, f] = if a ≠ 0 then a else if b ≠ 0 then b else if c ≠ 0 then c else if d ≠ 0 then d else if e ≠ 0 then e else f := by
  simp only [firstI]
  by_cases h : f = 0 <;> simp [h]
set_option maxRecDepth 100000 in
set_option maxHeartbeats 4000000 in
theorem rank_any (a b : LW) (w : World) : Calls Tryz.prog 37 #[.agg (wC a).toArray, .agg (wC b).toArray] w fun r w' => r = .returned (.int .i64 (rankI a b)) ∧ Lat w w' := by
  have hch := rank_chain a b
  rw [← six_firstI] at hch
  have H1 := fun w => Lib.hid (cmpInt_any b.ck a.ck w)
  have H2 := fun w => Lib.hid (cmpInt_any b.cp a.cp w)
  have H3 := fun w => Lib.hid (cmpStr_any a.cn b.cn w)
  have H4 := fun w => Lib.hid (cmpInt_any b.ord a.ord w)
  have H5 := fun w => Lib.hid (vless_any a.val b.val w)
  have H6 := fun w => Lib.hid (vless_any b.val a.val w)
  have H7 := fun w => Lib.hid (less_any a.key b.key w)
  have H8 := fun w => Lib.hid (less_any b.key a.key w)
  have H5' := fun w => Lib.hid (sides_any (vless a.val b.val) (vless b.val a.val) w)
  have H7' := fun w => Lib.hid (sides_any (kless a.key b.key) (kless b.key a.key) w)
  have e1 : ∀ x y, cmpI ltI x y = cmpI gtI y x := fun x y => rfl
  simp only [e1] at H1 H2 H4
  have HD := fun g w hb => Lib.hid (decided_any [cmpI gtI a.ck b.ck, cmpI gtI a.cp b.cp, cmpI ltB a.cn b.cn, cmpI gtI a.ord b.ord, cmpI vless a.val b.val, cmpI kless a.key b.key] g w hb (by simp))
  rw [← hch] at HD
  change ∀ w, Hid (Calls _ _ _ _ fun r w' => r = .returned (.int .i64 (cmpI vless a.val b.val)) ∧ _) at H5'
  change ∀ w, Hid (Calls _ _ _ _ fun r w' => r = .returned (.int .i64 (cmpI kless a.key b.key)) ∧ _) at H7'
  clear hch e1
  have HD' : ∀ g w, Blk w g 3 #[.int .i64 (cmpI gtI a.ck b.ck), .int .i64 (cmpI gtI a.cp b.cp), .int .i64 (cmpI ltB a.cn b.cn), .int .i64 (cmpI gtI a.ord b.ord), .int .i64 (cmpI vless a.val b.val), .int .i64 (cmpI kless a.key b.key)] → Hid (Calls Tryz.prog 34 #[.slice (some ⟨g, 0, none⟩) 6 6] w fun r w' => r = .returned (.int .i64 (rankI a b)) ∧ w' = w) := HD
  clear HD
  have HD := HD'
  clear HD'
  generalize rankI a b = R at *
  generalize cmpI gtI a.ck b.ck = r1 at *
  generalize cmpI gtI a.cp b.cp = r2 at *
  generalize cmpI ltB a.cn b.cn = r3 at *
  generalize cmpI gtI a.ord b.ord = r4 at *
  generalize cmpI vless a.val b.val = r5 at *
  generalize cmpI kless a.key b.key = r6 at *
  generalize vless a.val b.val = s1 at *
  generalize vless b.val a.val = s2 at *
  generalize kless a.key b.key = s3 at *
  generalize kless b.key a.key = s4 at *
  obtain ⟨⟨a1, a2, a3⟩, ⟨a4, a5, a6⟩, a7, a8, a9, a10⟩ := a
  obtain ⟨⟨b1, b2, b3⟩, ⟨b4, b5, b6⟩, b7, b8, b9, b10⟩ := b
  simp only [wC, kC, vC] at *
  have ha : Blk ((w.alloc (.cells #[.int .i64 a1, .string a2, .string a3, .int .i64 a4, .int .i64 a5, .string a6, .int .i64 a7, .string a8, .int .i64 a9, .int .i64 a10] 44)).alloc (.cells #[.int .i64 b1, .string b2, .string b3, .int .i64 b4, .int .i64 b5, .string b6, .int .i64 b7, .string b8, .int .i64 b9, .int .i64 b10] 44)) w.heap.size 44 #[.int .i64 a1, .string a2, .string a3, .int .i64 a4, .int .i64 a5, .string a6, .int .i64 a7, .string a8, .int .i64 a9, .int .i64 a10] := (Blk.new _ _ _).alloc _
  have hb : Blk ((w.alloc (.cells #[.int .i64 a1, .string a2, .string a3, .int .i64 a4, .int .i64 a5, .string a6, .int .i64 a7, .string a8, .int .i64 a9, .int .i64 a10] 44)).alloc (.cells #[.int .i64 b1, .string b2, .string b3, .int .i64 b4, .int .i64 b5, .string b6, .int .i64 b7, .string b8, .int .i64 b9, .int .i64 b10] 44)) (w.heap.size + 1) 44 #[.int .i64 b1, .string b2, .string b3, .int .i64 b4, .int .i64 b5, .string b6, .int .i64 b7, .string b8, .int .i64 b9, .int .i64 b10] := Blk.at1 _ _ _ _
  have hl0 : Lat w ((w.alloc (.cells #[.int .i64 a1, .string a2, .string a3, .int .i64 a4, .int .i64 a5, .string a6, .int .i64 a7, .string a8, .int .i64 a9, .int .i64 a10] 44)).alloc (.cells #[.int .i64 b1, .string b2, .string b3, .int .i64 b4, .int .i64 b5, .string b6, .int .i64 b7, .string b8, .int .i64 b9, .int .i64 b10] 44)) := (Lat.al _ _).trans (Lat.al _ _)
  go_enter Tryz.func37, Tryz.ntmps37
  go_upto_region 1 with fail
  generalize (w.alloc (.cells #[.int .i64 a1, .string a2, .string a3, .int .i64 a4, .int .i64 a5, .string a6, .int .i64 a7, .string a8, .int .i64 a9, .int .i64 a10] 44)).alloc (.cells #[.int .i64 b1, .string b2, .string b3, .int .i64 b4, .int .i64 b5, .string b6, .int .i64 b7, .string b8, .int .i64 b9, .int .i64 b10] 44) = W0 at *
  refine wp_rely_tail 48 (by kernel_rfl) (by kernel_rfl) (by decide) (by kernel_rfl) ?_
  simp only [List.take_succ_cons, List.take_zero, List.drop_succ_cons, List.drop_zero]
  apply RelyL.val
  · intro ν w' hL hF K hK'
    have ca := (ha.latD hL).cell
    have cb := (hb.latD hL).cell
    go_simp
    exact hK'.out _ _ rfl (Lat.refl _)
  simp only [Act.put, List.setIfInBounds_toArray, List.set_cons_zero, List.set_cons_succ, Nat.reduceAdd]
  apply RelyL.val
  · intro ν w' hL hF K hK'
    have ca := (ha.latD hL).cell
    have cb := (hb.latD hL).cell
    go_simp
    exact hK'.out _ _ rfl (Lat.refl _)
  simp only [Act.put, List.setIfInBounds_toArray, List.set_cons_zero, List.set_cons_succ, Nat.reduceAdd]
  apply RelyL.val
  · intro ν w' hL hF K hK'
    have ca := (ha.latD hL).cell
    have cb := (hb.latD hL).cell
    go_simp
    exact hK'.out _ _ rfl (Lat.refl _)
  simp only [Act.put, List.setIfInBounds_toArray, List.set_cons_zero, List.set_cons_succ, Nat.reduceAdd]
  apply RelyL.val
  · intro ν w' hL hF K hK'
    have ca := (ha.latD hL).cell
    have cb := (hb.latD hL).cell
    go_simp
    exact hK'.out _ _ rfl (Lat.refl _)
  simp only [Act.put, List.setIfInBounds_toArray, List.set_cons_zero, List.set_cons_succ, Nat.reduceAdd]
  apply RelyL.val
  · intro ν w' hL hF K hK'
    have ca := (ha.latD hL).cell
    have cb := (hb.latD hL).cell
    go_simp
    exact hK'.out _ _ rfl (Lat.refl _)
  simp only [Act.put, List.setIfInBounds_toArray, List.set_cons_zero, List.set_cons_succ, Nat.reduceAdd]
  apply RelyL.val
  · intro ν w' hL hF K hK'
    have ca := (ha.latD hL).cell
    have cb := (hb.latD hL).cell
    go_simp
    exact hK'.out _ _ rfl (Lat.refl _)
  simp only [Act.put, List.setIfInBounds_toArray, List.set_cons_zero, List.set_cons_succ, Nat.reduceAdd]
  apply RelyL.val
  · intro ν w' hL hF K hK'
    have H := H1 w'
    go_simp
    go_at_call 60
    refine H.out.mono ?_
    rintro r w'' ⟨rfl, rfl⟩
    exact hK'.out _ _ rfl (Lat.refl _)
  simp only [Act.put, List.setIfInBounds_toArray, List.set_cons_zero, List.set_cons_succ, Nat.reduceAdd]
  apply RelyL.val
  · intro ν w' hL hF K hK'
    have ca := (ha.latD hL).cell
    have cb := (hb.latD hL).cell
    go_simp
    exact hK'.out _ _ rfl (Lat.refl _)
  simp only [Act.put, List.setIfInBounds_toArray, List.set_cons_zero, List.set_cons_succ, Nat.reduceAdd]
  apply RelyL.val
  · intro ν w' hL hF K hK'
    have ca := (ha.latD hL).cell
    have cb := (hb.latD hL).cell
    go_simp
    exact hK'.out _ _ rfl (Lat.refl _)
  simp only [Act.put, List.setIfInBounds_toArray, List.set_cons_zero, List.set_cons_succ, Nat.reduceAdd]
  apply RelyL.val
  · intro ν w' hL hF K hK'
    have ca := (ha.latD hL).cell
    have cb := (hb.latD hL).cell
    go_simp
    exact hK'.out _ _ rfl (Lat.refl _)
  simp only [Act.put, List.setIfInBounds_toArray, List.set_cons_zero, List.set_cons_succ, Nat.reduceAdd]
  apply RelyL.val
  · intro ν w' hL hF K hK'
    have ca := (ha.latD hL).cell
    have cb := (hb.latD hL).cell
    go_simp
    exact hK'.out _ _ rfl (Lat.refl _)
  simp only [Act.put, List.setIfInBounds_toArray, List.set_cons_zero, List.set_cons_succ, Nat.reduceAdd]
  apply RelyL.val
  · intro ν w' hL hF K hK'
    have ca := (ha.latD hL).cell
    have cb := (hb.latD hL).cell
    go_simp
    exact hK'.out _ _ rfl (Lat.refl _)
  simp only [Act.put, List.setIfInBounds_toArray, List.set_cons_zero, List.set_cons_succ, Nat.reduceAdd]
  apply RelyL.val
  · intro ν w' hL hF K hK'
    have ca := (ha.latD hL).cell
    have cb := (hb.latD hL).cell
    go_simp
    exact hK'.out _ _ rfl (Lat.refl _)
  simp only [Act.put, List.setIfInBounds_toArray, List.set_cons_zero, List.set_cons_succ, Nat.reduceAdd]
  apply RelyL.val
  · intro ν w' hL hF K hK'
    have H := H2 w'
    go_simp
    go_at_call 60
    refine H.out.mono ?_
    rintro r w'' ⟨rfl, rfl⟩
    exact hK'.out _ _ rfl (Lat.refl _)
  simp only [Act.put, List.setIfInBounds_toArray, List.set_cons_zero, List.set_cons_succ, Nat.reduceAdd]
  apply RelyL.val
  · intro ν w' hL hF K hK'
    have ca := (ha.latD hL).cell
    have cb := (hb.latD hL).cell
    go_simp
    exact hK'.out _ _ rfl (Lat.refl _)
  simp only [Act.put, List.setIfInBounds_toArray, List.set_cons_zero, List.set_cons_succ, Nat.reduceAdd]
  apply RelyL.val
  · intro ν w' hL hF K hK'
    have ca := (ha.latD hL).cell
    have cb := (hb.latD hL).cell
    go_simp
    exact hK'.out _ _ rfl (Lat.refl _)
  simp only [Act.put, List.setIfInBounds_toArray, List.set_cons_zero, List.set_cons_succ, Nat.reduceAdd]
  apply RelyL.val
  · intro ν w' hL hF K hK'
    have ca := (ha.latD hL).cell
    have cb := (hb.latD hL).cell
    go_simp
    exact hK'.out _ _ rfl (Lat.refl _)
  simp only [Act.put, List.setIfInBounds_toArray, List.set_cons_zero, List.set_cons_succ, Nat.reduceAdd]
  apply RelyL.val
  · intro ν w' hL hF K hK'
    have ca := (ha.latD hL).cell
    have cb := (hb.latD hL).cell
    go_simp
    exact hK'.out _ _ rfl (Lat.refl _)
  simp only [Act.put, List.setIfInBounds_toArray, List.set_cons_zero, List.set_cons_succ, Nat.reduceAdd]
  apply RelyL.val
  · intro ν w' hL hF K hK'
    have ca := (ha.latD hL).cell
    have cb := (hb.latD hL).cell
    go_simp
    exact hK'.out _ _ rfl (Lat.refl _)
  simp only [Act.put, List.setIfInBounds_toArray, List.set_cons_zero, List.set_cons_succ, Nat.reduceAdd]
  apply RelyL.val
  · intro ν w' hL hF K hK'
    have ca := (ha.latD hL).cell
    have cb := (hb.latD hL).cell
    go_simp
    exact hK'.out _ _ rfl (Lat.refl _)
  simp only [Act.put, List.setIfInBounds_toArray, List.set_cons_zero, List.set_cons_succ, Nat.reduceAdd]
  apply RelyL.val
  · intro ν w' hL hF K hK'
    have H := H3 w'
    go_simp
    go_at_call 61
    refine H.out.mono ?_
    rintro r w'' ⟨rfl, rfl⟩
    exact hK'.out _ _ rfl (Lat.refl _)
  simp only [Act.put, List.setIfInBounds_toArray, List.set_cons_zero, List.set_cons_succ, Nat.reduceAdd]
  apply RelyL.val
  · intro ν w' hL hF K hK'
    have ca := (ha.latD hL).cell
    have cb := (hb.latD hL).cell
    go_simp
    exact hK'.out _ _ rfl (Lat.refl _)
  simp only [Act.put, List.setIfInBounds_toArray, List.set_cons_zero, List.set_cons_succ, Nat.reduceAdd]
  apply RelyL.val
  · intro ν w' hL hF K hK'
    have ca := (ha.latD hL).cell
    have cb := (hb.latD hL).cell
    go_simp
    exact hK'.out _ _ rfl (Lat.refl _)
  simp only [Act.put, List.setIfInBounds_toArray, List.set_cons_zero, List.set_cons_succ, Nat.reduceAdd]
  apply RelyL.val
  · intro ν w' hL hF K hK'
    have ca := (ha.latD hL).cell
    have cb := (hb.latD hL).cell
    go_simp
    exact hK'.out _ _ rfl (Lat.refl _)
  simp only [Act.put, List.setIfInBounds_toArray, List.set_cons_zero, List.set_cons_succ, Nat.reduceAdd]
  apply RelyL.val
  · intro ν w' hL hF K hK'
    have ca := (ha.latD hL).cell
    have cb := (hb.latD hL).cell
    go_simp
    exact hK'.out _ _ rfl (Lat.refl _)
  simp only [Act.put, List.setIfInBounds_toArray, List.set_cons_zero, List.set_cons_succ, Nat.reduceAdd]
  apply RelyL.val
  · intro ν w' hL hF K hK'
    have H := H4 w'
    go_simp
    go_at_call 60
    refine H.out.mono ?_
    rintro r w'' ⟨rfl, rfl⟩
    exact hK'.out _ _ rfl (Lat.refl _)
  simp only [Act.put, List.setIfInBounds_toArray, List.set_cons_zero, List.set_cons_succ, Nat.reduceAdd]
  apply RelyL.val
  · intro ν w' hL hF K hK'
    have ca := (ha.latD hL).cell
    have cb := (hb.latD hL).cell
    go_simp
    exact hK'.out _ _ rfl (Lat.refl _)
  simp only [Act.put, List.setIfInBounds_toArray, List.set_cons_zero, List.set_cons_succ, Nat.reduceAdd]
  apply RelyL.val
  · intro ν w' hL hF K hK'
    have ca := (ha.latD hL).cell
    have cb := (hb.latD hL).cell
    go_simp
    exact hK'.out _ _ rfl (Lat.refl _)
  simp only [Act.put, List.setIfInBounds_toArray, List.set_cons_zero, List.set_cons_succ, Nat.reduceAdd]
  apply RelyL.val
  · intro ν w' hL hF K hK'
    have ca := (ha.latD hL).cell
    have cb := (hb.latD hL).cell
    go_simp
    exact hK'.out _ _ rfl (Lat.refl _)
  simp only [Act.put, List.setIfInBounds_toArray, List.set_cons_zero, List.set_cons_succ, Nat.reduceAdd]
  apply RelyL.val
  · intro ν w' hL hF K hK'
    have ca := (ha.latD hL).cell
    have cb := (hb.latD hL).cell
    go_simp
    exact hK'.out _ _ rfl (Lat.refl _)
  simp only [Act.put, List.setIfInBounds_toArray, List.set_cons_zero, List.set_cons_succ, Nat.reduceAdd]
  apply RelyL.val
  · intro ν w' hL hF K hK'
    have H := H5 w'
    go_simp
    go_at_call 62
    refine H.out.mono ?_
    rintro r w'' ⟨rfl, hbp⟩
    exact hK'.out _ _ rfl hbp
  simp only [Act.put, List.setIfInBounds_toArray, List.set_cons_zero, List.set_cons_succ, Nat.reduceAdd]
  apply RelyL.val
  · intro ν w' hL hF K hK'
    have ca := (ha.latD hL).cell
    have cb := (hb.latD hL).cell
    go_simp
    exact hK'.out _ _ rfl (Lat.refl _)
  simp only [Act.put, List.setIfInBounds_toArray, List.set_cons_zero, List.set_cons_succ, Nat.reduceAdd]
  apply RelyL.val
  · intro ν w' hL hF K hK'
    have ca := (ha.latD hL).cell
    have cb := (hb.latD hL).cell
    go_simp
    exact hK'.out _ _ rfl (Lat.refl _)
  simp only [Act.put, List.setIfInBounds_toArray, List.set_cons_zero, List.set_cons_succ, Nat.reduceAdd]
  apply RelyL.val
  · intro ν w' hL hF K hK'
    have ca := (ha.latD hL).cell
    have cb := (hb.latD hL).cell
    go_simp
    exact hK'.out _ _ rfl (Lat.refl _)
  simp only [Act.put, List.setIfInBounds_toArray, List.set_cons_zero, List.set_cons_succ, Nat.reduceAdd]
  apply RelyL.val
  · intro ν w' hL hF K hK'
    have ca := (ha.latD hL).cell
    have cb := (hb.latD hL).cell
    go_simp
    exact hK'.out _ _ rfl (Lat.refl _)
  simp only [Act.put, List.setIfInBounds_toArray, List.set_cons_zero, List.set_cons_succ, Nat.reduceAdd]
  apply RelyL.val
  · intro ν w' hL hF K hK'
    have H := H6 w'
    go_simp
    go_at_call 62
    refine H.out.mono ?_
    rintro r w'' ⟨rfl, hbp⟩
    exact hK'.out _ _ rfl hbp
  simp only [Act.put, List.setIfInBounds_toArray, List.set_cons_zero, List.set_cons_succ, Nat.reduceAdd]
  apply RelyL.val
  · intro ν w' hL hF K hK'
    have H := H5' w'
    go_simp
    go_at_call 35
    refine H.out.mono ?_
    rintro r w'' ⟨rfl, rfl⟩
    exact hK'.out _ _ rfl (Lat.refl _)
  simp only [Act.put, List.setIfInBounds_toArray, List.set_cons_zero, List.set_cons_succ, Nat.reduceAdd]
  apply RelyL.val
  · intro ν w' hL hF K hK'
    have ca := (ha.latD hL).cell
    have cb := (hb.latD hL).cell
    go_simp
    exact hK'.out _ _ rfl (Lat.refl _)
  simp only [Act.put, List.setIfInBounds_toArray, List.set_cons_zero, List.set_cons_succ, Nat.reduceAdd]
  apply RelyL.val
  · intro ν w' hL hF K hK'
    have ca := (ha.latD hL).cell
    have cb := (hb.latD hL).cell
    go_simp
    exact hK'.out _ _ rfl (Lat.refl _)
  simp only [Act.put, List.setIfInBounds_toArray, List.set_cons_zero, List.set_cons_succ, Nat.reduceAdd]
  apply RelyL.val
  · intro ν w' hL hF K hK'
    have ca := (ha.latD hL).cell
    have cb := (hb.latD hL).cell
    go_simp
    exact hK'.out _ _ rfl (Lat.refl _)
  simp only [Act.put, List.setIfInBounds_toArray, List.set_cons_zero, List.set_cons_succ, Nat.reduceAdd]
  apply RelyL.val
  · intro ν w' hL hF K hK'
    have ca := (ha.latD hL).cell
    have cb := (hb.latD hL).cell
    go_simp
    exact hK'.out _ _ rfl (Lat.refl _)
  simp only [Act.put, List.setIfInBounds_toArray, List.set_cons_zero, List.set_cons_succ, Nat.reduceAdd]
  apply RelyL.val
  · intro ν w' hL hF K hK'
    have H := H7 w'
    go_simp
    go_at_call 36
    refine H.out.mono ?_
    rintro r w'' ⟨rfl, hbp⟩
    exact hK'.out _ _ rfl hbp
  simp only [Act.put, List.setIfInBounds_toArray, List.set_cons_zero, List.set_cons_succ, Nat.reduceAdd]
  apply RelyL.val
  · intro ν w' hL hF K hK'
    have ca := (ha.latD hL).cell
    have cb := (hb.latD hL).cell
    go_simp
    exact hK'.out _ _ rfl (Lat.refl _)
  simp only [Act.put, List.setIfInBounds_toArray, List.set_cons_zero, List.set_cons_succ, Nat.reduceAdd]
  apply RelyL.val
  · intro ν w' hL hF K hK'
    have ca := (ha.latD hL).cell
    have cb := (hb.latD hL).cell
    go_simp
    exact hK'.out _ _ rfl (Lat.refl _)
  simp only [Act.put, List.setIfInBounds_toArray, List.set_cons_zero, List.set_cons_succ, Nat.reduceAdd]
  apply RelyL.val
  · intro ν w' hL hF K hK'
    have ca := (ha.latD hL).cell
    have cb := (hb.latD hL).cell
    go_simp
    exact hK'.out _ _ rfl (Lat.refl _)
  simp only [Act.put, List.setIfInBounds_toArray, List.set_cons_zero, List.set_cons_succ, Nat.reduceAdd]
  apply RelyL.val
  · intro ν w' hL hF K hK'
    have ca := (ha.latD hL).cell
    have cb := (hb.latD hL).cell
    go_simp
    exact hK'.out _ _ rfl (Lat.refl _)
  simp only [Act.put, List.setIfInBounds_toArray, List.set_cons_zero, List.set_cons_succ, Nat.reduceAdd]
  apply RelyL.val
  · intro ν w' hL hF K hK'
    have H := H8 w'
    go_simp
    go_at_call 36
    refine H.out.mono ?_
    rintro r w'' ⟨rfl, hbp⟩
    exact hK'.out _ _ rfl hbp
  simp only [Act.put, List.setIfInBounds_toArray, List.set_cons_zero, List.set_cons_succ, Nat.reduceAdd]
  apply RelyL.val
  · intro ν w' hL hF K hK'
    have H := H7' w'
    go_simp
    go_at_call 35
    refine H.out.mono ?_
    rintro r w'' ⟨rfl, rfl⟩
    exact hK'.out _ _ rfl (Lat.refl _)
  simp only [Act.put, List.setIfInBounds_toArray, List.set_cons_zero, List.set_cons_succ, Nat.reduceAdd]
  refine RelyL.done fun ν w1 hL hF => ?_
  have hl1 := hl0.trans hL
  clear hF ha hb hl0 hL H1 H2 H3 H4 H5 H6 H7 H8 H5' H7'
  go_wp2_with fail
  refine (HD w1.heap.size _ (Blk.new _ _ _)).out.mono ?_
  rintro r w2 ⟨rfl, rfl⟩
  clear HD
  go_wp2_with fail
  go_ret
  exact ⟨rfl, hl1.trans (Lat.al _ _)⟩
end Dr
end
end Go.Proofs.YtmgalnbacenbbaaGreat

namespace Go.Proofs.YtmgalnbacenbbaaGreat
section
set_option linter.unusedSimpArgs false
set_option linter.unusedVariables false
open Go.RowKit
namespace Dr

set_option maxRecDepth 100000 in
set_option maxHeartbeats 4000000 in
theorem closure_any (a b : LW) (w : World) : Calls Tryz.prog 33 #[.agg (wC a).toArray, .agg (wC b).toArray] w fun r w' => r = .returned (.int .i64 (ordI a b)) ∧ Lat w w' := by
  have hch : ordI a b = firstI [cmpI kless a.key b.key, rankI a b] := by rw [ord_chain]; simp only [firstI]; by_cases h : rankI a b = 0 <;> simp [h]
  have HR := fun w => Lib.hid (rank_any a b w)
  have H7 := fun w => Lib.hid (less_any a.key b.key w)
  have H8 := fun w => Lib.hid (less_any b.key a.key w)
  have H7' := fun w => Lib.hid (sides_any (kless a.key b.key) (kless b.key a.key) w)
  have HD : ∀ g w, Blk w g 3 #[.int .i64 (cmpI kless a.key b.key), .int .i64 (rankI a b)] → Hid (Calls Tryz.prog 34 #[.slice (some ⟨g, 0, none⟩) 2 2] w fun r w' => r = .returned (.int .i64 (firstI [cmpI kless a.key b.key, rankI a b])) ∧ w' = w) := fun g w hb => Lib.hid (decided_any [cmpI kless a.key b.key, rankI a b] g w hb (by simp))
  rw [← hch] at HD
  change ∀ w, Hid (Calls _ _ _ _ fun r w' => r = .returned (.int .i64 (cmpI kless a.key b.key)) ∧ _) at H7'
  clear hch
  generalize ordI a b = R at *
  generalize rankI a b = r1 at *
  generalize cmpI kless a.key b.key = r2 at *
  generalize kless a.key b.key = s3 at *
  generalize kless b.key a.key = s4 at *
  obtain ⟨⟨a1, a2, a3⟩, ⟨a4, a5, a6⟩, a7, a8, a9, a10⟩ := a
  obtain ⟨⟨b1, b2, b3⟩, ⟨b4, b5, b6⟩, b7, b8, b9, b10⟩ := b
  simp only [wC, kC, vC] at *
  have ha : Blk ((w.alloc (.cells #[.int .i64 a1, .string a2, .string a3, .int .i64 a4, .int .i64 a5, .string a6, .int .i64 a7, .string a8, .int .i64 a9, .int .i64 a10] 44)).alloc (.cells #[.int .i64 b1, .string b2, .string b3, .int .i64 b4, .int .i64 b5, .string b6, .int .i64 b7, .string b8, .int .i64 b9, .int .i64 b10] 44)) w.heap.size 44 #[.int .i64 a1, .string a2, .string a3, .int .i64 a4, .int .i64 a5, .string a6, .int .i64 a7, .string a8, .int .i64 a9, .int .i64 a10] := (Blk.new _ _ _).alloc _
  have hb : Blk ((w.alloc (.cells #[.int .i64 a1, .string a2, .string a3, .int .i64 a4, .int .i64 a5, .string a6, .int .i64 a7, .string a8, .int .i64 a9, .int .i64 a10] 44)).alloc (.cells #[.int .i64 b1, .string b2, .string b3, .int .i64 b4, .int .i64 b5, .string b6, .int .i64 b7, .string b8, .int .i64 b9, .int .i64 b10] 44)) (w.heap.size + 1) 44 #[.int .i64 b1, .string b2, .string b3, .int .i64 b4, .int .i64 b5, .string b6, .int .i64 b7, .string b8, .int .i64 b9, .int .i64 b10] := Blk.at1 _ _ _ _
  have hl0 : Lat w ((w.alloc (.cells #[.int .i64 a1, .string a2, .string a3, .int .i64 a4, .int .i64 a5, .string a6, .int .i64 a7, .string a8, .int .i64 a9, .int .i64 a10] 44)).alloc (.cells #[.int .i64 b1, .string b2, .string b3, .int .i64 b4, .int .i64 b5, .string b6, .int .i64 b7, .string b8, .int .i64 b9, .int .i64 b10] 44)) := (Lat.al _ _).trans (Lat.al _ _)
  go_enter Tryz.func33, Tryz.ntmps33
  go_upto_region 1 with fail
  generalize (w.alloc (.cells #[.int .i64 a1, .string a2, .string a3, .int .i64 a4, .int .i64 a5, .string a6, .int .i64 a7, .string a8, .int .i64 a9, .int .i64 a10] 44)).alloc (.cells #[.int .i64 b1, .string b2, .string b3, .int .i64 b4, .int .i64 b5, .string b6, .int .i64 b7, .string b8, .int .i64 b9, .int .i64 b10] 44) = W0 at *
  refine wp_rely_tail 14 (by kernel_rfl) (by kernel_rfl) (by decide) (by kernel_rfl) ?_
  simp only [List.take_succ_cons, List.take_zero, List.drop_succ_cons, List.drop_zero]
  apply RelyL.val
  · intro ν w' hL hF K hK'
    have ca := (ha.latD hL).cell
    have cb := (hb.latD hL).cell
    go_simp
    exact hK'.out _ _ rfl (Lat.refl _)
  simp only [Act.put, List.setIfInBounds_toArray, List.set_cons_zero, List.set_cons_succ, Nat.reduceAdd]
  apply RelyL.val
  · intro ν w' hL hF K hK'
    have ca := (ha.latD hL).cell
    have cb := (hb.latD hL).cell
    go_simp
    exact hK'.out _ _ rfl (Lat.refl _)
  simp only [Act.put, List.setIfInBounds_toArray, List.set_cons_zero, List.set_cons_succ, Nat.reduceAdd]
  apply RelyL.val
  · intro ν w' hL hF K hK'
    have ca := (ha.latD hL).cell
    have cb := (hb.latD hL).cell
    go_simp
    exact hK'.out _ _ rfl (Lat.refl _)
  simp only [Act.put, List.setIfInBounds_toArray, List.set_cons_zero, List.set_cons_succ, Nat.reduceAdd]
  apply RelyL.val
  · intro ν w' hL hF K hK'
    have ca := (ha.latD hL).cell
    have cb := (hb.latD hL).cell
    go_simp
    exact hK'.out _ _ rfl (Lat.refl _)
  simp only [Act.put, List.setIfInBounds_toArray, List.set_cons_zero, List.set_cons_succ, Nat.reduceAdd]
  apply RelyL.val
  · intro ν w' hL hF K hK'
    have H := H7 w'
    go_simp
    go_at_call 36
    refine H.out.mono ?_
    rintro r w'' ⟨rfl, hbp⟩
    exact hK'.out _ _ rfl hbp
  simp only [Act.put, List.setIfInBounds_toArray, List.set_cons_zero, List.set_cons_succ, Nat.reduceAdd]
  apply RelyL.val
  · intro ν w' hL hF K hK'
    have ca := (ha.latD hL).cell
    have cb := (hb.latD hL).cell
    go_simp
    exact hK'.out _ _ rfl (Lat.refl _)
  simp only [Act.put, List.setIfInBounds_toArray, List.set_cons_zero, List.set_cons_succ, Nat.reduceAdd]
  apply RelyL.val
  · intro ν w' hL hF K hK'
    have ca := (ha.latD hL).cell
    have cb := (hb.latD hL).cell
    go_simp
    exact hK'.out _ _ rfl (Lat.refl _)
  simp only [Act.put, List.setIfInBounds_toArray, List.set_cons_zero, List.set_cons_succ, Nat.reduceAdd]
  apply RelyL.val
  · intro ν w' hL hF K hK'
    have ca := (ha.latD hL).cell
    have cb := (hb.latD hL).cell
    go_simp
    exact hK'.out _ _ rfl (Lat.refl _)
  simp only [Act.put, List.setIfInBounds_toArray, List.set_cons_zero, List.set_cons_succ, Nat.reduceAdd]
  apply RelyL.val
  · intro ν w' hL hF K hK'
    have ca := (ha.latD hL).cell
    have cb := (hb.latD hL).cell
    go_simp
    exact hK'.out _ _ rfl (Lat.refl _)
  simp only [Act.put, List.setIfInBounds_toArray, List.set_cons_zero, List.set_cons_succ, Nat.reduceAdd]
  apply RelyL.val
  · intro ν w' hL hF K hK'
    have H := H8 w'
    go_simp
    go_at_call 36
    refine H.out.mono ?_
    rintro r w'' ⟨rfl, hbp⟩
    exact hK'.out _ _ rfl hbp
  simp only [Act.put, List.setIfInBounds_toArray, List.set_cons_zero, List.set_cons_succ, Nat.reduceAdd]
  apply RelyL.val
  · intro ν w' hL hF K hK'
    have H := H7' w'
    go_simp
    go_at_call 35
    refine H.out.mono ?_
    rintro r w'' ⟨rfl, rfl⟩
    exact hK'.out _ _ rfl (Lat.refl _)
  simp only [Act.put, List.setIfInBounds_toArray, List.set_cons_zero, List.set_cons_succ, Nat.reduceAdd]
  apply RelyL.val
  · intro ν w' hL hF K hK'
    have ca := (ha.latD hL).cell
    have cb := (hb.latD hL).cell
    go_simp
    exact hK'.out _ _ rfl (Lat.refl _)
  simp only [Act.put, List.setIfInBounds_toArray, List.set_cons_zero, List.set_cons_succ, Nat.reduceAdd]
  apply RelyL.val
  · intro ν w' hL hF K hK'
    have ca := (ha.latD hL).cell
    have cb := (hb.latD hL).cell
    go_simp
    exact hK'.out _ _ rfl (Lat.refl _)
  simp only [Act.put, List.setIfInBounds_toArray, List.set_cons_zero, List.set_cons_succ, Nat.reduceAdd]
  apply RelyL.val
  · intro ν w' hL hF K hK'
    have H := HR w'
    go_simp
    go_at_call 37
    refine H.out.mono ?_
    rintro r w'' ⟨rfl, hbp⟩
    exact hK'.out _ _ rfl hbp
  simp only [Act.put, List.setIfInBounds_toArray, List.set_cons_zero, List.set_cons_succ, Nat.reduceAdd]
  refine RelyL.done fun ν w1 hL hF => ?_
  have hl1 := hl0.trans hL
  clear hF ha hb hl0 hL H7 H8 H7' HR
  go_wp2_with fail
  refine (HD w1.heap.size _ (Blk.new _ _ _)).out.mono ?_
  rintro r w2 ⟨rfl, rfl⟩
  clear HD
  go_wp2_with fail
  go_ret
  exact ⟨rfl, hl1.trans (Lat.al _ _)⟩
end Dr
end
end Go.Proofs.YtmgalnbacenbbaaGreat
