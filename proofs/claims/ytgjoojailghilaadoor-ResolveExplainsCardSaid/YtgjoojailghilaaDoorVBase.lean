/- Resolve: the comparisons of keys, of values, of numbers and texts. -/
import Derived.Test.YtgjoojailghilaaDoorVPlain
set_option linter.unusedSimpArgs false
set_option linter.unusedVariables false
namespace Go.Proofs.YtgjoojailghilaaDoor
open Go.RowKit Dr

set_option maxHeartbeats 1000000 in
theorem less_any (a b : LKey) (w : World) : Calls Tryd.prog 36 #[.agg (kC a).toArray, .agg (kC b).toArray] w fun r w' => r = .returned (.bool (kless a b)) ∧ Lat w w' := by
  obtain ⟨a1, a2, a3⟩ := a
  obtain ⟨b1, b2, b3⟩ := b
  unfold kC
  go_enter Tryd.func36, Tryd.ntmps36
  by_cases e1 : a1 = b1
  · subst e1
    by_cases e2 : a2 = b2
    · subst e2
      have hk : kless ⟨a1, a2, a3⟩ ⟨a1, a2, b3⟩ = Op.bytesLess a3.toList b3.toList := by simp [kless, ltB]
      rw [hk]
      clear hk
      go_wp2_with fail
      go_ret
      exact ⟨rfl, ((Lat.al _ _).trans (Lat.al _ _))⟩
    · have e2' : (!(a2.toList == b2.toList)) = true := by rw [toList_beq]; simp [e2]
      have hk : kless ⟨a1, a2, a3⟩ ⟨a1, b2, b3⟩ = Op.bytesLess a2.toList b2.toList := by simp [kless, e2, ltB]
      rw [hk]
      clear hk
      go_wp2_with fail
      go_ret
      exact ⟨rfl, ((Lat.al _ _).trans (Lat.al _ _))⟩
  · have hk : kless ⟨a1, a2, a3⟩ ⟨b1, b2, b3⟩ = decide (a1 < b1) := by simp [kless, e1, ltI]
    rw [hk]
    have e1' : (a1 != b1) = true := by simp [e1]
    clear hk
    go_wp2_with fail
    go_ret
    exact ⟨rfl, ((Lat.al _ _).trans (Lat.al _ _))⟩
set_option maxHeartbeats 1000000 in
theorem rless_any (a b : LKey) (w : World) : Calls Tryd.prog 30 #[.agg (kC a).toArray, .agg (kC b).toArray] w fun r w' => r = .returned (.bool (kless a b)) ∧ Lat w w' := by
  obtain ⟨a1, a2, a3⟩ := a
  obtain ⟨b1, b2, b3⟩ := b
  unfold kC
  go_enter Tryd.func30, Tryd.ntmps30
  by_cases e1 : a1 = b1
  · subst e1
    by_cases e2 : a2 = b2
    · subst e2
      have hk : kless ⟨a1, a2, a3⟩ ⟨a1, a2, b3⟩ = Op.bytesLess a3.toList b3.toList := by simp [kless, ltB]
      rw [hk]
      clear hk
      go_wp2_with fail
      go_ret
      exact ⟨rfl, ((Lat.al _ _).trans (Lat.al _ _))⟩
    · have e2' : (!(a2.toList == b2.toList)) = true := by rw [toList_beq]; simp [e2]
      have hk : kless ⟨a1, a2, a3⟩ ⟨a1, b2, b3⟩ = Op.bytesLess a2.toList b2.toList := by simp [kless, e2, ltB]
      rw [hk]
      clear hk
      go_wp2_with fail
      go_ret
      exact ⟨rfl, ((Lat.al _ _).trans (Lat.al _ _))⟩
  · have hk : kless ⟨a1, a2, a3⟩ ⟨b1, b2, b3⟩ = decide (a1 < b1) := by simp [kless, e1, ltI]
    rw [hk]
    have e1' : (a1 != b1) = true := by simp [e1]
    clear hk
    go_wp2_with fail
    go_ret
    exact ⟨rfl, ((Lat.al _ _).trans (Lat.al _ _))⟩
set_option maxHeartbeats 1000000 in
theorem vless_any (a b : LVal) (w : World) : Calls Tryd.prog 49 #[.agg (vC a).toArray, .agg (vC b).toArray] w fun r w' => r = .returned (.bool (vless a b)) ∧ Lat w w' := by
  obtain ⟨a1, a2, a3⟩ := a
  obtain ⟨b1, b2, b3⟩ := b
  unfold vC
  go_enter Tryd.func49, Tryd.ntmps49
  by_cases e1 : a1 = b1
  · subst e1
    by_cases e2 : a2 = b2
    · subst e2
      have hk : vless ⟨a1, a2, a3⟩ ⟨a1, a2, b3⟩ = Op.bytesLess a3.toList b3.toList := by simp [vless, ltB]
      rw [hk]
      clear hk
      go_wp2_with fail
      go_ret
      exact ⟨rfl, ((Lat.al _ _).trans (Lat.al _ _))⟩
    · have e2' : (a2 != b2) = true := by simp [e2]
      have hk : vless ⟨a1, a2, a3⟩ ⟨a1, b2, b3⟩ = decide (a2 < b2) := by simp [vless, e2, ltI]
      rw [hk]
      clear hk
      go_wp2_with fail
      go_ret
      exact ⟨rfl, ((Lat.al _ _).trans (Lat.al _ _))⟩
  · have hk : vless ⟨a1, a2, a3⟩ ⟨b1, b2, b3⟩ = decide (a1 < b1) := by simp [vless, e1, ltI]
    rw [hk]
    have e1' : (a1 != b1) = true := by simp [e1]
    clear hk
    go_wp2_with fail
    go_ret
    exact ⟨rfl, ((Lat.al _ _).trans (Lat.al _ _))⟩
set_option maxHeartbeats 1000000 in
theorem rvless_any (a b : LVal) (w : World) : Calls Tryd.prog 29 #[.agg (vC a).toArray, .agg (vC b).toArray] w fun r w' => r = .returned (.bool (vless a b)) ∧ Lat w w' := by
  obtain ⟨a1, a2, a3⟩ := a
  obtain ⟨b1, b2, b3⟩ := b
  unfold vC
  go_enter Tryd.func29, Tryd.ntmps29
  by_cases e1 : a1 = b1
  · subst e1
    by_cases e2 : a2 = b2
    · subst e2
      have hk : vless ⟨a1, a2, a3⟩ ⟨a1, a2, b3⟩ = Op.bytesLess a3.toList b3.toList := by simp [vless, ltB]
      rw [hk]
      clear hk
      go_wp2_with fail
      go_ret
      exact ⟨rfl, ((Lat.al _ _).trans (Lat.al _ _))⟩
    · have e2' : (a2 != b2) = true := by simp [e2]
      have hk : vless ⟨a1, a2, a3⟩ ⟨a1, b2, b3⟩ = decide (a2 < b2) := by simp [vless, e2, ltI]
      rw [hk]
      clear hk
      go_wp2_with fail
      go_ret
      exact ⟨rfl, ((Lat.al _ _).trans (Lat.al _ _))⟩
  · have hk : vless ⟨a1, a2, a3⟩ ⟨b1, b2, b3⟩ = decide (a1 < b1) := by simp [vless, e1, ltI]
    rw [hk]
    have e1' : (a1 != b1) = true := by simp [e1]
    clear hk
    go_wp2_with fail
    go_ret
    exact ⟨rfl, ((Lat.al _ _).trans (Lat.al _ _))⟩

set_option maxHeartbeats 1000000 in
theorem cmpInt_any (a b : Int) (w : World) : Calls Tryd.prog 47 #[.int .i64 a, .int .i64 b] w fun r w' => r = .returned (.int .i64 (cmpI ltI a b)) ∧ w' = w := by
  have hk : cmpI ltI a b = if a < b then -1 else if b < a then 1 else 0 := by simp [cmpI, ltI]
  rw [hk]
  clear hk
  go_enter Tryd.func47, Tryd.ntmps47
  go_wp2_with fail
  all_goals (go_ret; refine ⟨ret_int ?_, rfl⟩; (repeat' split) <;> first | rfl | (exfalso; omega))
set_option maxHeartbeats 1000000 in
theorem cmpStr_any (a b : ByteArray) (w : World) : Calls Tryd.prog 48 #[.string a, .string b] w fun r w' => r = .returned (.int .i64 (cmpI ltB a b)) ∧ w' = w := by
  have hk : cmpI ltB a b = if Op.bytesLess a.toList b.toList = true then -1 else if Op.bytesLess b.toList a.toList = true then 1 else 0 := rfl
  rw [hk]
  clear hk
  go_enter Tryd.func48, Tryd.ntmps48
  rcases Bool.eq_false_or_eq_true (Op.bytesLess a.toList b.toList) with h1 | h1
  · rw [if_pos h1]
    go_wp2_with fail
    go_ret
    exact ⟨rfl, rfl⟩
  · rw [if_neg (by rw [h1]; simp)]
    by_cases e : a = b
    · subst e
      rw [if_neg (by rw [h1]; simp)]
      go_wp2_with fail
      go_ret
      exact ⟨rfl, rfl⟩
    · have h2 : Op.bytesLess b.toList a.toList = true := sto_ltB.tri a b h1 e
      have h3 : (a.toList == b.toList) = false := by rw [toList_beq]; simpa using e
      rw [if_pos h2]
      clear h2
      go_wp2_with fail
      go_ret
      exact ⟨rfl, rfl⟩
set_option maxHeartbeats 1000000 in
theorem sides_any (a b : Bool) (w : World) : Calls Tryd.prog 35 #[.bool a, .bool b] w fun r w' => r = .returned (.int .i64 (if a = true then -1 else if b = true then 1 else 0)) ∧ w' = w := by
  go_enter Tryd.func35, Tryd.ntmps35
  cases a <;> cases b <;> (go_wp2_with fail; go_ret; exact ⟨rfl, rfl⟩)
/-- The first that is not nil. -/
def firstI : List Int → Int
  | [] => 0
  | x :: l => if x ≠ 0 then x else firstI l
set_option maxHeartbeats 1000000 in
theorem decided_any (l : List Int) (g : Nat) (w : World) (hb : Blk w g 3 (l.map (Value.int .i64)).toArray) (hl : l.length ≤ 1000) : Calls Tryd.prog 34 #[.slice (some ⟨g, 0, none⟩) l.length l.length] w fun r w' => r = .returned (.int .i64 (firstI l)) ∧ w' = w := by
  have HF : Hid (firstI l = firstI (l.drop 0)) := rfl
  generalize firstI l = F at *
  go_enter Tryd.func34, Tryd.ntmps34
  have hc := hb.cell
  go_wp2_with fail
  go_loopw [4, 7] (fun _ i wr => ∃ k : Nat, k ≤ l.length ∧ i = .int .i64 k ∧ Hid (F = firstI (l.drop k)) ∧ wr = w) (fun _ i _ => l.length - (intOf i).toNat)
  case atStart => exact ⟨0, Nat.zero_le _, rfl, HF, rfl⟩
  case round =>
    obtain ⟨k, hk, rfl, HK, rfl⟩ := hrel
    by_cases hlk : k < l.length
    · have hg := hc k
      rw [show ((l.map (Value.int .i64)).toArray[k]? : Option Value) = some (.int .i64 l[k]) from by simp [List.getElem?_eq_getElem hlk]] at hg
      have hst := HK.out
      rw [List.drop_eq_getElem_cons hlk, firstI] at hst
      clear hc hb HK HF
      generalize l[k] = x at *
      by_cases hx : x = 0
      · rw [if_neg (by simpa using hx)] at hst
        have HST := Lib.hid hst
        have hx2 : (x != 0) = false := by simpa using hx
        clear hst
        go_wp2_with fail
        go_roundw
        case rel => exact ⟨k + 1, hlk, by go_num, HST, trivial⟩
        case measure => simp [intOf]; omega
      · rw [if_pos hx] at hst
        have HST := Lib.hid hst
        have hx2 : (x != 0) = true := by simpa using hx
        clear hst
        go_wp2_with fail
        go_ret
        exact ⟨ret_int HST.out.symm, rfl⟩
    · have hst := HK.out
      rw [List.drop_of_length_le (by omega), firstI] at hst
      have HST := Lib.hid hst
      clear hst hc HK HF
      go_wp2_with fail
      go_ret
      exact ⟨ret_int HST.out.symm, rfl⟩
end Go.Proofs.YtgjoojailghilaaDoor
