/- The reference's daily times. -/
import Derived.Test.YtdhccaninopicaaSRef4
set_option linter.unusedSimpArgs false
set_option linter.unusedVariables false
namespace Go.Proofs.Ytdhccaninopicaa
open Go.RowKit

def dayOn (mask : Int) (d : Nat) : Bool := mask / 2 ^ d % 2 == 1
def dailyHit (mask f len : Int) : Nat → Int → Bool
  | 0, _ => false
  | n + 1, m => dailyHit mask f len n m || (dayOn mask n && dayHit (n * 1440 + f) len m)
def dailyOk (mask f t : Int) : Bool := decide (0 ≤ mask ∧ mask ≤ 127 ∧ 0 ≤ f ∧ f ≤ 1440 ∧ 0 ≤ t ∧ t ≤ 1440)
def dayLen (f t : Int) : Int := if t ≤ f then t - f + 1440 else t - f
def dailyS (mask f t : Int) : List Sp := if dailyOk mask f t then nf (dailyHit mask f (dayLen f t) 7) else []
def hitTo (first : Int) : Nat → Int → Bool
  | 0, _ => false
  | j + 1, m => hitTo first j m || decide (wrapI (first + j) = m)
theorem hitTo_iff (first : Int) (m : Int) : ∀ j : Nat, hitTo first j m = true ↔ ∃ k : Int, 0 ≤ k ∧ k < j ∧ wrapI (first + k) = m
  | 0 => by
    constructor
    · intro h; cases h
    · rintro ⟨k, h0, h1, _⟩; omega
  | j + 1 => by
    rw [hitTo, Bool.or_eq_true, hitTo_iff first m j, decide_eq_true_eq]
    constructor
    · rintro (⟨k, h0, h1, h2⟩ | h)
      · exact ⟨k, h0, by omega, h2⟩
      · exact ⟨j, by omega, by omega, h⟩
    · rintro ⟨k, h0, h1, h2⟩
      by_cases hk : k = j
      · subst hk; exact .inr h2
      · exact .inl ⟨k, h0, by omega, h2⟩
theorem hitTo_day (first m : Int) (j : Nat) (h : j ≤ 10080) : hitTo first j m = dayHit first j m := by
  rw [Bool.eq_iff_iff, hitTo_iff, dayHit_iff (by omega) (by omega)]

theorem dailyOk_not {mask f t : Int} (h : dailyOk mask f t = false) : mask < 0 ∨ (0 ≤ mask ∧ 127 < mask) ∨ (0 ≤ mask ∧ mask ≤ 127 ∧ f < 0) ∨ (0 ≤ mask ∧ mask ≤ 127 ∧ 0 ≤ f ∧ 1440 < f) ∨ (0 ≤ mask ∧ mask ≤ 127 ∧ 0 ≤ f ∧ f ≤ 1440 ∧ t < 0) ∨ (0 ≤ mask ∧ mask ≤ 127 ∧ 0 ≤ f ∧ f ≤ 1440 ∧ 0 ≤ t ∧ 1440 < t) := by
  have := of_decide_eq_false h
  omega
theorem dayOn_tmod (mask : Int) (n : Nat) (h : 0 ≤ mask) : ((mask / 2 ^ n).tmod 2 == 0) = !dayOn mask n := by
  have h0 : 0 ≤ mask / 2 ^ n := Int.ediv_nonneg h (Int.pow_nonneg (by omega))
  unfold dayOn
  rw [Int.tmod_eq_emod_of_nonneg h0, Bool.eq_iff_iff, Bool.not_eq_true', beq_iff_eq, beq_eq_false_iff_ne]
  omega
set_option maxRecDepth 100000 in
set_option maxHeartbeats 8000000 in
theorem rdaily_any (mask f t : Int) (w : World) :
    Calls Try.prog 29 #[.int .i64 mask, .int .i64 f, .int .i64 t] w (RetSp (dailyS mask f t) w) := by
  unfold dailyS
  cases hok : dailyOk mask f t with
  | false =>
    have H := dailyOk_not hok
    clear hok
    rw [if_neg (by simp)]
    rcases H with h | ⟨h1, h⟩ | ⟨h1, h2, h⟩ | ⟨h1, h2, h3, h⟩ | ⟨h1, h2, h3, h4, h⟩ | ⟨h1, h2, h3, h4, h5, h⟩
    all_goals
      go_enter Try.func29, Try.ntmps29
      go_wp2_with fail
      go_ret
      exact ⟨none, 0, rfl, fun h => by simp at h, fun _ => ⟨rfl, rfl⟩, Below.refl _ _⟩
  | true =>
    obtain ⟨h1, h2, h3, h4, h5, h6⟩ := of_decide_eq_true hok
    clear hok
    rw [if_pos rfl]
    have hlen : 0 ≤ dayLen f t ∧ dayLen f t ≤ 1440 := by unfold dayLen; split <;> omega
    have hL : dayLen f t = if t ≤ f then t - f + 1440 else t - f := rfl
    generalize dayLen f t = L at *
    obtain ⟨len, rfl⟩ : ∃ len : Nat, L = len := ⟨L.toNat, by omega⟩
    have H3 := fun g w' h => Lib.hid (spans_any (dailyHit mask f len 7) g w' h)
    have hmk := mk_mins
    by_cases htf : t ≤ f
    all_goals
      first | rw [if_pos htf] at hL | rw [if_neg htf] at hL
      have HL := Lib.hid hL.symm
      clear hL
      have d1 : decide (mask < 0) = false := decide_eq_false (by omega)
      have d2 : decide (127 < mask) = false := decide_eq_false (by omega)
      have d3 : decide (f < 0) = false := decide_eq_false (by omega)
      have d4 : decide (1440 < f) = false := decide_eq_false (by omega)
      have d5 : decide (t < 0) = false := decide_eq_false (by omega)
      have d6 : decide (1440 < t) = false := decide_eq_false (by omega)
      first | have d7 : decide (t ≤ f) = true := decide_eq_true (by omega) | have d7 : decide (t ≤ f) = false := decide_eq_false (by omega)
      go_enter Try.func29, Try.ntmps29
      go_upto_region 6 with fail
      rw [HL.out]
      go_wp2_with fail
      go_loopw [9] (fun i wr => ∃ n : Nat, n ≤ 7 ∧ i = .int .i64 n ∧ Below w.heap.size w wr ∧ Blk wr w.heap.size 4 (minsOf (dailyHit mask f len n))) (fun i _ => 7 - (intOf i).toNat)
      case atStart => exact ⟨0, Nat.zero_le _, rfl, (Below.refl _ _).al _, Blk.new _ _ _⟩
      case round =>
        clear hmk
        obtain ⟨n, hn7, rfl, hbw, kM⟩ := hrel
        by_cases hn : n < 7
        · have hn6 : (n : Int) ≤ 6 := by omega
          have d8 : decide ((n : Int) < 7) = true := decide_eq_true (by omega)
          have hq := dayOn_tmod mask n h1
          cases hd : dayOn mask n with
          | false =>
            rw [hd] at hq
            have e : minsOf (dailyHit mask f len (n + 1)) = minsOf (dailyHit mask f len n) := minsOf_congr fun j _ => by rw [dailyHit, hd, Bool.false_and, Bool.or_false]
            rw [← e] at kM
            clear e hd
            go_wp2_with fail
            go_roundw
            case rel => exact ⟨n + 1, by omega, by go_num, hbw, kM⟩
            case measure => simp [intOf]; omega
          | true =>
            rw [hd] at hq
            have e : ∀ m, dailyHit mask f len (n + 1) m = (dailyHit mask f len n m || hitTo (n * 1440 + f) len m) := fun m => by rw [dailyHit, hd, Bool.true_and, hitTo_day _ _ _ (by omega)]
            have HE := Lib.hid e
            clear e hd
            generalize hD : dailyHit mask f len n = D at *
            have HD := Lib.hid hD
            clear hD
            go_wp2_with fail
            go_loopw [10] (fun m w3 => ∃ (j : Nat) (wq : World), wq = w3 ∧ j ≤ len ∧ m = .int .i64 j ∧ Below w.heap.size w wq ∧ Blk wq w.heap.size 4 (minsOf (fun m => D m || hitTo (n * 1440 + f) j m))) (fun m _ => len - (intOf m).toNat)
            case atStart =>
              refine ⟨0, _, rfl, Nat.zero_le _, rfl, hbw, ?_⟩
              have e : minsOf (fun m => D m || hitTo (n * 1440 + f) 0 m) = minsOf D := minsOf_congr fun j _ => by rw [hitTo, Bool.or_false]
              rw [e]; exact kM
            case round =>
              clear kM hbw
              obtain ⟨j, wq, rfl, hjz, rfl, hbq, kQ⟩ := hrel
              by_cases hj : j < len
              · have hX := wrapI_bd ((n : Int) * 1440 + f + j)
                have HMn := fun w => Lib.hid (minute_any ((n : Int) * 1440 + f + j) w ⟨by omega, by omega⟩)
                have e : ∀ m, hitTo (n * 1440 + f) (j + 1) m = (hitTo (n * 1440 + f) j m || decide (wrapI ((n : Int) * 1440 + f + j) = m)) := fun m => rfl
                have HE2 := Lib.hid e
                clear e
                generalize wrapI ((n : Int) * 1440 + f + j) = X at *
                obtain ⟨xn, rfl⟩ : ∃ xn : Nat, X = xn := ⟨X.toNat, by omega⟩
                have c0 : wq.cell? ⟨w.heap.size, xn, none⟩ = some (.bool (D xn || hitTo (n * 1440 + f) j xn)) := by rw [kQ.cell, minsOf_get _ (by omega)]
                have f0 := kQ.free xn
                have kN := kQ.set xn (.bool true)
                rw [minsOf_set] at kN
                have e : minsOf (fun m => if m = (xn : Int) then true else (D m || hitTo (n * 1440 + f) j m)) = minsOf (fun m => D m || hitTo (n * 1440 + f) (j + 1) m) := minsOf_congr fun i _ => by
                  rw [HE2.out]
                  by_cases hij : (i : Int) = xn
                  · rw [if_pos hij, hij]; simp
                  · rw [if_neg hij, decide_eq_false (fun h => hij h.symm), Bool.or_false]
                rw [e] at kN
                clear e
                generalize (D xn || hitTo (n * 1440 + f) j xn) = bb at *
                have KN := Lib.hid kN
                clear kN
                have KQ := Lib.hid kQ
                clear kQ
                go_wp2_with (go_at_call 39; refine (HMn _).out.mono ?_; rintro r w2 ⟨rfl, rfl⟩)
                go_roundw
                case rel => exact ⟨j + 1, _, rfl, by omega, by go_num, hbq.st (Nat.le_refl _) _, KN.out⟩
                case measure => simp [intOf]; omega
              · have hjz' : j = len := by omega
                subst hjz'
                go_wp2_with fail
                go_roundw
                case rel =>
                  refine ⟨n + 1, by omega, by go_num, hbq, ?_⟩
                  have e : minsOf (fun m => D m || hitTo (n * 1440 + f) j m) = minsOf (dailyHit mask f j (n + 1)) := minsOf_congr fun i _ => by rw [HE.out]
                  rw [← e]; exact kQ
                case measure => simp [intOf]; omega
        · have hn : n = 7 := by omega
          subst hn
          go_wp2_with (go_at_call 36; refine (H3 _ _ kM).out.mono ?_; rintro r w4 ⟨A4, c4, rfl, h31, h41, h51⟩)
          go_ret
          exact ⟨A4, c4, rfl, h31, h41, hbw.th h51⟩

end Go.Proofs.Ytdhccaninopicaa
