/- Daily times. -/
import Derived.Test.YtdhccaninopicaaSNorm
import Derived.Test.YtdhccaninopicaaSRef5
set_option linter.unusedSimpArgs false
set_option linter.unusedVariables false
namespace Go.Proofs.Ytdhccaninopicaa
open Go.RowKit

def daysL (mask f len : Int) : Nat → List Sp
  | 0 => []
  | n + 1 => if dayOn mask n then daysL mask f len n ++ daySpans (n * 1440 + f) len else daysL mask f len n
theorem daysL_len (mask f len : Int) : ∀ n, (daysL mask f len n).length ≤ 2 * n
  | 0 => Nat.le_refl _
  | n + 1 => by
    have := daysL_len mask f len n
    rw [daysL]
    split
    · rw [List.length_append]
      have : (daySpans (n * 1440 + f) len).length = 2 := rfl
      omega
    · omega
theorem daysL_mem (mask f len : Int) (h1 : 0 ≤ f) (h2 : f ≤ 1440) (h3 : 0 ≤ len) (h4 : len ≤ 1440) (m : Int) : ∀ n : Nat, n ≤ 7 → memS (daysL mask f len n) m = dailyHit mask f len n m
  | 0, _ => rfl
  | n + 1, hn => by
    have ih := daysL_mem mask f len h1 h2 h3 h4 m n (by omega)
    rw [daysL, dailyHit, ← ih]
    by_cases hd : dayOn mask n = true
    · rw [if_pos hd, memS_append, daySpans_mem (by omega) (by omega) h3 h4, hd, Bool.true_and]
    · rw [if_neg hd]
      have : dayOn mask n = false := by simpa using hd
      rw [this, Bool.false_and, Bool.or_false]
theorem dayOn_and (mask : Int) (n : Nat) (h0 : 0 ≤ mask) (h1 : mask ≤ 127) : (bits BinOp.and IntKind.i64 (mask / 2 ^ n) 1 == 0) = !dayOn mask n := by
  have hp : (1 : Int) ≤ 2 ^ n := by
    have := Nat.one_le_two_pow (n := n)
    exact_mod_cast this
  have hd0 : 0 ≤ mask / 2 ^ n := Int.ediv_nonneg h0 (by omega)
  have hd1 : mask / 2 ^ n ≤ 127 := Int.le_trans (Int.ediv_le_self _ h0) h1
  have key : ∀ y : Fin 128, (bits BinOp.and IntKind.i64 (y.val : Int) 1 == 0) = !((y.val : Int) % 2 == 1) := by decide +kernel
  have := key ⟨(mask / 2 ^ n).toNat, by omega⟩
  simp only [Int.toNat_of_nonneg hd0] at this
  exact this
set_option maxRecDepth 100000 in
set_option maxHeartbeats 8000000 in
theorem daily_any (mask f t : Int) (w : World) :
    Calls Try.prog 28 #[.int .i64 mask, .int .i64 f, .int .i64 t] w (RetSp (dailyS mask f t) w) := by
  unfold dailyS
  obtain ⟨i0, hi, hz0, hz1, hz2⟩ := info_parts infoSp2
  cases hok : dailyOk mask f t with
  | false =>
    have H := dailyOk_not hok
    clear hok
    rw [if_neg (by simp)]
    rcases H with h | ⟨h1, h⟩ | ⟨h1, h2, h⟩ | ⟨h1, h2, h3, h⟩ | ⟨h1, h2, h3, h4, h⟩ | ⟨h1, h2, h3, h4, h5, h⟩
    all_goals
      go_enter Try.func28, Try.ntmps28
      go_wp2_with fail
      go_ret
      exact ⟨none, 0, rfl, fun h => by simp at h, fun _ => ⟨rfl, rfl⟩, Below.refl _ _⟩
  | true =>
    obtain ⟨h1, h2, h3, h4, h5, h6⟩ := of_decide_eq_true hok
    clear hok
    rw [if_pos rfl]
    have hlen : 0 ≤ dayLen f t ∧ dayLen f t ≤ 1440 := by unfold dayLen; split <;> omega
    have hL : dayLen f t = if t ≤ f then t - f + 1440 else t - f := rfl
    generalize dayLen f t = L at *
    obtain ⟨hl0, hl1⟩ := hlen
    have HN := Lib.hid (show nf (memS (daysL mask f L 7)) = nf (dailyHit mask f L 7) from nf_congr fun m _ _ => daysL_mem mask f L h3 h4 hl0 hl1 m 7 (Nat.le_refl _))
    rw [← HN.out]
    by_cases htf : t ≤ f
    all_goals
      first | rw [if_pos htf] at hL | rw [if_neg htf] at hL
      have HL := Lib.hid hL
      clear hL HN
      have d1 : decide (mask < 0) = false := decide_eq_false (by omega)
      have d2 : decide (127 < mask) = false := decide_eq_false (by omega)
      have d3 : decide (f < 0) = false := decide_eq_false (by omega)
      have d4 : decide (1440 < f) = false := decide_eq_false (by omega)
      have d5 : decide (t < 0) = false := decide_eq_false (by omega)
      have d6 : decide (1440 < t) = false := decide_eq_false (by omega)
      go_enter Try.func28, Try.ntmps28
      go_wp2_with fail
      go_loopw [7, 33] (fun x i wr => ∃ (n : Nat) (v : Value), n ≤ 7 ∧ i = .int .i64 n ∧ v = x ∧ wr.ownsRow w.heap.size 35 2 v (daysL mask f L n).length ((daysL mask f L n).map spC).flatten ∧ Below w.heap.size w wr) (fun _ i _ => 7 - (intOf i).toNat)
      case atStart => exact ⟨0, _, Nat.zero_le _, rfl, rfl, World.ownsRow_nil _ _ _ _, Below.refl _ _⟩
      case round =>
        obtain ⟨n, v, hn7, rfl, rfl, hown, hbw⟩ := hrel
        by_cases hn : n < 7
        · have hn6 : (n : Int) ≤ 6 := by omega
          have d8 : decide ((n : Int) < 7) = true := decide_eq_true (by omega)
          have hq := dayOn_and mask n h1 h2
          have hT : daysL mask f L (n + 1) = if dayOn mask n then daysL mask f L n ++ daySpans (n * 1440 + f) L else daysL mask f L n := rfl
          cases hd : dayOn mask n with
          | false =>
            rw [hd] at hq hT
            rw [if_neg (by simp)] at hT
            have HT := Lib.hid hT
            clear hT hd
            go_wp2_with fail
            go_roundw
            case rel => exact ⟨n + 1, _, by omega, by go_num, rfl, by rw [HT.out]; exact hown, hbw⟩
            case measure => simp [intOf]; omega
          | true =>
            rw [hd] at hq hT
            rw [if_pos rfl] at hT
            have hdl := daysL_len mask f L n
            have hown' : wr.ownsRow w.heap.size 35 2 v ((daysL mask f L n).map spC).length ((daysL mask f L n).map spC).flatten := by rw [List.length_map]; exact hown
            have OWN := Lib.hid hown'
            have HLT := Lib.hid hown.lt
            have hRl : ((daysL mask f L n).map spC).length ≤ 14 := by rw [List.length_map]; omega
            have hsz := hbw.size
            have FIN : ∀ F G : Int, daySpans (n * 1440 + f) L = [(F, min G 10080), (0, G - 10080)] → Hid (∀ (v6 : Value) (w6 : World), w6.ownsRow w.heap.size 35 2 v6 ((daysL mask f L n).map spC ++ [[Value.int .i64 F, Value.int .i64 (min G 10080)], [Value.int .i64 0, Value.int .i64 (G - 10080)]]).length ((daysL mask f L n).map spC ++ [[Value.int .i64 F, Value.int .i64 (min G 10080)], [Value.int .i64 0, Value.int .i64 (G - 10080)]]).flatten → w6.ownsRow w.heap.size 35 2 v6 (daysL mask f L (n + 1)).length ((daysL mask f L (n + 1)).map spC).flatten) := fun F G he => Lib.hid (fun v6 w6 h => by
              rw [hT, he]
              have e1 : (daysL mask f L n).map spC ++ [[Value.int .i64 F, Value.int .i64 (min G 10080)], [Value.int .i64 0, Value.int .i64 (G - 10080)]] = (daysL mask f L n ++ [(F, min G 10080), (0, G - 10080)]).map spC := by rw [List.map_append]; rfl
              rw [e1, List.length_map] at h
              exact h)
            have HDS := Lib.hid (show ∀ first : Int, daySpans first L = if first ≥ 10080 then [(first - 10080, min (first - 10080 + L) 10080), (0, first - 10080 + L - 10080)] else [(first, min (first + L) 10080), (0, first + L - 10080)] from fun first => by unfold daySpans; split <;> simp_all)
            have HF := Lib.hid FIN
            clear hT hd hown hown' FIN hdl
            generalize (daysL mask f L n).map spC = R at *
            by_cases h7 : (10080 : Int) ≤ n * 1440 + f
            · have d9 : decide ((10080 : Int) ≤ n * 1440 + f) = true := decide_eq_true h7
              first
                | (have FIN2 := HF.out (n * 1440 + f - 10080) (n * 1440 + t + 1440 - 10080) (by rw [HDS.out, if_pos h7, HL.out, show (n : Int) * 1440 + f - 10080 + (t - f + 1440) = n * 1440 + t + 1440 - 10080 by omega])
                   clear HF
                   go_wp2_with (at_builtin; refine append_rows rfl _ _ 22 rfl w.heap.size 35 i0 _ 2 16 Try.underlying22 hi hz0 hz1 hz2 rfl (by decide) v R rfl (OWN.out.alloc _) (some ⟨wr.heap.size, 0, none⟩) 2 2 (wr.heap.size + 1) [[.int .i64 ((n : Int) * 1440 + f - 10080), .int .i64 (min ((n : Int) * 1440 + t + 1440 - 10080) 10080)], [.int .i64 0, .int .i64 ((n : Int) * 1440 + t + 1440 - 10080 - 10080)]] rfl rfl (fun h => by cases h) (fun _ => ⟨wr.heap.size, 0, rfl, by simp, fun i hi => by match i, hi with | 0, _ => exact row_of_blk (l := [.int .i64 ((n : Int) * 1440 + f - 10080), .int .i64 (min ((n : Int) * 1440 + t + 1440 - 10080) 10080), .int .i64 0, .int .i64 ((n : Int) * 1440 + t + 1440 - 10080 - 10080)]) (Blk.new wr 35 _) _ _ (fun j v hj => by match j with | 0 => simpa using hj | 1 => simpa using hj | j + 2 => simp at hj) | 1, _ => exact row_of_blk (l := [.int .i64 ((n : Int) * 1440 + f - 10080), .int .i64 (min ((n : Int) * 1440 + t + 1440 - 10080) 10080), .int .i64 0, .int .i64 ((n : Int) * 1440 + t + 1440 - 10080 - 10080)]) (Blk.new wr 35 _) _ _ (fun j v hj => by match j with | 0 => simpa using hj | 1 => simpa using hj | j + 2 => simp at hj)⟩) (by simp) (by simp [Value.oneCell']) (by simp [maxLen]; omega) (by simp; omega) (by simp; omega) ?_; intro v6 w6 own6 hg6))
                | (have FIN2 := HF.out (n * 1440 + f - 10080) (n * 1440 + t - 10080) (by rw [HDS.out, if_pos h7, HL.out, show (n : Int) * 1440 + f - 10080 + (t - f) = n * 1440 + t - 10080 by omega])
                   clear HF
                   go_wp2_with (at_builtin; refine append_rows rfl _ _ 22 rfl w.heap.size 35 i0 _ 2 16 Try.underlying22 hi hz0 hz1 hz2 rfl (by decide) v R rfl (OWN.out.alloc _) (some ⟨wr.heap.size, 0, none⟩) 2 2 (wr.heap.size + 1) [[.int .i64 ((n : Int) * 1440 + f - 10080), .int .i64 (min ((n : Int) * 1440 + t - 10080) 10080)], [.int .i64 0, .int .i64 ((n : Int) * 1440 + t - 10080 - 10080)]] rfl rfl (fun h => by cases h) (fun _ => ⟨wr.heap.size, 0, rfl, by simp, fun i hi => by match i, hi with | 0, _ => exact row_of_blk (l := [.int .i64 ((n : Int) * 1440 + f - 10080), .int .i64 (min ((n : Int) * 1440 + t - 10080) 10080), .int .i64 0, .int .i64 ((n : Int) * 1440 + t - 10080 - 10080)]) (Blk.new wr 35 _) _ _ (fun j v hj => by match j with | 0 => simpa using hj | 1 => simpa using hj | j + 2 => simp at hj) | 1, _ => exact row_of_blk (l := [.int .i64 ((n : Int) * 1440 + f - 10080), .int .i64 (min ((n : Int) * 1440 + t - 10080) 10080), .int .i64 0, .int .i64 ((n : Int) * 1440 + t - 10080 - 10080)]) (Blk.new wr 35 _) _ _ (fun j v hj => by match j with | 0 => simpa using hj | 1 => simpa using hj | j + 2 => simp at hj)⟩) (by simp) (by simp [Value.oneCell']) (by simp [maxLen]; omega) (by simp; omega) (by simp; omega) ?_; intro v6 w6 own6 hg6))
              all_goals
                go_roundw
                case rel => exact ⟨n + 1, _, by omega, by go_num, rfl, FIN2.out _ _ own6, (hbw.al _).grown hg6 (by simp; omega) (fun q hq => (HLT.out q hq).1)⟩
                case measure => simp [intOf]; omega
            · have d9 : decide ((10080 : Int) ≤ n * 1440 + f) = false := decide_eq_false h7
              first
                | (have FIN2 := HF.out (n * 1440 + f) (n * 1440 + t + 1440) (by rw [HDS.out, if_neg h7, HL.out, show (n : Int) * 1440 + f + (t - f + 1440) = n * 1440 + t + 1440 by omega])
                   clear HF
                   go_wp2_with (at_builtin; refine append_rows rfl _ _ 22 rfl w.heap.size 35 i0 _ 2 16 Try.underlying22 hi hz0 hz1 hz2 rfl (by decide) v R rfl (OWN.out.alloc _) (some ⟨wr.heap.size, 0, none⟩) 2 2 (wr.heap.size + 1) [[.int .i64 ((n : Int) * 1440 + f), .int .i64 (min ((n : Int) * 1440 + t + 1440) 10080)], [.int .i64 0, .int .i64 ((n : Int) * 1440 + t + 1440 - 10080)]] rfl rfl (fun h => by cases h) (fun _ => ⟨wr.heap.size, 0, rfl, by simp, fun i hi => by match i, hi with | 0, _ => exact row_of_blk (l := [.int .i64 ((n : Int) * 1440 + f), .int .i64 (min ((n : Int) * 1440 + t + 1440) 10080), .int .i64 0, .int .i64 ((n : Int) * 1440 + t + 1440 - 10080)]) (Blk.new wr 35 _) _ _ (fun j v hj => by match j with | 0 => simpa using hj | 1 => simpa using hj | j + 2 => simp at hj) | 1, _ => exact row_of_blk (l := [.int .i64 ((n : Int) * 1440 + f), .int .i64 (min ((n : Int) * 1440 + t + 1440) 10080), .int .i64 0, .int .i64 ((n : Int) * 1440 + t + 1440 - 10080)]) (Blk.new wr 35 _) _ _ (fun j v hj => by match j with | 0 => simpa using hj | 1 => simpa using hj | j + 2 => simp at hj)⟩) (by simp) (by simp [Value.oneCell']) (by simp [maxLen]; omega) (by simp; omega) (by simp; omega) ?_; intro v6 w6 own6 hg6))
                | (have FIN2 := HF.out (n * 1440 + f) (n * 1440 + t) (by rw [HDS.out, if_neg h7, HL.out, show (n : Int) * 1440 + f + (t - f) = n * 1440 + t by omega])
                   clear HF
                   go_wp2_with (at_builtin; refine append_rows rfl _ _ 22 rfl w.heap.size 35 i0 _ 2 16 Try.underlying22 hi hz0 hz1 hz2 rfl (by decide) v R rfl (OWN.out.alloc _) (some ⟨wr.heap.size, 0, none⟩) 2 2 (wr.heap.size + 1) [[.int .i64 ((n : Int) * 1440 + f), .int .i64 (min ((n : Int) * 1440 + t) 10080)], [.int .i64 0, .int .i64 ((n : Int) * 1440 + t - 10080)]] rfl rfl (fun h => by cases h) (fun _ => ⟨wr.heap.size, 0, rfl, by simp, fun i hi => by match i, hi with | 0, _ => exact row_of_blk (l := [.int .i64 ((n : Int) * 1440 + f), .int .i64 (min ((n : Int) * 1440 + t) 10080), .int .i64 0, .int .i64 ((n : Int) * 1440 + t - 10080)]) (Blk.new wr 35 _) _ _ (fun j v hj => by match j with | 0 => simpa using hj | 1 => simpa using hj | j + 2 => simp at hj) | 1, _ => exact row_of_blk (l := [.int .i64 ((n : Int) * 1440 + f), .int .i64 (min ((n : Int) * 1440 + t) 10080), .int .i64 0, .int .i64 ((n : Int) * 1440 + t - 10080)]) (Blk.new wr 35 _) _ _ (fun j v hj => by match j with | 0 => simpa using hj | 1 => simpa using hj | j + 2 => simp at hj)⟩) (by simp) (by simp [Value.oneCell']) (by simp [maxLen]; omega) (by simp; omega) (by simp; omega) ?_; intro v6 w6 own6 hg6))
              all_goals
                go_roundw
                case rel => exact ⟨n + 1, _, by omega, by go_num, rfl, FIN2.out _ _ own6, (hbw.al _).grown hg6 (by simp; omega) (fun q hq => (HLT.out q hq).1)⟩
                case measure => simp [intOf]; omega
        · have hn : n = 7 := by omega
          subst hn
          have hdl := daysL_len mask f L 7
          obtain ⟨A7, c7, rfl, hr7, _⟩ := own_ret hown
          have HNN := Lib.hid (norm_any (daysL mask f L 7) A7 c7 wr.heap.size wr (Nat.le_refl _) hr7 (by omega))
          clear hown hr7
          generalize daysL mask f L 7 = O at *
          go_wp2_with (go_at_call 14; refine HNN.out.mono ?_; rintro r w8 ⟨A8, c8, rfl, h8, hn8, hb8⟩)
          go_ret
          exact ⟨A8, c8, rfl, h8, hn8, hbw.th hb8⟩

end Go.Proofs.Ytdhccaninopicaa
