/- The reference's normal form, union, intersection, difference, length. -/
import Derived.Test.YtdhccaninopicaaSRef
set_option linter.unusedSimpArgs false
set_option linter.unusedVariables false
namespace Go.Proofs.Ytdhccaninopicaa
open Go.RowKit


set_option maxHeartbeats 400000 in
theorem rnorm_any (l : List Sp) (A : Option Addr) (c : Nat) (B : Nat) (w : World) (hB : B ≤ w.heap.size) (hr : IsRows B w 2 (l.map spC) A) (hl : l.length ≤ 140737488351232) :
    Calls Try.prog 15 #[.slice A l.length c] w (RetSp (nf (memS l)) w) := by
  have H1 := Lib.hid (minutes_any l A c B w hB hr hl)
  have H2 := fun g w' h => Lib.hid (spans_any (memS l) g w' h)
  clear hr
  generalize memS l = S at *
  go_enter Try.func15, Try.ntmps15
  go_wp2_with (first | (go_at_call 37; refine H1.out.mono ?_; rintro r w2 ⟨g, rfl, hg, hb, hlow⟩) | (go_at_call 36; refine (H2 g _ hb).out.mono ?_; rintro r w3 ⟨A3, c3, rfl, h3, h4, h5⟩))
  go_ret
  exact ⟨A3, c3, rfl, h3, h4, hlow.th h5⟩

-- $1 the function; $2 the way that a bool goes
set_option maxRecDepth 100000 in
set_option maxHeartbeats 4000000 in
theorem runion_any (a b : List Sp) (A A2 : Option Addr) (c c2 : Nat) (B : Nat) (w : World) (hB : B ≤ w.heap.size) (hr : IsRows B w 2 (a.map spC) A) (hl : a.length ≤ 140737488351232) (hr2 : IsRows B w 2 (b.map spC) A2) (hl2 : b.length ≤ 140737488351232) :
    Calls Try.prog 23 #[.slice A a.length c, .slice A2 b.length c2] w (RetSp (nf fun m => memS a m || memS b m) w) := by
  have H1 := Lib.hid (minutes_any a A c B w hB hr hl)
  have H2 := fun w1 h => Lib.hid (minutes_any b A2 c2 B w1 h)
  have H2' : ∀ w1 : World, Below w.heap.size w w1 → Hid (Calls Try.prog 37 #[.slice A2 b.length c2] w1 (RetMins (memS b) w1)) := fun w1 h => Lib.hid ((H2 w1 (Nat.le_trans hB h.size)).out (hr2.carry (h.mono hB)) hl2)
  have hmk := mk_mins
  clear hr hr2 H2
  generalize memS a = S at *
  generalize memS b = T at *
  have H3 := fun g w' h => Lib.hid (spans_any (fun m => (Bool.or (S m) (T m))) g w' h)
  go_enter Try.func23, Try.ntmps23
  go_wp2_with (first | (go_at_call 37; refine H1.out.mono ?_; rintro r w2 ⟨g, rfl, hg, hbg, hlow⟩; clear H1) | (go_at_call 37; refine (H2' w2 hlow).out.mono ?_; rintro r w3 ⟨g2, rfl, hg2, hbg2, hlow2⟩; clear H2'))
  clear hmk
  have hgw := hbg.lt
  have kS := (hbg.below hlow2).alloc (.cells (minsOf fun _ => false) 4)
  have kT := hbg2.alloc (.cells (minsOf fun _ => false) 4)
  have hgw2 := hbg2.lt
  have hlo := hlow.th hlow2
  have hs3 := hlo.size
  clear hbg hbg2 hlow hlow2
  go_loopw [16] (fun i wr => ∃ k : Nat, k ≤ 10080 ∧ i = .int .i64 k ∧ Below w.heap.size w wr ∧ Blk wr w3.heap.size 4 (minsOf (fun m => if m < (k : Int) then (Bool.or (S m) (T m)) else false)) ∧ Blk wr g 4 (minsOf S) ∧ Blk wr g2 4 (minsOf T)) (fun i _ => 10080 - (intOf i).toNat)
  case atStart =>
    refine ⟨0, Nat.zero_le _, rfl, hlo.al _, ?_, kS, kT⟩
    have e : minsOf (fun m => if m < ((0 : Nat) : Int) then (Bool.or (S m) (T m)) else false) = minsOf fun _ => false := minsOf_congr fun j _ => if_neg (by omega)
    rw [e]; exact Blk.new _ _ _
  case round =>
    clear kS kT
    obtain ⟨k, hkl, rfl, hbw, kN, kS, kT⟩ := hrel
    by_cases hlk : k < 10080
    · have cS : wr.cell? ⟨g, k, none⟩ = some (.bool (S k)) := by rw [kS.cell, minsOf_get _ hlk]
      have cT : wr.cell? ⟨g2, k, none⟩ = some (.bool (T k)) := by rw [kT.cell, minsOf_get _ hlk]
      have cN : wr.cell? ⟨w3.heap.size, k, none⟩ = some (.bool false) := by rw [kN.cell, minsOf_get _ hlk, if_neg (by omega)]
      have fN := kN.free k
      have KN : ∀ bb : Bool, bb = (fun m : Int => (Bool.or (S m) (T m))) k → Hid (Blk (wr.setCell ⟨w3.heap.size, k, none⟩ (.bool bb)) w3.heap.size 4 (minsOf (fun m => if m < ((k + 1 : Nat) : Int) then (Bool.or (S m) (T m)) else false))) := fun bb hbb => Lib.hid (by
        have := kN.set k (.bool bb)
        rw [minsOf_set] at this
        have e : minsOf (fun m => if m = (k : Int) then bb else if m < (k : Int) then (Bool.or (S m) (T m)) else false) = minsOf (fun m => if m < ((k + 1 : Nat) : Int) then (Bool.or (S m) (T m)) else false) := minsOf_congr fun j _ => by
          by_cases hj : (j : Int) = k
          · rw [if_pos hj, if_pos (by omega), hbb, hj]
          · rw [if_neg hj]
            by_cases hj2 : (j : Int) < k
            · rw [if_pos hj2, if_pos (by omega)]
            · rw [if_neg hj2, if_neg (by omega)]
        rw [← e]; exact this)
      have KS := Lib.hid (fun bb : Bool => kS.far (show g ≠ w3.heap.size by omega) k (.bool bb))
      have KT := Lib.hid (fun bb : Bool => kT.far (show g2 ≠ w3.heap.size by omega) k (.bool bb))
      clear kN kS kT
      cases hS : S k <;> cases hT : T k
      all_goals
        rw [hS] at cS
        rw [hT] at cT
        have HS := Lib.hid hS
        have HT := Lib.hid hT
        clear hS hT
        go_wp2_with fail
        go_roundw
        case rel => exact ⟨k + 1, by omega, by go_num, hbw.st (by omega) _, (KN _ (by simp [HS.out, HT.out])).out, KS.out _, KT.out _⟩
        case measure => simp [intOf]; omega
    · have hk : k = 10080 := by omega
      subst hk
      have e : minsOf (fun m => if m < ((10080 : Nat) : Int) then (Bool.or (S m) (T m)) else false) = minsOf (fun m => (Bool.or (S m) (T m))) := minsOf_congr fun j hj => if_pos (by omega)
      rw [e] at kN
      clear e
      go_wp2_with (go_at_call 36; refine (H3 w3.heap.size _ kN).out.mono ?_; rintro r w4 ⟨A4, c4, rfl, h3, h4, h5⟩)
      go_ret
      exact ⟨A4, c4, rfl, h3, h4, hbw.th h5⟩
set_option maxRecDepth 100000 in
set_option maxHeartbeats 4000000 in
theorem rcross_any (a b : List Sp) (A A2 : Option Addr) (c c2 : Nat) (B : Nat) (w : World) (hB : B ≤ w.heap.size) (hr : IsRows B w 2 (a.map spC) A) (hl : a.length ≤ 140737488351232) (hr2 : IsRows B w 2 (b.map spC) A2) (hl2 : b.length ≤ 140737488351232) :
    Calls Try.prog 25 #[.slice A a.length c, .slice A2 b.length c2] w (RetSp (nf fun m => memS a m && memS b m) w) := by
  have H1 := Lib.hid (minutes_any a A c B w hB hr hl)
  have H2 := fun w1 h => Lib.hid (minutes_any b A2 c2 B w1 h)
  have H2' : ∀ w1 : World, Below w.heap.size w w1 → Hid (Calls Try.prog 37 #[.slice A2 b.length c2] w1 (RetMins (memS b) w1)) := fun w1 h => Lib.hid ((H2 w1 (Nat.le_trans hB h.size)).out (hr2.carry (h.mono hB)) hl2)
  have hmk := mk_mins
  clear hr hr2 H2
  generalize memS a = S at *
  generalize memS b = T at *
  have H3 := fun g w' h => Lib.hid (spans_any (fun m => (S m && T m)) g w' h)
  go_enter Try.func25, Try.ntmps25
  go_wp2_with (first | (go_at_call 37; refine H1.out.mono ?_; rintro r w2 ⟨g, rfl, hg, hbg, hlow⟩; clear H1) | (go_at_call 37; refine (H2' w2 hlow).out.mono ?_; rintro r w3 ⟨g2, rfl, hg2, hbg2, hlow2⟩; clear H2'))
  clear hmk
  have hgw := hbg.lt
  have kS := (hbg.below hlow2).alloc (.cells (minsOf fun _ => false) 4)
  have kT := hbg2.alloc (.cells (minsOf fun _ => false) 4)
  have hgw2 := hbg2.lt
  have hlo := hlow.th hlow2
  have hs3 := hlo.size
  clear hbg hbg2 hlow hlow2
  go_loopw [16] (fun i wr => ∃ k : Nat, k ≤ 10080 ∧ i = .int .i64 k ∧ Below w.heap.size w wr ∧ Blk wr w3.heap.size 4 (minsOf (fun m => if m < (k : Int) then (S m && T m) else false)) ∧ Blk wr g 4 (minsOf S) ∧ Blk wr g2 4 (minsOf T)) (fun i _ => 10080 - (intOf i).toNat)
  case atStart =>
    refine ⟨0, Nat.zero_le _, rfl, hlo.al _, ?_, kS, kT⟩
    have e : minsOf (fun m => if m < ((0 : Nat) : Int) then (S m && T m) else false) = minsOf fun _ => false := minsOf_congr fun j _ => if_neg (by omega)
    rw [e]; exact Blk.new _ _ _
  case round =>
    clear kS kT
    obtain ⟨k, hkl, rfl, hbw, kN, kS, kT⟩ := hrel
    by_cases hlk : k < 10080
    · have cS : wr.cell? ⟨g, k, none⟩ = some (.bool (S k)) := by rw [kS.cell, minsOf_get _ hlk]
      have cT : wr.cell? ⟨g2, k, none⟩ = some (.bool (T k)) := by rw [kT.cell, minsOf_get _ hlk]
      have cN : wr.cell? ⟨w3.heap.size, k, none⟩ = some (.bool false) := by rw [kN.cell, minsOf_get _ hlk, if_neg (by omega)]
      have fN := kN.free k
      have KN : ∀ bb : Bool, bb = (fun m : Int => (S m && T m)) k → Hid (Blk (wr.setCell ⟨w3.heap.size, k, none⟩ (.bool bb)) w3.heap.size 4 (minsOf (fun m => if m < ((k + 1 : Nat) : Int) then (S m && T m) else false))) := fun bb hbb => Lib.hid (by
        have := kN.set k (.bool bb)
        rw [minsOf_set] at this
        have e : minsOf (fun m => if m = (k : Int) then bb else if m < (k : Int) then (S m && T m) else false) = minsOf (fun m => if m < ((k + 1 : Nat) : Int) then (S m && T m) else false) := minsOf_congr fun j _ => by
          by_cases hj : (j : Int) = k
          · rw [if_pos hj, if_pos (by omega), hbb, hj]
          · rw [if_neg hj]
            by_cases hj2 : (j : Int) < k
            · rw [if_pos hj2, if_pos (by omega)]
            · rw [if_neg hj2, if_neg (by omega)]
        rw [← e]; exact this)
      have KS := Lib.hid (fun bb : Bool => kS.far (show g ≠ w3.heap.size by omega) k (.bool bb))
      have KT := Lib.hid (fun bb : Bool => kT.far (show g2 ≠ w3.heap.size by omega) k (.bool bb))
      clear kN kS kT
      cases hS : S k <;> cases hT : T k
      all_goals
        rw [hS] at cS
        rw [hT] at cT
        have HS := Lib.hid hS
        have HT := Lib.hid hT
        clear hS hT
        go_wp2_with fail
        go_roundw
        case rel => exact ⟨k + 1, by omega, by go_num, hbw.st (by omega) _, (KN _ (by simp [HS.out, HT.out])).out, KS.out _, KT.out _⟩
        case measure => simp [intOf]; omega
    · have hk : k = 10080 := by omega
      subst hk
      have e : minsOf (fun m => if m < ((10080 : Nat) : Int) then (S m && T m) else false) = minsOf (fun m => (S m && T m)) := minsOf_congr fun j hj => if_pos (by omega)
      rw [e] at kN
      clear e
      go_wp2_with (go_at_call 36; refine (H3 w3.heap.size _ kN).out.mono ?_; rintro r w4 ⟨A4, c4, rfl, h3, h4, h5⟩)
      go_ret
      exact ⟨A4, c4, rfl, h3, h4, hbw.th h5⟩
set_option maxRecDepth 100000 in
set_option maxHeartbeats 4000000 in
theorem rminus_any (a b : List Sp) (A A2 : Option Addr) (c c2 : Nat) (B : Nat) (w : World) (hB : B ≤ w.heap.size) (hr : IsRows B w 2 (a.map spC) A) (hl : a.length ≤ 140737488351232) (hr2 : IsRows B w 2 (b.map spC) A2) (hl2 : b.length ≤ 140737488351232) :
    Calls Try.prog 27 #[.slice A a.length c, .slice A2 b.length c2] w (RetSp (nf fun m => memS a m && !memS b m) w) := by
  have H1 := Lib.hid (minutes_any a A c B w hB hr hl)
  have H2 := fun w1 h => Lib.hid (minutes_any b A2 c2 B w1 h)
  have H2' : ∀ w1 : World, Below w.heap.size w w1 → Hid (Calls Try.prog 37 #[.slice A2 b.length c2] w1 (RetMins (memS b) w1)) := fun w1 h => Lib.hid ((H2 w1 (Nat.le_trans hB h.size)).out (hr2.carry (h.mono hB)) hl2)
  have hmk := mk_mins
  clear hr hr2 H2
  generalize memS a = S at *
  generalize memS b = T at *
  have H3 := fun g w' h => Lib.hid (spans_any (fun m => (S m && !T m)) g w' h)
  go_enter Try.func27, Try.ntmps27
  go_wp2_with (first | (go_at_call 37; refine H1.out.mono ?_; rintro r w2 ⟨g, rfl, hg, hbg, hlow⟩; clear H1) | (go_at_call 37; refine (H2' w2 hlow).out.mono ?_; rintro r w3 ⟨g2, rfl, hg2, hbg2, hlow2⟩; clear H2'))
  clear hmk
  have hgw := hbg.lt
  have kS := (hbg.below hlow2).alloc (.cells (minsOf fun _ => false) 4)
  have kT := hbg2.alloc (.cells (minsOf fun _ => false) 4)
  have hgw2 := hbg2.lt
  have hlo := hlow.th hlow2
  have hs3 := hlo.size
  clear hbg hbg2 hlow hlow2
  go_loopw [16] (fun i wr => ∃ k : Nat, k ≤ 10080 ∧ i = .int .i64 k ∧ Below w.heap.size w wr ∧ Blk wr w3.heap.size 4 (minsOf (fun m => if m < (k : Int) then (S m && !T m) else false)) ∧ Blk wr g 4 (minsOf S) ∧ Blk wr g2 4 (minsOf T)) (fun i _ => 10080 - (intOf i).toNat)
  case atStart =>
    refine ⟨0, Nat.zero_le _, rfl, hlo.al _, ?_, kS, kT⟩
    have e : minsOf (fun m => if m < ((0 : Nat) : Int) then (S m && !T m) else false) = minsOf fun _ => false := minsOf_congr fun j _ => if_neg (by omega)
    rw [e]; exact Blk.new _ _ _
  case round =>
    clear kS kT
    obtain ⟨k, hkl, rfl, hbw, kN, kS, kT⟩ := hrel
    by_cases hlk : k < 10080
    · have cS : wr.cell? ⟨g, k, none⟩ = some (.bool (S k)) := by rw [kS.cell, minsOf_get _ hlk]
      have cT : wr.cell? ⟨g2, k, none⟩ = some (.bool (T k)) := by rw [kT.cell, minsOf_get _ hlk]
      have cN : wr.cell? ⟨w3.heap.size, k, none⟩ = some (.bool false) := by rw [kN.cell, minsOf_get _ hlk, if_neg (by omega)]
      have fN := kN.free k
      have KN : ∀ bb : Bool, bb = (fun m : Int => (S m && !T m)) k → Hid (Blk (wr.setCell ⟨w3.heap.size, k, none⟩ (.bool bb)) w3.heap.size 4 (minsOf (fun m => if m < ((k + 1 : Nat) : Int) then (S m && !T m) else false))) := fun bb hbb => Lib.hid (by
        have := kN.set k (.bool bb)
        rw [minsOf_set] at this
        have e : minsOf (fun m => if m = (k : Int) then bb else if m < (k : Int) then (S m && !T m) else false) = minsOf (fun m => if m < ((k + 1 : Nat) : Int) then (S m && !T m) else false) := minsOf_congr fun j _ => by
          by_cases hj : (j : Int) = k
          · rw [if_pos hj, if_pos (by omega), hbb, hj]
          · rw [if_neg hj]
            by_cases hj2 : (j : Int) < k
            · rw [if_pos hj2, if_pos (by omega)]
            · rw [if_neg hj2, if_neg (by omega)]
        rw [← e]; exact this)
      have KS := Lib.hid (fun bb : Bool => kS.far (show g ≠ w3.heap.size by omega) k (.bool bb))
      have KT := Lib.hid (fun bb : Bool => kT.far (show g2 ≠ w3.heap.size by omega) k (.bool bb))
      clear kN kS kT
      cases hS : S k <;> cases hT : T k
      all_goals
        rw [hS] at cS
        rw [hT] at cT
        have HS := Lib.hid hS
        have HT := Lib.hid hT
        clear hS hT
        go_wp2_with fail
        go_roundw
        case rel => exact ⟨k + 1, by omega, by go_num, hbw.st (by omega) _, (KN _ (by simp [HS.out, HT.out])).out, KS.out _, KT.out _⟩
        case measure => simp [intOf]; omega
    · have hk : k = 10080 := by omega
      subst hk
      have e : minsOf (fun m => if m < ((10080 : Nat) : Int) then (S m && !T m) else false) = minsOf (fun m => (S m && !T m)) := minsOf_congr fun j hj => if_pos (by omega)
      rw [e] at kN
      clear e
      go_wp2_with (go_at_call 36; refine (H3 w3.heap.size _ kN).out.mono ?_; rintro r w4 ⟨A4, c4, rfl, h3, h4, h5⟩)
      go_ret
      exact ⟨A4, c4, rfl, h3, h4, hbw.th h5⟩

set_option maxRecDepth 100000 in
set_option maxHeartbeats 2000000 in
theorem rlength_any (l : List Sp) (A : Option Addr) (c : Nat) (B : Nat) (w : World) (hB : B ≤ w.heap.size) (hr : IsRows B w 2 (l.map spC) A) (hl : l.length ≤ 140737488351232) :
    Calls Try.prog 17 #[.slice A l.length c] w fun r w' => r = .returned (.int .i64 (cntTo (memS l) 10080)) ∧ Below w.heap.size w w' := by
  have H1 := Lib.hid (minutes_any l A c B w hB hr hl)
  clear hr
  generalize memS l = S at *
  go_enter Try.func17, Try.ntmps17
  go_wp2_with (go_at_call 37; refine H1.out.mono ?_; rintro r w2 ⟨g, rfl, hg, hb, hlow⟩)
  go_loop [3, 10] (fun n i => ∃ k : Nat, k ≤ 10080 ∧ i = .int .i64 k ∧ n = .int .i64 (cntTo S k)) (fun _ i => 10080 - (intOf i).toNat)
  case atStart => exact ⟨0, Nat.zero_le _, rfl, rfl⟩
  case round =>
    obtain ⟨k, hkl, rfl, rfl⟩ := hrel
    have hc := cntTo_le S k
    by_cases hlk : k < 10080
    · have cS : w2.cell? ⟨g, k, none⟩ = some (.bool (S k)) := by rw [hb.cell, minsOf_get _ hlk]
      have hst : cntTo S (k + 1) = cntTo S k + if S k then 1 else 0 := rfl
      cases hS : S k
      all_goals
        rw [hS] at cS hst
        have HST := Lib.hid hst
        clear hst hS
        go_wp2_with fail
        go_round
        case rel => exact ⟨k + 1, by omega, by go_num, by rw [HST.out]; simp⟩
        case measure => simp [intOf]; omega
    · have hk : k = 10080 := by omega
      subst hk
      go_wp2_with fail
      go_ret
      exact ⟨rfl, hlow⟩

end Go.Proofs.Ytdhccaninopicaa
