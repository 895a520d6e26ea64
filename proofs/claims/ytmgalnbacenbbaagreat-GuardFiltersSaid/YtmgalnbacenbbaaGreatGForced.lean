/- Guard: Forced: the writes of the first lock that forces each key. -/
import Derived.WalkMore
import Derived.Test.YtmgalnbacenbbaaGreatGKeys
import Derived.Test.YtmgalnbacenbbaaGreatGBlk
set_option linter.unusedSimpArgs false
set_option linter.unusedVariables false
namespace Go.Proofs.YtmgalnbacenbbaaGreat
open Go.RowKit

def cl (r : Int) : Int := if (if 100 < r then 100 else r) > 0 then (if 100 < r then 100 else r) else 0
theorem cl_ge (r : Int) : 0 ≤ cl r := by unfold cl; split <;> omega
theorem cl_le (r : Int) : cl r ≤ 100 := by unfold cl; split <;> split <;> omega
/-- The write of a lock that forces a key. -/
def fwr (k : LKey) (p : LkR × LLock) : LW := ⟨k, (getI p.2.force k).val, 4, p.1.name, 100 - cl p.1.rank, 0⟩
def frcd (ps : List (LkR × LLock)) (k : LKey) : Option LW := (ps.find? (fun p => hasI p.2.force k)).map (fwr k)
def frc (ps : List (LkR × LLock)) (ks : List LKey) : List LW := ks.filterMap (frcd ps)
theorem frc_take (ps : List (LkR × LLock)) (ks : List LKey) (n : Nat) (h : n < ks.length) : frc ps (ks.take (n + 1)) = frc ps (ks.take n) ++ (frcd ps ks[n]).toList := by
  unfold frc
  rw [List.take_succ_eq_append_getElem h, List.filterMap_append]
  congr 1
theorem frc_len (ps : List (LkR × LLock)) (ks : List LKey) : (frc ps ks).length ≤ ks.length := List.length_filterMap_le _ _
theorem frcd_drop (ps : List (LkR × LLock)) (k : LKey) (j : Nat) (h : j < ps.length) : frcd (ps.drop j) k = if hasI ps[j].2.force k then some (fwr k ps[j]) else frcd (ps.drop (j + 1)) k := by
  unfold frcd
  rw [List.drop_eq_getElem_cons h, List.find?_cons]
  split
  · next e => rw [if_pos e]; rfl
  · next e => rw [if_neg (by rw [e]; decide)]
set_option maxRecDepth 100000 in
set_option maxHeartbeats 4000000 in
theorem forcedW_any (ps : List (LkR × LLock)) (A : Option Addr) (c : Nat) (acts : List ByteArray) (B : Option Addr) (m : Nat) (w : World) (hx : RdL w ps (.slice A ps.length c)) (hy : ES.Rd w acts (.slice B acts.length m)) (hl : ps.length < 40) (hbig : acts.length ≤ 1000000) (hfew : ∀ p ∈ ps, (itsOf p).length ≤ 60) :
    Calls Tryz.prog 11 #[.slice A ps.length c, .slice B acts.length m] w fun r w' => ∃ ks v, r = .returned v ∧ EW.Own w' w.heap.size (frc (strg ps acts) ks) v ∧ ks.Pairwise (fun a b => kless a b = true) ∧ (∀ k, k ∈ ks ↔ HasKey (strg ps acts) k) ∧ Lat w w' := by
  have HST := Lib.hid (strongest_any ps A c acts B m w hx hy hl hbig)
  have hql := strg_len ps acts
  have hqf : ∀ p ∈ strg ps acts, (itsOf p).length ≤ 60 := fun p hp => hfew p (strg_mem hp)
  generalize strg ps acts = qs at *
  have HQF := Lib.hid hqf
  clear hx hy hqf hfew
  go_enter Tryz.func11, Tryz.ntmps11
  go_wp2_with fail
  go_step3
  go_wp2_with fail
  refine HST.out.mono ?_
  rintro r w1 ⟨v1, rfl, hown1, hl1⟩
  obtain ⟨A1, c1, rfl⟩ := hown1.rd.slice
  have HKS := Lib.hid (keys_any qs A1 c1 w1 hown1.rd (by omega) HQF.out)
  have hrd1 := hown1.rd
  clear HST hown1
  go_wp2_with fail
  all_goals (try go_step3)
  go_wp2_with fail
  refine HKS.out.mono ?_
  rintro r w2 ⟨ks, v2, rfl, hown2, hn24, hasc, hmem, hl2⟩
  obtain ⟨A2, c2, rfl⟩ := hown2.slice
  have hrd2 := hown2.rd
  have hL2 := hl1.trans hl2
  have hrd1 := hrd1.lat hl2
  have HKM : Hid (ks.Pairwise (fun a b => kless a b = true) ∧ ∀ k, k ∈ ks ↔ HasKey qs k) := Lib.hid ⟨hasc, hmem⟩
  clear HKS hown2 hasc hmem hl1 hl2
  go_wp2_with fail
  have HL0 := Lib.hid hL2
  go_loopw [6, 20] (fun v i wr => ∃ n : Nat, n ≤ ks.length ∧ i = .int .i64 n ∧ EW.Own wr w2.heap.size (frc qs (ks.take n)) v ∧ Lat w2 wr) (fun _ i _ => ks.length - (intOf i).toNat)
  case atStart => exact ⟨0, Nat.zero_le _, rfl, Elt.Own.nil _ _, Lat.refl _⟩
  case round =>
    clear hL2
    obtain ⟨n, hnl, rfl, hown, hLW⟩ := hrel
    by_cases hlt : n < ks.length
    · obtain ⟨b, off, hA, hb1, hr1'⟩ := (hrd2.lat hLW).row n hlt
      subst hA
      have hr1 : RowAt wr b (off + n * 3) (kC ks[n]) := hr1'
      have HTK := Lib.hid (frc_take qs ks n hlt)
      have hlen : (frc qs (ks.take n)).length ≤ n := by
        have := frc_len qs (ks.take n)
        rw [List.length_take] at this
        omega
      clear hr1'
      generalize ks[n] = k at *
      generalize frc qs (ks.take n) = Y at *
      have hL3 : Lat wr (wr.alloc (.cells (kC k).toArray 34)) := Lat.al _ _
      have hbk := Blk.new wr 34 (kC k).toArray
      have HFO := fun (r : LkR) (l : LLock) (w' : World) (hs : r.Says w' l) (hbig : l.force.length ≤ 1000000) => Lib.hid (forced_any r l k w' hs hbig)
      have HJ0 : Hid (frcd qs k = frcd (qs.drop 0) k) := Lib.hid rfl
      have HFD := fun j h => frcd_drop qs k j h
      have HFW : Hid (∀ p : LkR × LLock, fwr k p = ⟨k, (getI p.2.force k).val, 4, p.1.name, 100 - cl p.1.rank, 0⟩) := Lib.hid (fun p => rfl)
      generalize frcd qs k = R at *
      obtain ⟨k1, k2, k3⟩ := k
      simp only [kC] at hr1 hL3 hbk HFO
      go_wp2_with (with_reducible refine wpList_load_at rfl 34 _ rfl b (off + n * 3) rfl _ _ hr1 Tryz.underlying34 rfl (by kernel_rfl) ?_)
      clear hr1
      generalize hw3 : wr.alloc (.cells #[.int .i64 k1, .string k2, .string k3] 34) = w3 at *
      generalize hgg : wr.heap.size = g at *
      have hLW3 : Lat w2 w3 := hLW.trans hL3
      have hown3 := hown.lat hL3
      clear hown hLW
      have HL3 := Lib.hid hLW3
      go_loopw [6, 26] (fun v i wr => ∃ j : Nat, j ≤ qs.length ∧ i = .int .i64 j ∧ Hid (R = frcd (qs.drop j) ⟨k1, k2, k3⟩) ∧ EW.Own wr w2.heap.size Y v ∧ Lat w3 wr) (fun _ i _ => qs.length - (intOf i).toNat)
      case atStart => exact ⟨0, Nat.zero_le _, rfl, HJ0, hown3, Lat.refl _⟩
      case round =>
        clear HJ0 hLW3 hown3
        obtain ⟨j, hjl, rfl, HJ, hown4, hLi⟩ := hrel
        have hLW := HL3.out.trans hLi
        by_cases hlt2 : j < qs.length
        · obtain ⟨b0, off0, hA, hb0, hr0, hsy⟩ := (hrd1.lat hLW).row j hlt2
          subst hA
          have hfd := HFD j hlt2
          have hfw := HFW.out qs[j]
          have hfi : (qs[j]).2.force.length ≤ 1000000 := by
            have := HQF.out _ (List.getElem_mem hlt2)
            unfold itsOf at this
            rw [List.length_append] at this
            omega
          generalize qs[j] = P at *
          obtain ⟨X, Y2⟩ := P
          dsimp only at hfd hfw hfi hsy hr0
          have hLB := Lat.al wr (.cells (lkC X).toArray 40)
          have HF := HFO X Y2 (wr.alloc (.cells (lkC X).toArray 40)) (hsy.lat hLB) hfi
          have hck := (hbk.lat (hLi.trans hLB)).cell
          have hbx := Blk.new wr 40 (lkC X).toArray
          generalize hB : hasI Y2.force ⟨k1, k2, k3⟩ = BB at *
          generalize hZ : (getI Y2.force ⟨k1, k2, k3⟩) = Z at *
          simp only [gotV, hB, hZ] at HF
          have HNEW := Lib.hid (HJ.out.trans hfd)
          have HFW2 := Lib.hid hfw
          clear HJ hfd hfw hB hZ
          obtain ⟨z0, ⟨z1, z2, z3⟩, z4⟩ := Z
          obtain ⟨a1, a2, ⟨b1, b2, b3, b4, ⟨b5, b6, b7⟩, ⟨b8, b9, b10⟩, b11, b12, b13⟩, a3, a4, a5, a6, a7, a8, a9⟩ := X
          simp only [lkC, whC, kC, vC, List.cons_append, List.nil_append] at hr0 HF hLB hck hbx
          have hrb : RowAt (wr.alloc (.cells #[.string a1, .int .i64 a2, .int .i64 b1, .int .i64 b2, .int .i64 b3, .string b4, .int .i64 b5, .int .i64 b6, .string b7, .int .i64 b8, .string b9, .string b10, .slice b11 b12 b13, .bool a3, .slice a4 a5 a6, .slice a7 a8 a9] 40)) wr.heap.size 0 [.string a1, .int .i64 a2, .int .i64 b1, .int .i64 b2, .int .i64 b3, .string b4, .int .i64 b5, .int .i64 b6, .string b7, .int .i64 b8, .string b9, .string b10, .slice b11 b12 b13, .bool a3, .slice a4 a5 a6, .slice a7 a8 a9] := hbx.row
          go_wp2_with (first | (with_reducible refine wpList_load_at rfl 40 _ rfl b0 (off0 + j * 16) rfl _ _ hr0 Tryz.underlying40 rfl (by kernel_rfl) ?_) | (with_reducible refine wpList_load_at rfl 40 _ rfl wr.heap.size 0 rfl _ _ hrb Tryz.underlying40 rfl (by kernel_rfl) ?_))
          refine HF.out.mono ?_
          rintro e w5 ⟨rfl, hl5⟩
          have hL5 := (hLi.trans hLB).trans hl5
          have hbx2 := hbx.lat hl5
          have hLv := hL5.trans (Lat.al w5 (.cells #[.int .i64 z1, .int .i64 z2, .string z3] 32))
          clear HF hrb hr0 hck
          cases BB
          · have HN2 := Lib.hid (HNEW.out.trans (by rw [if_neg (by decide)]))
            clear HNEW HFW2
            go_wp2_with fail
            go_roundw
            case rel => exact ⟨j + 1, by omega, by go_num, HN2, (hown4.lat hLB).lat (hl5.trans (Lat.al _ _)), hLv⟩
            case measure => simp [intOf]; omega
          · have HN2 := Lib.hid (HNEW.out.trans (by rw [if_pos rfl]))
            have hN : cl a2 = if (if 100 < a2 then 100 else a2) > 0 then (if 100 < a2 then 100 else a2) else 0 := rfl
            have hmi : ∀ (ats : Array TypeId) (ty : TypeId) (w : World), (Builtin.min_ ats ty #[.int .i64 a2, .int .i64 100]).run Tryz.prog w = .ok (.int .i64 (if 100 < a2 then 100 else a2)) w := fun _ _ _ => rfl
            have hma : ∀ (ats : Array TypeId) (ty : TypeId) (w : World), (Builtin.max_ ats ty #[.int .i64 0, .int .i64 (if 100 < a2 then 100 else a2)]).run Tryz.prog w = .ok (.int .i64 (cl a2)) w := fun _ _ _ => rfl
            have hge := cl_ge a2
            have hle := cl_le a2
            generalize cl a2 = N at *
            generalize (if 100 < a2 then (100 : Int) else a2) = M at *
            have hwr : IntKind.i64.wrap (100 - N) = 100 - N := by rw [IntKind.wrap_i64]; omega
            clear hN hge hle HNEW
            have hkc := (hbk.lat hLv).cell
            have hbc := (hbx2.alloc (.cells #[.int .i64 z1, .int .i64 z2, .string z3] 32)).cell
            have hnew := Blk.at1 w5 (.cells #[.int .i64 z1, .int .i64 z2, .string z3] 32) 44 #[.int .i64 k1, .string k2, .string k3, .int .i64 z1, .int .i64 z2, .string z3, .int .i64 4, .string a1, .int .i64 (100 - N), .int .i64 0]
            have hown6 := ((hown4.lat hLB).lat (hl5.trans (Lat.al w5 (.cells #[.int .i64 z1, .int .i64 z2, .string z3] 32)))).al (.cells #[.int .i64 k1, .string k2, .string k3, .int .i64 z1, .int .i64 z2, .string z3, .int .i64 4, .string a1, .int .i64 (100 - N), .int .i64 0] 44)
            have hL6 : Lat w2 ((w5.alloc (.cells #[.int .i64 z1, .int .i64 z2, .string z3] 32)).alloc (.cells #[.int .i64 k1, .string k2, .string k3, .int .i64 z1, .int .i64 z2, .string z3, .int .i64 4, .string a1, .int .i64 (100 - N), .int .i64 0] 44)) := (HL3.out.trans hLv).trans (Lat.al _ _)
            have hbse := hL6.size
            have hmax : Y.length + 1 ≤ maxLen := by unfold maxLen; omega
            have hby : (Y.length + 1) * EW.bytes ≤ 140737488355328 := Nat.le_trans (Nat.mul_le_mul_right EW.bytes (by omega : Y.length + 1 ≤ 1000000)) (by decide)
            have HT2 := Lib.hid (fun k (hk : u6.ownBlock = some k) => (hown4.lt k hk).1)
            clear hown4 hbx hbx2 hLv hLB hl5 hL5
            go_wp2_with (at_builtin; refine EW.append rfl _ _ rfl w2.heap.size Y _ rfl hown6 (w5.heap.size + 1) 1 (⟨⟨k1, k2, k3⟩, ⟨z1, z2, z3⟩, 4, a1, 100 - N, 0⟩ : LW) rfl 44 hnew hmax hby hbse ?_; intro v7 w7 hown7 hg7 hw7; go_must (have hLW8 : Lat w2 w7 := hL6.grown hg7 hbse HT2.out; clear hnew hg7 hw7 hkc hbc))
            go_roundw
            case rel => exact ⟨n + 1, by omega, by go_num, by rw [HTK.out, HN2.out, HFW2.out]; exact hown7, hLW8⟩
            case measure => simp [intOf]; omega
        · have HN2 : Hid (R = none) := Lib.hid (HJ.out.trans (by rw [List.drop_of_length_le (by omega)]; rfl))
          clear HJ
          go_wp2_with fail
          go_roundw
          case rel => exact ⟨n + 1, by omega, by go_num, by rw [HTK.out, HN2.out]; simpa using hown4, hLW⟩
          case measure => simp [intOf]; omega
    · have hj : n = ks.length := by omega
      subst hj
      rw [List.take_length] at hown
      go_wp2_with fail
      simp only [Exit.noGoto_ret]
      go_ret
      exact ⟨ks, _, rfl, hown.mono HL0.out.size, HKM.out.1, HKM.out.2, HL0.out.trans hLW⟩
end Go.Proofs.YtmgalnbacenbbaaGreat
