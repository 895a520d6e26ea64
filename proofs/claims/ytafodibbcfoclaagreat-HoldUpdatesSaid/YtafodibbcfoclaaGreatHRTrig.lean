/- Hold: the reference's Trigger and First. -/
import Derived.Test.YtafodibbcfoclaaGreatHSane
import Derived.Test.YtafodibbcfoclaaGreatHPlains
set_option linter.unusedSimpArgs false
set_option linter.unusedVariables false
namespace Go.Proofs.YtafodibbcfoclaaGreat
open Go.RowKit

set_option maxRecDepth 100000 in
set_option maxHeartbeats 2000000 in
theorem rtrigger_any (r : RlR) (on : List TrR) (w : World) (hon : EG.Rd w on (.slice r.oA r.on r.oc)) (hbig : on.length ≤ 1000000) :
    Calls Tryz.prog 33 #[.agg (rC r).toArray] w fun rr w' => rr = .returned (.tuple #[.int .i64 ((trg on).getD 0), .bool (trg on).isSome]) ∧ Lat w w' := by
  have hlen : r.on = on.length := by
    obtain ⟨A', c', hv, _⟩ := hon
    injection hv
  obtain ⟨x1, x2, x3, x4, x5, ⟨y1, y2, y3, y4, y5, y6, y7, y8, y9, y10⟩, x6, x7, x8, x9, x10, x11⟩ := r
  dsimp only at hlen hon
  subst hlen
  simp only [rC]
  have H0 : Hid (trg on = trg (on.drop 0)) := Lib.hid rfl
  have hL0 : Lat w (w.alloc (.cells #[.string x1, .int .i64 x2, .slice x3 on.length x5, .int .i64 y1, .int .i64 y2, .int .i64 y3, .string y4, .int .i64 y5, .int .i64 y6, .string y7, .int .i64 y8, .string y9, .string y10, .slice x6 x7 x8, .slice x9 x10 x11] 44)) := Lat.al _ _
  have hb0 := Blk.new w 44 #[.string x1, .int .i64 x2, .slice x3 on.length x5, .int .i64 y1, .int .i64 y2, .int .i64 y3, .string y4, .int .i64 y5, .int .i64 y6, .string y7, .int .i64 y8, .string y9, .string y10, .slice x6 x7 x8, .slice x9 x10 x11]
  have cb := hb0.cell
  generalize trg on = T at *
  go_enter Tryz.func33, Tryz.ntmps33
  go_wp2_with fail
  go_loopw [8] (fun i wr => ∃ j : Nat, j ≤ on.length ∧ i = .int .i64 j ∧ Hid (T = trg (on.drop j)) ∧ Lat (w.alloc (.cells #[.string x1, .int .i64 x2, .slice x3 on.length x5, .int .i64 y1, .int .i64 y2, .int .i64 y3, .string y4, .int .i64 y5, .int .i64 y6, .string y7, .int .i64 y8, .string y9, .string y10, .slice x6 x7 x8, .slice x9 x10 x11] 44)) wr) (fun i _ => on.length - (intOf i).toNat)
  case atStart => exact ⟨0, Nat.zero_le _, rfl, H0, Lat.refl _⟩
  case round =>
    clear H0 cb
    obtain ⟨j, hjl, rfl, HT, hLW⟩ := hrel
    have hbx := hb0.lat hLW
    have cx := hbx.cell
    have hL1 := hL0.trans hLW
    have HLW := Lib.hid hLW
    clear hb0 hL0 hLW
    by_cases hlt : j < on.length
    · obtain ⟨b, off, hA, hb1, hr1'⟩ := (hon.lat hL1).row j hlt
      subst hA
      have hr1 : RowAt wr b (off + j * 10) (gC on[j]) := hr1'
      have hc0 : wr.cell? ⟨b, off + j * 10, none⟩ = some (.int .i64 on[j].kind) := hr1 0 _ rfl
      have hc8 : wr.cell? ⟨b, off + j * 10 + 8, none⟩ = some (.int .i64 on[j].n) := hr1 8 _ rfl
      have HD := trg_drop on j hlt
      have HTK := fun (w' : World) => Lib.hid (tick_any on[j].n w')
      clear hr1 hr1' hon
      generalize on[j].kind = K at *
      generalize on[j].n = N at *
      by_cases h6 : K = 6
      · subst h6
        rw [if_pos rfl] at HD
        have hT : T = some (lim N) := HT.out.trans HD
        clear HT HD
        go_wp2_with fail
        refine (HTK _).out.mono ?_
        rintro r w5 ⟨rfl, rfl⟩
        clear HTK
        go_wp2_with fail
        refine bodyPost_ret (v := ?_) ?_ rfl ?_
        rotate_left
        · simp [results, Tryz.results33, go_sem]; exact rfl
        subst hT
        exact ⟨rfl, hL1⟩
      · rw [if_neg h6] at HD
        have HT2 : Hid (T = trg (on.drop (j + 1))) := Lib.hid (HT.out.trans HD)
        have h6' : (K == 6) = false := by simpa using h6
        clear HT HD HTK
        go_wp2_with fail
        go_roundw
        case rel => exact ⟨j + 1, by omega, by go_num, HT2, HLW.out⟩
        case measure => simp [intOf]; omega
    · have hj : j = on.length := by omega
      have hT : T = none := HT.out.trans (by rw [hj, List.drop_length]; rfl)
      clear HT
      subst hj
      go_wp2_with fail
      refine bodyPost_ret (v := ?_) ?_ rfl ?_
      rotate_left
      · simp [results, Tryz.results33, go_sem]; exact rfl
      subst hT
      exact ⟨rfl, hL1⟩
theorem hasN_step (l : List ByteArray) (s : ByteArray) (j : Nat) (h : j < l.length) (h0 : hasN (l.take j) s = false) (he : l[j] ≠ s) : hasN (l.take (j + 1)) s = false := by
  unfold hasN at h0 ⊢
  rw [List.take_succ_eq_append_getElem h, List.any_append, h0]
  simp [he]
theorem hasN_found (l : List ByteArray) (s : ByteArray) (i j : Nat) (h : j < l.length) (hj : j < i) (he : l[j] = s) : hasN (l.take i) s = true := by
  rw [hasN_iff, List.mem_take_iff_getElem]
  exact ⟨j, by omega, he⟩
set_option maxRecDepth 100000 in
set_option maxHeartbeats 2000000 in
theorem rfirst_any (ps : List RP) (B : Option Addr) (m : Nat) (i : Nat) (hi : i < ps.length) (w : World) (hy : RdR w ps (.slice B ps.length m)) (hbig : ps.length ≤ 1000000) :
    Calls Tryz.prog 34 #[.slice B ps.length m, .int .i64 i] w fun rr w' => rr = .returned (.bool (!hasN ((ps.take i).map (fun q => q.1.name)) ps[i].1.name)) ∧ Lat w w' := by
  have hml : (ps.map (fun q : RP => q.1.name)).length = ps.length := List.length_map _
  have hmg : ∀ (j : Nat) (h : j < ps.length), (ps.map (fun q : RP => q.1.name))[j]'(by rw [hml]; exact h) = ps[j].1.name := fun j h => List.getElem_map _
  rw [List.map_take]
  generalize hM : ps.map (fun q : RP => q.1.name) = M at *
  generalize hN : ps[i].1.name = NM at *
  have HN := Lib.hid hN
  have H0 : Hid (hasN (M.take 0) NM = false) := Lib.hid rfl
  have hii : (i : Int) < ps.length := by omega
  clear hM hN
  go_enter Tryz.func34, Tryz.ntmps34
  go_wp2_with fail
  go_loopw [5] (fun kk wr => ∃ k : Nat, k ≤ i ∧ kk = .int .i64 k ∧ Hid (hasN (M.take k) NM = false) ∧ Lat w wr) (fun kk _ => i - (intOf kk).toNat)
  case atStart => exact ⟨0, Nat.zero_le _, rfl, H0, Lat.refl _⟩
  case round =>
    clear H0
    obtain ⟨k, hkl, rfl, HT, hLW⟩ := hrel
    by_cases hlt : k < i
    · obtain ⟨b, off, hA, hb0, hr1, -⟩ := (hy.lat hLW).row k (by omega)
      obtain ⟨b', off', hA', -, hr2, -⟩ := (hy.lat hLW).row i hi
      rw [hA] at hA'
      injection hA' with e
      injection e with e1 e2
      subst e1 e2 hA
      have hck : wr.cell? ⟨b, off + k * 15, none⟩ = some (.string (ps[k]'(by omega)).1.name) := hr1 0 _ rfl
      have hci : wr.cell? ⟨b, off + i * 15, none⟩ = some (.string NM) := by rw [← HN.out]; exact hr2 0 _ rfl
      have hkp : k < ps.length := by omega
      have hkm : k < M.length := by omega
      have HS : ps[k].1.name ≠ NM → Hid (hasN (M.take (k + 1)) NM = false) := fun he => Lib.hid (hasN_step M NM k hkm HT.out (by rw [hmg k hkp]; exact he))
      have HFD : ps[k].1.name = NM → Hid (hasN (M.take i) NM = true) := fun he => Lib.hid (hasN_found M NM i k hkm hlt (by rw [hmg k hkp]; exact he))
      have hki : (k : Int) < ps.length := by omega
      have hlt' : (k : Int) < (i : Int) := by omega
      clear hr1 hr2 hy HT hmg hkm HN
      generalize ps[k].1.name = X at *
      go_upto_region 4 with fail
      by_cases he : X = NM
      · have hb4 : (X.toList == NM.toList) = true := by rw [he]; simp
        have HR := HFD he
        clear HS HFD he
        refine wp_rely (by kernel_rfl) (by kernel_rfl) ?_
        apply RelyL.val
        · intro ν w' hL hF K hK'
          have c1 := (hL.cell (p := ⟨b, off + k * 15, none⟩) hb0).trans hck
          have c2 := (hL.cell (p := ⟨b, off + i * 15, none⟩) hb0).trans hci
          go_simp
          exact hK'.out _ _ rfl (Lat.refl _)
        simp only [Act.put, List.setIfInBounds_toArray, List.set_cons_zero, List.set_cons_succ, Nat.reduceAdd]
        apply RelyL.val
        · intro ν w' hL hF K hK'
          have c1 := (hL.cell (p := ⟨b, off + k * 15, none⟩) hb0).trans hck
          have c2 := (hL.cell (p := ⟨b, off + i * 15, none⟩) hb0).trans hci
          go_simp
          exact hK'.out _ _ rfl (Lat.refl _)
        simp only [Act.put, List.setIfInBounds_toArray, List.set_cons_zero, List.set_cons_succ, Nat.reduceAdd]
        apply RelyL.val
        · intro ν w' hL hF K hK'
          have c1 := (hL.cell (p := ⟨b, off + k * 15, none⟩) hb0).trans hck
          have c2 := (hL.cell (p := ⟨b, off + i * 15, none⟩) hb0).trans hci
          go_simp
          exact hK'.out _ _ rfl (Lat.refl _)
        simp only [Act.put, List.setIfInBounds_toArray, List.set_cons_zero, List.set_cons_succ, Nat.reduceAdd]
        apply RelyL.val
        · intro ν w' hL hF K hK'
          have c1 := (hL.cell (p := ⟨b, off + k * 15, none⟩) hb0).trans hck
          have c2 := (hL.cell (p := ⟨b, off + i * 15, none⟩) hb0).trans hci
          go_simp
          exact hK'.out _ _ rfl (Lat.refl _)
        simp only [Act.put, List.setIfInBounds_toArray, List.set_cons_zero, List.set_cons_succ, Nat.reduceAdd]
        apply RelyL.val
        · intro ν w' hL hF K hK'
          have c1 := (hL.cell (p := ⟨b, off + k * 15, none⟩) hb0).trans hck
          have c2 := (hL.cell (p := ⟨b, off + i * 15, none⟩) hb0).trans hci
          go_simp
          exact hK'.out _ _ rfl (Lat.refl _)
        simp only [Act.put, List.setIfInBounds_toArray, List.set_cons_zero, List.set_cons_succ, Nat.reduceAdd]
        apply RelyL.val
        · intro ν w' hL hF K hK'
          have c1 := (hL.cell (p := ⟨b, off + k * 15, none⟩) hb0).trans hck
          have c2 := (hL.cell (p := ⟨b, off + i * 15, none⟩) hb0).trans hci
          go_simp
          exact hK'.out _ _ rfl (Lat.refl _)
        simp only [Act.put, List.setIfInBounds_toArray, List.set_cons_zero, List.set_cons_succ, Nat.reduceAdd]
        apply RelyL.val
        · intro ν w' hL hF K hK'
          have c1 := (hL.cell (p := ⟨b, off + k * 15, none⟩) hb0).trans hck
          have c2 := (hL.cell (p := ⟨b, off + i * 15, none⟩) hb0).trans hci
          go_simp
          exact hK'.out _ _ rfl (Lat.refl _)
        simp only [Act.put, List.setIfInBounds_toArray, List.set_cons_zero, List.set_cons_succ, Nat.reduceAdd]
        apply RelyL.val
        · intro ν w' hL hF K hK'
          have c1 := (hL.cell (p := ⟨b, off + k * 15, none⟩) hb0).trans hck
          have c2 := (hL.cell (p := ⟨b, off + i * 15, none⟩) hb0).trans hci
          go_simp
          exact hK'.out _ _ rfl (Lat.refl _)
        simp only [Act.put, List.setIfInBounds_toArray, List.set_cons_zero, List.set_cons_succ, Nat.reduceAdd]
        apply RelyL.val
        · intro ν w' hL hF K hK'
          have c1 := (hL.cell (p := ⟨b, off + k * 15, none⟩) hb0).trans hck
          have c2 := (hL.cell (p := ⟨b, off + i * 15, none⟩) hb0).trans hci
          go_simp
          exact hK'.out _ _ rfl (Lat.refl _)
        simp only [Act.put, List.setIfInBounds_toArray, List.set_cons_zero, List.set_cons_succ, Nat.reduceAdd]
        apply RelyL.val
        · intro ν w' hL hF K hK'
          have c1 := (hL.cell (p := ⟨b, off + k * 15, none⟩) hb0).trans hck
          have c2 := (hL.cell (p := ⟨b, off + i * 15, none⟩) hb0).trans hci
          go_simp
          exact hK'.out _ _ rfl (Lat.refl _)
        simp only [Act.put, List.setIfInBounds_toArray, List.set_cons_zero, List.set_cons_succ, Nat.reduceAdd]
        apply RelyL.val
        · intro ν w' hL hF K hK'
          have c1 := (hL.cell (p := ⟨b, off + k * 15, none⟩) hb0).trans hck
          have c2 := (hL.cell (p := ⟨b, off + i * 15, none⟩) hb0).trans hci
          go_simp
          exact hK'.out _ _ rfl (Lat.refl _)
        simp only [Act.put, List.setIfInBounds_toArray, List.set_cons_zero, List.set_cons_succ, Nat.reduceAdd]
        refine RelyL.done fun ν w5 hL hF => ?_
        have hL5 := hLW.trans hL
        clear hF hL hLW hck hci hb0
        go_wp2_with fail
        go_ret
        rw [HR.out]
        exact ⟨rfl, hL5⟩
      · have hb4 : (X.toList == NM.toList) = false := by rw [toList_beq]; simpa using he
        have HR := HS he
        clear HS HFD he
        refine wp_rely (by kernel_rfl) (by kernel_rfl) ?_
        apply RelyL.val
        · intro ν w' hL hF K hK'
          have c1 := (hL.cell (p := ⟨b, off + k * 15, none⟩) hb0).trans hck
          have c2 := (hL.cell (p := ⟨b, off + i * 15, none⟩) hb0).trans hci
          go_simp
          exact hK'.out _ _ rfl (Lat.refl _)
        simp only [Act.put, List.setIfInBounds_toArray, List.set_cons_zero, List.set_cons_succ, Nat.reduceAdd]
        apply RelyL.val
        · intro ν w' hL hF K hK'
          have c1 := (hL.cell (p := ⟨b, off + k * 15, none⟩) hb0).trans hck
          have c2 := (hL.cell (p := ⟨b, off + i * 15, none⟩) hb0).trans hci
          go_simp
          exact hK'.out _ _ rfl (Lat.refl _)
        simp only [Act.put, List.setIfInBounds_toArray, List.set_cons_zero, List.set_cons_succ, Nat.reduceAdd]
        apply RelyL.val
        · intro ν w' hL hF K hK'
          have c1 := (hL.cell (p := ⟨b, off + k * 15, none⟩) hb0).trans hck
          have c2 := (hL.cell (p := ⟨b, off + i * 15, none⟩) hb0).trans hci
          go_simp
          exact hK'.out _ _ rfl (Lat.refl _)
        simp only [Act.put, List.setIfInBounds_toArray, List.set_cons_zero, List.set_cons_succ, Nat.reduceAdd]
        apply RelyL.val
        · intro ν w' hL hF K hK'
          have c1 := (hL.cell (p := ⟨b, off + k * 15, none⟩) hb0).trans hck
          have c2 := (hL.cell (p := ⟨b, off + i * 15, none⟩) hb0).trans hci
          go_simp
          exact hK'.out _ _ rfl (Lat.refl _)
        simp only [Act.put, List.setIfInBounds_toArray, List.set_cons_zero, List.set_cons_succ, Nat.reduceAdd]
        apply RelyL.val
        · intro ν w' hL hF K hK'
          have c1 := (hL.cell (p := ⟨b, off + k * 15, none⟩) hb0).trans hck
          have c2 := (hL.cell (p := ⟨b, off + i * 15, none⟩) hb0).trans hci
          go_simp
          exact hK'.out _ _ rfl (Lat.refl _)
        simp only [Act.put, List.setIfInBounds_toArray, List.set_cons_zero, List.set_cons_succ, Nat.reduceAdd]
        apply RelyL.val
        · intro ν w' hL hF K hK'
          have c1 := (hL.cell (p := ⟨b, off + k * 15, none⟩) hb0).trans hck
          have c2 := (hL.cell (p := ⟨b, off + i * 15, none⟩) hb0).trans hci
          go_simp
          exact hK'.out _ _ rfl (Lat.refl _)
        simp only [Act.put, List.setIfInBounds_toArray, List.set_cons_zero, List.set_cons_succ, Nat.reduceAdd]
        apply RelyL.val
        · intro ν w' hL hF K hK'
          have c1 := (hL.cell (p := ⟨b, off + k * 15, none⟩) hb0).trans hck
          have c2 := (hL.cell (p := ⟨b, off + i * 15, none⟩) hb0).trans hci
          go_simp
          exact hK'.out _ _ rfl (Lat.refl _)
        simp only [Act.put, List.setIfInBounds_toArray, List.set_cons_zero, List.set_cons_succ, Nat.reduceAdd]
        apply RelyL.val
        · intro ν w' hL hF K hK'
          have c1 := (hL.cell (p := ⟨b, off + k * 15, none⟩) hb0).trans hck
          have c2 := (hL.cell (p := ⟨b, off + i * 15, none⟩) hb0).trans hci
          go_simp
          exact hK'.out _ _ rfl (Lat.refl _)
        simp only [Act.put, List.setIfInBounds_toArray, List.set_cons_zero, List.set_cons_succ, Nat.reduceAdd]
        apply RelyL.val
        · intro ν w' hL hF K hK'
          have c1 := (hL.cell (p := ⟨b, off + k * 15, none⟩) hb0).trans hck
          have c2 := (hL.cell (p := ⟨b, off + i * 15, none⟩) hb0).trans hci
          go_simp
          exact hK'.out _ _ rfl (Lat.refl _)
        simp only [Act.put, List.setIfInBounds_toArray, List.set_cons_zero, List.set_cons_succ, Nat.reduceAdd]
        apply RelyL.val
        · intro ν w' hL hF K hK'
          have c1 := (hL.cell (p := ⟨b, off + k * 15, none⟩) hb0).trans hck
          have c2 := (hL.cell (p := ⟨b, off + i * 15, none⟩) hb0).trans hci
          go_simp
          exact hK'.out _ _ rfl (Lat.refl _)
        simp only [Act.put, List.setIfInBounds_toArray, List.set_cons_zero, List.set_cons_succ, Nat.reduceAdd]
        apply RelyL.val
        · intro ν w' hL hF K hK'
          have c1 := (hL.cell (p := ⟨b, off + k * 15, none⟩) hb0).trans hck
          have c2 := (hL.cell (p := ⟨b, off + i * 15, none⟩) hb0).trans hci
          go_simp
          exact hK'.out _ _ rfl (Lat.refl _)
        simp only [Act.put, List.setIfInBounds_toArray, List.set_cons_zero, List.set_cons_succ, Nat.reduceAdd]
        refine RelyL.done fun ν w5 hL hF => ?_
        have hL5 := hLW.trans hL
        clear hF hL hLW hck hci hb0
        go_wp2_with fail
        go_roundw
        case rel => exact ⟨k + 1, by omega, by go_num, HR, hL5⟩
        case measure => simp [intOf]; omega
    · have hk : k = i := by omega
      subst hk
      have HR := HT.out
      have hlt' : ¬ ((k : Int) < (k : Int)) := by omega
      go_wp2_with fail
      go_ret
      exact ⟨rfl, hLW⟩
end Go.Proofs.YtafodibbcfoclaaGreat
