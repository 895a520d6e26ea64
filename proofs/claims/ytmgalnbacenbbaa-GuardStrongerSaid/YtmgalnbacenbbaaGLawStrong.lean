/- Guard: a value that a lock forces is blocked by a stronger lock alone: the law walked. -/
import Derived.Test.YtmgalnbacenbbaaGLawOrder
import Derived.Test.YtmgalnbacenbbaaGStrong
set_option linter.unusedSimpArgs false
set_option linter.unusedVariables false
namespace Go.Proofs.Ytmgalnbacenbbaa
open Go.RowKit

/-- Where the lock of a name is, so far. -/
def AtIs (ps : List (LkR × LLock)) (by_ : ByteArray) (i : Nat) (z : Value) : Prop := (z = .int .i64 (-1) ∧ ∀ (q : Nat) (hq : q < ps.length), q < i → ps[q].1.name ≠ by_) ∨ ∃ (j : Nat) (hj : j < ps.length), z = .int .i64 (j : Int) ∧ ps[j].1.name = by_
theorem AtIs.skip {ps : List (LkR × LLock)} {by_ : ByteArray} {i : Nat} {z : Value} (h : AtIs ps by_ i z) (hi : i < ps.length) (he : ps[i].1.name ≠ by_) : AtIs ps by_ (i + 1) z := by
  rcases h with ⟨e, h⟩ | h
  · refine .inl ⟨e, fun q hq hlt => ?_⟩
    by_cases e2 : q = i
    · subst e2; exact he
    · exact h q hq (by omega)
  · exact .inr h
theorem strg_nil (ps : List (LkR × LLock)) : strg ps [] = [] := by
  unfold strg
  have : ps.filter (actP []) = [] := List.filter_eq_nil_iff.2 (fun a _ => by simp [actP])
  rw [this]; rfl
theorem frc_nil (ks : List LKey) : frc [] ks = [] := by
  unfold frc
  rw [List.filterMap_eq_nil_iff]
  intro a _; rfl
theorem any_take (acts : List ByteArray) (s : ByteArray) (j : Nat) (h : j < acts.length) : (acts.take (j + 1)).any (fun x => decide (x = s)) = ((acts.take j).any (fun x => decide (x = s)) || decide (acts[j] = s)) := by
  rw [List.take_succ_eq_append_getElem h, List.any_append]
  simp
set_option maxRecDepth 100000 in
set_option maxHeartbeats 8000000 in
theorem lawStrong (ps : List (LkR × LLock)) (A : Option Addr) (c : Nat) (acts : List ByteArray) (B : Option Addr) (m : Nat) (k : LKey) (v : LVal) (w : World) (hx : RdL w ps (.slice A ps.length c)) (hy : ES.Rd w acts (.slice B acts.length m)) :
    Calls Try.prog 6 #[.agg (caC A ps.length c B acts.length m k v).toArray] w fun r w' => r = .returned (.bool true) ∧ Lat w w' := by
  have HLV := fun w' => Lib.hid (lives_any w')
  have hL0 : Lat w (w.alloc (.cells (caC A ps.length c B acts.length m k v).toArray 37)) := Lat.al _ _
  have hb0 := Blk.new w 37 (caC A ps.length c B acts.length m k v).toArray
  have HG := Lib.hid (great_any ps A c acts B m (w.alloc (.cells (caC A ps.length c B acts.length m k v).toArray 37)) (hx.lat hL0))
  have HUN := fun (hf : Fits ps acts) (w' : World) (hl : Lat w w') => Lib.hid (unlike_any ps A c w' (hx.lat hl) (by have := hf.locks; omega))
  have HF0 := fun (hf : Fits ps acts) (w' : World) (hl : Lat w w') => Lib.hid (show Calls Try.prog 12 #[.slice A ps.length c, .slice none 0 0] w' (fun r w'' => (∃ A c, r = .returned (.slice A 0 c)) ∧ Lat w' w'') from by
    refine (forced_at ps A c [] none 0 w' (hx.lat hl) (Elt.Rd.nil _) ⟨hf.locks, by simp, hf.items⟩).mono ?_
    rintro r w'' ⟨⟨v, rfl, ks, A', c', rfl, -⟩, hl'⟩
    rw [strg_nil, frc_nil]
    exact ⟨⟨A', c', rfl⟩, hl'⟩)
  have HB0 := fun (hf : Fits ps acts) (w' : World) (hl : Lat w w') => Lib.hid (show Calls Try.prog 18 #[.slice A ps.length c, .slice none 0 0, .agg (kC k).toArray, .agg (vC v).toArray] w' (fun r w'' => r = .returned (.string ⟨#[]⟩) ∧ Lat w' w'') from by
    have h := blocked_any ps A c [] none 0 k v w' (hx.lat hl) (Elt.Rd.nil _) (by have := hf.locks; omega) (by simp) hf.few
    rw [show blkAll ps [] k v = ⟨#[]⟩ from by unfold blkAll; rw [strg_nil]; rfl] at h
    exact h)
  have HB := fun (hf : Fits ps acts) (w' : World) (hl : Lat w w') => Lib.hid (blocked_any ps A c acts B m k v w' (hx.lat hl) (hy.lat hl) (by have := hf.locks; omega) (by have := hf.acts; omega) hf.few)
  have HGT := fun (l : List LItem) (A : Option Addr) (c : Nat) (w' : World) (hx : EI.Rd w' l (.slice A l.length c)) (hbig : l.length ≤ 1000000) => Lib.hid (rget_any l A c k w' hx hbig)
  have HNM : Hid (∀ p ∈ ps, p.1.name = p.2.name) := Lib.hid (fun p hp => (hx.2 p hp).name)
  have HBN : Hid (blkAll ps acts k v ≠ ⟨#[]⟩ → ∃ (j : Nat) (hj : j < ps.length), ps[j].1.name = blkAll ps acts k v) := Lib.hid (blk_named HNM.out)
  have HWK : Hid (Unlike ps → blkAll ps acts k v ≠ ⟨#[]⟩ → ∀ x ∈ ps, ∀ y ∈ ps, y.1.name = blkAll ps acts k v → actP acts x = true → hasI x.2.force k = true → (getI x.2.force k).val = v → ¬ (x.1.rank < y.1.rank) ∧ (x.1.rank = y.1.rank → Op.bytesLess (blkAll ps acts k v).toList x.1.name.toList = true)) := Lib.hid (fun hu hne x hx y hy hn ho hf hv => weaker HNM.out hu hne hx hy hn ho hf hv)
  generalize blkAll ps acts k v = R at *
  obtain ⟨k1, k2, k3⟩ := k
  obtain ⟨v1, v2, v3⟩ := v
  simp only [caC, kC, vC] at hL0 hb0 HG HB0 HB HGT ⊢
  have hc0 := hb0.cell
  go_enter Try.func6, Try.ntmps6
  go_wp2_with fail
  refine HG.out.mono ?_
  rintro r w1 ⟨⟨b, rfl, hb⟩, hl1⟩
  have hL1 := hL0.trans hl1
  have hb1 := hb0.lat hl1
  have hc1 := hb1.cell
  clear HG hc0 hb0 hL0
  cases b
  · have HF := Lib.hid (hb rfl)
    have HU2 := HUN HF.out
    have HF2 := HF0 HF.out
    have HB2 := HB0 HF.out
    have HB3 := HB HF.out
    clear hb HUN HF0 HB0 HB
    go_wp2_with fail
    refine (HU2 _ hL1).out.mono ?_
    rintro r w2 ⟨⟨b, rfl, hu⟩, hl2⟩
    have hL2 := hL1.trans hl2
    have hb2 := hb1.lat hl2
    have hc2 := hb2.cell
    clear HU2 hc1 hb1
    cases b
    · clear hu HF2 HB2 HB3 HGT
      go_wp2_with fail
      refine (HLV _).out.mono ?_
      rintro r w4 ⟨rfl, hl4⟩
      have hL4 := hL2.trans hl4
      go_wp2_with fail
      go_ret
      exact ⟨rfl, hL4⟩
    · have HWK := Lib.hid (HWK.out (hu rfl))
      have hpl := HF.out.locks
      have hal := HF.out.acts
      clear hu
      go_wp2_with fail
      refine (HF2 _ hL2).out.mono ?_
      rintro r w3 ⟨⟨Af, cf, rfl⟩, hl3⟩
      have hL3 := hL2.trans hl3
      have hb3 := hb2.lat hl3
      have hc3 := hb3.cell
      clear HF2 hc2 hb2
      go_wp2_with fail
      refine (HB2 _ hL3).out.mono ?_
      rintro r w4 ⟨rfl, hl4⟩
      have hL4 := hL3.trans hl4
      have hb4 := hb3.lat hl4
      have hc4 := hb4.cell
      clear HB2 hc3 hb3
      go_wp2_with fail
      refine (HB3 _ hL4).out.mono ?_
      rintro r w5 ⟨rfl, hl5⟩
      have hL5 := hL4.trans hl5
      have hb5 := hb4.lat hl5
      clear HB3 hc4 hb4
      go_wp2_with fail
      have H5 := Lib.hid hL5
      go_loopw [4, 5] (fun z i wr => ∃ n : Nat, n ≤ ps.length ∧ i = .int .i64 n ∧ Hid (AtIs ps R n z) ∧ Lat w5 wr) (fun _ i _ => ps.length - (intOf i).toNat)
      case atStart => exact ⟨0, Nat.zero_le _, rfl, Lib.hid (.inl ⟨rfl, fun q hq h => by omega⟩), Lat.refl _⟩
      case round =>
        clear hL5
        obtain ⟨n, hnl, rfl, HAT, hLW⟩ := hrel
        have hcb := (hb5.lat hLW).cell
        by_cases hlt : n < ps.length
        · obtain ⟨b, off, hA, hbb, hr1, _⟩ := (hx.lat (H5.out.trans hLW)).row n hlt
          subst hA
          have cn := hr1 0 _ rfl
          rw [Nat.add_zero] at cn
          clear hr1
          by_cases he : ps[n].1.name = R
          · have HA2 : Hid (AtIs ps R (n + 1) (.int .i64 (n : Int))) := Lib.hid (.inr ⟨n, hlt, rfl, he⟩)
            rw [he] at cn
            clear HAT he
            go_wp2_with fail
            go_roundw
            case rel => exact ⟨n + 1, by omega, by go_num, HA2, hLW⟩
            case measure => simp [intOf]; omega
          · have HA2 := Lib.hid (HAT.out.skip hlt he)
            have hbeq : (ps[n].1.name.toList == R.toList) = false := by rw [toList_beq]; simpa using he
            clear HAT he
            generalize ps[n].1.name = X at cn hbeq
            go_wp2_with fail
            go_roundw
            case rel => exact ⟨n + 1, by omega, by go_num, HA2, hLW⟩
            case measure => simp [intOf]; omega
        · have hn : n = ps.length := by omega
          subst hn
          by_cases hz : R.size = 0
          · obtain rfl := size_nil hz
            have hL6 := H5.out.trans hLW
            clear HAT
            by_cases hp0 : 0 < ps.length
            · have hp1 : (0 : Int) < (ps.length : Int) := by omega
              clear hp0
              go_wp2_with fail
              refine wp_loop_rounds 1 ?_
              rw [rounds_succ]
              go_wp2_with fail
              refine (HLV _).out.mono ?_
              rintro r w9 ⟨rfl, hl9⟩
              have hL9 := hL6.trans hl9
              go_wp2_with fail
              go_ret
              exact ⟨rfl, hL9⟩
            · have hp1 : ¬ ((0 : Int) < (ps.length : Int)) := by omega
              clear hp0
              go_wp2_with fail
              refine wp_loop_rounds 1 ?_
              rw [rounds_succ]
              go_wp2_with fail
              refine (HLV _).out.mono ?_
              rintro r w9 ⟨rfl, hl9⟩
              have hL9 := hL6.trans hl9
              go_wp2_with fail
              go_ret
              exact ⟨rfl, hL9⟩
          · have hne0 : R ≠ ⟨#[]⟩ := fun e => hz (by rw [e]; rfl)
            obtain ⟨j0, hj0, ej0⟩ := HBN.out hne0
            have hat : ∃ (ja : Nat) (hj : ja < ps.length), u4 = .int .i64 (ja : Int) ∧ ps[ja].1.name = R := by
              rcases HAT.out with ⟨-, h⟩ | h
              · exact absurd ej0 (h j0 hj0 hj0)
              · exact h
            obtain ⟨ja, hja, rfl, eja⟩ := hat
            have HWK2 := Lib.hid (fun x hx => HWK.out hne0 x hx ps[ja] (List.getElem_mem hja) eja)
            have hs1 : ¬ R.toList = [] := fun h => hz ((toList_nil R).1 h)
            have hs2 : R.toList.isEmpty = false := by simpa using hs1
            have hne : (R.toList == []) = false := by simpa using hs1
            have hL6 := H5.out.trans hLW
            have hb6 := hb5.lat hLW
            clear hz hne0 ej0 hj0 HAT eja hLW hb5
            go_wp2_with fail
            clear hcb
            generalize wr = w6 at *
            have H6 := Lib.hid hL6
            go_loopw [6] (fun i wr => ∃ n : Nat, n ≤ ps.length ∧ i = .int .i64 n ∧ Lat w6 wr) (fun i _ => ps.length - (intOf i).toNat)
            case atStart => exact ⟨0, Nat.zero_le _, rfl, Lat.refl _⟩
            case round =>
              clear hL6
              obtain ⟨n, hnl, rfl, hLW⟩ := hrel
              have hcb := (hb6.lat hLW).cell
              by_cases hlt : n < ps.length
              · obtain ⟨b, off, hA, hbb, hr1, hsy⟩ := (hx.lat (H6.out.trans hLW)).row n hlt
                obtain ⟨b', off', hA', hbb', hr2, _⟩ := (hx.lat (H6.out.trans hLW)).row ja hja
                subst hA
                injection hA' with hA'
                injection hA' with e1 e2
                subst e1 e2
                have crk := hr2 1 _ rfl
                have hfl : ps[n].2.force.length ≤ 1000000 := Nat.le_trans (HF.out.items _ (List.getElem_mem hlt)).1 (by decide)
                have hfn := Says.fn hsy
                have hfo := hsy.force
                rw [hfn] at hfo
                have HG2 := fun (w' : World) (hl : Lat wr w') => HGT ps[n].2.force ps[n].1.FA ps[n].1.Fc w' (hfo.lat hl) hfl
                rw [← hfn] at HG2
                unfold gotI at HG2
                have hwk := HWK2.out ps[n] (List.getElem_mem hlt)
                have hac : actP acts ps[n] = acts.any (fun x => decide (x = ps[n].1.name)) := rfl
                rw [hac] at hwk
                have HG3 := HG2
                clear HG2 hac hfo hfn hsy hr2 hfl
                generalize hasI ps[n].2.force ⟨k1, k2, k3⟩ = BB at *
                generalize getI ps[n].2.force ⟨k1, k2, k3⟩ = Z at *
                generalize ps[n].1 = X at *
                generalize ps[ja].1.rank = RK at *
                have HW := Lib.hid hwk
                clear hwk
                obtain ⟨a1, a2, ⟨b1, b2, b3, b4, ⟨b5, b6, b7⟩, ⟨b8, b9, b10⟩, b11, b12, b13⟩, a3, a4, a5, a6, a7, a8, a9⟩ := X
                obtain ⟨⟨z1, z2, z3⟩, ⟨z4, z5, z6⟩, z7⟩ := Z
                simp only [lkC, whC, iC, kC, vC, List.cons_append, List.nil_append] at hr1 HG3 HW
                have hLB : Lat wr (wr.alloc (.cells #[.string a1, .int .i64 a2, .int .i64 b1, .int .i64 b2, .int .i64 b3, .string b4, .int .i64 b5, .int .i64 b6, .string b7, .int .i64 b8, .string b9, .string b10, .slice b11 b12 b13, .bool a3, .slice a4 a5 a6, .slice a7 a8 a9] 47)) := Lat.al _ _
                have hbl0 := Blk.new wr 47 #[.string a1, .int .i64 a2, .int .i64 b1, .int .i64 b2, .int .i64 b3, .string b4, .int .i64 b5, .int .i64 b6, .string b7, .int .i64 b8, .string b9, .string b10, .slice b11 b12 b13, .bool a3, .slice a4 a5 a6, .slice a7 a8 a9]
                have hL7 := hLW.trans hLB
                go_wp2_with (with_reducible refine wpList_load_at rfl 47 _ rfl b (off + n * 16) rfl _ _ hr1 Try.underlying47 rfl (by kernel_rfl) ?_)
                clear hcb hr1
                have crk8 := cell_below crk hLB hbb
                have hbb8 := Nat.lt_of_lt_of_le hbb hLB.size
                have hb8 := hb6.lat hL7
                have hL08 := H6.out.trans hL7
                clear crk hbb
                generalize wr.alloc (.cells #[.string a1, .int .i64 a2, .int .i64 b1, .int .i64 b2, .int .i64 b3, .string b4, .int .i64 b5, .int .i64 b6, .string b7, .int .i64 b8, .string b9, .string b10, .slice b11 b12 b13, .bool a3, .slice a4 a5 a6, .slice a7 a8 a9] 47) = w8 at *
                generalize wr.heap.size = gx at *
                have H8 := Lib.hid hL08
                have H7 := Lib.hid hL7
                have HLB := Lib.hid hLB
                clear hLW
                go_loopw [8, 9] (fun on i wr => ∃ (q : Nat) (e : Bool), q ≤ acts.length ∧ i = .int .i64 q ∧ on = .bool e ∧ Hid ((acts.take q).any (fun x => decide (x = a1)) = e) ∧ Lat w8 wr) (fun _ i _ => acts.length - (intOf i).toNat)
                case atStart => exact ⟨0, false, Nat.zero_le _, rfl, rfl, Lib.hid rfl, Lat.refl _⟩
                case round =>
                  clear hL7 hL08 hLB
                  obtain ⟨q, e, hql, rfl, rfl, HE0, hLi⟩ := hrel
                  have hbq := hb8.lat hLi
                  have hbl := hbl0.lat hLi
                  have hcb := hbq.cell
                  by_cases hq : q < acts.length
                  · have HT := Lib.hid (any_take acts a1 q hq)
                    rw [HE0.out] at HT
                    cases e
                    · obtain ⟨b2, off2, hB, hbb2, hr2'⟩ := (hy.lat (H8.out.trans hLi)).row q hq
                      subst hB
                      have hr2 : RowAt wr b2 (off2 + q * 1) [.string acts[q]] := hr2'
                      have cs := hr2 0 _ rfl
                      rw [Nat.mul_one, Nat.add_zero] at cs
                      clear hr2 hr2' HE0
                      by_cases he : acts[q] = a1
                      · have HT2 : Hid ((acts.take (q + 1)).any (fun x => decide (x = a1)) = true) := Lib.hid (HT.out.trans (by rw [decide_eq_true he]; rfl))
                        rw [he] at cs
                        clear HT he
                        go_wp2_with fail
                        clear hcb
                        refine wp_rely (by kernel_rfl) (by kernel_rfl) ?_
                        apply RelyL.val
                        · intro ν w' hL hF K hK'
                          go_simp
                          exact hK'.out _ _ rfl (Lat.refl _)
                        simp only [Act.put, List.setIfInBounds_toArray, List.set_cons_zero, List.set_cons_succ, Nat.reduceAdd]
                        apply RelyL.val
                        · intro ν w' hL hF K hK'
                          go_simp
                          exact hK'.out _ _ rfl (Lat.refl _)
                        simp only [Act.put, List.setIfInBounds_toArray, List.set_cons_zero, List.set_cons_succ, Nat.reduceAdd]
                        apply RelyL.val
                        · intro ν w' hL hF K hK'
                          go_simp
                          exact hK'.out _ _ rfl (Lat.refl _)
                        simp only [Act.put, List.setIfInBounds_toArray, List.set_cons_zero, List.set_cons_succ, Nat.reduceAdd]
                        apply RelyL.val
                        · intro ν w' hL hF K hK'
                          have cx := (hbq.lat hL).cell
                          go_simp
                          exact hK'.out _ _ rfl (Lat.refl _)
                        simp only [Act.put, List.setIfInBounds_toArray, List.set_cons_zero, List.set_cons_succ, Nat.reduceAdd]
                        apply RelyL.val
                        · intro ν w' hL hF K hK'
                          go_simp
                          exact hK'.out _ _ rfl (Lat.refl _)
                        simp only [Act.put, List.setIfInBounds_toArray, List.set_cons_zero, List.set_cons_succ, Nat.reduceAdd]
                        apply RelyL.val
                        · intro ν w' hL hF K hK'
                          go_simp
                          exact hK'.out _ _ rfl (Lat.refl _)
                        simp only [Act.put, List.setIfInBounds_toArray, List.set_cons_zero, List.set_cons_succ, Nat.reduceAdd]
                        apply RelyL.val
                        · intro ν w' hL hF K hK'
                          have cx := cell_below cs hL hbb2
                          go_simp
                          exact hK'.out _ _ rfl (Lat.refl _)
                        simp only [Act.put, List.setIfInBounds_toArray, List.set_cons_zero, List.set_cons_succ, Nat.reduceAdd]
                        apply RelyL.val
                        · intro ν w' hL hF K hK'
                          go_simp
                          exact hK'.out _ _ rfl (Lat.refl _)
                        simp only [Act.put, List.setIfInBounds_toArray, List.set_cons_zero, List.set_cons_succ, Nat.reduceAdd]
                        apply RelyL.val
                        · intro ν w' hL hF K hK'
                          have cx := (hbl.lat hL).cell
                          go_simp
                          exact hK'.out _ _ rfl (Lat.refl _)
                        simp only [Act.put, List.setIfInBounds_toArray, List.set_cons_zero, List.set_cons_succ, Nat.reduceAdd]
                        apply RelyL.val
                        · intro ν w' hL hF K hK'
                          go_simp
                          exact hK'.out _ _ rfl (Lat.refl _)
                        simp only [Act.put, List.setIfInBounds_toArray, List.set_cons_zero, List.set_cons_succ, Nat.reduceAdd]
                        apply RelyL.val
                        · intro ν w' hL hF K hK'
                          go_simp
                          exact hK'.out _ _ rfl (Lat.refl _)
                        simp only [Act.put, List.setIfInBounds_toArray, List.set_cons_zero, List.set_cons_succ, Nat.reduceAdd]
                        apply RelyL.val
                        · intro ν w' hL hF K hK'
                          go_simp
                          exact hK'.out _ _ rfl (Lat.refl _)
                        simp only [Act.put, List.setIfInBounds_toArray, List.set_cons_zero, List.set_cons_succ, Nat.reduceAdd]
                        refine RelyL.done fun ν w9 hL9 hF => ?_
                        clear hF
                        have hL10 := hLi.trans hL9
                        go_wp2_with fail
                        go_roundw
                        case rel => exact ⟨q + 1, true, by omega, by go_num, rfl, HT2, hL10⟩
                        case measure => simp [intOf]; omega
                      · have HT2 : Hid ((acts.take (q + 1)).any (fun x => decide (x = a1)) = false) := Lib.hid (HT.out.trans (by rw [decide_eq_false he]; rfl))
                        have hbeq : (acts[q].toList == a1.toList) = false := by rw [toList_beq]; simpa using he
                        clear HT he
                        generalize acts[q] = S at *
                        go_wp2_with fail
                        clear hcb
                        refine wp_rely (by kernel_rfl) (by kernel_rfl) ?_
                        apply RelyL.val
                        · intro ν w' hL hF K hK'
                          go_simp
                          exact hK'.out _ _ rfl (Lat.refl _)
                        simp only [Act.put, List.setIfInBounds_toArray, List.set_cons_zero, List.set_cons_succ, Nat.reduceAdd]
                        apply RelyL.val
                        · intro ν w' hL hF K hK'
                          go_simp
                          exact hK'.out _ _ rfl (Lat.refl _)
                        simp only [Act.put, List.setIfInBounds_toArray, List.set_cons_zero, List.set_cons_succ, Nat.reduceAdd]
                        apply RelyL.val
                        · intro ν w' hL hF K hK'
                          go_simp
                          exact hK'.out _ _ rfl (Lat.refl _)
                        simp only [Act.put, List.setIfInBounds_toArray, List.set_cons_zero, List.set_cons_succ, Nat.reduceAdd]
                        apply RelyL.val
                        · intro ν w' hL hF K hK'
                          have cx := (hbq.lat hL).cell
                          go_simp
                          exact hK'.out _ _ rfl (Lat.refl _)
                        simp only [Act.put, List.setIfInBounds_toArray, List.set_cons_zero, List.set_cons_succ, Nat.reduceAdd]
                        apply RelyL.val
                        · intro ν w' hL hF K hK'
                          go_simp
                          exact hK'.out _ _ rfl (Lat.refl _)
                        simp only [Act.put, List.setIfInBounds_toArray, List.set_cons_zero, List.set_cons_succ, Nat.reduceAdd]
                        apply RelyL.val
                        · intro ν w' hL hF K hK'
                          go_simp
                          exact hK'.out _ _ rfl (Lat.refl _)
                        simp only [Act.put, List.setIfInBounds_toArray, List.set_cons_zero, List.set_cons_succ, Nat.reduceAdd]
                        apply RelyL.val
                        · intro ν w' hL hF K hK'
                          have cx := cell_below cs hL hbb2
                          go_simp
                          exact hK'.out _ _ rfl (Lat.refl _)
                        simp only [Act.put, List.setIfInBounds_toArray, List.set_cons_zero, List.set_cons_succ, Nat.reduceAdd]
                        apply RelyL.val
                        · intro ν w' hL hF K hK'
                          go_simp
                          exact hK'.out _ _ rfl (Lat.refl _)
                        simp only [Act.put, List.setIfInBounds_toArray, List.set_cons_zero, List.set_cons_succ, Nat.reduceAdd]
                        apply RelyL.val
                        · intro ν w' hL hF K hK'
                          have cx := (hbl.lat hL).cell
                          go_simp
                          exact hK'.out _ _ rfl (Lat.refl _)
                        simp only [Act.put, List.setIfInBounds_toArray, List.set_cons_zero, List.set_cons_succ, Nat.reduceAdd]
                        apply RelyL.val
                        · intro ν w' hL hF K hK'
                          go_simp
                          exact hK'.out _ _ rfl (Lat.refl _)
                        simp only [Act.put, List.setIfInBounds_toArray, List.set_cons_zero, List.set_cons_succ, Nat.reduceAdd]
                        apply RelyL.val
                        · intro ν w' hL hF K hK'
                          go_simp
                          exact hK'.out _ _ rfl (Lat.refl _)
                        simp only [Act.put, List.setIfInBounds_toArray, List.set_cons_zero, List.set_cons_succ, Nat.reduceAdd]
                        apply RelyL.val
                        · intro ν w' hL hF K hK'
                          go_simp
                          exact hK'.out _ _ rfl (Lat.refl _)
                        simp only [Act.put, List.setIfInBounds_toArray, List.set_cons_zero, List.set_cons_succ, Nat.reduceAdd]
                        refine RelyL.done fun ν w9 hL9 hF => ?_
                        clear hF
                        have hL10 := hLi.trans hL9
                        go_wp2_with fail
                        go_roundw
                        case rel => exact ⟨q + 1, false, by omega, by go_num, rfl, HT2, hL10⟩
                        case measure => simp [intOf]; omega
                    · have HT2 : Hid ((acts.take (q + 1)).any (fun x => decide (x = a1)) = true) := Lib.hid (HT.out.trans (by rfl))
                      clear HT HE0
                      go_wp2_with fail
                      clear hcb
                      refine wp_rely (by kernel_rfl) (by kernel_rfl) ?_
                      apply RelyL.val
                      · intro ν w' hL hF K hK'
                        go_simp
                        exact hK'.out _ _ rfl (Lat.refl _)
                      simp only [Act.put, List.setIfInBounds_toArray, List.set_cons_zero, List.set_cons_succ, Nat.reduceAdd]
                      apply RelyL.val
                      · intro ν w' hL hF K hK'
                        go_simp
                        exact hK'.out _ _ rfl (Lat.refl _)
                      simp only [Act.put, List.setIfInBounds_toArray, List.set_cons_zero, List.set_cons_succ, Nat.reduceAdd]
                      apply RelyL.val
                      · intro ν w' hL hF K hK'
                        refine skip_op rfl ?_
                        exact hK'.out _ _ rfl (Lat.refl _)
                      simp only [Act.put, List.setIfInBounds_toArray, List.set_cons_zero, List.set_cons_succ, Nat.reduceAdd]
                      apply RelyL.val
                      · intro ν w' hL hF K hK'
                        refine skip_op rfl ?_
                        exact hK'.out _ _ rfl (Lat.refl _)
                      simp only [Act.put, List.setIfInBounds_toArray, List.set_cons_zero, List.set_cons_succ, Nat.reduceAdd]
                      apply RelyL.val
                      · intro ν w' hL hF K hK'
                        refine skip_op rfl ?_
                        exact hK'.out _ _ rfl (Lat.refl _)
                      simp only [Act.put, List.setIfInBounds_toArray, List.set_cons_zero, List.set_cons_succ, Nat.reduceAdd]
                      apply RelyL.val
                      · intro ν w' hL hF K hK'
                        refine skip_op rfl ?_
                        exact hK'.out _ _ rfl (Lat.refl _)
                      simp only [Act.put, List.setIfInBounds_toArray, List.set_cons_zero, List.set_cons_succ, Nat.reduceAdd]
                      apply RelyL.val
                      · intro ν w' hL hF K hK'
                        refine skip_op rfl ?_
                        exact hK'.out _ _ rfl (Lat.refl _)
                      simp only [Act.put, List.setIfInBounds_toArray, List.set_cons_zero, List.set_cons_succ, Nat.reduceAdd]
                      apply RelyL.val
                      · intro ν w' hL hF K hK'
                        refine skip_op rfl ?_
                        exact hK'.out _ _ rfl (Lat.refl _)
                      simp only [Act.put, List.setIfInBounds_toArray, List.set_cons_zero, List.set_cons_succ, Nat.reduceAdd]
                      apply RelyL.val
                      · intro ν w' hL hF K hK'
                        refine skip_op rfl ?_
                        exact hK'.out _ _ rfl (Lat.refl _)
                      simp only [Act.put, List.setIfInBounds_toArray, List.set_cons_zero, List.set_cons_succ, Nat.reduceAdd]
                      apply RelyL.val
                      · intro ν w' hL hF K hK'
                        refine skip_op rfl ?_
                        exact hK'.out _ _ rfl (Lat.refl _)
                      simp only [Act.put, List.setIfInBounds_toArray, List.set_cons_zero, List.set_cons_succ, Nat.reduceAdd]
                      apply RelyL.val
                      · intro ν w' hL hF K hK'
                        go_simp
                        exact hK'.out _ _ rfl (Lat.refl _)
                      simp only [Act.put, List.setIfInBounds_toArray, List.set_cons_zero, List.set_cons_succ, Nat.reduceAdd]
                      apply RelyL.val
                      · intro ν w' hL hF K hK'
                        go_simp
                        exact hK'.out _ _ rfl (Lat.refl _)
                      simp only [Act.put, List.setIfInBounds_toArray, List.set_cons_zero, List.set_cons_succ, Nat.reduceAdd]
                      refine RelyL.done fun ν w9 hL9 hF => ?_
                      clear hF
                      have hL10 := hLi.trans hL9
                      go_wp2_with fail
                      go_roundw
                      case rel => exact ⟨q + 1, true, by omega, by go_num, rfl, HT2, hL10⟩
                      case measure => simp [intOf]; omega
                  · have hqe : q = acts.length := by omega
                    subst hqe
                    rw [List.take_length] at HE0
                    have hcl := hbl.cell
                    have HGC := HG3 wr (HLB.out.trans hLi)
                    clear HG3
                    go_wp2_with fail
                    refine HGC.out.mono ?_
                    rintro r w10 ⟨rfl, hl10⟩
                    have hLa := Lat.al w10 (.cells #[.int .i64 z1, .string z2, .string z3, .int .i64 z4, .int .i64 z5, .string z6, .int .i64 z7] 49)
                    have hl11 := (hLi.trans hl10).trans hLa
                    have hbz0 := Blk.new w10 49 #[.int .i64 z1, .string z2, .string z3, .int .i64 z4, .int .i64 z5, .string z6, .int .i64 z7]
                    clear HGC hcb hcl hbq hbl hLi hl10 hLa
                    go_wp2_with fail
                    generalize w10.alloc (.cells #[.int .i64 z1, .string z2, .string z3, .int .i64 z4, .int .i64 z5, .string z6, .int .i64 z7] 49) = w11 at *
                    generalize w10.heap.size = gz at *
                    have hbq := hb8.lat hl11
                    have hbl := hbl0.lat hl11
                    have crk := cell_below crk8 hl11 hbb8
                    have hbb := Nat.lt_of_lt_of_le hbb8 hl11.size
                    have hL11 := H7.out.trans hl11
                    have hrall := hbq.row
                    have hg0 := hbq.lt
                    have hrv : RowAt w11 w.heap.size 5 [.int .i64 v1, .int .i64 v2, .string v3] := fun q v hq => by
                      have hq3 : q < 3 := (List.getElem?_eq_some_iff.1 hq).1
                      rw [Nat.add_comm 5 q]
                      have := hrall (q + 5) v (by
                        match q, hq3 with
                        | 0, _ => exact hq
                        | 1, _ => exact hq
                        | 2, _ => exact hq)
                      rwa [Nat.zero_add] at this
                    have hzall := hbz0.row
                    have hgz := hbz0.lt
                    have hrz : RowAt w11 gz 3 [.int .i64 z4, .int .i64 z5, .string z6] := fun q v hq => by
                      have hq3 : q < 3 := (List.getElem?_eq_some_iff.1 hq).1
                      rw [Nat.add_comm 3 q]
                      have := hzall (q + 3) v (by
                        match q, hq3 with
                        | 0, _ => exact hq
                        | 1, _ => exact hq
                        | 2, _ => exact hq)
                      rwa [Nat.zero_add] at this
                    clear hrall hzall hbz0 hb8 hbl0 crk8 hbb8 hl11
                    cases e
                    · refine wp_rely (by kernel_rfl) (by kernel_rfl) ?_
                      apply RelyL.val
                      · intro ν w' hL hF K hK'
                        go_simp
                        exact hK'.out _ _ rfl (Lat.refl _)
                      simp only [Act.put, List.setIfInBounds_toArray, List.set_cons_zero, List.set_cons_succ, Nat.reduceAdd]
                      apply RelyL.val
                      · intro ν w' hL hF K hK'
                        go_simp
                        exact hK'.out _ _ rfl (Lat.refl _)
                      simp only [Act.put, List.setIfInBounds_toArray, List.set_cons_zero, List.set_cons_succ, Nat.reduceAdd]
                      apply RelyL.val
                      · intro ν w' hL hF K hK'
                        refine skip_op rfl ?_
                        exact hK'.out _ _ rfl (Lat.refl _)
                      simp only [Act.put, List.setIfInBounds_toArray, List.set_cons_zero, List.set_cons_succ, Nat.reduceAdd]
                      apply RelyL.val
                      · intro ν w' hL hF K hK'
                        go_simp
                        exact hK'.out _ _ rfl (Lat.refl _)
                      simp only [Act.put, List.setIfInBounds_toArray, List.set_cons_zero, List.set_cons_succ, Nat.reduceAdd]
                      apply RelyL.val
                      · intro ν w' hL hF K hK'
                        go_simp
                        exact hK'.out _ _ rfl (Lat.refl _)
                      simp only [Act.put, List.setIfInBounds_toArray, List.set_cons_zero, List.set_cons_succ, Nat.reduceAdd]
                      apply RelyL.val
                      · intro ν w' hL hF K hK'
                        refine skip_op rfl ?_
                        exact hK'.out _ _ rfl (Lat.refl _)
                      simp only [Act.put, List.setIfInBounds_toArray, List.set_cons_zero, List.set_cons_succ, Nat.reduceAdd]
                      apply RelyL.val
                      · intro ν w' hL hF K hK'
                        refine skip_op rfl ?_
                        exact hK'.out _ _ rfl (Lat.refl _)
                      simp only [Act.put, List.setIfInBounds_toArray, List.set_cons_zero, List.set_cons_succ, Nat.reduceAdd]
                      apply RelyL.val
                      · intro ν w' hL hF K hK'
                        refine skip_op rfl ?_
                        exact hK'.out _ _ rfl (Lat.refl _)
                      simp only [Act.put, List.setIfInBounds_toArray, List.set_cons_zero, List.set_cons_succ, Nat.reduceAdd]
                      apply RelyL.val
                      · intro ν w' hL hF K hK'
                        refine skip_op rfl ?_
                        exact hK'.out _ _ rfl (Lat.refl _)
                      simp only [Act.put, List.setIfInBounds_toArray, List.set_cons_zero, List.set_cons_succ, Nat.reduceAdd]
                      apply RelyL.val
                      · intro ν w' hL hF K hK'
                        refine skip_op rfl ?_
                        exact hK'.out _ _ rfl (Lat.refl _)
                      simp only [Act.put, List.setIfInBounds_toArray, List.set_cons_zero, List.set_cons_succ, Nat.reduceAdd]
                      apply RelyL.val
                      · intro ν w' hL hF K hK'
                        go_simp
                        exact hK'.out _ _ rfl (Lat.refl _)
                      simp only [Act.put, List.setIfInBounds_toArray, List.set_cons_zero, List.set_cons_succ, Nat.reduceAdd]
                      apply RelyL.val
                      · intro ν w' hL hF K hK'
                        go_simp
                        exact hK'.out _ _ rfl (Lat.refl _)
                      simp only [Act.put, List.setIfInBounds_toArray, List.set_cons_zero, List.set_cons_succ, Nat.reduceAdd]
                      apply RelyL.val
                      · intro ν w' hL hF K hK'
                        refine skip_op rfl ?_
                        exact hK'.out _ _ rfl (Lat.refl _)
                      simp only [Act.put, List.setIfInBounds_toArray, List.set_cons_zero, List.set_cons_succ, Nat.reduceAdd]
                      apply RelyL.val
                      · intro ν w' hL hF K hK'
                        refine skip_op rfl ?_
                        exact hK'.out _ _ rfl (Lat.refl _)
                      simp only [Act.put, List.setIfInBounds_toArray, List.set_cons_zero, List.set_cons_succ, Nat.reduceAdd]
                      apply RelyL.val
                      · intro ν w' hL hF K hK'
                        refine skip_op rfl ?_
                        exact hK'.out _ _ rfl (Lat.refl _)
                      simp only [Act.put, List.setIfInBounds_toArray, List.set_cons_zero, List.set_cons_succ, Nat.reduceAdd]
                      apply RelyL.val
                      · intro ν w' hL hF K hK'
                        refine skip_op rfl ?_
                        exact hK'.out _ _ rfl (Lat.refl _)
                      simp only [Act.put, List.setIfInBounds_toArray, List.set_cons_zero, List.set_cons_succ, Nat.reduceAdd]
                      apply RelyL.val
                      · intro ν w' hL hF K hK'
                        refine skip_op rfl ?_
                        exact hK'.out _ _ rfl (Lat.refl _)
                      simp only [Act.put, List.setIfInBounds_toArray, List.set_cons_zero, List.set_cons_succ, Nat.reduceAdd]
                      apply RelyL.val
                      · intro ν w' hL hF K hK'
                        refine skip_op rfl ?_
                        exact hK'.out _ _ rfl (Lat.refl _)
                      simp only [Act.put, List.setIfInBounds_toArray, List.set_cons_zero, List.set_cons_succ, Nat.reduceAdd]
                      apply RelyL.val
                      · intro ν w' hL hF K hK'
                        refine skip_op rfl ?_
                        exact hK'.out _ _ rfl (Lat.refl _)
                      simp only [Act.put, List.setIfInBounds_toArray, List.set_cons_zero, List.set_cons_succ, Nat.reduceAdd]
                      apply RelyL.val
                      · intro ν w' hL hF K hK'
                        refine skip_op rfl ?_
                        exact hK'.out _ _ rfl (Lat.refl _)
                      simp only [Act.put, List.setIfInBounds_toArray, List.set_cons_zero, List.set_cons_succ, Nat.reduceAdd]
                      apply RelyL.val
                      · intro ν w' hL hF K hK'
                        refine skip_op rfl ?_
                        exact hK'.out _ _ rfl (Lat.refl _)
                      simp only [Act.put, List.setIfInBounds_toArray, List.set_cons_zero, List.set_cons_succ, Nat.reduceAdd]
                      apply RelyL.val
                      · intro ν w' hL hF K hK'
                        refine skip_op rfl ?_
                        exact hK'.out _ _ rfl (Lat.refl _)
                      simp only [Act.put, List.setIfInBounds_toArray, List.set_cons_zero, List.set_cons_succ, Nat.reduceAdd]
                      apply RelyL.val
                      · intro ν w' hL hF K hK'
                        refine skip_op rfl ?_
                        exact hK'.out _ _ rfl (Lat.refl _)
                      simp only [Act.put, List.setIfInBounds_toArray, List.set_cons_zero, List.set_cons_succ, Nat.reduceAdd]
                      apply RelyL.val
                      · intro ν w' hL hF K hK'
                        refine skip_op rfl ?_
                        exact hK'.out _ _ rfl (Lat.refl _)
                      simp only [Act.put, List.setIfInBounds_toArray, List.set_cons_zero, List.set_cons_succ, Nat.reduceAdd]
                      apply RelyL.val
                      · intro ν w' hL hF K hK'
                        refine skip_op rfl ?_
                        exact hK'.out _ _ rfl (Lat.refl _)
                      simp only [Act.put, List.setIfInBounds_toArray, List.set_cons_zero, List.set_cons_succ, Nat.reduceAdd]
                      apply RelyL.val
                      · intro ν w' hL hF K hK'
                        refine skip_op rfl ?_
                        exact hK'.out _ _ rfl (Lat.refl _)
                      simp only [Act.put, List.setIfInBounds_toArray, List.set_cons_zero, List.set_cons_succ, Nat.reduceAdd]
                      apply RelyL.val
                      · intro ν w' hL hF K hK'
                        refine skip_op rfl ?_
                        exact hK'.out _ _ rfl (Lat.refl _)
                      simp only [Act.put, List.setIfInBounds_toArray, List.set_cons_zero, List.set_cons_succ, Nat.reduceAdd]
                      apply RelyL.val
                      · intro ν w' hL hF K hK'
                        refine skip_op rfl ?_
                        exact hK'.out _ _ rfl (Lat.refl _)
                      simp only [Act.put, List.setIfInBounds_toArray, List.set_cons_zero, List.set_cons_succ, Nat.reduceAdd]
                      apply RelyL.val
                      · intro ν w' hL hF K hK'
                        refine skip_op rfl ?_
                        exact hK'.out _ _ rfl (Lat.refl _)
                      simp only [Act.put, List.setIfInBounds_toArray, List.set_cons_zero, List.set_cons_succ, Nat.reduceAdd]
                      apply RelyL.val
                      · intro ν w' hL hF K hK'
                        refine skip_op rfl ?_
                        exact hK'.out _ _ rfl (Lat.refl _)
                      simp only [Act.put, List.setIfInBounds_toArray, List.set_cons_zero, List.set_cons_succ, Nat.reduceAdd]
                      apply RelyL.val
                      · intro ν w' hL hF K hK'
                        refine skip_op rfl ?_
                        exact hK'.out _ _ rfl (Lat.refl _)
                      simp only [Act.put, List.setIfInBounds_toArray, List.set_cons_zero, List.set_cons_succ, Nat.reduceAdd]
                      apply RelyL.val
                      · intro ν w' hL hF K hK'
                        refine skip_op rfl ?_
                        exact hK'.out _ _ rfl (Lat.refl _)
                      simp only [Act.put, List.setIfInBounds_toArray, List.set_cons_zero, List.set_cons_succ, Nat.reduceAdd]
                      apply RelyL.val
                      · intro ν w' hL hF K hK'
                        refine skip_op rfl ?_
                        exact hK'.out _ _ rfl (Lat.refl _)
                      simp only [Act.put, List.setIfInBounds_toArray, List.set_cons_zero, List.set_cons_succ, Nat.reduceAdd]
                      apply RelyL.val
                      · intro ν w' hL hF K hK'
                        refine skip_op rfl ?_
                        exact hK'.out _ _ rfl (Lat.refl _)
                      simp only [Act.put, List.setIfInBounds_toArray, List.set_cons_zero, List.set_cons_succ, Nat.reduceAdd]
                      apply RelyL.val
                      · intro ν w' hL hF K hK'
                        refine skip_op rfl ?_
                        exact hK'.out _ _ rfl (Lat.refl _)
                      simp only [Act.put, List.setIfInBounds_toArray, List.set_cons_zero, List.set_cons_succ, Nat.reduceAdd]
                      apply RelyL.val
                      · intro ν w' hL hF K hK'
                        refine skip_op rfl ?_
                        exact hK'.out _ _ rfl (Lat.refl _)
                      simp only [Act.put, List.setIfInBounds_toArray, List.set_cons_zero, List.set_cons_succ, Nat.reduceAdd]
                      apply RelyL.val
                      · intro ν w' hL hF K hK'
                        refine skip_op rfl ?_
                        exact hK'.out _ _ rfl (Lat.refl _)
                      simp only [Act.put, List.setIfInBounds_toArray, List.set_cons_zero, List.set_cons_succ, Nat.reduceAdd]
                      apply RelyL.val
                      · intro ν w' hL hF K hK'
                        refine skip_op rfl ?_
                        exact hK'.out _ _ rfl (Lat.refl _)
                      simp only [Act.put, List.setIfInBounds_toArray, List.set_cons_zero, List.set_cons_succ, Nat.reduceAdd]
                      apply RelyL.val
                      · intro ν w' hL hF K hK'
                        go_simp
                        exact hK'.out _ _ rfl (Lat.refl _)
                      simp only [Act.put, List.setIfInBounds_toArray, List.set_cons_zero, List.set_cons_succ, Nat.reduceAdd]
                      refine RelyL.done fun ν w12 hL12 hF => ?_
                      clear hF
                      have hL13 := hL11.trans hL12
                      go_wp2_with fail
                      go_roundw
                      case rel => exact ⟨n + 1, by omega, by go_num, hL13⟩
                      case measure => simp [intOf]; omega
                    · cases BB
                      · refine wp_rely (by kernel_rfl) (by kernel_rfl) ?_
                        apply RelyL.val
                        · intro ν w' hL hF K hK'
                          go_simp
                          exact hK'.out _ _ rfl (Lat.refl _)
                        simp only [Act.put, List.setIfInBounds_toArray, List.set_cons_zero, List.set_cons_succ, Nat.reduceAdd]
                        apply RelyL.val
                        · intro ν w' hL hF K hK'
                          go_simp
                          exact hK'.out _ _ rfl (Lat.refl _)
                        simp only [Act.put, List.setIfInBounds_toArray, List.set_cons_zero, List.set_cons_succ, Nat.reduceAdd]
                        apply RelyL.val
                        · intro ν w' hL hF K hK'
                          go_simp
                          exact hK'.out _ _ rfl (Lat.refl _)
                        simp only [Act.put, List.setIfInBounds_toArray, List.set_cons_zero, List.set_cons_succ, Nat.reduceAdd]
                        apply RelyL.val
                        · intro ν w' hL hF K hK'
                          go_simp
                          exact hK'.out _ _ rfl (Lat.refl _)
                        simp only [Act.put, List.setIfInBounds_toArray, List.set_cons_zero, List.set_cons_succ, Nat.reduceAdd]
                        apply RelyL.val
                        · intro ν w' hL hF K hK'
                          go_simp
                          exact hK'.out _ _ rfl (Lat.refl _)
                        simp only [Act.put, List.setIfInBounds_toArray, List.set_cons_zero, List.set_cons_succ, Nat.reduceAdd]
                        apply RelyL.val
                        · intro ν w' hL hF K hK'
                          refine skip_op rfl ?_
                          exact hK'.out _ _ rfl (Lat.refl _)
                        simp only [Act.put, List.setIfInBounds_toArray, List.set_cons_zero, List.set_cons_succ, Nat.reduceAdd]
                        apply RelyL.val
                        · intro ν w' hL hF K hK'
                          refine skip_op rfl ?_
                          exact hK'.out _ _ rfl (Lat.refl _)
                        simp only [Act.put, List.setIfInBounds_toArray, List.set_cons_zero, List.set_cons_succ, Nat.reduceAdd]
                        apply RelyL.val
                        · intro ν w' hL hF K hK'
                          refine skip_op rfl ?_
                          exact hK'.out _ _ rfl (Lat.refl _)
                        simp only [Act.put, List.setIfInBounds_toArray, List.set_cons_zero, List.set_cons_succ, Nat.reduceAdd]
                        apply RelyL.val
                        · intro ν w' hL hF K hK'
                          refine skip_op rfl ?_
                          exact hK'.out _ _ rfl (Lat.refl _)
                        simp only [Act.put, List.setIfInBounds_toArray, List.set_cons_zero, List.set_cons_succ, Nat.reduceAdd]
                        apply RelyL.val
                        · intro ν w' hL hF K hK'
                          refine skip_op rfl ?_
                          exact hK'.out _ _ rfl (Lat.refl _)
                        simp only [Act.put, List.setIfInBounds_toArray, List.set_cons_zero, List.set_cons_succ, Nat.reduceAdd]
                        apply RelyL.val
                        · intro ν w' hL hF K hK'
                          go_simp
                          exact hK'.out _ _ rfl (Lat.refl _)
                        simp only [Act.put, List.setIfInBounds_toArray, List.set_cons_zero, List.set_cons_succ, Nat.reduceAdd]
                        apply RelyL.val
                        · intro ν w' hL hF K hK'
                          go_simp
                          exact hK'.out _ _ rfl (Lat.refl _)
                        simp only [Act.put, List.setIfInBounds_toArray, List.set_cons_zero, List.set_cons_succ, Nat.reduceAdd]
                        apply RelyL.val
                        · intro ν w' hL hF K hK'
                          refine skip_op rfl ?_
                          exact hK'.out _ _ rfl (Lat.refl _)
                        simp only [Act.put, List.setIfInBounds_toArray, List.set_cons_zero, List.set_cons_succ, Nat.reduceAdd]
                        apply RelyL.val
                        · intro ν w' hL hF K hK'
                          refine skip_op rfl ?_
                          exact hK'.out _ _ rfl (Lat.refl _)
                        simp only [Act.put, List.setIfInBounds_toArray, List.set_cons_zero, List.set_cons_succ, Nat.reduceAdd]
                        apply RelyL.val
                        · intro ν w' hL hF K hK'
                          refine skip_op rfl ?_
                          exact hK'.out _ _ rfl (Lat.refl _)
                        simp only [Act.put, List.setIfInBounds_toArray, List.set_cons_zero, List.set_cons_succ, Nat.reduceAdd]
                        apply RelyL.val
                        · intro ν w' hL hF K hK'
                          refine skip_op rfl ?_
                          exact hK'.out _ _ rfl (Lat.refl _)
                        simp only [Act.put, List.setIfInBounds_toArray, List.set_cons_zero, List.set_cons_succ, Nat.reduceAdd]
                        apply RelyL.val
                        · intro ν w' hL hF K hK'
                          refine skip_op rfl ?_
                          exact hK'.out _ _ rfl (Lat.refl _)
                        simp only [Act.put, List.setIfInBounds_toArray, List.set_cons_zero, List.set_cons_succ, Nat.reduceAdd]
                        apply RelyL.val
                        · intro ν w' hL hF K hK'
                          refine skip_op rfl ?_
                          exact hK'.out _ _ rfl (Lat.refl _)
                        simp only [Act.put, List.setIfInBounds_toArray, List.set_cons_zero, List.set_cons_succ, Nat.reduceAdd]
                        apply RelyL.val
                        · intro ν w' hL hF K hK'
                          refine skip_op rfl ?_
                          exact hK'.out _ _ rfl (Lat.refl _)
                        simp only [Act.put, List.setIfInBounds_toArray, List.set_cons_zero, List.set_cons_succ, Nat.reduceAdd]
                        apply RelyL.val
                        · intro ν w' hL hF K hK'
                          refine skip_op rfl ?_
                          exact hK'.out _ _ rfl (Lat.refl _)
                        simp only [Act.put, List.setIfInBounds_toArray, List.set_cons_zero, List.set_cons_succ, Nat.reduceAdd]
                        apply RelyL.val
                        · intro ν w' hL hF K hK'
                          refine skip_op rfl ?_
                          exact hK'.out _ _ rfl (Lat.refl _)
                        simp only [Act.put, List.setIfInBounds_toArray, List.set_cons_zero, List.set_cons_succ, Nat.reduceAdd]
                        apply RelyL.val
                        · intro ν w' hL hF K hK'
                          refine skip_op rfl ?_
                          exact hK'.out _ _ rfl (Lat.refl _)
                        simp only [Act.put, List.setIfInBounds_toArray, List.set_cons_zero, List.set_cons_succ, Nat.reduceAdd]
                        apply RelyL.val
                        · intro ν w' hL hF K hK'
                          refine skip_op rfl ?_
                          exact hK'.out _ _ rfl (Lat.refl _)
                        simp only [Act.put, List.setIfInBounds_toArray, List.set_cons_zero, List.set_cons_succ, Nat.reduceAdd]
                        apply RelyL.val
                        · intro ν w' hL hF K hK'
                          refine skip_op rfl ?_
                          exact hK'.out _ _ rfl (Lat.refl _)
                        simp only [Act.put, List.setIfInBounds_toArray, List.set_cons_zero, List.set_cons_succ, Nat.reduceAdd]
                        apply RelyL.val
                        · intro ν w' hL hF K hK'
                          refine skip_op rfl ?_
                          exact hK'.out _ _ rfl (Lat.refl _)
                        simp only [Act.put, List.setIfInBounds_toArray, List.set_cons_zero, List.set_cons_succ, Nat.reduceAdd]
                        apply RelyL.val
                        · intro ν w' hL hF K hK'
                          refine skip_op rfl ?_
                          exact hK'.out _ _ rfl (Lat.refl _)
                        simp only [Act.put, List.setIfInBounds_toArray, List.set_cons_zero, List.set_cons_succ, Nat.reduceAdd]
                        apply RelyL.val
                        · intro ν w' hL hF K hK'
                          refine skip_op rfl ?_
                          exact hK'.out _ _ rfl (Lat.refl _)
                        simp only [Act.put, List.setIfInBounds_toArray, List.set_cons_zero, List.set_cons_succ, Nat.reduceAdd]
                        apply RelyL.val
                        · intro ν w' hL hF K hK'
                          refine skip_op rfl ?_
                          exact hK'.out _ _ rfl (Lat.refl _)
                        simp only [Act.put, List.setIfInBounds_toArray, List.set_cons_zero, List.set_cons_succ, Nat.reduceAdd]
                        apply RelyL.val
                        · intro ν w' hL hF K hK'
                          refine skip_op rfl ?_
                          exact hK'.out _ _ rfl (Lat.refl _)
                        simp only [Act.put, List.setIfInBounds_toArray, List.set_cons_zero, List.set_cons_succ, Nat.reduceAdd]
                        apply RelyL.val
                        · intro ν w' hL hF K hK'
                          refine skip_op rfl ?_
                          exact hK'.out _ _ rfl (Lat.refl _)
                        simp only [Act.put, List.setIfInBounds_toArray, List.set_cons_zero, List.set_cons_succ, Nat.reduceAdd]
                        apply RelyL.val
                        · intro ν w' hL hF K hK'
                          refine skip_op rfl ?_
                          exact hK'.out _ _ rfl (Lat.refl _)
                        simp only [Act.put, List.setIfInBounds_toArray, List.set_cons_zero, List.set_cons_succ, Nat.reduceAdd]
                        apply RelyL.val
                        · intro ν w' hL hF K hK'
                          refine skip_op rfl ?_
                          exact hK'.out _ _ rfl (Lat.refl _)
                        simp only [Act.put, List.setIfInBounds_toArray, List.set_cons_zero, List.set_cons_succ, Nat.reduceAdd]
                        apply RelyL.val
                        · intro ν w' hL hF K hK'
                          refine skip_op rfl ?_
                          exact hK'.out _ _ rfl (Lat.refl _)
                        simp only [Act.put, List.setIfInBounds_toArray, List.set_cons_zero, List.set_cons_succ, Nat.reduceAdd]
                        apply RelyL.val
                        · intro ν w' hL hF K hK'
                          refine skip_op rfl ?_
                          exact hK'.out _ _ rfl (Lat.refl _)
                        simp only [Act.put, List.setIfInBounds_toArray, List.set_cons_zero, List.set_cons_succ, Nat.reduceAdd]
                        apply RelyL.val
                        · intro ν w' hL hF K hK'
                          refine skip_op rfl ?_
                          exact hK'.out _ _ rfl (Lat.refl _)
                        simp only [Act.put, List.setIfInBounds_toArray, List.set_cons_zero, List.set_cons_succ, Nat.reduceAdd]
                        apply RelyL.val
                        · intro ν w' hL hF K hK'
                          refine skip_op rfl ?_
                          exact hK'.out _ _ rfl (Lat.refl _)
                        simp only [Act.put, List.setIfInBounds_toArray, List.set_cons_zero, List.set_cons_succ, Nat.reduceAdd]
                        apply RelyL.val
                        · intro ν w' hL hF K hK'
                          refine skip_op rfl ?_
                          exact hK'.out _ _ rfl (Lat.refl _)
                        simp only [Act.put, List.setIfInBounds_toArray, List.set_cons_zero, List.set_cons_succ, Nat.reduceAdd]
                        apply RelyL.val
                        · intro ν w' hL hF K hK'
                          refine skip_op rfl ?_
                          exact hK'.out _ _ rfl (Lat.refl _)
                        simp only [Act.put, List.setIfInBounds_toArray, List.set_cons_zero, List.set_cons_succ, Nat.reduceAdd]
                        apply RelyL.val
                        · intro ν w' hL hF K hK'
                          go_simp
                          exact hK'.out _ _ rfl (Lat.refl _)
                        simp only [Act.put, List.setIfInBounds_toArray, List.set_cons_zero, List.set_cons_succ, Nat.reduceAdd]
                        refine RelyL.done fun ν w12 hL12 hF => ?_
                        clear hF
                        have hL13 := hL11.trans hL12
                        go_wp2_with fail
                        go_roundw
                        case rel => exact ⟨n + 1, by omega, by go_num, hL13⟩
                        case measure => simp [intOf]; omega
                      · by_cases hv : (⟨z4, z5, z6⟩ : LVal) = ⟨v1, v2, v3⟩
                        · have hw2 := HW.out HE0.out rfl hv
                          have HE := Lib.hid (decide_eq_true hv)
                          clear hv HW HE0
                          by_cases hr : a2 = RK
                          · have hby := hw2.2 hr
                            have hby1 : Op.bytesLess a1.toList R.toList = false := sto_ltB.asym (a := R) (b := a1) hby
                            have hby2 : (a1.toList == R.toList) = false := by
                              rw [toList_beq]
                              have := sto_ltB.ne (a := R) (b := a1) hby
                              simpa using fun e => this e.symm
                            subst hr
                            clear hw2
                            refine wp_rely (by kernel_rfl) (by kernel_rfl) ?_
                            apply RelyL.val
                            · intro ν w' hL hF K hK'
                              go_simp
                              exact hK'.out _ _ rfl (Lat.refl _)
                            simp only [Act.put, List.setIfInBounds_toArray, List.set_cons_zero, List.set_cons_succ, Nat.reduceAdd]
                            apply RelyL.val
                            · intro ν w' hL hF K hK'
                              go_simp
                              exact hK'.out _ _ rfl (Lat.refl _)
                            simp only [Act.put, List.setIfInBounds_toArray, List.set_cons_zero, List.set_cons_succ, Nat.reduceAdd]
                            apply RelyL.val
                            · intro ν w' hL hF K hK'
                              go_simp
                              exact hK'.out _ _ rfl (Lat.refl _)
                            simp only [Act.put, List.setIfInBounds_toArray, List.set_cons_zero, List.set_cons_succ, Nat.reduceAdd]
                            apply RelyL.val
                            · intro ν w' hL hF K hK'
                              go_simp
                              exact hK'.out _ _ rfl (Lat.refl _)
                            simp only [Act.put, List.setIfInBounds_toArray, List.set_cons_zero, List.set_cons_succ, Nat.reduceAdd]
                            apply RelyL.val
                            · intro ν w' hL hF K hK'
                              go_simp
                              exact hK'.out _ _ rfl (Lat.refl _)
                            simp only [Act.put, List.setIfInBounds_toArray, List.set_cons_zero, List.set_cons_succ, Nat.reduceAdd]
                            apply RelyL.val
                            · intro ν w' hL hF K hK'
                              go_simp
                              exact hK'.out _ _ rfl (Lat.refl _)
                            simp only [Act.put, List.setIfInBounds_toArray, List.set_cons_zero, List.set_cons_succ, Nat.reduceAdd]
                            apply RelyL.val
                            · intro ν w' hL hF K hK'
                              refine take_op rfl ?_
                              refine wp_load_at 35 _ rfl gz (3) rfl _ _ (hrz.below hL hgz) Try.underlying35 rfl (by kernel_rfl) ?_
                              exact hK'.out _ _ rfl (Lat.refl _)
                            simp only [Act.put, List.setIfInBounds_toArray, List.set_cons_zero, List.set_cons_succ, Nat.reduceAdd]
                            apply RelyL.val
                            · intro ν w' hL hF K hK'
                              go_simp
                              exact hK'.out _ _ rfl (Lat.refl _)
                            simp only [Act.put, List.setIfInBounds_toArray, List.set_cons_zero, List.set_cons_succ, Nat.reduceAdd]
                            apply RelyL.val
                            · intro ν w' hL hF K hK'
                              refine take_op rfl ?_
                              refine wp_load_at 35 _ rfl w.heap.size (5) rfl _ _ (hrv.below hL hg0) Try.underlying35 rfl (by kernel_rfl) ?_
                              exact hK'.out _ _ rfl (Lat.refl _)
                            simp only [Act.put, List.setIfInBounds_toArray, List.set_cons_zero, List.set_cons_succ, Nat.reduceAdd]
                            apply RelyL.val
                            · intro ν w' hL hF K hK'
                              refine take_op rfl ?_
                              refine wp_eql_v _ _ _ rfl ⟨z4, z5, z6⟩ ⟨v1, v2, v3⟩ rfl rfl HE.out ?_
                              exact hK'.out _ _ rfl (Lat.refl _)
                            simp only [Act.put, List.setIfInBounds_toArray, List.set_cons_zero, List.set_cons_succ, Nat.reduceAdd]
                            apply RelyL.val
                            · intro ν w' hL hF K hK'
                              go_simp
                              exact hK'.out _ _ rfl (Lat.refl _)
                            simp only [Act.put, List.setIfInBounds_toArray, List.set_cons_zero, List.set_cons_succ, Nat.reduceAdd]
                            apply RelyL.val
                            · intro ν w' hL hF K hK'
                              go_simp
                              exact hK'.out _ _ rfl (Lat.refl _)
                            simp only [Act.put, List.setIfInBounds_toArray, List.set_cons_zero, List.set_cons_succ, Nat.reduceAdd]
                            apply RelyL.val
                            · intro ν w' hL hF K hK'
                              go_simp
                              exact hK'.out _ _ rfl (Lat.refl _)
                            simp only [Act.put, List.setIfInBounds_toArray, List.set_cons_zero, List.set_cons_succ, Nat.reduceAdd]
                            apply RelyL.val
                            · intro ν w' hL hF K hK'
                              have cx := (hbl.lat hL).cell
                              go_simp
                              exact hK'.out _ _ rfl (Lat.refl _)
                            simp only [Act.put, List.setIfInBounds_toArray, List.set_cons_zero, List.set_cons_succ, Nat.reduceAdd]
                            apply RelyL.val
                            · intro ν w' hL hF K hK'
                              go_simp
                              exact hK'.out _ _ rfl (Lat.refl _)
                            simp only [Act.put, List.setIfInBounds_toArray, List.set_cons_zero, List.set_cons_succ, Nat.reduceAdd]
                            apply RelyL.val
                            · intro ν w' hL hF K hK'
                              have cx := (hbq.lat hL).cell
                              go_simp
                              exact hK'.out _ _ rfl (Lat.refl _)
                            simp only [Act.put, List.setIfInBounds_toArray, List.set_cons_zero, List.set_cons_succ, Nat.reduceAdd]
                            apply RelyL.val
                            · intro ν w' hL hF K hK'
                              go_simp
                              exact hK'.out _ _ rfl (Lat.refl _)
                            simp only [Act.put, List.setIfInBounds_toArray, List.set_cons_zero, List.set_cons_succ, Nat.reduceAdd]
                            apply RelyL.val
                            · intro ν w' hL hF K hK'
                              go_simp
                              exact hK'.out _ _ rfl (Lat.refl _)
                            simp only [Act.put, List.setIfInBounds_toArray, List.set_cons_zero, List.set_cons_succ, Nat.reduceAdd]
                            apply RelyL.val
                            · intro ν w' hL hF K hK'
                              go_simp
                              exact hK'.out _ _ rfl (Lat.refl _)
                            simp only [Act.put, List.setIfInBounds_toArray, List.set_cons_zero, List.set_cons_succ, Nat.reduceAdd]
                            apply RelyL.val
                            · intro ν w' hL hF K hK'
                              have cx := cell_below crk hL hbb
                              go_simp
                              exact hK'.out _ _ rfl (Lat.refl _)
                            simp only [Act.put, List.setIfInBounds_toArray, List.set_cons_zero, List.set_cons_succ, Nat.reduceAdd]
                            apply RelyL.val
                            · intro ν w' hL hF K hK'
                              go_simp
                              exact hK'.out _ _ rfl (Lat.refl _)
                            simp only [Act.put, List.setIfInBounds_toArray, List.set_cons_zero, List.set_cons_succ, Nat.reduceAdd]
                            apply RelyL.val
                            · intro ν w' hL hF K hK'
                              go_simp
                              exact hK'.out _ _ rfl (Lat.refl _)
                            simp only [Act.put, List.setIfInBounds_toArray, List.set_cons_zero, List.set_cons_succ, Nat.reduceAdd]
                            apply RelyL.val
                            · intro ν w' hL hF K hK'
                              go_simp
                              exact hK'.out _ _ rfl (Lat.refl _)
                            simp only [Act.put, List.setIfInBounds_toArray, List.set_cons_zero, List.set_cons_succ, Nat.reduceAdd]
                            apply RelyL.val
                            · intro ν w' hL hF K hK'
                              have cx := (hbl.lat hL).cell
                              go_simp
                              exact hK'.out _ _ rfl (Lat.refl _)
                            simp only [Act.put, List.setIfInBounds_toArray, List.set_cons_zero, List.set_cons_succ, Nat.reduceAdd]
                            apply RelyL.val
                            · intro ν w' hL hF K hK'
                              go_simp
                              exact hK'.out _ _ rfl (Lat.refl _)
                            simp only [Act.put, List.setIfInBounds_toArray, List.set_cons_zero, List.set_cons_succ, Nat.reduceAdd]
                            apply RelyL.val
                            · intro ν w' hL hF K hK'
                              have cx := (hbq.lat hL).cell
                              go_simp
                              exact hK'.out _ _ rfl (Lat.refl _)
                            simp only [Act.put, List.setIfInBounds_toArray, List.set_cons_zero, List.set_cons_succ, Nat.reduceAdd]
                            apply RelyL.val
                            · intro ν w' hL hF K hK'
                              go_simp
                              exact hK'.out _ _ rfl (Lat.refl _)
                            simp only [Act.put, List.setIfInBounds_toArray, List.set_cons_zero, List.set_cons_succ, Nat.reduceAdd]
                            apply RelyL.val
                            · intro ν w' hL hF K hK'
                              go_simp
                              exact hK'.out _ _ rfl (Lat.refl _)
                            simp only [Act.put, List.setIfInBounds_toArray, List.set_cons_zero, List.set_cons_succ, Nat.reduceAdd]
                            apply RelyL.val
                            · intro ν w' hL hF K hK'
                              go_simp
                              exact hK'.out _ _ rfl (Lat.refl _)
                            simp only [Act.put, List.setIfInBounds_toArray, List.set_cons_zero, List.set_cons_succ, Nat.reduceAdd]
                            apply RelyL.val
                            · intro ν w' hL hF K hK'
                              have cx := cell_below crk hL hbb
                              go_simp
                              exact hK'.out _ _ rfl (Lat.refl _)
                            simp only [Act.put, List.setIfInBounds_toArray, List.set_cons_zero, List.set_cons_succ, Nat.reduceAdd]
                            apply RelyL.val
                            · intro ν w' hL hF K hK'
                              go_simp
                              exact hK'.out _ _ rfl (Lat.refl _)
                            simp only [Act.put, List.setIfInBounds_toArray, List.set_cons_zero, List.set_cons_succ, Nat.reduceAdd]
                            apply RelyL.val
                            · intro ν w' hL hF K hK'
                              go_simp
                              exact hK'.out _ _ rfl (Lat.refl _)
                            simp only [Act.put, List.setIfInBounds_toArray, List.set_cons_zero, List.set_cons_succ, Nat.reduceAdd]
                            apply RelyL.val
                            · intro ν w' hL hF K hK'
                              go_simp
                              exact hK'.out _ _ rfl (Lat.refl _)
                            simp only [Act.put, List.setIfInBounds_toArray, List.set_cons_zero, List.set_cons_succ, Nat.reduceAdd]
                            apply RelyL.val
                            · intro ν w' hL hF K hK'
                              have cx := (hbl.lat hL).cell
                              go_simp
                              exact hK'.out _ _ rfl (Lat.refl _)
                            simp only [Act.put, List.setIfInBounds_toArray, List.set_cons_zero, List.set_cons_succ, Nat.reduceAdd]
                            apply RelyL.val
                            · intro ν w' hL hF K hK'
                              go_simp
                              exact hK'.out _ _ rfl (Lat.refl _)
                            simp only [Act.put, List.setIfInBounds_toArray, List.set_cons_zero, List.set_cons_succ, Nat.reduceAdd]
                            apply RelyL.val
                            · intro ν w' hL hF K hK'
                              go_simp
                              exact hK'.out _ _ rfl (Lat.refl _)
                            simp only [Act.put, List.setIfInBounds_toArray, List.set_cons_zero, List.set_cons_succ, Nat.reduceAdd]
                            apply RelyL.val
                            · intro ν w' hL hF K hK'
                              go_simp
                              exact hK'.out _ _ rfl (Lat.refl _)
                            simp only [Act.put, List.setIfInBounds_toArray, List.set_cons_zero, List.set_cons_succ, Nat.reduceAdd]
                            apply RelyL.val
                            · intro ν w' hL hF K hK'
                              go_simp
                              exact hK'.out _ _ rfl (Lat.refl _)
                            simp only [Act.put, List.setIfInBounds_toArray, List.set_cons_zero, List.set_cons_succ, Nat.reduceAdd]
                            apply RelyL.val
                            · intro ν w' hL hF K hK'
                              go_simp
                              exact hK'.out _ _ rfl (Lat.refl _)
                            simp only [Act.put, List.setIfInBounds_toArray, List.set_cons_zero, List.set_cons_succ, Nat.reduceAdd]
                            refine RelyL.done fun ν w12 hL12 hF => ?_
                            clear hF
                            have hL13 := hL11.trans hL12
                            go_wp2_with fail
                            go_roundw
                            case rel => exact ⟨n + 1, by omega, by go_num, hL13⟩
                            case measure => simp [intOf]; omega
                          · have hnl := hw2.1
                            have hbeq2 : (a2 == RK) = false := by simpa using hr
                            clear hw2
                            refine wp_rely (by kernel_rfl) (by kernel_rfl) ?_
                            apply RelyL.val
                            · intro ν w' hL hF K hK'
                              go_simp
                              exact hK'.out _ _ rfl (Lat.refl _)
                            simp only [Act.put, List.setIfInBounds_toArray, List.set_cons_zero, List.set_cons_succ, Nat.reduceAdd]
                            apply RelyL.val
                            · intro ν w' hL hF K hK'
                              go_simp
                              exact hK'.out _ _ rfl (Lat.refl _)
                            simp only [Act.put, List.setIfInBounds_toArray, List.set_cons_zero, List.set_cons_succ, Nat.reduceAdd]
                            apply RelyL.val
                            · intro ν w' hL hF K hK'
                              go_simp
                              exact hK'.out _ _ rfl (Lat.refl _)
                            simp only [Act.put, List.setIfInBounds_toArray, List.set_cons_zero, List.set_cons_succ, Nat.reduceAdd]
                            apply RelyL.val
                            · intro ν w' hL hF K hK'
                              go_simp
                              exact hK'.out _ _ rfl (Lat.refl _)
                            simp only [Act.put, List.setIfInBounds_toArray, List.set_cons_zero, List.set_cons_succ, Nat.reduceAdd]
                            apply RelyL.val
                            · intro ν w' hL hF K hK'
                              go_simp
                              exact hK'.out _ _ rfl (Lat.refl _)
                            simp only [Act.put, List.setIfInBounds_toArray, List.set_cons_zero, List.set_cons_succ, Nat.reduceAdd]
                            apply RelyL.val
                            · intro ν w' hL hF K hK'
                              go_simp
                              exact hK'.out _ _ rfl (Lat.refl _)
                            simp only [Act.put, List.setIfInBounds_toArray, List.set_cons_zero, List.set_cons_succ, Nat.reduceAdd]
                            apply RelyL.val
                            · intro ν w' hL hF K hK'
                              refine take_op rfl ?_
                              refine wp_load_at 35 _ rfl gz (3) rfl _ _ (hrz.below hL hgz) Try.underlying35 rfl (by kernel_rfl) ?_
                              exact hK'.out _ _ rfl (Lat.refl _)
                            simp only [Act.put, List.setIfInBounds_toArray, List.set_cons_zero, List.set_cons_succ, Nat.reduceAdd]
                            apply RelyL.val
                            · intro ν w' hL hF K hK'
                              go_simp
                              exact hK'.out _ _ rfl (Lat.refl _)
                            simp only [Act.put, List.setIfInBounds_toArray, List.set_cons_zero, List.set_cons_succ, Nat.reduceAdd]
                            apply RelyL.val
                            · intro ν w' hL hF K hK'
                              refine take_op rfl ?_
                              refine wp_load_at 35 _ rfl w.heap.size (5) rfl _ _ (hrv.below hL hg0) Try.underlying35 rfl (by kernel_rfl) ?_
                              exact hK'.out _ _ rfl (Lat.refl _)
                            simp only [Act.put, List.setIfInBounds_toArray, List.set_cons_zero, List.set_cons_succ, Nat.reduceAdd]
                            apply RelyL.val
                            · intro ν w' hL hF K hK'
                              refine take_op rfl ?_
                              refine wp_eql_v _ _ _ rfl ⟨z4, z5, z6⟩ ⟨v1, v2, v3⟩ rfl rfl HE.out ?_
                              exact hK'.out _ _ rfl (Lat.refl _)
                            simp only [Act.put, List.setIfInBounds_toArray, List.set_cons_zero, List.set_cons_succ, Nat.reduceAdd]
                            apply RelyL.val
                            · intro ν w' hL hF K hK'
                              go_simp
                              exact hK'.out _ _ rfl (Lat.refl _)
                            simp only [Act.put, List.setIfInBounds_toArray, List.set_cons_zero, List.set_cons_succ, Nat.reduceAdd]
                            apply RelyL.val
                            · intro ν w' hL hF K hK'
                              go_simp
                              exact hK'.out _ _ rfl (Lat.refl _)
                            simp only [Act.put, List.setIfInBounds_toArray, List.set_cons_zero, List.set_cons_succ, Nat.reduceAdd]
                            apply RelyL.val
                            · intro ν w' hL hF K hK'
                              go_simp
                              exact hK'.out _ _ rfl (Lat.refl _)
                            simp only [Act.put, List.setIfInBounds_toArray, List.set_cons_zero, List.set_cons_succ, Nat.reduceAdd]
                            apply RelyL.val
                            · intro ν w' hL hF K hK'
                              have cx := (hbl.lat hL).cell
                              go_simp
                              exact hK'.out _ _ rfl (Lat.refl _)
                            simp only [Act.put, List.setIfInBounds_toArray, List.set_cons_zero, List.set_cons_succ, Nat.reduceAdd]
                            apply RelyL.val
                            · intro ν w' hL hF K hK'
                              go_simp
                              exact hK'.out _ _ rfl (Lat.refl _)
                            simp only [Act.put, List.setIfInBounds_toArray, List.set_cons_zero, List.set_cons_succ, Nat.reduceAdd]
                            apply RelyL.val
                            · intro ν w' hL hF K hK'
                              have cx := (hbq.lat hL).cell
                              go_simp
                              exact hK'.out _ _ rfl (Lat.refl _)
                            simp only [Act.put, List.setIfInBounds_toArray, List.set_cons_zero, List.set_cons_succ, Nat.reduceAdd]
                            apply RelyL.val
                            · intro ν w' hL hF K hK'
                              go_simp
                              exact hK'.out _ _ rfl (Lat.refl _)
                            simp only [Act.put, List.setIfInBounds_toArray, List.set_cons_zero, List.set_cons_succ, Nat.reduceAdd]
                            apply RelyL.val
                            · intro ν w' hL hF K hK'
                              go_simp
                              exact hK'.out _ _ rfl (Lat.refl _)
                            simp only [Act.put, List.setIfInBounds_toArray, List.set_cons_zero, List.set_cons_succ, Nat.reduceAdd]
                            apply RelyL.val
                            · intro ν w' hL hF K hK'
                              go_simp
                              exact hK'.out _ _ rfl (Lat.refl _)
                            simp only [Act.put, List.setIfInBounds_toArray, List.set_cons_zero, List.set_cons_succ, Nat.reduceAdd]
                            apply RelyL.val
                            · intro ν w' hL hF K hK'
                              have cx := cell_below crk hL hbb
                              go_simp
                              exact hK'.out _ _ rfl (Lat.refl _)
                            simp only [Act.put, List.setIfInBounds_toArray, List.set_cons_zero, List.set_cons_succ, Nat.reduceAdd]
                            apply RelyL.val
                            · intro ν w' hL hF K hK'
                              go_simp
                              exact hK'.out _ _ rfl (Lat.refl _)
                            simp only [Act.put, List.setIfInBounds_toArray, List.set_cons_zero, List.set_cons_succ, Nat.reduceAdd]
                            apply RelyL.val
                            · intro ν w' hL hF K hK'
                              go_simp
                              exact hK'.out _ _ rfl (Lat.refl _)
                            simp only [Act.put, List.setIfInBounds_toArray, List.set_cons_zero, List.set_cons_succ, Nat.reduceAdd]
                            apply RelyL.val
                            · intro ν w' hL hF K hK'
                              go_simp
                              exact hK'.out _ _ rfl (Lat.refl _)
                            simp only [Act.put, List.setIfInBounds_toArray, List.set_cons_zero, List.set_cons_succ, Nat.reduceAdd]
                            apply RelyL.val
                            · intro ν w' hL hF K hK'
                              have cx := (hbl.lat hL).cell
                              go_simp
                              exact hK'.out _ _ rfl (Lat.refl _)
                            simp only [Act.put, List.setIfInBounds_toArray, List.set_cons_zero, List.set_cons_succ, Nat.reduceAdd]
                            apply RelyL.val
                            · intro ν w' hL hF K hK'
                              go_simp
                              exact hK'.out _ _ rfl (Lat.refl _)
                            simp only [Act.put, List.setIfInBounds_toArray, List.set_cons_zero, List.set_cons_succ, Nat.reduceAdd]
                            apply RelyL.val
                            · intro ν w' hL hF K hK'
                              have cx := (hbq.lat hL).cell
                              go_simp
                              exact hK'.out _ _ rfl (Lat.refl _)
                            simp only [Act.put, List.setIfInBounds_toArray, List.set_cons_zero, List.set_cons_succ, Nat.reduceAdd]
                            apply RelyL.val
                            · intro ν w' hL hF K hK'
                              go_simp
                              exact hK'.out _ _ rfl (Lat.refl _)
                            simp only [Act.put, List.setIfInBounds_toArray, List.set_cons_zero, List.set_cons_succ, Nat.reduceAdd]
                            apply RelyL.val
                            · intro ν w' hL hF K hK'
                              go_simp
                              exact hK'.out _ _ rfl (Lat.refl _)
                            simp only [Act.put, List.setIfInBounds_toArray, List.set_cons_zero, List.set_cons_succ, Nat.reduceAdd]
                            apply RelyL.val
                            · intro ν w' hL hF K hK'
                              go_simp
                              exact hK'.out _ _ rfl (Lat.refl _)
                            simp only [Act.put, List.setIfInBounds_toArray, List.set_cons_zero, List.set_cons_succ, Nat.reduceAdd]
                            apply RelyL.val
                            · intro ν w' hL hF K hK'
                              have cx := cell_below crk hL hbb
                              go_simp
                              exact hK'.out _ _ rfl (Lat.refl _)
                            simp only [Act.put, List.setIfInBounds_toArray, List.set_cons_zero, List.set_cons_succ, Nat.reduceAdd]
                            apply RelyL.val
                            · intro ν w' hL hF K hK'
                              go_simp
                              exact hK'.out _ _ rfl (Lat.refl _)
                            simp only [Act.put, List.setIfInBounds_toArray, List.set_cons_zero, List.set_cons_succ, Nat.reduceAdd]
                            apply RelyL.val
                            · intro ν w' hL hF K hK'
                              go_simp
                              exact hK'.out _ _ rfl (Lat.refl _)
                            simp only [Act.put, List.setIfInBounds_toArray, List.set_cons_zero, List.set_cons_succ, Nat.reduceAdd]
                            apply RelyL.val
                            · intro ν w' hL hF K hK'
                              refine skip_op rfl ?_
                              exact hK'.out _ _ rfl (Lat.refl _)
                            simp only [Act.put, List.setIfInBounds_toArray, List.set_cons_zero, List.set_cons_succ, Nat.reduceAdd]
                            apply RelyL.val
                            · intro ν w' hL hF K hK'
                              refine skip_op rfl ?_
                              exact hK'.out _ _ rfl (Lat.refl _)
                            simp only [Act.put, List.setIfInBounds_toArray, List.set_cons_zero, List.set_cons_succ, Nat.reduceAdd]
                            apply RelyL.val
                            · intro ν w' hL hF K hK'
                              refine skip_op rfl ?_
                              exact hK'.out _ _ rfl (Lat.refl _)
                            simp only [Act.put, List.setIfInBounds_toArray, List.set_cons_zero, List.set_cons_succ, Nat.reduceAdd]
                            apply RelyL.val
                            · intro ν w' hL hF K hK'
                              refine skip_op rfl ?_
                              exact hK'.out _ _ rfl (Lat.refl _)
                            simp only [Act.put, List.setIfInBounds_toArray, List.set_cons_zero, List.set_cons_succ, Nat.reduceAdd]
                            apply RelyL.val
                            · intro ν w' hL hF K hK'
                              go_simp
                              exact hK'.out _ _ rfl (Lat.refl _)
                            simp only [Act.put, List.setIfInBounds_toArray, List.set_cons_zero, List.set_cons_succ, Nat.reduceAdd]
                            apply RelyL.val
                            · intro ν w' hL hF K hK'
                              go_simp
                              exact hK'.out _ _ rfl (Lat.refl _)
                            simp only [Act.put, List.setIfInBounds_toArray, List.set_cons_zero, List.set_cons_succ, Nat.reduceAdd]
                            apply RelyL.val
                            · intro ν w' hL hF K hK'
                              go_simp
                              exact hK'.out _ _ rfl (Lat.refl _)
                            simp only [Act.put, List.setIfInBounds_toArray, List.set_cons_zero, List.set_cons_succ, Nat.reduceAdd]
                            refine RelyL.done fun ν w12 hL12 hF => ?_
                            clear hF
                            have hL13 := hL11.trans hL12
                            go_wp2_with fail
                            go_roundw
                            case rel => exact ⟨n + 1, by omega, by go_num, hL13⟩
                            case measure => simp [intOf]; omega
                        · have HE := Lib.hid (decide_eq_false hv)
                          clear hv HW HE0
                          refine wp_rely (by kernel_rfl) (by kernel_rfl) ?_
                          apply RelyL.val
                          · intro ν w' hL hF K hK'
                            go_simp
                            exact hK'.out _ _ rfl (Lat.refl _)
                          simp only [Act.put, List.setIfInBounds_toArray, List.set_cons_zero, List.set_cons_succ, Nat.reduceAdd]
                          apply RelyL.val
                          · intro ν w' hL hF K hK'
                            go_simp
                            exact hK'.out _ _ rfl (Lat.refl _)
                          simp only [Act.put, List.setIfInBounds_toArray, List.set_cons_zero, List.set_cons_succ, Nat.reduceAdd]
                          apply RelyL.val
                          · intro ν w' hL hF K hK'
                            go_simp
                            exact hK'.out _ _ rfl (Lat.refl _)
                          simp only [Act.put, List.setIfInBounds_toArray, List.set_cons_zero, List.set_cons_succ, Nat.reduceAdd]
                          apply RelyL.val
                          · intro ν w' hL hF K hK'
                            go_simp
                            exact hK'.out _ _ rfl (Lat.refl _)
                          simp only [Act.put, List.setIfInBounds_toArray, List.set_cons_zero, List.set_cons_succ, Nat.reduceAdd]
                          apply RelyL.val
                          · intro ν w' hL hF K hK'
                            go_simp
                            exact hK'.out _ _ rfl (Lat.refl _)
                          simp only [Act.put, List.setIfInBounds_toArray, List.set_cons_zero, List.set_cons_succ, Nat.reduceAdd]
                          apply RelyL.val
                          · intro ν w' hL hF K hK'
                            go_simp
                            exact hK'.out _ _ rfl (Lat.refl _)
                          simp only [Act.put, List.setIfInBounds_toArray, List.set_cons_zero, List.set_cons_succ, Nat.reduceAdd]
                          apply RelyL.val
                          · intro ν w' hL hF K hK'
                            refine take_op rfl ?_
                            refine wp_load_at 35 _ rfl gz (3) rfl _ _ (hrz.below hL hgz) Try.underlying35 rfl (by kernel_rfl) ?_
                            exact hK'.out _ _ rfl (Lat.refl _)
                          simp only [Act.put, List.setIfInBounds_toArray, List.set_cons_zero, List.set_cons_succ, Nat.reduceAdd]
                          apply RelyL.val
                          · intro ν w' hL hF K hK'
                            go_simp
                            exact hK'.out _ _ rfl (Lat.refl _)
                          simp only [Act.put, List.setIfInBounds_toArray, List.set_cons_zero, List.set_cons_succ, Nat.reduceAdd]
                          apply RelyL.val
                          · intro ν w' hL hF K hK'
                            refine take_op rfl ?_
                            refine wp_load_at 35 _ rfl w.heap.size (5) rfl _ _ (hrv.below hL hg0) Try.underlying35 rfl (by kernel_rfl) ?_
                            exact hK'.out _ _ rfl (Lat.refl _)
                          simp only [Act.put, List.setIfInBounds_toArray, List.set_cons_zero, List.set_cons_succ, Nat.reduceAdd]
                          apply RelyL.val
                          · intro ν w' hL hF K hK'
                            refine take_op rfl ?_
                            refine wp_eql_v _ _ _ rfl ⟨z4, z5, z6⟩ ⟨v1, v2, v3⟩ rfl rfl HE.out ?_
                            exact hK'.out _ _ rfl (Lat.refl _)
                          simp only [Act.put, List.setIfInBounds_toArray, List.set_cons_zero, List.set_cons_succ, Nat.reduceAdd]
                          apply RelyL.val
                          · intro ν w' hL hF K hK'
                            go_simp
                            exact hK'.out _ _ rfl (Lat.refl _)
                          simp only [Act.put, List.setIfInBounds_toArray, List.set_cons_zero, List.set_cons_succ, Nat.reduceAdd]
                          apply RelyL.val
                          · intro ν w' hL hF K hK'
                            go_simp
                            exact hK'.out _ _ rfl (Lat.refl _)
                          simp only [Act.put, List.setIfInBounds_toArray, List.set_cons_zero, List.set_cons_succ, Nat.reduceAdd]
                          apply RelyL.val
                          · intro ν w' hL hF K hK'
                            refine skip_op rfl ?_
                            exact hK'.out _ _ rfl (Lat.refl _)
                          simp only [Act.put, List.setIfInBounds_toArray, List.set_cons_zero, List.set_cons_succ, Nat.reduceAdd]
                          apply RelyL.val
                          · intro ν w' hL hF K hK'
                            refine skip_op rfl ?_
                            exact hK'.out _ _ rfl (Lat.refl _)
                          simp only [Act.put, List.setIfInBounds_toArray, List.set_cons_zero, List.set_cons_succ, Nat.reduceAdd]
                          apply RelyL.val
                          · intro ν w' hL hF K hK'
                            refine skip_op rfl ?_
                            exact hK'.out _ _ rfl (Lat.refl _)
                          simp only [Act.put, List.setIfInBounds_toArray, List.set_cons_zero, List.set_cons_succ, Nat.reduceAdd]
                          apply RelyL.val
                          · intro ν w' hL hF K hK'
                            refine skip_op rfl ?_
                            exact hK'.out _ _ rfl (Lat.refl _)
                          simp only [Act.put, List.setIfInBounds_toArray, List.set_cons_zero, List.set_cons_succ, Nat.reduceAdd]
                          apply RelyL.val
                          · intro ν w' hL hF K hK'
                            refine skip_op rfl ?_
                            exact hK'.out _ _ rfl (Lat.refl _)
                          simp only [Act.put, List.setIfInBounds_toArray, List.set_cons_zero, List.set_cons_succ, Nat.reduceAdd]
                          apply RelyL.val
                          · intro ν w' hL hF K hK'
                            refine skip_op rfl ?_
                            exact hK'.out _ _ rfl (Lat.refl _)
                          simp only [Act.put, List.setIfInBounds_toArray, List.set_cons_zero, List.set_cons_succ, Nat.reduceAdd]
                          apply RelyL.val
                          · intro ν w' hL hF K hK'
                            refine skip_op rfl ?_
                            exact hK'.out _ _ rfl (Lat.refl _)
                          simp only [Act.put, List.setIfInBounds_toArray, List.set_cons_zero, List.set_cons_succ, Nat.reduceAdd]
                          apply RelyL.val
                          · intro ν w' hL hF K hK'
                            refine skip_op rfl ?_
                            exact hK'.out _ _ rfl (Lat.refl _)
                          simp only [Act.put, List.setIfInBounds_toArray, List.set_cons_zero, List.set_cons_succ, Nat.reduceAdd]
                          apply RelyL.val
                          · intro ν w' hL hF K hK'
                            refine skip_op rfl ?_
                            exact hK'.out _ _ rfl (Lat.refl _)
                          simp only [Act.put, List.setIfInBounds_toArray, List.set_cons_zero, List.set_cons_succ, Nat.reduceAdd]
                          apply RelyL.val
                          · intro ν w' hL hF K hK'
                            refine skip_op rfl ?_
                            exact hK'.out _ _ rfl (Lat.refl _)
                          simp only [Act.put, List.setIfInBounds_toArray, List.set_cons_zero, List.set_cons_succ, Nat.reduceAdd]
                          apply RelyL.val
                          · intro ν w' hL hF K hK'
                            refine skip_op rfl ?_
                            exact hK'.out _ _ rfl (Lat.refl _)
                          simp only [Act.put, List.setIfInBounds_toArray, List.set_cons_zero, List.set_cons_succ, Nat.reduceAdd]
                          apply RelyL.val
                          · intro ν w' hL hF K hK'
                            refine skip_op rfl ?_
                            exact hK'.out _ _ rfl (Lat.refl _)
                          simp only [Act.put, List.setIfInBounds_toArray, List.set_cons_zero, List.set_cons_succ, Nat.reduceAdd]
                          apply RelyL.val
                          · intro ν w' hL hF K hK'
                            refine skip_op rfl ?_
                            exact hK'.out _ _ rfl (Lat.refl _)
                          simp only [Act.put, List.setIfInBounds_toArray, List.set_cons_zero, List.set_cons_succ, Nat.reduceAdd]
                          apply RelyL.val
                          · intro ν w' hL hF K hK'
                            refine skip_op rfl ?_
                            exact hK'.out _ _ rfl (Lat.refl _)
                          simp only [Act.put, List.setIfInBounds_toArray, List.set_cons_zero, List.set_cons_succ, Nat.reduceAdd]
                          apply RelyL.val
                          · intro ν w' hL hF K hK'
                            refine skip_op rfl ?_
                            exact hK'.out _ _ rfl (Lat.refl _)
                          simp only [Act.put, List.setIfInBounds_toArray, List.set_cons_zero, List.set_cons_succ, Nat.reduceAdd]
                          apply RelyL.val
                          · intro ν w' hL hF K hK'
                            refine skip_op rfl ?_
                            exact hK'.out _ _ rfl (Lat.refl _)
                          simp only [Act.put, List.setIfInBounds_toArray, List.set_cons_zero, List.set_cons_succ, Nat.reduceAdd]
                          apply RelyL.val
                          · intro ν w' hL hF K hK'
                            refine skip_op rfl ?_
                            exact hK'.out _ _ rfl (Lat.refl _)
                          simp only [Act.put, List.setIfInBounds_toArray, List.set_cons_zero, List.set_cons_succ, Nat.reduceAdd]
                          apply RelyL.val
                          · intro ν w' hL hF K hK'
                            refine skip_op rfl ?_
                            exact hK'.out _ _ rfl (Lat.refl _)
                          simp only [Act.put, List.setIfInBounds_toArray, List.set_cons_zero, List.set_cons_succ, Nat.reduceAdd]
                          apply RelyL.val
                          · intro ν w' hL hF K hK'
                            refine skip_op rfl ?_
                            exact hK'.out _ _ rfl (Lat.refl _)
                          simp only [Act.put, List.setIfInBounds_toArray, List.set_cons_zero, List.set_cons_succ, Nat.reduceAdd]
                          apply RelyL.val
                          · intro ν w' hL hF K hK'
                            refine skip_op rfl ?_
                            exact hK'.out _ _ rfl (Lat.refl _)
                          simp only [Act.put, List.setIfInBounds_toArray, List.set_cons_zero, List.set_cons_succ, Nat.reduceAdd]
                          apply RelyL.val
                          · intro ν w' hL hF K hK'
                            refine skip_op rfl ?_
                            exact hK'.out _ _ rfl (Lat.refl _)
                          simp only [Act.put, List.setIfInBounds_toArray, List.set_cons_zero, List.set_cons_succ, Nat.reduceAdd]
                          apply RelyL.val
                          · intro ν w' hL hF K hK'
                            refine skip_op rfl ?_
                            exact hK'.out _ _ rfl (Lat.refl _)
                          simp only [Act.put, List.setIfInBounds_toArray, List.set_cons_zero, List.set_cons_succ, Nat.reduceAdd]
                          apply RelyL.val
                          · intro ν w' hL hF K hK'
                            refine skip_op rfl ?_
                            exact hK'.out _ _ rfl (Lat.refl _)
                          simp only [Act.put, List.setIfInBounds_toArray, List.set_cons_zero, List.set_cons_succ, Nat.reduceAdd]
                          apply RelyL.val
                          · intro ν w' hL hF K hK'
                            refine skip_op rfl ?_
                            exact hK'.out _ _ rfl (Lat.refl _)
                          simp only [Act.put, List.setIfInBounds_toArray, List.set_cons_zero, List.set_cons_succ, Nat.reduceAdd]
                          apply RelyL.val
                          · intro ν w' hL hF K hK'
                            refine skip_op rfl ?_
                            exact hK'.out _ _ rfl (Lat.refl _)
                          simp only [Act.put, List.setIfInBounds_toArray, List.set_cons_zero, List.set_cons_succ, Nat.reduceAdd]
                          apply RelyL.val
                          · intro ν w' hL hF K hK'
                            refine skip_op rfl ?_
                            exact hK'.out _ _ rfl (Lat.refl _)
                          simp only [Act.put, List.setIfInBounds_toArray, List.set_cons_zero, List.set_cons_succ, Nat.reduceAdd]
                          apply RelyL.val
                          · intro ν w' hL hF K hK'
                            go_simp
                            exact hK'.out _ _ rfl (Lat.refl _)
                          simp only [Act.put, List.setIfInBounds_toArray, List.set_cons_zero, List.set_cons_succ, Nat.reduceAdd]
                          refine RelyL.done fun ν w12 hL12 hF => ?_
                          clear hF
                          have hL13 := hL11.trans hL12
                          go_wp2_with fail
                          go_roundw
                          case rel => exact ⟨n + 1, by omega, by go_num, hL13⟩
                          case measure => simp [intOf]; omega
              · have hn1 : ¬ ((n : Int) < (ps.length : Int)) := by omega
                have hL7 := H6.out.trans hLW
                go_wp2_with fail
                refine (HLV _).out.mono ?_
                rintro r w9 ⟨rfl, hl9⟩
                have hL9 := hL7.trans hl9
                go_wp2_with fail
                go_ret
                exact ⟨rfl, hL9⟩
  · clear HUN HF0 HB0 HB HGT hb
    go_wp2_with fail
    refine (HLV _).out.mono ?_
    rintro r w4 ⟨rfl, hl4⟩
    have hL4 := hL1.trans hl4
    go_wp2_with fail
    go_ret
    exact ⟨rfl, hL4⟩
end Go.Proofs.Ytmgalnbacenbbaa
