/- Resolve: the law on losers. -/
import Derived.Test.YtgjoojailghilaaDoorVLaw3
import Derived.Test.YtgjoojailghilaaDoorVLosP
import Derived.Test.YtgjoojailghilaaDoorVCnt
import Derived.Test.YtgjoojailghilaaDoorVPut
set_option linter.unusedSimpArgs false
set_option linter.unusedVariables false
namespace Go.Proofs.YtgjoojailghilaaDoor
open Go.RowKit

theorem Elt.Rd.take {α : Type} {E : Elt α} {w : World} {xs : List α} {A : Option Addr} {c : Nat} (h : E.Rd w xs (.slice A xs.length c)) (j : Nat) (hj : j ≤ xs.length) : E.Rd w (xs.take j) (.slice A j c) := by
  obtain ⟨A1, c1, e, hr, hn⟩ := h
  injection e with e1 e2 e3
  subst e1 e3
  have hl : (xs.take j).length = j := by rw [List.length_take]; omega
  refine ⟨A, c, by rw [hl], fun h0 => ?_, fun hA => ?_⟩
  · obtain ⟨b, off, hA, hb, hrow⟩ := hr (by simp at h0 ⊢; omega)
    refine ⟨b, off, hA, hb, fun i hi => ?_⟩
    have hi' : i < xs.length := by simp at hi; omega
    have := hrow i (by simpa using hi')
    simpa using this
  · have := hn hA
    rw [hl]; omega
theorem Elt.run_to {α : Type} (E : Elt α) {w0 : World} {xs : List α} {A : Option Addr} {c : Nat} (h : E.Rd w0 xs (.slice A xs.length c)) (hc : xs.length ≤ c) (j : Nat) (hj : j ≤ xs.length) :
    ∃ A' c', (∀ w, (Instr.slice E.t (.slice A xs.length c) none (some (.int .i64 (j : Int))) none).run Tryd.prog w = .ok (.slice A' j c') w) ∧ E.Rd w0 (xs.take j) (.slice A' j c') := by
  have hel : Tryd.prog.elem E.t = E.e := by simp [Program.elem, E.ht]
  have hu : Tryd.prog.underlying E.t = some (.slice (Tryd.prog.elem E.t)) := by rw [hel]; exact E.ht
  have hA : A.map (·.add (0 * E.n)) = A := by
    cases A with
    | none => rfl
    | some a => simp [Addr.add_zero']
  refine ⟨A, c, fun w => ?_, h.take j hj⟩
  rw [run_slice_h w E.t A xs.length c hu .i64 j (by omega) (by omega), hel]
  simp [sizeOf, typeInfo, E.hi, E.hs, Sem.run_bind, sliced]
  intro _
  simpa using hA
theorem wC_ones (y : LW) : (wC y).toArray.all (·.oneCell') = true := by
  obtain ⟨⟨x1, x2, x3⟩, ⟨x4, x5, x6⟩, x7, x8, x9, x10⟩ := y
  simp [wC, kC, vC, Value.oneCell']
theorem wC_key' {w : World} {b off : Nat} {x : LW} (h : RowAt w b off (wC x)) : RowAt w b off (kC x.key) := wC_key h
set_option maxRecDepth 100000 in
set_option maxHeartbeats 4000000 in
theorem lawLosers (l : List LW) (A : Option Addr) (c : Nat) (tw : Int) (w : World) (hx : EW.Rd w l (.slice A l.length c)) (hcap : l.length ≤ c) (ht : 0 ≤ tw ∧ tw < 256) :
    Calls Tryd.prog 9 #[.slice A l.length c, .int .u8 tw] w fun r w' => r = .returned (.bool true) ∧ Lat w w' := by
  obtain ⟨t, rfl⟩ := Int.eq_ofNat_of_zero_le ht.1
  have ht2 : t < 256 := by omega
  clear ht
  have HF := Lib.hid (few_any l A c w hx)
  go_enter Tryd.func9, Tryd.ntmps9
  go_wp2_with fail
  refine HF.out.mono ?_
  rintro r w2 ⟨rfl, hl2⟩
  clear HF
  cases hf : fewB l
  · clear hf
    go_wp2_with fail
    refine (awake_any _).mono ?_
    rintro r w9 ⟨rfl, hl9⟩
    go_wp2_with fail
    go_ret
    exact ⟨rfl, (hl2).trans hl9⟩
  · have hlen := few_len hf
    have HD := Lib.hid (decide_any l A c w2 (hx.lat hl2) (by omega))
    clear hf
    go_wp2_with fail
    refine HD.out.mono ?_
    rintro r w3 ⟨⟨ds, v3, rfl, hgood, hrd3⟩, hl3⟩
    have hL3 := hl2.trans hl3
    obtain rfl : ds = decR l := hgood.unique (decR_good l)
    obtain ⟨A3, c3, rfl⟩ := hrd3.slice
    have hdl : (decR l).length ≤ 40 := Nat.le_trans (decR_len l) hlen
    have hall : (allW (decR l)).length ≤ 40 := by rw [← nub_all]; exact Nat.le_trans (nub_len l _) hlen
    generalize hDD : decR l = D at *
    have HDD := Lib.hid hDD
    have HG := Lib.hid hgood
    have HX := Lib.hid hx
    have HRD := Lib.hid hrd3
    clear HD hDD hgood hl2 hl3 hx hrd3
    go_wp2_with fail
    go_loopw [7, 8] (fun s i wr => ∃ j m : Nat, j ≤ l.length ∧ i = .int .i64 j ∧ s = .int .i64 m ∧ Hid (m = (nub l j).length) ∧ m ≤ j ∧ Lat w3 wr) (fun _ i _ => l.length - (intOf i).toNat)
    case atStart => exact ⟨0, 0, Nat.zero_le _, rfl, rfl, Lib.hid rfl, Nat.le_refl _, Lat.refl _⟩
    case round =>
      obtain ⟨j, m, hjl, rfl, rfl, HM, hmj, hLW⟩ := hrel
      by_cases hlt : j < l.length
      · obtain ⟨b, off, hA, hb1, hr1'⟩ := (HX.out.lat (hL3.trans hLW)).row j hlt
        subst hA
        have hr1 : RowAt wr b (off + j * 10) (wC l[j]) := hr1'
        have HC := Lib.hid (count_any D l[j] A3 c3 wr (HRD.out.lat hLW) (by omega) (by omega))
        rw [count_one HG.out (List.getElem_mem hlt)] at HC
        obtain ⟨AT, cT, hsl0, hrt⟩ := EW.run_to HX.out hcap j hjl
        have hsl : ∀ w, (Instr.slice 33 (.slice (some ⟨b, off, none⟩) l.length c) none (some (.int .i64 (j : Int))) none).run Tryd.prog w = .ok (.slice AT j cT) w := hsl0
        have hns := nub_succ l j hlt
        clear hr1' hsl0
        go_wp2_with (with_reducible refine wpList_load_at rfl 29 _ rfl b (off + j * 10) rfl _ _ hr1 Tryd.underlying29 rfl (by kernel_rfl) ?_)
        refine HC.out.mono ?_
        rintro r w4 ⟨rfl, hl4⟩
        have hL4 := hLW.trans hl4
        have hr2 := hr1.below hl4 hb1
        have hb2 := Nat.lt_of_lt_of_le hb1 hl4.size
        have HTL : Hid ((l.take j).length = j) := Lib.hid (by rw [List.length_take]; omega)
        have HRT := Lib.hid (hrt.lat (hL3.trans hL4))
        clear HC hr1 hl4 hb1 hLW hrt
        by_cases hin : l[j] ∈ l.take j
        · have HM2 : Hid (m = (nub l (j + 1)).length) := Lib.hid (by rw [hns, if_pos hin]; exact HM.out)
          have HIN := Lib.hid (decide_eq_true hin)
          clear hin hns HM
          go_wp2_with fail
          refine wp_rely (by kernel_rfl) (by kernel_rfl) ?_
          apply RelyL.val
          · intro ν w' hL hF K hK'
            go_simp
            exact hK'.out _ _ rfl (Lat.refl _)
          simp only [Act.put, List.setIfInBounds_toArray, List.set_cons_zero, List.set_cons_succ, Nat.reduceAdd]
          apply RelyL.val
          · intro ν w' hL hF K hK'
            go_simp
            exact hK'.out _ _ rfl (Lat.refl _)
          simp only [Act.put, List.setIfInBounds_toArray, List.set_cons_zero, List.set_cons_succ, Nat.reduceAdd]
          apply RelyL.val
          · intro ν w' hL hF K hK'
            go_simp
            exact hK'.out _ _ rfl (Lat.refl _)
          simp only [Act.put, List.setIfInBounds_toArray, List.set_cons_zero, List.set_cons_succ, Nat.reduceAdd]
          apply RelyL.val
          · intro ν w' hL hF K hK'
            go_simp
            exact hK'.out _ _ rfl (Lat.refl _)
          simp only [Act.put, List.setIfInBounds_toArray, List.set_cons_zero, List.set_cons_succ, Nat.reduceAdd]
          apply RelyL.val
          · intro ν w' hL hF K hK'
            go_simp
            exact hK'.out _ _ rfl (Lat.refl _)
          simp only [Act.put, List.setIfInBounds_toArray, List.set_cons_zero, List.set_cons_succ, Nat.reduceAdd]
          apply RelyL.val
          · intro ν w' hL hF K hK'
            go_simp
            exact hK'.out _ _ rfl (Lat.refl _)
          simp only [Act.put, List.setIfInBounds_toArray, List.set_cons_zero, List.set_cons_succ, Nat.reduceAdd]
          apply RelyL.val
          · intro ν w' hL hF K hK'
            refine take_op rfl ?_
            refine wp_load_at 29 _ rfl b ((off + j * 10)) rfl _ _ (hr2.below hL hb2) Tryd.underlying29 rfl (by kernel_rfl) ?_
            exact hK'.out _ _ rfl (Lat.refl _)
          simp only [Act.put, List.setIfInBounds_toArray, List.set_cons_zero, List.set_cons_succ, Nat.reduceAdd]
          apply RelyL.val
          · intro ν w' hL hF K hK'
            have H := Lib.hid (among_any (l.take j) l[j] AT cT w' (by rw [HTL.out]; exact HRT.out.lat hL) (by rw [HTL.out]; omega))
            rw [HTL.out, HIN.out] at H
            go_simp
            go_at_call 27
            refine H.out.mono ?_
            rintro r w'' ⟨rfl, hbp⟩
            exact hK'.out _ _ rfl hbp
          simp only [Act.put, List.setIfInBounds_toArray, List.set_cons_zero, List.set_cons_succ, Nat.reduceAdd]
          apply RelyL.val
          · intro ν w' hL hF K hK'
            go_simp
            exact hK'.out _ _ rfl (Lat.refl _)
          simp only [Act.put, List.setIfInBounds_toArray, List.set_cons_zero, List.set_cons_succ, Nat.reduceAdd]
          refine RelyL.done fun ν w5 hL hF => ?_
          clear hF
          have hL5 := hL4.trans hL
          go_wp2_with fail
          go_roundw
          case rel => exact ⟨j + 1, m, by omega, by go_num, rfl, HM2, by omega, hL5⟩
          case measure => simp [intOf]; omega
        · have HM2 : Hid (m + 1 = (nub l (j + 1)).length) := Lib.hid (by rw [hns, if_neg hin, List.length_append, List.length_singleton, HM.out])
          have HIN := Lib.hid (decide_eq_false hin)
          clear hin hns HM
          go_wp2_with fail
          refine wp_rely (by kernel_rfl) (by kernel_rfl) ?_
          apply RelyL.val
          · intro ν w' hL hF K hK'
            go_simp
            exact hK'.out _ _ rfl (Lat.refl _)
          simp only [Act.put, List.setIfInBounds_toArray, List.set_cons_zero, List.set_cons_succ, Nat.reduceAdd]
          apply RelyL.val
          · intro ν w' hL hF K hK'
            go_simp
            exact hK'.out _ _ rfl (Lat.refl _)
          simp only [Act.put, List.setIfInBounds_toArray, List.set_cons_zero, List.set_cons_succ, Nat.reduceAdd]
          apply RelyL.val
          · intro ν w' hL hF K hK'
            go_simp
            exact hK'.out _ _ rfl (Lat.refl _)
          simp only [Act.put, List.setIfInBounds_toArray, List.set_cons_zero, List.set_cons_succ, Nat.reduceAdd]
          apply RelyL.val
          · intro ν w' hL hF K hK'
            go_simp
            exact hK'.out _ _ rfl (Lat.refl _)
          simp only [Act.put, List.setIfInBounds_toArray, List.set_cons_zero, List.set_cons_succ, Nat.reduceAdd]
          apply RelyL.val
          · intro ν w' hL hF K hK'
            go_simp
            exact hK'.out _ _ rfl (Lat.refl _)
          simp only [Act.put, List.setIfInBounds_toArray, List.set_cons_zero, List.set_cons_succ, Nat.reduceAdd]
          apply RelyL.val
          · intro ν w' hL hF K hK'
            go_simp
            exact hK'.out _ _ rfl (Lat.refl _)
          simp only [Act.put, List.setIfInBounds_toArray, List.set_cons_zero, List.set_cons_succ, Nat.reduceAdd]
          apply RelyL.val
          · intro ν w' hL hF K hK'
            refine take_op rfl ?_
            refine wp_load_at 29 _ rfl b ((off + j * 10)) rfl _ _ (hr2.below hL hb2) Tryd.underlying29 rfl (by kernel_rfl) ?_
            exact hK'.out _ _ rfl (Lat.refl _)
          simp only [Act.put, List.setIfInBounds_toArray, List.set_cons_zero, List.set_cons_succ, Nat.reduceAdd]
          apply RelyL.val
          · intro ν w' hL hF K hK'
            have H := Lib.hid (among_any (l.take j) l[j] AT cT w' (by rw [HTL.out]; exact HRT.out.lat hL) (by rw [HTL.out]; omega))
            rw [HTL.out, HIN.out] at H
            go_simp
            go_at_call 27
            refine H.out.mono ?_
            rintro r w'' ⟨rfl, hbp⟩
            exact hK'.out _ _ rfl hbp
          simp only [Act.put, List.setIfInBounds_toArray, List.set_cons_zero, List.set_cons_succ, Nat.reduceAdd]
          apply RelyL.val
          · intro ν w' hL hF K hK'
            go_simp
            exact hK'.out _ _ rfl (Lat.refl _)
          simp only [Act.put, List.setIfInBounds_toArray, List.set_cons_zero, List.set_cons_succ, Nat.reduceAdd]
          refine RelyL.done fun ν w5 hL hF => ?_
          clear hF
          have hL5 := hL4.trans hL
          go_wp2_with fail
          go_roundw
          case rel => exact ⟨j + 1, m + 1, by omega, by go_num, by go_num, HM2, by omega, hL5⟩
          case measure => simp [intOf]; omega
      · have hN : m = (allW D).length := by
          have e : j = l.length := by omega
          rw [HM.out, e, nub_all, HDD.out]
        have hL3r := hL3.trans hLW
        clear HM
        subst hN
        obtain ⟨w6, rfl⟩ : ∃ w, w = wr := ⟨_, rfl⟩
        have HL6 := Lib.hid hLW
        have HL06 := Lib.hid hL3r
        go_wp2_with fail
        clear hLW hL3r hlt hjl hmj
        go_loopw [6, 9, 10] (fun s v i wr => ∃ j s0 : Nat, j ≤ D.length ∧ i = .int .i64 j ∧ s = .int .i64 s0 ∧ Hid (s0 = (allW (D.take j)).length) ∧ EW.Own wr w6.heap.size (lostD (D.take j)) v ∧ Lat w6 wr) (fun _ _ i _ => D.length - (intOf i).toNat)
        case atStart => exact ⟨0, 0, Nat.zero_le _, rfl, rfl, Lib.hid rfl, Elt.Own.nil _ _, Lat.refl _⟩
        case round =>
          obtain ⟨j, s0, hjl, rfl, rfl, HS, hown, hLW⟩ := hrel
          by_cases hlt : j < D.length
          · obtain ⟨b, off, A1, n1, m1, hA, hb6, hr6, hlr6⟩ := (HRD.out.lat HL6.out).row j hlt
            subst hA
            have htk := lostD_take D j hlt
            have hat := allW_take D j hlt
            have hal := allW_len D (j + 1)
            have hll := lostD_len D j
            have hkey := HG.out.key D[j] (List.getElem_mem hlt)
            obtain ⟨d, hd⟩ : ∃ d, d = D[j] := ⟨_, rfl⟩
            rw [← hd] at hr6 hlr6 htk hat hkey
            clear hd
            obtain ⟨A1', m1', hv1⟩ : ∃ A' c', Value.slice A1 n1 m1 = .slice A' d.los.length c' := by obtain ⟨A', c', h, _⟩ := hlr6; exact ⟨A', c', h⟩
            injection hv1 with f1 f2 f3
            subst f1 f2 f3
            have c13 := (dec_los (hr6.below hLW hb6)).1
            rw [hat, List.length_append, List.length_cons] at hal
            have hs0 := HS.out
            have HS2 : Hid (s0 + 1 + d.los.length = (allW (D.take (j + 1))).length) := Lib.hid (by rw [hat, List.length_append, List.length_cons, hs0]; omega)
            have hsb : s0 + 1 + d.los.length ≤ 40 := by omega
            have hlb : (lostD (D.take j)).length ≤ 40 := by omega
            have HM1 : Hid ((lostD (D.take j)).length + d.los.length ≤ maxLen) := Lib.hid (by unfold maxLen; omega)
            have HM2 : Hid (((lostD (D.take j)).length + d.los.length) * EW.bytes ≤ 140737488355328) := Lib.hid (Nat.le_trans (Nat.mul_le_mul_right EW.bytes (by omega : (lostD (D.take j)).length + d.los.length ≤ 1000000)) (by decide))
            obtain ⟨A8, m8, ev, hr8, hn8⟩ := hlr6.lat hLW
            injection ev with f1 f2 f3
            subst f1 f3
            have HLR := Lib.hid hlr6
            have HR6 := Lib.hid hr6
            have HB6 := Lib.hid hb6
            have HB := Lib.hid hLW.size
            have HLW := Lib.hid hLW
            have HT := Lib.hid (fun k (hk : u9.ownBlock = some k) => (hown.lt k hk).1)
            clear f2 hat hal hll hs0 HS hlb hLW hlr6 hr6 hb6
            go_wp2_with (at_builtin; refine EW.appends rfl _ _ rfl w6.heap.size (lostD (D.take j)) _ rfl hown A1 d.los.length m1 d.los rfl rfl hn8 hr8 HM1.out HM2.out HB.out ?_; intro v8 w8 hown8 hg8; go_must (have hL8 : Lat w6 w8 := HLW.out.grown hg8 HB.out HT.out; clear hown c13 hg8 hr8))
            have hkw0 := hkey d.win (by simp [LD.all])
            have HKL := Lib.hid (fun x (hx : x ∈ d.los) => hkey x (by simp [LD.all, hx]))
            have HE := Lib.hid (decide_eq_true hkw0)
            have hr9 := HR6.out.below hL8 HB6.out
            have hb8 := Nat.lt_of_lt_of_le HB6.out hL8.size
            have hkw := wC_key' (dec_win hr9)
            have hkd := dec_key hr9
            clear hkey hkw0 hr9
            go_wp2_with fail
            refine wp_rely (by kernel_rfl) (by kernel_rfl) ?_
            apply RelyL.val
            · intro ν w' hL hF K hK'
              go_simp
              exact hK'.out _ _ rfl (Lat.refl _)
            simp only [Act.put, List.setIfInBounds_toArray, List.set_cons_zero, List.set_cons_succ, Nat.reduceAdd]
            apply RelyL.val
            · intro ν w' hL hF K hK'
              go_simp
              exact hK'.out _ _ rfl (Lat.refl _)
            simp only [Act.put, List.setIfInBounds_toArray, List.set_cons_zero, List.set_cons_succ, Nat.reduceAdd]
            apply RelyL.val
            · intro ν w' hL hF K hK'
              go_simp
              exact hK'.out _ _ rfl (Lat.refl _)
            simp only [Act.put, List.setIfInBounds_toArray, List.set_cons_zero, List.set_cons_succ, Nat.reduceAdd]
            apply RelyL.val
            · intro ν w' hL hF K hK'
              go_simp
              exact hK'.out _ _ rfl (Lat.refl _)
            simp only [Act.put, List.setIfInBounds_toArray, List.set_cons_zero, List.set_cons_succ, Nat.reduceAdd]
            apply RelyL.val
            · intro ν w' hL hF K hK'
              go_simp
              exact hK'.out _ _ rfl (Lat.refl _)
            simp only [Act.put, List.setIfInBounds_toArray, List.set_cons_zero, List.set_cons_succ, Nat.reduceAdd]
            apply RelyL.val
            · intro ν w' hL hF K hK'
              refine take_op rfl ?_
              refine wp_load_at 23 _ rfl b ((off + j * 15 + 3)) rfl _ _ (hkw.below hL hb8) Tryd.underlying23 rfl (by kernel_rfl) ?_
              exact hK'.out _ _ rfl (Lat.refl _)
            simp only [Act.put, List.setIfInBounds_toArray, List.set_cons_zero, List.set_cons_succ, Nat.reduceAdd]
            apply RelyL.val
            · intro ν w' hL hF K hK'
              go_simp
              exact hK'.out _ _ rfl (Lat.refl _)
            simp only [Act.put, List.setIfInBounds_toArray, List.set_cons_zero, List.set_cons_succ, Nat.reduceAdd]
            apply RelyL.val
            · intro ν w' hL hF K hK'
              go_simp
              exact hK'.out _ _ rfl (Lat.refl _)
            simp only [Act.put, List.setIfInBounds_toArray, List.set_cons_zero, List.set_cons_succ, Nat.reduceAdd]
            apply RelyL.val
            · intro ν w' hL hF K hK'
              go_simp
              exact hK'.out _ _ rfl (Lat.refl _)
            simp only [Act.put, List.setIfInBounds_toArray, List.set_cons_zero, List.set_cons_succ, Nat.reduceAdd]
            apply RelyL.val
            · intro ν w' hL hF K hK'
              go_simp
              exact hK'.out _ _ rfl (Lat.refl _)
            simp only [Act.put, List.setIfInBounds_toArray, List.set_cons_zero, List.set_cons_succ, Nat.reduceAdd]
            apply RelyL.val
            · intro ν w' hL hF K hK'
              refine take_op rfl ?_
              refine wp_load_at 23 _ rfl b ((off + j * 15)) rfl _ _ (hkd.below hL hb8) Tryd.underlying23 rfl (by kernel_rfl) ?_
              exact hK'.out _ _ rfl (Lat.refl _)
            simp only [Act.put, List.setIfInBounds_toArray, List.set_cons_zero, List.set_cons_succ, Nat.reduceAdd]
            apply RelyL.val
            · intro ν w' hL hF K hK'
              refine take_op rfl ?_
              refine wp_neq_k _ _ _ rfl d.win.key d.key rfl rfl HE.out ?_
              exact hK'.out _ _ rfl (Lat.refl _)
            simp only [Act.put, List.setIfInBounds_toArray, List.set_cons_zero, List.set_cons_succ, Nat.reduceAdd]
            refine RelyL.done fun ν w9 hL hF => ?_
            clear hF
            have hL9 := hL8.trans hL
            have hown9 := hown8.lat hL
            clear hkw hkd HE hL hown8 hL8
            go_wp2_with fail
            go_loopw [11] (fun k wr => ∃ q : Nat, q ≤ d.los.length ∧ k = .int .i64 q ∧ Lat w9 wr) (fun k _ => d.los.length - (intOf k).toNat)
            case atStart => exact ⟨0, Nat.zero_le _, rfl, Lat.refl _⟩
            case round =>
              obtain ⟨q, hql, rfl, hLA⟩ := hrel
              obtain ⟨w10, rfl⟩ : ∃ w, w = wr := ⟨_, rfl⟩
              have hrA := HR6.out.below (hL9.trans hLA) HB6.out
              have hbA : b < w10.heap.size := Nat.lt_of_lt_of_le HB6.out (hL9.trans hLA).size
              have c13 := (dec_los hrA).1
              by_cases hlq : q < d.los.length
              · obtain ⟨bl, offl, hAl, hbl, hrl'⟩ := (HLR.out.lat (hL9.trans hLA)).row q hlq
                subst hAl
                have hkl : RowAt w10 bl (offl + q * 10) (kC d.los[q].key) := wC_key' hrl'
                have hkd := dec_key hrA
                have HE := Lib.hid (decide_eq_true (HKL.out d.los[q] (List.getElem_mem hlq)))
                clear hrl'
                go_wp2_with fail
                refine wp_rely (by kernel_rfl) (by kernel_rfl) ?_
                apply RelyL.val
                · intro ν w' hL hF K hK'
                  go_simp
                  exact hK'.out _ _ rfl (Lat.refl _)
                simp only [Act.put, List.setIfInBounds_toArray, List.set_cons_zero, List.set_cons_succ, Nat.reduceAdd]
                apply RelyL.val
                · intro ν w' hL hF K hK'
                  go_simp
                  exact hK'.out _ _ rfl (Lat.refl _)
                simp only [Act.put, List.setIfInBounds_toArray, List.set_cons_zero, List.set_cons_succ, Nat.reduceAdd]
                apply RelyL.val
                · intro ν w' hL hF K hK'
                  go_simp
                  exact hK'.out _ _ rfl (Lat.refl _)
                simp only [Act.put, List.setIfInBounds_toArray, List.set_cons_zero, List.set_cons_succ, Nat.reduceAdd]
                apply RelyL.val
                · intro ν w' hL hF K hK'
                  go_simp
                  exact hK'.out _ _ rfl (Lat.refl _)
                simp only [Act.put, List.setIfInBounds_toArray, List.set_cons_zero, List.set_cons_succ, Nat.reduceAdd]
                apply RelyL.val
                · intro ν w' hL hF K hK'
                  have c13 := (dec_los (hrA.below hL hbA)).1
                  go_simp
                  exact hK'.out _ _ rfl (Lat.refl _)
                simp only [Act.put, List.setIfInBounds_toArray, List.set_cons_zero, List.set_cons_succ, Nat.reduceAdd]
                apply RelyL.val
                · intro ν w' hL hF K hK'
                  go_simp
                  exact hK'.out _ _ rfl (Lat.refl _)
                simp only [Act.put, List.setIfInBounds_toArray, List.set_cons_zero, List.set_cons_succ, Nat.reduceAdd]
                apply RelyL.val
                · intro ν w' hL hF K hK'
                  go_simp
                  exact hK'.out _ _ rfl (Lat.refl _)
                simp only [Act.put, List.setIfInBounds_toArray, List.set_cons_zero, List.set_cons_succ, Nat.reduceAdd]
                apply RelyL.val
                · intro ν w' hL hF K hK'
                  go_simp
                  exact hK'.out _ _ rfl (Lat.refl _)
                simp only [Act.put, List.setIfInBounds_toArray, List.set_cons_zero, List.set_cons_succ, Nat.reduceAdd]
                apply RelyL.val
                · intro ν w' hL hF K hK'
                  refine take_op rfl ?_
                  refine wp_load_at 23 _ rfl bl ((offl + q * 10)) rfl _ _ (hkl.below hL hbl) Tryd.underlying23 rfl (by kernel_rfl) ?_
                  exact hK'.out _ _ rfl (Lat.refl _)
                simp only [Act.put, List.setIfInBounds_toArray, List.set_cons_zero, List.set_cons_succ, Nat.reduceAdd]
                apply RelyL.val
                · intro ν w' hL hF K hK'
                  go_simp
                  exact hK'.out _ _ rfl (Lat.refl _)
                simp only [Act.put, List.setIfInBounds_toArray, List.set_cons_zero, List.set_cons_succ, Nat.reduceAdd]
                apply RelyL.val
                · intro ν w' hL hF K hK'
                  go_simp
                  exact hK'.out _ _ rfl (Lat.refl _)
                simp only [Act.put, List.setIfInBounds_toArray, List.set_cons_zero, List.set_cons_succ, Nat.reduceAdd]
                apply RelyL.val
                · intro ν w' hL hF K hK'
                  go_simp
                  exact hK'.out _ _ rfl (Lat.refl _)
                simp only [Act.put, List.setIfInBounds_toArray, List.set_cons_zero, List.set_cons_succ, Nat.reduceAdd]
                apply RelyL.val
                · intro ν w' hL hF K hK'
                  go_simp
                  exact hK'.out _ _ rfl (Lat.refl _)
                simp only [Act.put, List.setIfInBounds_toArray, List.set_cons_zero, List.set_cons_succ, Nat.reduceAdd]
                apply RelyL.val
                · intro ν w' hL hF K hK'
                  refine take_op rfl ?_
                  refine wp_load_at 23 _ rfl b ((off + j * 15)) rfl _ _ (hkd.below hL hbA) Tryd.underlying23 rfl (by kernel_rfl) ?_
                  exact hK'.out _ _ rfl (Lat.refl _)
                simp only [Act.put, List.setIfInBounds_toArray, List.set_cons_zero, List.set_cons_succ, Nat.reduceAdd]
                apply RelyL.val
                · intro ν w' hL hF K hK'
                  refine take_op rfl ?_
                  refine wp_neq_k _ _ _ rfl d.los[q].key d.key rfl rfl HE.out ?_
                  exact hK'.out _ _ rfl (Lat.refl _)
                simp only [Act.put, List.setIfInBounds_toArray, List.set_cons_zero, List.set_cons_succ, Nat.reduceAdd]
                refine RelyL.done fun ν w11 hL hF => ?_
                clear hF
                have hLB := hLA.trans hL
                clear hkl hkd HE hL hrA c13 hLA
                go_wp2_with fail
                go_roundw
                case rel => exact ⟨q + 1, by omega, by go_num, hLB⟩
                case measure => simp [intOf]; omega
              · have hownB := hown9.lat hLA
                have hLB := hL9.trans hLA
                clear hown9 hLA hL9 hrA
                go_wp2_with fail
                go_roundw
                case rel => exact ⟨j + 1, s0 + 1 + d.los.length, by omega, by go_num, by go_num, HS2, by rw [htk]; exact hownB, hLB⟩
                case measure => simp [intOf]; omega
          · have hN : s0 = (allW D).length := by
              rw [HS.out, List.take_of_length_le (by omega)]
            have hjD : D.take j = D := List.take_of_length_le (by omega)
            rw [hjD] at hown
            clear HS hjD hjl
            subst hN
            obtain ⟨w7, rfl⟩ : ∃ w, w = wr := ⟨_, rfl⟩
            have hL7 := HL06.out.trans hLW
            have hL37 := HL6.out.trans hLW
            have hll : (lostD D).length ≤ 40 := by
              have := lostD_len D D.length
              rw [List.take_length] at this
              omega
            obtain ⟨A9, c9, rfl⟩ := hown.slice
            have hrdl := hown.rd
            clear hown hLW HL6 HL06
            by_cases h0 : (lostD D).length = 0
            · clear hrdl hL37
              go_wp2_with fail
              refine (awake_any _).mono ?_
              rintro r w9 ⟨rfl, hl9⟩
              go_wp2_with fail
              go_ret
              exact ⟨rfl, (hL7).trans hl9⟩
            · have hpos : 0 < (lostD D).length := by omega
              have hti : t % (lostD D).length < (lostD D).length := Nat.mod_lt _ hpos
              obtain ⟨bb, off, hA, hb1, hr1'⟩ := hrdl.row (t % (lostD D).length) hti
              subst hA
              have hr1 : RowAt w7 bb (off + t % (lostD D).length * 10) (wC ((lostD D)[t % (lostD D).length]'hti)) := hr1'
              have hmem : (lostD D)[t % (lostD D).length]'hti ∈ lostD D := List.getElem_mem hti
              generalize ((lostD D)[t % (lostD D).length]'hti) = y at *
              rw [← HDD.out] at hmem
              have HW := Lib.hid (drop_wins hmem)
              have hi1 : (0 : Int) ≤ (t : Int) % ((lostD D).length : Int) := Int.emod_nonneg _ (by omega)
              have hi2 : (t : Int) % ((lostD D).length : Int) < ((lostD D).length : Int) := Int.emod_lt_of_pos _ (by omega)
              have hz : (((lostD D).length : Int) == 0) = false := by rw [beq_eq_false_iff_ne]; omega
              have HIW : Hid ((Tryd.prog.info? 29).map (·.size) = some 10) := Lib.hid (by kernel_rfl)
              have HG0 := Lib.hid (Blk.new w7 29 #[.int .i64 0, .string { data := #[] }, .string { data := #[] }, .int .i64 0, .int .i64 0, .string { data := #[] }, .int .i64 0, .string { data := #[] }, .int .i64 0, .int .i64 0])
              have HONE : Hid ((wC y).toArray.all (·.oneCell') = true) := Lib.hid (wC_ones y)
              have hb8 := (Blk.new w7 29 #[.int .i64 0, .string { data := #[] }, .string { data := #[] }, .int .i64 0, .int .i64 0, .string { data := #[] }, .int .i64 0, .string { data := #[] }, .int .i64 0, .int .i64 0]).setRow (wC y).toArray
              have hL8 : Lat w7 ((w7.alloc (.cells #[.int .i64 0, .string { data := #[] }, .string { data := #[] }, .int .i64 0, .int .i64 0, .string { data := #[] }, .int .i64 0, .string { data := #[] }, .int .i64 0, .int .i64 0] 29)).setRow w7.heap.size (wC y).toArray) := Below.trans (Lat.al w7 (.cells #[.int .i64 0, .string { data := #[] }, .string { data := #[] }, .int .i64 0, .int .i64 0, .string { data := #[] }, .int .i64 0, .string { data := #[] }, .int .i64 0, .int .i64 0] 29)) (lat_setRow _ (Nat.le_refl _))
              have HB8 := Lib.hid hb8
              have HL8 := Lib.hid hL8
              clear hr1' hmem h0 hrdl hb8 hL8 hti
              go_wp2_with (first | (with_reducible refine wpList_load_at rfl 29 _ rfl bb (off + t % (lostD D).length * 10) rfl _ _ hr1 Tryd.underlying29 rfl (by kernel_rfl) ?_) | (refine wpList_store_row rfl 29 _ _ rfl w7.heap.size (wC y).toArray rfl rfl 29 #[.int .i64 0, .string { data := #[] }, .string { data := #[] }, .int .i64 0, .int .i64 0, .string { data := #[] }, .int .i64 0, .string { data := #[] }, .int .i64 0, .int .i64 0] HG0.out HIW.out rfl HONE.out ?_))
              have hL08 := hL7.trans HL8.out
              have hL38 := hL37.trans HL8.out
              have hb8 := HB8.out
              generalize (w7.alloc (.cells #[.int .i64 0, .string { data := #[] }, .string { data := #[] }, .int .i64 0, .int .i64 0, .string { data := #[] }, .int .i64 0, .string { data := #[] }, .int .i64 0, .int .i64 0] 29)).setRow w7.heap.size (wC y).toArray = w8 at *
              generalize w7.heap.size = g8 at *
              clear hL7 hL37 HL8 HB8 HG0 hr1 hb1 hi1 hi2 hz
              go_loopw [13, 14] (fun v i wr => ∃ j : Nat, j ≤ l.length ∧ i = .int .i64 j ∧ EW.Own wr w8.heap.size ((l.take j).filter (fun x => x ≠ y)) v ∧ Lat w8 wr) (fun _ i _ => l.length - (intOf i).toNat)
              case atStart => exact ⟨0, Nat.zero_le _, rfl, by simpa using Elt.Own.nil _ _, Lat.refl _⟩
              case round =>
                obtain ⟨j, hjl, rfl, hown, hLW⟩ := hrel
                by_cases hlt : j < l.length
                · obtain ⟨b, off, hA, hb1, hr1'⟩ := (HX.out.lat (hL08.trans hLW)).row j hlt
                  subst hA
                  have hr1 : RowAt wr b (off + j * 10) (wC l[j]) := hr1'
                  have hrx : RowAt wr g8 0 (wC y) := (hb8.lat hLW).row
                  have hbx : g8 < wr.heap.size := (hb8.lat hLW).lt
                  have hft := filter_take l y j hlt
                  clear hr1'
                  by_cases he : l[j] = y
                  · have HE := Lib.hid (decide_eq_true he)
                    rw [if_pos he, List.append_nil] at hft
                    have HFT := Lib.hid hft
                    clear he hft
                    go_wp2_with fail
                    refine wp_rely (by kernel_rfl) (by kernel_rfl) ?_
                    apply RelyL.val
                    · intro ν w' hL hF K hK'
                      go_simp
                      exact hK'.out _ _ rfl (Lat.refl _)
                    simp only [Act.put, List.setIfInBounds_toArray, List.set_cons_zero, List.set_cons_succ, Nat.reduceAdd]
                    apply RelyL.val
                    · intro ν w' hL hF K hK'
                      go_simp
                      exact hK'.out _ _ rfl (Lat.refl _)
                    simp only [Act.put, List.setIfInBounds_toArray, List.set_cons_zero, List.set_cons_succ, Nat.reduceAdd]
                    apply RelyL.val
                    · intro ν w' hL hF K hK'
                      go_simp
                      exact hK'.out _ _ rfl (Lat.refl _)
                    simp only [Act.put, List.setIfInBounds_toArray, List.set_cons_zero, List.set_cons_succ, Nat.reduceAdd]
                    apply RelyL.val
                    · intro ν w' hL hF K hK'
                      refine take_op rfl ?_
                      refine wp_load_at 29 _ rfl b ((off + j * 10)) rfl _ _ (hr1.below hL hb1) Tryd.underlying29 rfl (by kernel_rfl) ?_
                      exact hK'.out _ _ rfl (Lat.refl _)
                    simp only [Act.put, List.setIfInBounds_toArray, List.set_cons_zero, List.set_cons_succ, Nat.reduceAdd]
                    apply RelyL.val
                    · intro ν w' hL hF K hK'
                      refine take_op rfl ?_
                      refine wp_load_at 29 _ rfl g8 (0) rfl _ _ (hrx.below hL hbx) Tryd.underlying29 rfl (by kernel_rfl) ?_
                      exact hK'.out _ _ rfl (Lat.refl _)
                    simp only [Act.put, List.setIfInBounds_toArray, List.set_cons_zero, List.set_cons_succ, Nat.reduceAdd]
                    apply RelyL.val
                    · intro ν w' hL hF K hK'
                      refine take_op rfl ?_
                      refine wp_neq_w _ _ _ rfl l[j] y rfl rfl HE.out ?_
                      exact hK'.out _ _ rfl (Lat.refl _)
                    simp only [Act.put, List.setIfInBounds_toArray, List.set_cons_zero, List.set_cons_succ, Nat.reduceAdd]
                    refine RelyL.done fun ν w4 hL hF => ?_
                    clear hF
                    have hown4 := hown.lat hL
                    have hL4 := hLW.trans hL
                    clear hown hLW hL hr1 hrx HE
                    go_wp2_with fail
                    go_roundw
                    case rel => exact ⟨j + 1, by omega, by go_num, by rw [HFT.out]; exact hown4, hL4⟩
                    case measure => simp [intOf]; omega
                  · have HE := Lib.hid (decide_eq_false he)
                    rw [if_neg he] at hft
                    have HFT := Lib.hid hft
                    clear he hft
                    go_wp2_with fail
                    refine wp_rely (by kernel_rfl) (by kernel_rfl) ?_
                    apply RelyL.val
                    · intro ν w' hL hF K hK'
                      go_simp
                      exact hK'.out _ _ rfl (Lat.refl _)
                    simp only [Act.put, List.setIfInBounds_toArray, List.set_cons_zero, List.set_cons_succ, Nat.reduceAdd]
                    apply RelyL.val
                    · intro ν w' hL hF K hK'
                      go_simp
                      exact hK'.out _ _ rfl (Lat.refl _)
                    simp only [Act.put, List.setIfInBounds_toArray, List.set_cons_zero, List.set_cons_succ, Nat.reduceAdd]
                    apply RelyL.val
                    · intro ν w' hL hF K hK'
                      go_simp
                      exact hK'.out _ _ rfl (Lat.refl _)
                    simp only [Act.put, List.setIfInBounds_toArray, List.set_cons_zero, List.set_cons_succ, Nat.reduceAdd]
                    apply RelyL.val
                    · intro ν w' hL hF K hK'
                      refine take_op rfl ?_
                      refine wp_load_at 29 _ rfl b ((off + j * 10)) rfl _ _ (hr1.below hL hb1) Tryd.underlying29 rfl (by kernel_rfl) ?_
                      exact hK'.out _ _ rfl (Lat.refl _)
                    simp only [Act.put, List.setIfInBounds_toArray, List.set_cons_zero, List.set_cons_succ, Nat.reduceAdd]
                    apply RelyL.val
                    · intro ν w' hL hF K hK'
                      refine take_op rfl ?_
                      refine wp_load_at 29 _ rfl g8 (0) rfl _ _ (hrx.below hL hbx) Tryd.underlying29 rfl (by kernel_rfl) ?_
                      exact hK'.out _ _ rfl (Lat.refl _)
                    simp only [Act.put, List.setIfInBounds_toArray, List.set_cons_zero, List.set_cons_succ, Nat.reduceAdd]
                    apply RelyL.val
                    · intro ν w' hL hF K hK'
                      refine take_op rfl ?_
                      refine wp_neq_w _ _ _ rfl l[j] y rfl rfl HE.out ?_
                      exact hK'.out _ _ rfl (Lat.refl _)
                    simp only [Act.put, List.setIfInBounds_toArray, List.set_cons_zero, List.set_cons_succ, Nat.reduceAdd]
                    refine RelyL.done fun ν w4 hL hF => ?_
                    clear hF
                    have hfl : ((l.take j).filter (fun x => x ≠ y)).length ≤ 40 := Nat.le_trans (List.length_filter_le _ _) (by rw [List.length_take]; omega)
                    have hown4 := (hown.lat hL).al (.cells (wC l[j]).toArray 29)
                    have hL4 := hLW.trans hL
                    have hr2 := hr1.below hL hb1
                    generalize (l.take j).filter (fun x => x ≠ y) = fl at *
                    generalize hy2 : l[j] = z at *
                    have hfw := foldW z
                    have hwl : (wC z).length = 10 := rfl
                    have hnew := Blk.new w4 29 (wC z).toArray
                    have hL5 : Lat w8 (w4.alloc (.cells (wC z).toArray 29)) := hL4.trans (Lat.al _ _)
                    have HM1 : Hid (fl.length + 1 ≤ maxLen) := Lib.hid (by unfold maxLen; omega)
                    have HM2 : Hid ((fl.length + 1) * EW.bytes ≤ 140737488355328) := Lib.hid (Nat.le_trans (Nat.mul_le_mul_right EW.bytes (by omega : fl.length + 1 ≤ 1000000)) (by decide))
                    have HB := Lib.hid hL5.size
                    have HL5 := Lib.hid hL5
                    have HT := Lib.hid (fun k (hk : u13.ownBlock = some k) => (hown.lt k hk).1)
                    clear hown hLW hL hr1 hrx HE hy2 hL4 hL5 hfl
                    go_wp2_with (first | (with_reducible refine wpList_load_at rfl 29 _ rfl b (off + j * 10) rfl _ _ hr2 Tryd.underlying29 rfl (by kernel_rfl) ?_) | (at_builtin; refine EW.append rfl _ _ rfl w8.heap.size fl _ rfl hown4 w4.heap.size 1 z rfl 29 hnew HM1.out HM2.out HB.out ?_; intro v6 w6 hown6 hg6 hw6; go_must (have hL6 : Lat w8 w6 := HL5.out.grown hg6 HB.out HT.out; clear hnew hg6 hw6 hown4)))
                    go_roundw
                    case rel => exact ⟨j + 1, by omega, by go_num, by rw [HFT.out]; exact hown6, hL6⟩
                    case measure => simp [intOf]; omega
                · have htk : l.take j = l := List.take_of_length_le (by omega)
                  rw [htk] at hown
                  clear htk
                  have hrl : (l.filter (fun x => x ≠ y)).length ≤ 40 := Nat.le_trans (List.length_filter_le _ _) hlen
                  generalize hrest : l.filter (fun x => x ≠ y) = rest at *
                  have hrd := hown.rd
                  obtain ⟨AR, cR, rfl⟩ := hown.slice
                  have HDR := Lib.hid (decide_any rest AR cR wr hrd (by omega))
                  have hL0r := hL08.trans hLW
                  have hL3r := hL38.trans hLW
                  have hw1 := HW.out
                  rw [HDD.out] at hw1
                  have HW1 := Lib.hid hw1
                  clear hown hrd hrest hL08 hL38 hLW hw1 HW
                  go_wp2_with fail
                  refine HDR.out.mono ?_
                  rintro r w10 ⟨⟨ds', v10, rfl, hgood, hrd10⟩, hl10⟩
                  obtain rfl : ds' = decR rest := hgood.unique (decR_good rest)
                  have hdl2 : (decR rest).length ≤ 40 := Nat.le_trans (decR_len rest) hrl
                  obtain ⟨AS, cS, rfl⟩ := hrd10.slice
                  have HW2 := Lib.hid (winners_any (decR rest) AS cS w10 hrd10 (by omega))
                  have hL0s := hL0r.trans hl10
                  have hL3s := hL3r.trans hl10
                  clear HDR hgood hrd10 hl10 hL0r hL3r
                  go_wp2_with fail
                  refine HW2.out.mono ?_
                  rintro r w11 ⟨v11, rfl, hown11, hl11⟩
                  have hL0t := hL0s.trans hl11
                  have hL3t := hL3s.trans hl11
                  have HW3 := Lib.hid (winners_any D A3 c3 w11 (HRD.out.lat hL3t) (by omega))
                  clear HW2 hl11 hL0s hL3s
                  go_wp2_with fail
                  refine HW3.out.mono ?_
                  rintro r w12 ⟨v12, rfl, hown12, hl12⟩
                  have hL0u := hL0t.trans hl12
                  have hr11 := (hown11.lat hl12).rd
                  have hr12 := hown12.rd
                  rw [HW1.out] at hr11
                  obtain ⟨AV, cV, rfl⟩ : ∃ A c, v11 = .slice A (winD D).length c := by obtain ⟨A, c, h, _⟩ := hr11; exact ⟨A, c, h⟩
                  obtain ⟨AU, cU, rfl⟩ := hown12.slice
                  have hwl := winD_len D
                  have HEQ := Lib.hid (equal_any (winD D) (winD D) AV AU cV cU w12 hr11 hr12 (by omega))
                  clear HW3 hown11 hown12 hr11 hr12 hl12 hL0t hL3t hwl
                  go_wp2_with fail
                  refine HEQ.out.mono ?_
                  rintro r w13 ⟨rfl, hl13⟩
                  have hL13 := hL0u.trans hl13
                  clear HEQ
                  go_wp2_with fail
                  refine (awake_any _).mono ?_
                  rintro r w9 ⟨rfl, hl9⟩
                  go_wp2_with fail
                  go_ret
                  exact ⟨rfl, (hL13).trans hl9⟩
end Go.Proofs.YtgjoojailghilaaDoor
