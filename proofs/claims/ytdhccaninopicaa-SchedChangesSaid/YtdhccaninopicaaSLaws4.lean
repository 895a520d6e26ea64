/- The walk of the law on changes. -/
import Derived.Test.YtdhccaninopicaaSLaws
import Derived.Deep.DeepCutAuto
set_option linter.unusedSimpArgs false
set_option linter.unusedVariables false
namespace Go.Proofs.Ytdhccaninopicaa
open Go.RowKit

theorem wrapI_add (m j : Int) : wrapI (m + j) = wrapI (wrapI m + j) := by unfold wrapI; omega
set_option maxRecDepth 100000 in
set_option maxHeartbeats 8000000 in
theorem changes_law (l : List Sp) (m : Int) (A : Option Addr) (c : Nat) (B : Nat) (w : World) (hB : B ≤ w.heap.size) (hr : IsRows B w 2 (l.map spC) A) (hl : l.length ≤ 140737488351232) (hm : I64 m) :
    Calls Try.prog 10 #[.slice A l.length c, .int .i64 m] w (LawPost w) := by
  have hU := Below.refl w.heap.size w
  by_cases h : 40 < l.length
  · go_enter Try.func10, Try.ntmps10
    go_wp2_with fail
    have hcall := awake_any w
    refine hcall.mono ?_
    clear hcall
    rintro r u ⟨rfl, hb1⟩
    go_wp2_with fail
    go_ret
    exact ⟨rfl, hb1⟩
  · have H0 := Lib.hid (fun (u : World) (h : Below w.heap.size w u) => row_later hr hB h)
    clear hr
    obtain ⟨ht1, ht2⟩ := tmod_bd m
    obtain ⟨hm1, hm2⟩ := hm
    have hMt := wrapI_bd (m.tmod 10080)
    have HA := Lib.hid (fun (u : World) (hu : Below w.heap.size w u) (q : Int) (h1 : -100000 ≤ q) (h2 : q ≤ 100000) => has_any l A c q u.heap.size u (Nat.le_refl _) (H0.out u hu) hl ⟨by omega, by omega⟩)
    have HNX := Lib.hid (next_any l A c (m.tmod 10080) w.heap.size w (Nat.le_refl _) (H0.out w hU) (by omega) ⟨by omega, by omega⟩)
    have HLN := Lib.hid (fun (u : World) (hu : Below w.heap.size w u) => length_any l A c u.heap.size u (Nat.le_refl _) (H0.out u hu) (by omega))
    have hN := nextI_spec (memS l) (wrapI (m.tmod 10080)) hMt.1 hMt.2
    generalize nextI (memS l) (wrapI (m.tmod 10080)) = kk at *
    have HW := Lib.hid (fun (j : Int) => wrapI_add (m.tmod 10080) j)
    have HA0 := Lib.hid (fun (u : World) (hu : Below w.heap.size w u) => HA.out u hu (m.tmod 10080) (by omega) (by omega))
    rcases hN with ⟨h0, hall⟩ | ⟨h1, h2, hne, hall⟩
    · subst h0
      have hc1 : memS l (wrapI (m.tmod 10080)) = true → cntTo (memS l) 10080 = 10080 := fun hb => cntTo_all (S := memS l) 10080 fun j h0 h1 => by rw [hall j h0 (by have : ((10080 : Nat) : Int) = 10080 := rfl; omega)]; exact hb
      have hc0 : memS l (wrapI (m.tmod 10080)) = false → cntTo (memS l) 10080 = 0 := fun hb => cntTo_none (S := memS l) 10080 fun j h0 h1 => by rw [hall j h0 (by have : ((10080 : Nat) : Int) = 10080 := rfl; omega)]; exact hb
      clear hall HA HW
      generalize memS l (wrapI (m.tmod 10080)) = was at *
      generalize cntTo (memS l) 10080 = C at *
      cases was
      · have e := hc0 rfl
        clear hc1 hc0
        subst e
        go_enter Try.func10, Try.ntmps10
        go_wp2_with fail
        have hcall := HNX.out
        refine hcall.mono ?_
        clear hcall
        rintro r u1 ⟨rfl, hb1⟩
        replace hU := hU.th hb1
        clear hb1
        go_wp2_with fail
        have hcall := HA0.out u1 hU
        refine hcall.mono ?_
        clear hcall
        rintro r u2 ⟨rfl, hb1⟩
        replace hU := hU.th hb1
        clear hb1
        go_wp2_with fail
        have hcall := HLN.out u2 hU
        refine hcall.mono ?_
        clear hcall
        rintro r u3 ⟨rfl, hb1⟩
        replace hU := hU.th hb1
        clear hb1
        go_wp2_with fail
        have hcall := awake_any u3
        refine hcall.mono ?_
        clear hcall
        rintro r u4 ⟨rfl, hb1⟩
        replace hU := hU.th hb1
        clear hb1
        go_wp2_with fail
        go_ret
        exact ⟨rfl, hU⟩
      · have e := hc1 rfl
        clear hc1 hc0
        subst e
        go_enter Try.func10, Try.ntmps10
        go_wp2_with fail
        have hcall := HNX.out
        refine hcall.mono ?_
        clear hcall
        rintro r u1 ⟨rfl, hb1⟩
        replace hU := hU.th hb1
        clear hb1
        go_wp2_with fail
        have hcall := HA0.out u1 hU
        refine hcall.mono ?_
        clear hcall
        rintro r u2 ⟨rfl, hb1⟩
        replace hU := hU.th hb1
        clear hb1
        go_wp2_with fail
        have hcall := HLN.out u2 hU
        refine hcall.mono ?_
        clear hcall
        rintro r u3 ⟨rfl, hb1⟩
        replace hU := hU.th hb1
        clear hb1
        go_wp2_with fail
        have hcall := awake_any u3
        refine hcall.mono ?_
        clear hcall
        rintro r u4 ⟨rfl, hb1⟩
        replace hU := hU.th hb1
        clear hb1
        go_wp2_with fail
        go_ret
        exact ⟨rfl, hU⟩
    · obtain ⟨kn, rfl⟩ : ∃ kn : Nat, kk = kn := ⟨kk.toNat, by omega⟩
      have hin : ∀ j : Int, 0 ≤ j → j < kn → memS l (wrapI (m.tmod 10080 + j)) = memS l (wrapI (m.tmod 10080)) := fun j h0 hj => by
        rw [HW.out]
        by_cases hj0 : j = 0
        · subst hj0
          rw [Int.add_zero]
          have : wrapI (wrapI (m.tmod 10080)) = wrapI (m.tmod 10080) := wrapI_of hMt.1 hMt.2
          rw [this]
        · exact hall j (by omega) hj
      have hout : memS l (wrapI (m.tmod 10080 + kn)) = !memS l (wrapI (m.tmod 10080)) := by
        rw [HW.out]
        revert hne
        cases memS l (wrapI (wrapI (m.tmod 10080) + kn)) <;> cases memS l (wrapI (m.tmod 10080)) <;> simp
      have HI := Lib.hid (fun (u : World) (hu : Below w.heap.size w u) (j : Int) (h0 : 0 ≤ j) (hj : j < kn) => (by have := HA.out u hu (m.tmod 10080 + j) (by omega) (by omega); rw [hin j h0 hj] at this; exact this : Calls Try.prog 18 #[.slice A l.length c, .int .i64 (m.tmod 10080 + j)] u fun r w' => r = .returned (.bool (memS l (wrapI (m.tmod 10080)))) ∧ Below u.heap.size u w'))
      have HO := Lib.hid (fun (u : World) (hu : Below w.heap.size w u) => (by have := HA.out u hu (m.tmod 10080 + kn) (by omega) (by omega); rw [hout] at this; exact this : Calls Try.prog 18 #[.slice A l.length c, .int .i64 (m.tmod 10080 + kn)] u fun r w' => r = .returned (.bool (!memS l (wrapI (m.tmod 10080)))) ∧ Below u.heap.size u w'))
      have HE := Lib.hid (show m.tmod 10080 + ((kn : Int) - 1) = m.tmod 10080 + kn - 1 by omega)
      have HL := Lib.hid (fun (u : World) (hu : Below w.heap.size w u) => (by have := HI.out u hu ((kn : Int) - 1) (by omega) (by omega); rw [HE.out] at this; exact this : Calls Try.prog 18 #[.slice A l.length c, .int .i64 (m.tmod 10080 + kn - 1)] u fun r w' => r = .returned (.bool (memS l (wrapI (m.tmod 10080)))) ∧ Below u.heap.size u w'))
      clear hin hout hall hne HA HW HLN
      generalize memS l (wrapI (m.tmod 10080)) = was at *
      have hk1 : 1 ≤ kn := by omega
      have hk2 : kn ≤ 10080 := by omega
      have d0 : ((kn : Int) == 0) = false := beq_eq_false_iff_ne.2 (by omega)
      have d1 : decide ((kn : Int) < 0) = false := decide_eq_false (by omega)
      have d2 : decide ((10080 : Int) < (kn : Int)) = false := decide_eq_false (by omega)
      go_enter Try.func10, Try.ntmps10
      go_upto_region 4 with fail
      generalize m.tmod 10080 = mt at *
      cases was
      all_goals
        go_wp2_with fail
        have hcall := HNX.out
        refine hcall.mono ?_
        clear hcall
        rintro r u1 ⟨rfl, hb1⟩
        replace hU := hU.th hb1
        clear hb1
        go_wp2_with fail
        have hcall := HA0.out u1 hU
        refine hcall.mono ?_
        clear hcall
        rintro r u2 ⟨rfl, hb1⟩
        replace hU := hU.th hb1
        clear hb1
        go_wp2_with fail
        go_loopw [8] (fun x wr => ∃ J : Nat, 1 ≤ J ∧ J ≤ 20000 ∧ x = .int .i64 J ∧ Below w.heap.size w wr) (fun x _ => kn - (intOf x).toNat)
        case atStart => exact ⟨1, by omega, by omega, rfl, hU⟩
        case round =>
          clear hU
          obtain ⟨J, hJ1, hJ2, rfl, hU⟩ := hrel
          by_cases hJ : J < kn
          · go_wp2_with fail
            have hcall := HI.out wr hU J (by omega) (by omega)
            refine hcall.mono ?_
            clear hcall
            rintro r u3 ⟨rfl, hb1⟩
            replace hU := hU.th hb1
            clear hb1
            go_wp2_with fail
            go_roundw
            case rel => exact ⟨J + (1 + J / 50), by omega, by omega, by first | go_num | (simp; done) | (congr 1; omega), hU⟩
            case measure => simp [intOf]; omega
          · go_wp2_with fail
            have hcall := HL.out wr hU
            refine hcall.mono ?_
            clear hcall
            rintro r u3 ⟨rfl, hb1⟩
            replace hU := hU.th hb1
            clear hb1
            go_wp2_with fail
            have hcall := HO.out u3 hU
            refine hcall.mono ?_
            clear hcall
            rintro r u4 ⟨rfl, hb1⟩
            replace hU := hU.th hb1
            clear hb1
            go_wp2_with fail
            have hcall := awake_any u4
            refine hcall.mono ?_
            clear hcall
            rintro r u5 ⟨rfl, hb1⟩
            replace hU := hU.th hb1
            clear hb1
            go_wp2_with fail
            go_ret
            exact ⟨rfl, hU⟩

end Go.Proofs.Ytdhccaninopicaa
