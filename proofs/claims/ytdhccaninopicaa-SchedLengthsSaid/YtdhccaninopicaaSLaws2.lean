/- The walks of the laws on schedules: sets, lengths, normal forms, changes. -/
import Derived.Test.YtdhccaninopicaaSLaws
set_option linter.unusedSimpArgs false
set_option linter.unusedVariables false
namespace Go.Proofs.Ytdhccaninopicaa
open Go.RowKit

-- a list that is handed back, and a question on it: $1 its contract, $2 the question's contract at v1 (with hr1), $3 the next world
theorem memS_nf_at {S : Int → Bool} {M : Int} (h : 0 ≤ M ∧ M < 10080) : memS (nf S) M = S M := by
  rw [memS_nf, decide_eq_true h, Bool.true_and]
set_option maxHeartbeats 4000000 in
theorem sets_law (a b : List Sp) (m : Int) (A A2 : Option Addr) (c c2 : Nat) (B : Nat) (w : World) (hB : B ≤ w.heap.size) (hr : IsRows B w 2 (a.map spC) A) (hl : a.length ≤ 140737488351232) (hr2 : IsRows B w 2 (b.map spC) A2) (hl2 : b.length ≤ 140737488351232) (hm : I64 m) :
    Calls Try.prog 7 #[.slice A a.length c, .slice A2 b.length c2, .int .i64 m] w (LawPost w) := by
  have H0 := Lib.hid (fun (u : World) (h : Below w.heap.size w u) => row_later hr hB h)
  have G0 := Lib.hid (fun (u : World) (h : Below w.heap.size w u) => row_later hr2 hB h)
  have hU := Below.refl w.heap.size w
  clear hr hr2
  by_cases h : 40 < a.length
  · go_enter Try.func7, Try.ntmps7
    go_wp2_with fail
    have hcall := awake_any w
    refine hcall.mono ?_
    clear hcall
    rintro r u ⟨rfl, hb1⟩
    go_wp2_with fail
    go_ret
    exact ⟨rfl, hb1⟩
  by_cases h2 : 40 < b.length
  · go_enter Try.func7, Try.ntmps7
    go_wp2_with fail
    have hcall := awake_any w
    refine hcall.mono ?_
    clear hcall
    rintro r u ⟨rfl, hb1⟩
    go_wp2_with fail
    go_ret
    exact ⟨rfl, hb1⟩
  · have H1 := Lib.hid (fun (u : World) (hu : Below w.heap.size w u) => union_any a b A A2 c c2 u.heap.size u (Nat.le_refl _) (H0.out u hu) (by omega) (G0.out u hu) (by omega))
    have H3 := Lib.hid (fun (u : World) (hu : Below w.heap.size w u) => cross_any a b A A2 c c2 u.heap.size u (Nat.le_refl _) (H0.out u hu) (by omega) (G0.out u hu) (by omega))
    have H5 := Lib.hid (fun (u : World) (hu : Below w.heap.size w u) => minus_any a b A A2 c c2 u.heap.size u (Nat.le_refl _) (H0.out u hu) (by omega) (G0.out u hu) (by omega))
    have HA := Lib.hid (fun (u : World) (hu : Below w.heap.size w u) => has_any a A c m u.heap.size u (Nat.le_refl _) (H0.out u hu) hl hm)
    have HB := Lib.hid (fun (u : World) (hu : Below w.heap.size w u) => has_any b A2 c2 m u.heap.size u (Nat.le_refl _) (G0.out u hu) hl2 hm)
    have k1 := nf_len (fun m => memS a m || memS b m)
    have k2 := nf_len (fun m => memS a m && memS b m)
    have k3 := nf_len (fun m => memS a m && !memS b m)
    have e1 := memS_nf_at (S := fun m => memS a m || memS b m) (wrapI_bd m)
    have e2 := memS_nf_at (S := fun m => memS a m && memS b m) (wrapI_bd m)
    have e3 := memS_nf_at (S := fun m => memS a m && !memS b m) (wrapI_bd m)
    try simp only at e1 e2 e3
    have Q1 := Lib.hid (fun (K : List Sp) (hk : K.length ≤ 10080) (u : World) (A1 : Option Addr) (c1 : Nat) (h : IsRows u.heap.size u 2 (K.map spC) A1) => has_any K A1 c1 m u.heap.size u (Nat.le_refl _) h (by omega) hm)
    generalize (nf fun m => memS a m || memS b m) = K1 at *
    generalize (nf fun m => memS a m && memS b m) = K2 at *
    generalize (nf fun m => memS a m && !memS b m) = K3 at *
    generalize memS a (wrapI m) = x at *
    generalize memS b (wrapI m) = y at *
    have E1 := Lib.hid (fun (u : World) (A1 : Option Addr) (c1 : Nat) (h : IsRows u.heap.size u 2 (K1.map spC) A1) => (by have := Q1.out K1 k1 u A1 c1 h; rw [e1] at this; exact this : Calls Try.prog 18 #[.slice A1 K1.length c1, .int .i64 m] u fun r w' => r = .returned (.bool (x || y)) ∧ Below u.heap.size u w'))
    have E2 := Lib.hid (fun (u : World) (A1 : Option Addr) (c1 : Nat) (h : IsRows u.heap.size u 2 (K2.map spC) A1) => (by have := Q1.out K2 k2 u A1 c1 h; rw [e2] at this; exact this : Calls Try.prog 18 #[.slice A1 K2.length c1, .int .i64 m] u fun r w' => r = .returned (.bool (x && y)) ∧ Below u.heap.size u w'))
    have E3 := Lib.hid (fun (u : World) (A1 : Option Addr) (c1 : Nat) (h : IsRows u.heap.size u 2 (K3.map spC) A1) => (by have := Q1.out K3 k3 u A1 c1 h; rw [e3] at this; exact this : Calls Try.prog 18 #[.slice A1 K3.length c1, .int .i64 m] u fun r w' => r = .returned (.bool (x && !y)) ∧ Below u.heap.size u w'))
    clear e1 e2 e3
    cases x <;> cases y
    all_goals
      go_enter Try.func7, Try.ntmps7
      go_wp2_with fail
      have hcall := HA.out w hU
      refine hcall.mono ?_
      clear hcall
      rintro r u1 ⟨rfl, hb1⟩
      replace hU := hU.th hb1
      clear hb1
      go_wp2_with fail
      have hcall := HB.out u1 hU
      refine hcall.mono ?_
      clear hcall
      rintro r u2 ⟨rfl, hb1⟩
      replace hU := hU.th hb1
      clear hb1
      go_wp2_with fail
      have hcall := H1.out u2 hU
      refine hcall.mono ?_
      clear hcall
      rintro r v1 ⟨A1, c1, rfl, hr1, _, hb1⟩
      replace hU := hU.th hb1
      clear hb1
      go_wp2_with fail
      have hcall := E1.out v1 A1 c1 hr1
      refine hcall.mono ?_
      clear hcall hr1
      rintro r u3 ⟨rfl, hb1⟩
      replace hU := hU.th hb1
      clear hb1
      go_wp2_with fail
      have hcall := H3.out u3 hU
      refine hcall.mono ?_
      clear hcall
      rintro r v1 ⟨A1, c1, rfl, hr1, _, hb1⟩
      replace hU := hU.th hb1
      clear hb1
      go_wp2_with fail
      have hcall := E2.out v1 A1 c1 hr1
      refine hcall.mono ?_
      clear hcall hr1
      rintro r u4 ⟨rfl, hb1⟩
      replace hU := hU.th hb1
      clear hb1
      go_wp2_with fail
      have hcall := H5.out u4 hU
      refine hcall.mono ?_
      clear hcall
      rintro r v1 ⟨A1, c1, rfl, hr1, _, hb1⟩
      replace hU := hU.th hb1
      clear hb1
      go_wp2_with fail
      have hcall := E3.out v1 A1 c1 hr1
      refine hcall.mono ?_
      clear hcall hr1
      rintro r u5 ⟨rfl, hb1⟩
      replace hU := hU.th hb1
      clear hb1
      go_wp2_with fail
      have hcall := awake_any u5
      refine hcall.mono ?_
      clear hcall
      rintro r u6 ⟨rfl, hb1⟩
      replace hU := hU.th hb1
      clear hb1
      go_wp2_with fail
      go_ret
      exact ⟨rfl, hU⟩
theorem cnt_nf (S : Int → Bool) : cntTo (memS (nf S)) 10080 = cntTo S 10080 := cntTo_congr _ fun m h0 h1 => memS_nf_at ⟨h0, by have : ((10080 : Nat) : Int) = 10080 := rfl; omega⟩
theorem cnt_parts (S T : Int → Bool) : cntTo S 10080 = cntTo (fun m => S m && T m) 10080 + cntTo (fun m => S m && !T m) 10080 := by
  rw [← cntTo_or]
  · exact cntTo_congr _ fun m _ _ => by cases S m <;> cases T m <;> rfl
  · intro m; cases S m <;> cases T m <;> simp
theorem cnt_union (S T : Int → Bool) : cntTo (fun m => S m || T m) 10080 = cntTo S 10080 + cntTo (fun m => T m && !S m) 10080 := by
  rw [← cntTo_or]
  · exact cntTo_congr _ fun m _ _ => by cases S m <;> cases T m <;> rfl
  · intro m; cases S m <;> cases T m <;> simp
set_option maxHeartbeats 4000000 in
theorem lengths_law (a b : List Sp) (A A2 : Option Addr) (c c2 : Nat) (B : Nat) (w : World) (hB : B ≤ w.heap.size) (hr : IsRows B w 2 (a.map spC) A) (hl : a.length ≤ 140737488351232) (hr2 : IsRows B w 2 (b.map spC) A2) (hl2 : b.length ≤ 140737488351232) :
    Calls Try.prog 8 #[.slice A a.length c, .slice A2 b.length c2] w (LawPost w) := by
  have H0 := Lib.hid (fun (u : World) (h : Below w.heap.size w u) => row_later hr hB h)
  have G0 := Lib.hid (fun (u : World) (h : Below w.heap.size w u) => row_later hr2 hB h)
  have hU := Below.refl w.heap.size w
  clear hr hr2
  by_cases h : 40 < a.length
  · go_enter Try.func8, Try.ntmps8
    go_wp2_with fail
    have hcall := awake_any w
    refine hcall.mono ?_
    clear hcall
    rintro r u ⟨rfl, hb1⟩
    go_wp2_with fail
    go_ret
    exact ⟨rfl, hb1⟩
  by_cases h2 : 40 < b.length
  · go_enter Try.func8, Try.ntmps8
    go_wp2_with fail
    have hcall := awake_any w
    refine hcall.mono ?_
    clear hcall
    rintro r u ⟨rfl, hb1⟩
    go_wp2_with fail
    go_ret
    exact ⟨rfl, hb1⟩
  · have H1 := Lib.hid (fun (u : World) (hu : Below w.heap.size w u) => union_any a b A A2 c c2 u.heap.size u (Nat.le_refl _) (H0.out u hu) (by omega) (G0.out u hu) (by omega))
    have H3 := Lib.hid (fun (u : World) (hu : Below w.heap.size w u) => cross_any a b A A2 c c2 u.heap.size u (Nat.le_refl _) (H0.out u hu) (by omega) (G0.out u hu) (by omega))
    have H5 := Lib.hid (fun (u : World) (hu : Below w.heap.size w u) => minus_any a b A A2 c c2 u.heap.size u (Nat.le_refl _) (H0.out u hu) (by omega) (G0.out u hu) (by omega))
    have H6 := Lib.hid (fun (u : World) (hu : Below w.heap.size w u) => minus_any b a A2 A c2 c u.heap.size u (Nat.le_refl _) (G0.out u hu) (by omega) (H0.out u hu) (by omega))
    have HA := Lib.hid (fun (u : World) (hu : Below w.heap.size w u) => length_any a A c u.heap.size u (Nat.le_refl _) (H0.out u hu) (by omega))
    have k1 := nf_len (fun m => memS a m || memS b m)
    have k2 := nf_len (fun m => memS a m && memS b m)
    have k3 := nf_len (fun m => memS a m && !memS b m)
    have k4 := nf_len (fun m => memS b m && !memS a m)
    have e1 := cnt_nf (fun m => memS a m || memS b m)
    have e2 := cnt_nf (fun m => memS a m && memS b m)
    have e3 := cnt_nf (fun m => memS a m && !memS b m)
    have e4 := cnt_nf (fun m => memS b m && !memS a m)
    have hp := cnt_parts (memS a) (memS b)
    have hu := cnt_union (memS a) (memS b)
    have b2 := cntTo_le (fun m => memS a m && memS b m) 10080
    have b3 := cntTo_le (fun m => memS a m && !memS b m) 10080
    have b4 := cntTo_le (fun m => memS b m && !memS a m) 10080
    have Q1 := Lib.hid (fun (K : List Sp) (hk : K.length ≤ 10080) (u : World) (A1 : Option Addr) (c1 : Nat) (h : IsRows u.heap.size u 2 (K.map spC) A1) => length_any K A1 c1 u.heap.size u (Nat.le_refl _) h (by omega))
    generalize (nf fun m => memS a m || memS b m) = K1 at *
    generalize (nf fun m => memS a m && memS b m) = K2 at *
    generalize (nf fun m => memS a m && !memS b m) = K3 at *
    generalize (nf fun m => memS b m && !memS a m) = K4 at *
    have E1 := Lib.hid (fun (u : World) (A1 : Option Addr) (c1 : Nat) (h : IsRows u.heap.size u 2 (K1.map spC) A1) => (by have := Q1.out K1 k1 u A1 c1 h; rw [e1, hu, hp] at this; exact this : Calls Try.prog 16 #[.slice A1 K1.length c1] u fun r w' => r = .returned (.int .i64 (cntTo (fun m => memS a m && memS b m) 10080 + cntTo (fun m => memS a m && !memS b m) 10080 + cntTo (fun m => memS b m && !memS a m) 10080)) ∧ Below u.heap.size u w'))
    have E2 := Lib.hid (fun (u : World) (A1 : Option Addr) (c1 : Nat) (h : IsRows u.heap.size u 2 (K2.map spC) A1) => (by have := Q1.out K2 k2 u A1 c1 h; rw [e2] at this; exact this : Calls Try.prog 16 #[.slice A1 K2.length c1] u fun r w' => r = .returned (.int .i64 (cntTo (fun m => memS a m && memS b m) 10080)) ∧ Below u.heap.size u w'))
    have E3 := Lib.hid (fun (u : World) (A1 : Option Addr) (c1 : Nat) (h : IsRows u.heap.size u 2 (K3.map spC) A1) => (by have := Q1.out K3 k3 u A1 c1 h; rw [e3] at this; exact this : Calls Try.prog 16 #[.slice A1 K3.length c1] u fun r w' => r = .returned (.int .i64 (cntTo (fun m => memS a m && !memS b m) 10080)) ∧ Below u.heap.size u w'))
    have E4 := Lib.hid (fun (u : World) (A1 : Option Addr) (c1 : Nat) (h : IsRows u.heap.size u 2 (K4.map spC) A1) => (by have := Q1.out K4 k4 u A1 c1 h; rw [e4] at this; exact this : Calls Try.prog 16 #[.slice A1 K4.length c1] u fun r w' => r = .returned (.int .i64 (cntTo (fun m => memS b m && !memS a m) 10080)) ∧ Below u.heap.size u w'))
    rw [hp] at HA
    clear e1 e2 e3 e4 hu hp
    generalize cntTo (fun m => memS a m && memS b m) 10080 = C2 at *
    generalize cntTo (fun m => memS a m && !memS b m) 10080 = C3 at *
    generalize cntTo (fun m => memS b m && !memS a m) 10080 = C4 at *
    obtain ⟨b21, b22⟩ := b2
    obtain ⟨b31, b32⟩ := b3
    obtain ⟨b41, b42⟩ := b4
    have q2 : C2 ≤ 10080 := b22
    have q3 : C3 ≤ 10080 := b32
    have q4 : C4 ≤ 10080 := b42
    clear b22 b32 b42
    go_enter Try.func8, Try.ntmps8
    go_wp2_with fail
    have hcall := HA.out w hU
    refine hcall.mono ?_
    clear hcall
    rintro r u1 ⟨rfl, hb1⟩
    replace hU := hU.th hb1
    clear hb1
    go_wp2_with fail
    have hcall := H3.out u1 hU
    refine hcall.mono ?_
    clear hcall
    rintro r v1 ⟨A1, c1, rfl, hr1, _, hb1⟩
    replace hU := hU.th hb1
    clear hb1
    go_wp2_with fail
    have hcall := E2.out v1 A1 c1 hr1
    refine hcall.mono ?_
    clear hcall hr1
    rintro r u2 ⟨rfl, hb1⟩
    replace hU := hU.th hb1
    clear hb1
    go_wp2_with fail
    have hcall := H5.out u2 hU
    refine hcall.mono ?_
    clear hcall
    rintro r v1 ⟨A1, c1, rfl, hr1, _, hb1⟩
    replace hU := hU.th hb1
    clear hb1
    go_wp2_with fail
    have hcall := E3.out v1 A1 c1 hr1
    refine hcall.mono ?_
    clear hcall hr1
    rintro r u3 ⟨rfl, hb1⟩
    replace hU := hU.th hb1
    clear hb1
    go_wp2_with fail
    have hcall := H1.out u3 hU
    refine hcall.mono ?_
    clear hcall
    rintro r v1 ⟨A1, c1, rfl, hr1, _, hb1⟩
    replace hU := hU.th hb1
    clear hb1
    go_wp2_with fail
    have hcall := E1.out v1 A1 c1 hr1
    refine hcall.mono ?_
    clear hcall hr1
    rintro r u4 ⟨rfl, hb1⟩
    replace hU := hU.th hb1
    clear hb1
    go_wp2_with fail
    have hcall := H6.out u4 hU
    refine hcall.mono ?_
    clear hcall
    rintro r v1 ⟨A1, c1, rfl, hr1, _, hb1⟩
    replace hU := hU.th hb1
    clear hb1
    go_wp2_with fail
    have hcall := E4.out v1 A1 c1 hr1
    refine hcall.mono ?_
    clear hcall hr1
    rintro r u5 ⟨rfl, hb1⟩
    replace hU := hU.th hb1
    clear hb1
    go_wp2_with fail
    have hcall := awake_any u5
    refine hcall.mono ?_
    clear hcall
    rintro r u6 ⟨rfl, hb1⟩
    replace hU := hU.th hb1
    clear hb1
    go_wp2_with fail
    go_ret
    exact ⟨rfl, hU⟩

end Go.Proofs.Ytdhccaninopicaa
