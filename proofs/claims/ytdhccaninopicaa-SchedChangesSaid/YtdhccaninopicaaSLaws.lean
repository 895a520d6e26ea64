/- The walks of the laws on schedules: checks, normal forms, questions, combinations, daily times. -/
import Derived.Test.YtdhccaninopicaaSAwake
set_option linter.unusedSimpArgs false
set_option linter.unusedVariables false
namespace Go.Proofs.Ytdhccaninopicaa
open Go.RowKit

-- a call that hands back a plain value: $1 the contract, $2 the next world
-- a call that hands back a list: $1 the contract, $2 the next world, $3 its address, $4 its capacity, $5 its rows
def LawPost (w : World) (r : Ending) (w' : World) : Prop := r = .returned (.bool true) ∧ Below w.heap.size w w'
set_option maxHeartbeats 2000000 in
theorem checks_law (l : List Sp) (A : Option Addr) (c : Nat) (B : Nat) (w : World) (hB : B ≤ w.heap.size) (hr : IsRows B w 2 (l.map spC) A) (hl : l.length ≤ 140737488351232) :
    Calls Try.prog 11 #[.slice A l.length c] w (LawPost w) := by
  have H0 := Lib.hid (fun (u : World) (h : Below w.heap.size w u) => row_later hr hB h)
  have hU := Below.refl w.heap.size w
  clear hr
  by_cases h : 300 < l.length
  · go_enter Try.func11, Try.ntmps11
    go_wp2_with fail
    have hcall := awake_any w
    refine hcall.mono ?_
    clear hcall
    rintro r u ⟨rfl, hb1⟩
    go_wp2_with fail
    go_ret
    exact ⟨rfl, hb1⟩
  · have HC := Lib.hid (fun (u : World) (hu : Below w.heap.size w u) => check_any l A c u.heap.size u (Nat.le_refl _) (H0.out u hu) hl)
    have HR := Lib.hid (fun (u : World) (hu : Below w.heap.size w u) => rcheck_any l A c u.heap.size u (Nat.le_refl _) (H0.out u hu) hl)
    generalize checkS l = C at *
    go_enter Try.func11, Try.ntmps11
    go_wp2_with fail
    have hcall := HC.out w hU
    refine hcall.mono ?_
    clear hcall
    rintro r u1 ⟨rfl, hb1⟩
    replace hU := hU.th hb1
    clear hb1
    go_wp2_with fail
    have hcall := HR.out u1 hU
    refine hcall.mono ?_
    clear hcall
    rintro r u2 ⟨rfl, hb1⟩
    replace hU := hU.th hb1
    clear hb1
    go_wp2_with fail
    have hcall := awake_any u2
    refine hcall.mono ?_
    clear hcall
    rintro r u3 ⟨rfl, hb1⟩
    replace hU := hU.th hb1
    clear hb1
    go_wp2_with fail
    go_ret
    exact ⟨rfl, hU⟩
set_option maxHeartbeats 2000000 in
theorem norms_law (l : List Sp) (A : Option Addr) (c : Nat) (B : Nat) (w : World) (hB : B ≤ w.heap.size) (hr : IsRows B w 2 (l.map spC) A) (hl : l.length ≤ 140737488351232) :
    Calls Try.prog 3 #[.slice A l.length c] w (LawPost w) := by
  have H0 := Lib.hid (fun (u : World) (h : Below w.heap.size w u) => row_later hr hB h)
  have hU := Below.refl w.heap.size w
  clear hr
  by_cases h : 40 < l.length
  · go_enter Try.func3, Try.ntmps3
    go_wp2_with fail
    have hcall := awake_any w
    refine hcall.mono ?_
    clear hcall
    rintro r u ⟨rfl, hb1⟩
    go_wp2_with fail
    go_ret
    exact ⟨rfl, hb1⟩
  · have H1 := Lib.hid (fun (u : World) (hu : Below w.heap.size w u) => norm_any l A c u.heap.size u (Nat.le_refl _) (H0.out u hu) (by omega))
    have H2 := Lib.hid (fun (u : World) (hu : Below w.heap.size w u) => rnorm_any l A c u.heap.size u (Nat.le_refl _) (H0.out u hu) hl)
    have H3 := Lib.hid (fun (u : World) (hu : Below w.heap.size w u) => length_any l A c u.heap.size u (Nat.le_refl _) (H0.out u hu) (by omega))
    have H4 := Lib.hid (fun (u : World) (hu : Below w.heap.size w u) => rlength_any l A c u.heap.size u (Nat.le_refl _) (H0.out u hu) hl)
    have hkl := nf_len (memS l)
    generalize nf (memS l) = K at *
    generalize cntTo (memS l) 10080 = C at *
    go_enter Try.func3, Try.ntmps3
    go_wp2_with fail
    have hcall := H1.out w hU
    refine hcall.mono ?_
    clear hcall
    rintro r u1 ⟨A1, c1, rfl, hr1, _, hb1⟩
    replace hU := hU.th hb1
    clear hb1
    have hV := Below.refl u1.heap.size u1
    go_wp2_with fail
    have hcall := H2.out u1 hU
    refine hcall.mono ?_
    clear hcall
    rintro r u2 ⟨A2, c2, rfl, hr2, _, hb1⟩
    have hr1' := row_later hr1 (Nat.le_refl _) hb1
    replace hU := hU.th hb1
    clear hb1 hr1 hV
    go_wp2_with fail
    have hcall := same_true K A1 A2 c1 c2 u2.heap.size u2 (Nat.le_refl _) hr1' (by omega) hr2
    refine hcall.mono ?_
    clear hcall
    rintro r u3 ⟨rfl, hb1⟩
    replace hU := hU.th hb1
    clear hb1
    go_wp2_with fail
    have hcall := H3.out u3 hU
    refine hcall.mono ?_
    clear hcall
    rintro r u4 ⟨rfl, hb1⟩
    replace hU := hU.th hb1
    clear hb1
    go_wp2_with fail
    have hcall := H4.out u4 hU
    refine hcall.mono ?_
    clear hcall
    rintro r u5 ⟨rfl, hb1⟩
    replace hU := hU.th hb1
    clear hb1
    go_wp2_with fail
    have hcall := awake_any u5
    refine hcall.mono ?_
    clear hcall
    rintro r u6 ⟨rfl, hb1⟩
    replace hU := hU.th hb1
    clear hb1
    go_wp2_with fail
    go_ret
    exact ⟨rfl, hU⟩
set_option maxHeartbeats 2000000 in
theorem asks_law (l : List Sp) (m : Int) (A : Option Addr) (c : Nat) (B : Nat) (w : World) (hB : B ≤ w.heap.size) (hr : IsRows B w 2 (l.map spC) A) (hl : l.length ≤ 140737488351232) (hm : I64 m) :
    Calls Try.prog 4 #[.slice A l.length c, .int .i64 m] w (LawPost w) := by
  have H0 := Lib.hid (fun (u : World) (h : Below w.heap.size w u) => row_later hr hB h)
  have hU := Below.refl w.heap.size w
  clear hr
  by_cases h : 40 < l.length
  · go_enter Try.func4, Try.ntmps4
    go_wp2_with fail
    have hcall := awake_any w
    refine hcall.mono ?_
    clear hcall
    rintro r u ⟨rfl, hb1⟩
    go_wp2_with fail
    go_ret
    exact ⟨rfl, hb1⟩
  · have H1 := Lib.hid (fun (u : World) (hu : Below w.heap.size w u) => has_any l A c m u.heap.size u (Nat.le_refl _) (H0.out u hu) hl hm)
    have H2 := Lib.hid (fun (u : World) (hu : Below w.heap.size w u) => rhas_any l A c m u.heap.size u (Nat.le_refl _) (H0.out u hu) hl hm)
    have H3 := Lib.hid (fun (u : World) (hu : Below w.heap.size w u) => next_any l A c m u.heap.size u (Nat.le_refl _) (H0.out u hu) (by omega) hm)
    have H4 := Lib.hid (fun (u : World) (hu : Below w.heap.size w u) => rnext_any l A c m u.heap.size u (Nat.le_refl _) (H0.out u hu) hl hm)
    generalize memS l (wrapI m) = b at *
    generalize nextI (memS l) (wrapI m) = C at *
    cases b
    all_goals
      go_enter Try.func4, Try.ntmps4
      go_wp2_with fail
      have hcall := H1.out w hU
      refine hcall.mono ?_
      clear hcall
      rintro r u1 ⟨rfl, hb1⟩
      replace hU := hU.th hb1
      clear hb1
      go_wp2_with fail
      have hcall := H2.out u1 hU
      refine hcall.mono ?_
      clear hcall
      rintro r u2 ⟨rfl, hb1⟩
      replace hU := hU.th hb1
      clear hb1
      go_wp2_with fail
      have hcall := H3.out u2 hU
      refine hcall.mono ?_
      clear hcall
      rintro r u3 ⟨rfl, hb1⟩
      replace hU := hU.th hb1
      clear hb1
      go_wp2_with fail
      have hcall := H4.out u3 hU
      refine hcall.mono ?_
      clear hcall
      rintro r u4 ⟨rfl, hb1⟩
      replace hU := hU.th hb1
      clear hb1
      go_wp2_with fail
      have hcall := awake_any u4
      refine hcall.mono ?_
      clear hcall
      rintro r u5 ⟨rfl, hb1⟩
      replace hU := hU.th hb1
      clear hb1
      go_wp2_with fail
      go_ret
      exact ⟨rfl, hU⟩
-- $1 the contract of the program, $2 the reference's, $3 the list, $4 the world
set_option maxHeartbeats 4000000 in
theorem combines_law (a b : List Sp) (A A2 : Option Addr) (c c2 : Nat) (B : Nat) (w : World) (hB : B ≤ w.heap.size) (hr : IsRows B w 2 (a.map spC) A) (hl : a.length ≤ 140737488351232) (hr2 : IsRows B w 2 (b.map spC) A2) (hl2 : b.length ≤ 140737488351232) :
    Calls Try.prog 5 #[.slice A a.length c, .slice A2 b.length c2] w (LawPost w) := by
  have H0 := Lib.hid (fun (u : World) (h : Below w.heap.size w u) => row_later hr hB h)
  have G0 := Lib.hid (fun (u : World) (h : Below w.heap.size w u) => row_later hr2 hB h)
  have hU := Below.refl w.heap.size w
  clear hr hr2
  by_cases h : 40 < a.length
  · go_enter Try.func5, Try.ntmps5
    go_wp2_with fail
    have hcall := awake_any w
    refine hcall.mono ?_
    clear hcall
    rintro r u ⟨rfl, hb1⟩
    go_wp2_with fail
    go_ret
    exact ⟨rfl, hb1⟩
  by_cases h2 : 40 < b.length
  · go_enter Try.func5, Try.ntmps5
    go_wp2_with fail
    have hcall := awake_any w
    refine hcall.mono ?_
    clear hcall
    rintro r u ⟨rfl, hb1⟩
    go_wp2_with fail
    go_ret
    exact ⟨rfl, hb1⟩
  · have H1 := Lib.hid (fun (u : World) (hu : Below w.heap.size w u) => union_any a b A A2 c c2 u.heap.size u (Nat.le_refl _) (H0.out u hu) (by omega) (G0.out u hu) (by omega))
    have H2 := Lib.hid (fun (u : World) (hu : Below w.heap.size w u) => runion_any a b A A2 c c2 u.heap.size u (Nat.le_refl _) (H0.out u hu) hl (G0.out u hu) hl2)
    have H3 := Lib.hid (fun (u : World) (hu : Below w.heap.size w u) => cross_any a b A A2 c c2 u.heap.size u (Nat.le_refl _) (H0.out u hu) (by omega) (G0.out u hu) (by omega))
    have H4 := Lib.hid (fun (u : World) (hu : Below w.heap.size w u) => rcross_any a b A A2 c c2 u.heap.size u (Nat.le_refl _) (H0.out u hu) hl (G0.out u hu) hl2)
    have H5 := Lib.hid (fun (u : World) (hu : Below w.heap.size w u) => minus_any a b A A2 c c2 u.heap.size u (Nat.le_refl _) (H0.out u hu) (by omega) (G0.out u hu) (by omega))
    have H6 := Lib.hid (fun (u : World) (hu : Below w.heap.size w u) => rminus_any a b A A2 c c2 u.heap.size u (Nat.le_refl _) (H0.out u hu) hl (G0.out u hu) hl2)
    have k1 := nf_len (fun m => memS a m || memS b m)
    have k2 := nf_len (fun m => memS a m && memS b m)
    have k3 := nf_len (fun m => memS a m && !memS b m)
    generalize (nf fun m => memS a m || memS b m) = K1 at *
    generalize (nf fun m => memS a m && memS b m) = K2 at *
    generalize (nf fun m => memS a m && !memS b m) = K3 at *
    go_enter Try.func5, Try.ntmps5
    go_wp2_with fail
    have hcall := H1.out w hU
    refine hcall.mono ?_
    clear hcall
    rintro r v1 ⟨A1, c1, rfl, hr1, _, hb1⟩
    replace hU := hU.th hb1
    clear hb1
    go_wp2_with fail
    have hcall := H2.out v1 hU
    refine hcall.mono ?_
    clear hcall
    rintro r v2 ⟨A2, c2, rfl, hr2, _, hb1⟩
    have hr1' := row_later hr1 (Nat.le_refl _) hb1
    replace hU := hU.th hb1
    clear hb1 hr1
    go_wp2_with fail
    have hcall := same_true K1 A1 A2 c1 c2 v2.heap.size v2 (Nat.le_refl _) hr1' (by omega) hr2
    refine hcall.mono ?_
    clear hcall hr1' hr2
    rintro r u1 ⟨rfl, hb1⟩
    replace hU := hU.th hb1
    clear hb1
    go_wp2_with fail
    have hcall := H3.out u1 hU
    refine hcall.mono ?_
    clear hcall
    rintro r v1 ⟨A1, c1, rfl, hr1, _, hb1⟩
    replace hU := hU.th hb1
    clear hb1
    go_wp2_with fail
    have hcall := H4.out v1 hU
    refine hcall.mono ?_
    clear hcall
    rintro r v2 ⟨A2, c2, rfl, hr2, _, hb1⟩
    have hr1' := row_later hr1 (Nat.le_refl _) hb1
    replace hU := hU.th hb1
    clear hb1 hr1
    go_wp2_with fail
    have hcall := same_true K2 A1 A2 c1 c2 v2.heap.size v2 (Nat.le_refl _) hr1' (by omega) hr2
    refine hcall.mono ?_
    clear hcall hr1' hr2
    rintro r u2 ⟨rfl, hb1⟩
    replace hU := hU.th hb1
    clear hb1
    go_wp2_with fail
    have hcall := H5.out u2 hU
    refine hcall.mono ?_
    clear hcall
    rintro r v1 ⟨A1, c1, rfl, hr1, _, hb1⟩
    replace hU := hU.th hb1
    clear hb1
    go_wp2_with fail
    have hcall := H6.out v1 hU
    refine hcall.mono ?_
    clear hcall
    rintro r v2 ⟨A2, c2, rfl, hr2, _, hb1⟩
    have hr1' := row_later hr1 (Nat.le_refl _) hb1
    replace hU := hU.th hb1
    clear hb1 hr1
    go_wp2_with fail
    have hcall := same_true K3 A1 A2 c1 c2 v2.heap.size v2 (Nat.le_refl _) hr1' (by omega) hr2
    refine hcall.mono ?_
    clear hcall hr1' hr2
    rintro r u3 ⟨rfl, hb1⟩
    replace hU := hU.th hb1
    clear hb1
    go_wp2_with fail
    have hcall := awake_any u3
    refine hcall.mono ?_
    clear hcall
    rintro r u4 ⟨rfl, hb1⟩
    replace hU := hU.th hb1
    clear hb1
    go_wp2_with fail
    go_ret
    exact ⟨rfl, hU⟩
theorem dailyS_len (mask f t : Int) : (dailyS mask f t).length ≤ 10080 := by
  unfold dailyS
  split
  · exact nf_len _
  · simp
set_option maxHeartbeats 4000000 in
theorem days_law (mask f t : Int) (w : World) :
    Calls Try.prog 6 #[.int .i64 mask, .int .i64 f, .int .i64 t] w (LawPost w) := by
  have hU := Below.refl w.heap.size w
  have H1 := Lib.hid (fun (u : World) => daily_any mask f t u)
  have H2 := Lib.hid (fun (u : World) => rdaily_any mask f t u)
  have k1 := dailyS_len mask f t
  generalize dailyS mask f t = K at *
  go_enter Try.func6, Try.ntmps6
  go_wp2_with fail
  have hcall := H1.out w
  refine hcall.mono ?_
  clear hcall
  rintro r v1 ⟨A1, c1, rfl, hr1, _, hb1⟩
  replace hU := hU.th hb1
  clear hb1
  go_wp2_with fail
  have hcall := H2.out v1
  refine hcall.mono ?_
  clear hcall
  rintro r v2 ⟨A2, c2, rfl, hr2, _, hb1⟩
  have hr1' := row_later hr1 (Nat.le_refl _) hb1
  replace hU := hU.th hb1
  clear hb1 hr1
  go_wp2_with fail
  have hcall := same_true K A1 A2 c1 c2 v2.heap.size v2 (Nat.le_refl _) hr1' (by omega) hr2
  refine hcall.mono ?_
  clear hcall hr1' hr2
  rintro r u1 ⟨rfl, hb1⟩
  replace hU := hU.th hb1
  clear hb1
  go_wp2_with fail
  have hcall := awake_any u1
  refine hcall.mono ?_
  clear hcall
  rintro r u2 ⟨rfl, hb1⟩
  replace hU := hU.th hb1
  clear hb1
  go_wp2_with fail
  go_ret
  exact ⟨rfl, hU⟩

end Go.Proofs.Ytdhccaninopicaa
