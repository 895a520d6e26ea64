/- Union, intersection, difference; the chapter's examples hold. -/
import Derived.Test.YtdhccaninopicaaSComb
import Derived.Test.YtdhccaninopicaaSDaily
import Derived.Test.YtdhccaninopicaaSRef3
set_option linter.unusedSimpArgs false
set_option linter.unusedVariables false
namespace Go.Proofs.Ytdhccaninopicaa
open Go.RowKit

theorem keepOr (p q : Bool) (w : World) : Calls Try.prog 42 #[.bool p, .bool q] w fun r w' => r = .returned (.bool (p || q)) ∧ w = w' := by
  cases p <;> cases q
  all_goals
    go_enter Try.func42, Try.ntmps42
    go_wp2_with fail
    go_ret
    exact ⟨rfl, rfl⟩
theorem keepAnd (p q : Bool) (w : World) : Calls Try.prog 43 #[.bool p, .bool q] w fun r w' => r = .returned (.bool (p && q)) ∧ w = w' := by
  cases p <;> cases q
  all_goals
    go_enter Try.func43, Try.ntmps43
    go_wp2_with fail
    go_ret
    exact ⟨rfl, rfl⟩
theorem keepNot (p q : Bool) (w : World) : Calls Try.prog 44 #[.bool p, .bool q] w fun r w' => r = .returned (.bool (p && !q)) ∧ w = w' := by
  cases p <;> cases q
  all_goals
    go_enter Try.func44, Try.ntmps44
    go_wp2_with fail
    go_ret
    exact ⟨rfl, rfl⟩
theorem union_any (a b : List Sp) (A A2 : Option Addr) (c c2 : Nat) (B : Nat) (w : World) (hB : B ≤ w.heap.size) (hr : IsRows B w 2 (a.map spC) A) (hl : a.length ≤ 1000000) (hr2 : IsRows B w 2 (b.map spC) A2) (hl2 : b.length ≤ 1000000) :
    Calls Try.prog 22 #[.slice A a.length c, .slice A2 b.length c2] w (RetSp (nf fun m => memS a m || memS b m) w) := by
  have H := Lib.hid (comb_any (fun p q => p || q) rfl 42 (enters_of Try.func42 (by kernel_rfl) rfl) keepOr a b A A2 c c2 B w hB hr hl hr2 hl2)
  clear hr hr2
  generalize (nf fun m => memS a m || memS b m) = Z at *
  go_enter Try.func22, Try.ntmps22
  go_wp2_with (go_at_call 41; refine H.out.mono ?_; rintro r w2 ⟨A3, c3, rfl, h1, h2, h3⟩)
  go_ret
  exact ⟨A3, c3, rfl, h1, h2, h3⟩
theorem cross_any (a b : List Sp) (A A2 : Option Addr) (c c2 : Nat) (B : Nat) (w : World) (hB : B ≤ w.heap.size) (hr : IsRows B w 2 (a.map spC) A) (hl : a.length ≤ 1000000) (hr2 : IsRows B w 2 (b.map spC) A2) (hl2 : b.length ≤ 1000000) :
    Calls Try.prog 24 #[.slice A a.length c, .slice A2 b.length c2] w (RetSp (nf fun m => memS a m && memS b m) w) := by
  have H := Lib.hid (comb_any (fun p q => p && q) rfl 43 (enters_of Try.func43 (by kernel_rfl) rfl) keepAnd a b A A2 c c2 B w hB hr hl hr2 hl2)
  clear hr hr2
  generalize (nf fun m => memS a m && memS b m) = Z at *
  go_enter Try.func24, Try.ntmps24
  go_wp2_with (go_at_call 41; refine H.out.mono ?_; rintro r w2 ⟨A3, c3, rfl, h1, h2, h3⟩)
  go_ret
  exact ⟨A3, c3, rfl, h1, h2, h3⟩
theorem minus_any (a b : List Sp) (A A2 : Option Addr) (c c2 : Nat) (B : Nat) (w : World) (hB : B ≤ w.heap.size) (hr : IsRows B w 2 (a.map spC) A) (hl : a.length ≤ 1000000) (hr2 : IsRows B w 2 (b.map spC) A2) (hl2 : b.length ≤ 1000000) :
    Calls Try.prog 26 #[.slice A a.length c, .slice A2 b.length c2] w (RetSp (nf fun m => memS a m && !memS b m) w) := by
  have H := Lib.hid (comb_any (fun p q => p && !q) rfl 44 (enters_of Try.func44 (by kernel_rfl) rfl) keepNot a b A A2 c c2 B w hB hr hl hr2 hl2)
  clear hr hr2
  generalize (nf fun m => memS a m && !memS b m) = Z at *
  go_enter Try.func26, Try.ntmps26
  go_wp2_with (go_at_call 41; refine H.out.mono ?_; rintro r w2 ⟨A3, c3, rfl, h1, h2, h3⟩)
  go_ret
  exact ⟨A3, c3, rfl, h1, h2, h3⟩

-- the examples in plain
def L5 : List Sp := [(10, 20), (5, 10), (30, 40), (35, 36), (7, 7)]
def La : List Sp := [(0, 100)]
def Lb : List Sp := [(50, 150), (90, 95)]
def Lo : List Sp := [(0, 1)]
theorem isNf1 (a b : Int) (h : 0 ≤ a ∧ a < b ∧ b ≤ 10080) : IsNf [(a, b)] := ⟨by simp, fun s hs => by simp at hs; subst hs; exact (spOk_iff _).2 h⟩
theorem isNf2 (a b c d : Int) (h : 0 ≤ a ∧ a < b ∧ b < c ∧ c < d ∧ d ≤ 10080) : IsNf [(a, b), (c, d)] := ⟨by simp; omega, fun s hs => by
  simp at hs
  rcases hs with rfl | rfl
  · exact (spOk_iff _).2 (by simp only; omega)
  · exact (spOk_iff _).2 (by simp only; omega)⟩
theorem ex1 : nf (memS L5) = [(5, 20), (30, 40)] := by
  refine (nf_eq (isNf2 5 20 30 40 (by omega)) fun m => ?_).symm
  rw [Bool.eq_iff_iff]
  simp only [L5, La, Lb, Lo, memS_cons, memS_nil, Bool.or_false, Bool.or_eq_true, Bool.and_eq_true, Bool.not_eq_true', spIn_iff, decide_eq_true_eq, ← Bool.not_eq_true]
  omega
theorem ex2 : cntTo (memS L5) 10080 = 25 := by rw [← lenS_nf, ex1]; rfl
theorem ex3 : (nf fun m => memS La m && memS Lb m) = [(50, 100)] := by
  refine (nf_eq (isNf1 50 100 (by omega)) fun m => ?_).symm
  rw [Bool.eq_iff_iff]
  simp only [L5, La, Lb, Lo, memS_cons, memS_nil, Bool.or_false, Bool.or_eq_true, Bool.and_eq_true, Bool.not_eq_true', spIn_iff, decide_eq_true_eq, ← Bool.not_eq_true]
  omega
theorem ex4 : (nf fun m => memS La m && !memS Lb m) = [(0, 50)] := by
  refine (nf_eq (isNf1 0 50 (by omega)) fun m => ?_).symm
  rw [Bool.eq_iff_iff]
  simp only [L5, La, Lb, Lo, memS_cons, memS_nil, Bool.or_false, Bool.or_eq_true, Bool.and_eq_true, Bool.not_eq_true', spIn_iff, decide_eq_true_eq, ← Bool.not_eq_true]
  omega
theorem ex5 : (nf fun m => memS La m || memS Lb m) = [(0, 150)] := by
  refine (nf_eq (isNf1 0 150 (by omega)) fun m => ?_).symm
  rw [Bool.eq_iff_iff]
  simp only [L5, La, Lb, Lo, memS_cons, memS_nil, Bool.or_false, Bool.or_eq_true, Bool.and_eq_true, Bool.not_eq_true', spIn_iff, decide_eq_true_eq, ← Bool.not_eq_true]
  omega
theorem ex6 : memS Lo (wrapI 10080) = true := rfl
theorem ex7 : memS Lo (wrapI (-1)) = false := rfl
theorem ex8 : nextI (memS Lo) (wrapI 1) = 10079 := by
  have hw : wrapI 1 = 1 := rfl
  rw [hw]
  have hm : ∀ m, memS Lo m = decide (m = 0) := fun m => by
    rw [Bool.eq_iff_iff]
    simp only [Lo, memS_cons, memS_nil, Bool.or_false, spIn_iff, decide_eq_true_eq]
    omega
  refine (nextI_of (by omega) (by omega) (.inr ⟨by omega, by omega, ?_, fun j hj hj' => ?_⟩)).symm
  · rw [hm, hm]; decide
  · rw [hm, hm]
    have : wrapI (1 + j) ≠ 0 := by unfold wrapI; omega
    simp [this]
theorem ex9 : dailyS 64 1380 60 = [(0, 60), (10020, 10080)] := by
  have h1 : dailyOk 64 1380 60 = true := rfl
  have h2 : dayLen 1380 60 = 120 := rfl
  unfold dailyS
  rw [h1, if_pos rfl, h2]
  refine (nf_eq (isNf2 0 60 10020 10080 (by omega)) fun m => ?_).symm
  have e : dailyHit 64 1380 120 7 m = dayHit (6 * 1440 + 1380) 120 m := by
    have d0 : dayOn 64 0 = false := rfl
    have d1 : dayOn 64 1 = false := rfl
    have d2 : dayOn 64 2 = false := rfl
    have d3 : dayOn 64 3 = false := rfl
    have d4 : dayOn 64 4 = false := rfl
    have d5 : dayOn 64 5 = false := rfl
    have d6 : dayOn 64 6 = true := rfl
    simp only [dailyHit, d0, d1, d2, d3, d4, d5, d6, Bool.false_and, Bool.true_and, Bool.or_false, Bool.false_or]
    rfl
  rw [e, Bool.eq_iff_iff]
  simp only [memS_cons, memS_nil, Bool.or_false, Bool.or_eq_true, Bool.and_eq_true, spIn_iff, decide_eq_true_eq, dayHit]
  omega
theorem lit_rows {w : World} {g : Nat} (l : List Sp) (h : Blk w g 35 ((l.map spC).flatten).toArray) (B : Nat) (hB : g < B) : IsRows B w 2 (l.map spC) (some ⟨g, 0, none⟩) := fun _ =>
  ⟨g, 0, rfl, hB, (flat_iff (l.map spC) 0 spC_all).1 (by have := h.row; simpa using this)⟩
theorem lit_rows0 {w : World} {g : Nat} (l : List Sp) (h : Blk w g 35 ((l.map spC).flatten).toArray) : IsRows w.heap.size w 2 (l.map spC) (some ⟨g, 0, none⟩) := lit_rows l h _ h.lt
/-- Two lists that are one. -/
theorem same_true (a : List Sp) (A A2 : Option Addr) (c c2 : Nat) (B : Nat) (w : World) (hB : B ≤ w.heap.size) (hr : IsRows B w 2 (a.map spC) A) (hl : a.length ≤ 140737488351232) (hq : IsRows B w 2 (a.map spC) A2) :
    Calls Try.prog 13 #[.slice A a.length c, .slice A2 a.length c2] w fun r w' => r = .returned (.bool true) ∧ Below w.heap.size w w' :=
  (same_any a a A A2 c c2 B w hB hr hl hq hl).mono fun r w' ⟨h1, h2⟩ => ⟨by rw [h1, decide_eq_true rfl], h2⟩
-- a call that hands a list back: $1 the contract at the world u, $2 its example, $3 the next world's name
-- $1 the list, $2 the world ahead, $3 the next world's name
set_option maxRecDepth 100000 in
set_option maxHeartbeats 4000000 in
theorem awake_any (w : World) : Calls Try.prog 12 #[] w fun r w' => r = .returned (.bool true) ∧ Below w.heap.size w w' := by
  go_enter Try.func12, Try.ntmps12
  go_upto_region 4 with fail
  have hU : Below w.heap.size w ((((w.alloc (.cells #[.int .i64 10, .int .i64 20, .int .i64 5, .int .i64 10, .int .i64 30, .int .i64 40, .int .i64 35, .int .i64 36, .int .i64 7, .int .i64 7] 35)).alloc (.cells #[.int .i64 0, .int .i64 100] 35)).alloc (.cells #[.int .i64 50, .int .i64 150, .int .i64 90, .int .i64 95] 35)).alloc (.cells #[.int .i64 0, .int .i64 1] 35)) := ((((Below.refl _ _).al _).al _).al _).al _
  have k5 := lit_rows0 L5 ((((Blk.new w 35 #[.int .i64 10, .int .i64 20, .int .i64 5, .int .i64 10, .int .i64 30, .int .i64 40, .int .i64 35, .int .i64 36, .int .i64 7, .int .i64 7]).alloc (.cells #[.int .i64 0, .int .i64 100] 35)).alloc (.cells #[.int .i64 50, .int .i64 150, .int .i64 90, .int .i64 95] 35)).alloc (.cells #[.int .i64 0, .int .i64 1] 35))
  have ka := lit_rows0 La (((Blk.at1 w (.cells #[.int .i64 10, .int .i64 20, .int .i64 5, .int .i64 10, .int .i64 30, .int .i64 40, .int .i64 35, .int .i64 36, .int .i64 7, .int .i64 7] 35) 35 #[.int .i64 0, .int .i64 100]).alloc (.cells #[.int .i64 50, .int .i64 150, .int .i64 90, .int .i64 95] 35)).alloc (.cells #[.int .i64 0, .int .i64 1] 35))
  have kb := lit_rows0 Lb ((Blk.at2 w (.cells #[.int .i64 10, .int .i64 20, .int .i64 5, .int .i64 10, .int .i64 30, .int .i64 40, .int .i64 35, .int .i64 36, .int .i64 7, .int .i64 7] 35) (.cells #[.int .i64 0, .int .i64 100] 35) 35 #[.int .i64 50, .int .i64 150, .int .i64 90, .int .i64 95]).alloc (.cells #[.int .i64 0, .int .i64 1] 35))
  have ko := lit_rows0 Lo (Blk.at3 w (.cells #[.int .i64 10, .int .i64 20, .int .i64 5, .int .i64 10, .int .i64 30, .int .i64 40, .int .i64 35, .int .i64 36, .int .i64 7, .int .i64 7] 35) (.cells #[.int .i64 0, .int .i64 100] 35) (.cells #[.int .i64 50, .int .i64 150, .int .i64 90, .int .i64 95] 35) 35 #[.int .i64 0, .int .i64 1])
  generalize ((((w.alloc (.cells #[.int .i64 10, .int .i64 20, .int .i64 5, .int .i64 10, .int .i64 30, .int .i64 40, .int .i64 35, .int .i64 36, .int .i64 7, .int .i64 7] 35)).alloc (.cells #[.int .i64 0, .int .i64 100] 35)).alloc (.cells #[.int .i64 50, .int .i64 150, .int .i64 90, .int .i64 95] 35)).alloc (.cells #[.int .i64 0, .int .i64 1] 35)) = u0 at *
  have H0 := Lib.hid (fun (u : World) (h : Below u0.heap.size u0 u) => And.intro (row_later k5 (Nat.le_refl _) h) (And.intro (row_later ka (Nat.le_refl _) h) (And.intro (row_later kb (Nat.le_refl _) h) (row_later ko (Nat.le_refl _) h))))
  clear k5 ka kb ko
  have hV := Below.refl u0.heap.size u0
  go_wp2_with fail
  have hcall := norm_any L5 (some ⟨w.heap.size, 0, none⟩) 5 u0.heap.size u0 (Nat.le_refl _) (H0.out u0 hV).1 (by decide)
  rw [ex1] at hcall
  refine hcall.mono ?_
  clear hcall
  rintro r u1 ⟨A1, c1, rfl, hr1, _, hb1⟩
  replace hU := hU.th hb1
  replace hV := hV.th hb1
  clear hb1
  go_wp2_with fail
  refine (same_true [(5, 20), (30, 40)] A1 (some ⟨u1.heap.size, 0, none⟩) c1 _ _ _ (Nat.le_refl _) (row_later hr1 (Nat.le_refl _) (Lat.al _ _)) (by decide) (lit_rows0 [(5, 20), (30, 40)] (Blk.new u1 35 _))).mono ?_
  rintro r u2 ⟨rfl, hb1⟩
  replace hU := (hU.al _).th hb1
  replace hV := (hV.al _).th hb1
  clear hb1 hr1
  go_wp2_with fail
  have hcall := length_any L5 (some ⟨w.heap.size, 0, none⟩) 5 u2.heap.size u2 (Nat.le_refl _) (H0.out u2 hV).1 (by decide)
  rw [ex2] at hcall
  refine hcall.mono ?_
  clear hcall
  rintro r u3 ⟨rfl, hb1⟩
  replace hU := hU.th hb1
  replace hV := hV.th hb1
  clear hb1
  go_wp2_with fail
  have hcall := cross_any La Lb (some ⟨w.heap.size + 1, 0, none⟩) (some ⟨w.heap.size + 1 + 1, 0, none⟩) 1 2 u3.heap.size u3 (Nat.le_refl _) (H0.out u3 hV).2.1 (by decide) (H0.out u3 hV).2.2.1 (by decide)
  rw [ex3] at hcall
  refine hcall.mono ?_
  clear hcall
  rintro r u4 ⟨A1, c1, rfl, hr1, _, hb1⟩
  replace hU := hU.th hb1
  replace hV := hV.th hb1
  clear hb1
  go_wp2_with fail
  refine (same_true [(50, 100)] A1 (some ⟨u4.heap.size, 0, none⟩) c1 _ _ _ (Nat.le_refl _) (row_later hr1 (Nat.le_refl _) (Lat.al _ _)) (by decide) (lit_rows0 [(50, 100)] (Blk.new u4 35 _))).mono ?_
  rintro r u5 ⟨rfl, hb1⟩
  replace hU := (hU.al _).th hb1
  replace hV := (hV.al _).th hb1
  clear hb1 hr1
  go_wp2_with fail
  have hcall := minus_any La Lb (some ⟨w.heap.size + 1, 0, none⟩) (some ⟨w.heap.size + 1 + 1, 0, none⟩) 1 2 u5.heap.size u5 (Nat.le_refl _) (H0.out u5 hV).2.1 (by decide) (H0.out u5 hV).2.2.1 (by decide)
  rw [ex4] at hcall
  refine hcall.mono ?_
  clear hcall
  rintro r u6 ⟨A1, c1, rfl, hr1, _, hb1⟩
  replace hU := hU.th hb1
  replace hV := hV.th hb1
  clear hb1
  go_wp2_with fail
  refine (same_true [(0, 50)] A1 (some ⟨u6.heap.size, 0, none⟩) c1 _ _ _ (Nat.le_refl _) (row_later hr1 (Nat.le_refl _) (Lat.al _ _)) (by decide) (lit_rows0 [(0, 50)] (Blk.new u6 35 _))).mono ?_
  rintro r u7 ⟨rfl, hb1⟩
  replace hU := (hU.al _).th hb1
  replace hV := (hV.al _).th hb1
  clear hb1 hr1
  go_wp2_with fail
  have hcall := union_any La Lb (some ⟨w.heap.size + 1, 0, none⟩) (some ⟨w.heap.size + 1 + 1, 0, none⟩) 1 2 u7.heap.size u7 (Nat.le_refl _) (H0.out u7 hV).2.1 (by decide) (H0.out u7 hV).2.2.1 (by decide)
  rw [ex5] at hcall
  refine hcall.mono ?_
  clear hcall
  rintro r u8 ⟨A1, c1, rfl, hr1, _, hb1⟩
  replace hU := hU.th hb1
  replace hV := hV.th hb1
  clear hb1
  go_wp2_with fail
  refine (same_true [(0, 150)] A1 (some ⟨u8.heap.size, 0, none⟩) c1 _ _ _ (Nat.le_refl _) (row_later hr1 (Nat.le_refl _) (Lat.al _ _)) (by decide) (lit_rows0 [(0, 150)] (Blk.new u8 35 _))).mono ?_
  rintro r u9 ⟨rfl, hb1⟩
  replace hU := (hU.al _).th hb1
  replace hV := (hV.al _).th hb1
  clear hb1 hr1
  go_wp2_with fail
  have hcall := has_any Lo (some ⟨w.heap.size + 1 + 1 + 1, 0, none⟩) 1 10080 u9.heap.size u9 (Nat.le_refl _) (H0.out u9 hV).2.2.2 (by decide) ⟨by omega, by omega⟩
  rw [ex6] at hcall
  refine hcall.mono ?_
  clear hcall
  rintro r u10 ⟨rfl, hb1⟩
  replace hU := hU.th hb1
  replace hV := hV.th hb1
  clear hb1
  go_wp2_with fail
  have hcall := has_any Lo (some ⟨w.heap.size + 1 + 1 + 1, 0, none⟩) 1 (-1) u10.heap.size u10 (Nat.le_refl _) (H0.out u10 hV).2.2.2 (by decide) ⟨by omega, by omega⟩
  rw [ex7] at hcall
  refine hcall.mono ?_
  clear hcall
  rintro r u11 ⟨rfl, hb1⟩
  replace hU := hU.th hb1
  replace hV := hV.th hb1
  clear hb1
  go_wp2_with fail
  have hcall := next_any Lo (some ⟨w.heap.size + 1 + 1 + 1, 0, none⟩) 1 1 u11.heap.size u11 (Nat.le_refl _) (H0.out u11 hV).2.2.2 (by decide) ⟨by omega, by omega⟩
  rw [ex8] at hcall
  refine hcall.mono ?_
  clear hcall
  rintro r u12 ⟨rfl, hb1⟩
  replace hU := hU.th hb1
  replace hV := hV.th hb1
  clear hb1
  go_wp2_with fail
  have hcall := daily_any 64 1380 60 u12
  rw [ex9] at hcall
  refine hcall.mono ?_
  clear hcall
  rintro r u13 ⟨A1, c1, rfl, hr1, _, hb1⟩
  replace hU := hU.th hb1
  replace hV := hV.th hb1
  clear hb1
  go_wp2_with fail
  refine (same_true [(0, 60), (10020, 10080)] A1 (some ⟨u13.heap.size, 0, none⟩) c1 _ _ _ (Nat.le_refl _) (row_later hr1 (Nat.le_refl _) (Lat.al _ _)) (by decide) (lit_rows0 [(0, 60), (10020, 10080)] (Blk.new u13 35 _))).mono ?_
  rintro r u14 ⟨rfl, hb1⟩
  replace hU := (hU.al _).th hb1
  replace hV := (hV.al _).th hb1
  clear hb1 hr1
  go_wp2_with fail
  go_ret
  exact ⟨rfl, hU⟩

end Go.Proofs.Ytdhccaninopicaa
