/- The reference's value of an expression: attributes, operations, and, or. -/
import Derived.Test.YtnelgblmogciiaaREvA
import Derived.Test.YtnelgblmogciiaaRelies
set_option linter.unusedSimpArgs false
set_option linter.unusedVariables false
namespace Go.Proofs.Ytnelgblmogciiaa
open Go.RowKit

theorem kdA (k : Int) : ((k == 10) = true ∧ k = 10) ∨ ((k == 10) = false ∧ (k == 11) = true ∧ k = 11 ∧ ¬ k = 10) ∨ ((k == 10) = false ∧ (k == 11) = false ∧ (k == 12) = true ∧ k = 12 ∧ ¬ k = 11 ∧ ¬ k = 10) ∨ ((k == 10) = false ∧ (k == 11) = false ∧ (k == 12) = false ∧ ¬ k = 12 ∧ ¬ k = 11 ∧ ¬ k = 10) := by
  simp only [beq_iff_eq, beq_eq_false_iff_ne]; omega
theorem ine {a b : Int} (h : a ≠ b) : (a == b) = false ∧ (a != b) = true ∧ ¬ a = b := ⟨by simpa using h, by simpa using h, h⟩
theorem sne {a b : ByteArray} (h : a ≠ b) : (a.toList == b.toList) = false ∧ (a.toList != b.toList) = true ∧ ¬ a.toList = b.toList := by
  have : ¬ a.toList = b.toList := fun h' => h ((toList_inj _ _).1 h')
  exact ⟨by simpa using this, by simpa using this, this⟩
theorem fin_val {x y : EV} (h : y = x) : Ending.returned x.val = .returned y.val := by rw [h]

set_option maxRecDepth 100000 in
set_option maxHeartbeats 2000000 in
theorem rints_any (kind k1 n1 : Int) (s1 : ByteArray) (k2 n2 : Int) (s2 : ByteArray) (w : World) (h9 : kind ≠ 9) (h1 : I64 n1) (h2 : I64 n2) :
    Calls Try.prog 83 #[.int .i64 kind, .agg #[.int .i64 k1, .int .i64 n1, .string s1], .agg #[.int .i64 k2, .int .i64 n2, .string s2]] w fun r w' => r = .returned (opE kind k1 n1 s1 k2 n2 s2).val ∧ Below w.heap.size w w' := by
  have hJ : opE kind k1 n1 s1 k2 n2 s2 = if k1 ≠ 2 ∨ k2 ≠ 2 then unknownE else if kind = 10 then truthE (decide (n1 < n2)) else if kind = 11 then ⟨2, satI (n1 + n2), noStr, true⟩ else if kind = 12 then ⟨2, satI (n1 - n2), noStr, true⟩ else ⟨2, satI (n1 * n2), noStr, true⟩ := if_neg h9
  generalize opE kind k1 n1 s1 k2 n2 s2 = R at *
  by_cases e1 : k1 = 2
  · by_cases e2 : k2 = 2
    · subst e1 e2
      rw [if_neg (by simp)] at hJ
      rcases kdA kind with ⟨k10, k10'⟩ | ⟨k10, k11, k11', k10'⟩ | ⟨k10, k11, k12, k12', k11', k10'⟩ | ⟨k10, k11, k12, k12', k11', k10'⟩
      · rw [if_pos k10'] at hJ
        have HJ := Lib.hid hJ
        clear hJ
        go_enter Try.func83, Try.ntmps83
        go_wp2_with fail
        refine (rtruth_any _ _).mono ?_
        rintro r w2 ⟨rfl, hb2⟩
        have hR := (Blk.at2 w _ _ _ _).below hb2
        have lR := hR.lt
        have cR := hR.cell
        have fR := hR.free
        go_wp2_with fail
        refine bodyPost_ret (v := ?_) ?_ rfl ?_
        rotate_left
        · simp [results, Try.results83, go_sem, cR]; exact rfl
        refine ⟨by rw [HJ.out]; rfl, ?_⟩
        (repeat (first | exact Below.refl _ _ | refine Below.al ?_ _ | refine Below.st ?_ (by simp; try omega) _ | refine Below.th ?_ (by assumption)))
      · rw [if_neg k10', if_pos k11'] at hJ
        have HJ := Lib.hid hJ
        clear hJ
        go_enter Try.func83, Try.ntmps83
        go_wp2_with fail
        refine (radd_any n1 n2 _ h1 h2).mono ?_
        rintro r w2 ⟨rfl, rfl⟩
        go_wp2_with fail
        refine bodyPost_ret (v := ?_) ?_ rfl ?_
        rotate_left
        · simp [results, Try.results83, go_sem]; exact rfl
        refine ⟨by rw [HJ.out]; rfl, ?_⟩
        (repeat (first | exact Below.refl _ _ | refine Below.al ?_ _ | refine Below.st ?_ (by simp; try omega) _ | refine Below.th ?_ (by assumption)))
      · rw [if_neg k10', if_neg k11', if_pos k12'] at hJ
        have HJ := Lib.hid hJ
        clear hJ
        go_enter Try.func83, Try.ntmps83
        go_wp2_with fail
        refine (rsub_any n1 n2 _ h1 h2).mono ?_
        rintro r w2 ⟨rfl, rfl⟩
        go_wp2_with fail
        refine bodyPost_ret (v := ?_) ?_ rfl ?_
        rotate_left
        · simp [results, Try.results83, go_sem]; exact rfl
        refine ⟨by rw [HJ.out]; rfl, ?_⟩
        (repeat (first | exact Below.refl _ _ | refine Below.al ?_ _ | refine Below.st ?_ (by simp; try omega) _ | refine Below.th ?_ (by assumption)))
      · rw [if_neg k10', if_neg k11', if_neg k12'] at hJ
        have HJ := Lib.hid hJ
        clear hJ
        go_enter Try.func83, Try.ntmps83
        go_wp2_with fail
        refine (rmul_any n1 n2 _ h1 h2).mono ?_
        rintro r w2 ⟨rfl, rfl⟩
        go_wp2_with fail
        refine bodyPost_ret (v := ?_) ?_ rfl ?_
        rotate_left
        · simp [results, Try.results83, go_sem]; exact rfl
        refine ⟨by rw [HJ.out]; rfl, ?_⟩
        (repeat (first | exact Below.refl _ _ | refine Below.al ?_ _ | refine Below.st ?_ (by simp; try omega) _ | refine Below.th ?_ (by assumption)))
    · rw [if_pos (.inr e2)] at hJ
      obtain ⟨q1, q2, q3⟩ := ine e2
      subst e1
      have HJ := Lib.hid hJ
      clear hJ
      go_enter Try.func83, Try.ntmps83
      go_wp2_with fail
      refine bodyPost_ret (v := ?_) ?_ rfl ?_
      rotate_left
      · simp [results, Try.results83, go_sem]; exact rfl
      refine ⟨by rw [HJ.out]; rfl, ?_⟩
      (repeat (first | exact Below.refl _ _ | refine Below.al ?_ _ | refine Below.st ?_ (by simp; try omega) _ | refine Below.th ?_ (by assumption)))
  · rw [if_pos (.inl e1)] at hJ
    obtain ⟨q1, q2, q3⟩ := ine e1
    have HJ := Lib.hid hJ
    clear hJ
    go_enter Try.func83, Try.ntmps83
    go_wp2_with fail
    refine bodyPost_ret (v := ?_) ?_ rfl ?_
    rotate_left
    · simp [results, Try.results83, go_sem]; exact rfl
    refine ⟨by rw [HJ.out]; rfl, ?_⟩
    (repeat (first | exact Below.refl _ _ | refine Below.al ?_ _ | refine Below.st ?_ (by simp; try omega) _ | refine Below.th ?_ (by assumption)))

/-- The cells of a value. -/
def EV.cells (x : EV) : List Value := [.int .i64 x.k, .int .i64 x.n, .string x.s]
/-- A value as valid expressions have it. -/
structure EV.fine (x : EV) : Prop where
  isok : x.ok = decide (x.k ≠ 0)
  none : x.k = 0 → x.n = 0 ∧ x.s = noStr
  flag : x.k = 1 → (x.n = 0 ∨ x.n = 1) ∧ x.s = noStr
theorem EV.fine.unknown {x : EV} (h : x.fine) (hk : x.ok = false) : x = unknownE := by
  have h1 := h.isok
  rw [hk] at h1
  have h2 : x.k = 0 := by simpa using h1.symm
  obtain ⟨h3, h4⟩ := h.none h2
  obtain ⟨k, n, s, o⟩ := x
  simp only at h2 h3 h4 hk
  rw [h2, h3, h4, hk]; rfl
-- $1 false/true $2 d $3 not decides
set_option maxRecDepth 100000 in
set_option maxHeartbeats 4000000 in
theorem rchain0_any (xs : List EV) (A : Option Addr) (c : Nat) (B : Nat) (w : World) (hB : B ≤ w.heap.size) (hr : IsRows B w 3 (xs.map EV.cells) A) (hl : xs.length ≤ 140737488351232) (hf : ∀ x ∈ xs, x.fine) :
    Calls Try.prog 82 #[.slice A xs.length c, .bool false] w fun r w' => r = .returned (junE 0 xs false).val ∧ Below w.heap.size w w' := by
  have hJ : junE 0 xs false = junE 0 xs false := rfl
  go_enter Try.func82, Try.ntmps82
  go_wp2_with fail
  go_loopw [5, 6] (fun kn i wr => ∃ (k : Nat) (kb : Bool), k ≤ xs.length ∧ i = .int .i64 k ∧ kn = .bool kb ∧ Hid (junE 0 xs false = junE 0 (xs.drop k) (!kb)) ∧ Below w.heap.size w wr ∧ Blk wr w.heap.size 27 #[.int .i64 0, .int .i64 0, .string { data := #[] }]) (fun _ i _ => xs.length - (intOf i).toNat)
  case atStart => exact ⟨0, true, Nat.zero_le _, rfl, rfl, Lib.hid rfl, (Below.refl _ _).al _, Blk.new _ _ _⟩
  case round =>
    obtain ⟨k, kb, hkl, rfl, rfl, HH, hbw, kR⟩ := hrel
    by_cases hlk : k < xs.length
    · obtain ⟨b, off, rfl, hbB, hrow⟩ := hr (by simp; omega)
      have hbl : b < wr.heap.size := by have := hbw.size; omega
      have hr1 := (hrow k (by simpa using hlk)).below hbw (Nat.lt_of_lt_of_le hbB hB)
      have hst := HH.out
      rw [List.drop_eq_getElem_cons hlk] at hst
      rw [junE] at hst
      have hfx := hf _ (List.getElem_mem hlk)
      simp only [List.getElem_map] at hr1
      clear HH hrow hr
      generalize xs[k] = x at *
      obtain ⟨xk, xn, xss, xo⟩ := x
      simp only [EV.cells] at hr1
      have f1 := hfx.isok
      have f2 := hfx.flag
      clear hfx
      simp only at f1 f2 hst
      by_cases hk1 : xk = 1
      · subst hk1
        obtain ⟨f3, f4⟩ := f2 rfl
        subst f4
        have f5 : xo = true := by rw [f1]; rfl
        subst f5
        rw [if_neg (by simp)] at hst
        clear f1 f2 hf
        by_cases hn : xn = 0
        · subst hn
          rw [if_pos rfl] at hst
          have HST := Lib.hid hst
          clear hst
          go_upto_region 5 with fail
          refine wp_rely (by kernel_rfl) (by kernel_rfl) ?_
          apply RelyL.val
          · intro ν w' hL hF K hK
            skip
            go_simp
            exact hK.out _ _ rfl (Lat.refl _)
          simp only [Act.put, List.setIfInBounds_toArray, List.set_cons_zero, List.set_cons_succ, Nat.reduceAdd]
          apply RelyL.val
          · intro ν w' hL hF K hK
            skip
            go_simp
            exact hK.out _ _ rfl (Lat.refl _)
          simp only [Act.put, List.setIfInBounds_toArray, List.set_cons_zero, List.set_cons_succ, Nat.reduceAdd]
          apply RelyL.val
          · intro ν w' hL hF K hK
            skip
            go_simp
            exact hK.out _ _ rfl (Lat.refl _)
          simp only [Act.put, List.setIfInBounds_toArray, List.set_cons_zero, List.set_cons_succ, Nat.reduceAdd]
          apply RelyL.val
          · intro ν w' hL hF K hK
            refine take_op rfl ?_
            refine wp_load_at 27 _ rfl b (off + k * 3) rfl _ _ (hr1.below hL hbl) Try.underlying27 rfl (by kernel_rfl : (Try.prog.info? 27).map (·.size) = some 3) ?_
            exact hK.out _ _ rfl (Lat.refl _)
          simp only [Act.put, List.setIfInBounds_toArray, List.set_cons_zero, List.set_cons_succ, Nat.reduceAdd]
          apply RelyL.val
          · intro ν w' hL hF K hK
            skip
            go_simp
            exact hK.out _ _ rfl (Lat.refl _)
          simp only [Act.put, List.setIfInBounds_toArray, List.set_cons_zero, List.set_cons_succ, Nat.reduceAdd]
          apply RelyL.val
          · intro ν w' hL hF K hK
            go_simp
            go_at_call 46
            refine (rtruth_any false _).mono ?_
            rintro r w'' ⟨rfl, hbp⟩
            exact hK.out _ _ rfl hbp
          simp only [Act.put, List.setIfInBounds_toArray, List.set_cons_zero, List.set_cons_succ, Nat.reduceAdd]
          simp only [bit, if_true, Bool.false_eq_true, if_false, noStr] at *
          apply RelyL.val
          · intro ν w' hL hF K hK
            skip
            go_simp
            exact hK.out _ _ rfl (Lat.refl _)
          simp only [Act.put, List.setIfInBounds_toArray, List.set_cons_zero, List.set_cons_succ, Nat.reduceAdd]
          refine RelyL.done fun ν w1 hL hF => ?_
          clear hF
          have hbw1 := hbw.th hL
          have kR1 := kR.lat hL
          have hr2 := hr1.below hL hbl
          have hl1 := hL.size
          clear hL kR hr1 hbw
          have cR := kR1.cell
          have fR := kR1.free
          go_wp2_with (with_reducible refine wpList_load_at rfl 27 _ rfl b (off + k * 3) rfl _ _ hr2 Try.underlying27 rfl (by kernel_rfl) ?_)
          refine bodyPost_ret (v := ?_) ?_ rfl ?_
          rotate_left
          · simp [results, Try.results82, go_sem, cR]; exact rfl
          refine ⟨by rw [HST.out]; rfl, ?_⟩
          (repeat (first | exact Below.refl _ _ | refine Below.al ?_ _ | refine Below.st ?_ (by simp; try omega) _ | refine Below.th ?_ (by assumption)))
        · obtain ⟨q1, q2, q3⟩ := ine hn
          rw [if_neg hn] at hst
          have HST := Lib.hid hst
          clear hst
          go_upto_region 5 with fail
          refine wp_rely (by kernel_rfl) (by kernel_rfl) ?_
          apply RelyL.val
          · intro ν w' hL hF K hK
            skip
            go_simp
            exact hK.out _ _ rfl (Lat.refl _)
          simp only [Act.put, List.setIfInBounds_toArray, List.set_cons_zero, List.set_cons_succ, Nat.reduceAdd]
          apply RelyL.val
          · intro ν w' hL hF K hK
            skip
            go_simp
            exact hK.out _ _ rfl (Lat.refl _)
          simp only [Act.put, List.setIfInBounds_toArray, List.set_cons_zero, List.set_cons_succ, Nat.reduceAdd]
          apply RelyL.val
          · intro ν w' hL hF K hK
            skip
            go_simp
            exact hK.out _ _ rfl (Lat.refl _)
          simp only [Act.put, List.setIfInBounds_toArray, List.set_cons_zero, List.set_cons_succ, Nat.reduceAdd]
          apply RelyL.val
          · intro ν w' hL hF K hK
            refine take_op rfl ?_
            refine wp_load_at 27 _ rfl b (off + k * 3) rfl _ _ (hr1.below hL hbl) Try.underlying27 rfl (by kernel_rfl : (Try.prog.info? 27).map (·.size) = some 3) ?_
            exact hK.out _ _ rfl (Lat.refl _)
          simp only [Act.put, List.setIfInBounds_toArray, List.set_cons_zero, List.set_cons_succ, Nat.reduceAdd]
          apply RelyL.val
          · intro ν w' hL hF K hK
            skip
            go_simp
            exact hK.out _ _ rfl (Lat.refl _)
          simp only [Act.put, List.setIfInBounds_toArray, List.set_cons_zero, List.set_cons_succ, Nat.reduceAdd]
          apply RelyL.val
          · intro ν w' hL hF K hK
            go_simp
            go_at_call 46
            refine (rtruth_any false _).mono ?_
            rintro r w'' ⟨rfl, hbp⟩
            exact hK.out _ _ rfl hbp
          simp only [Act.put, List.setIfInBounds_toArray, List.set_cons_zero, List.set_cons_succ, Nat.reduceAdd]
          simp only [bit, if_true, Bool.false_eq_true, if_false, noStr] at *
          apply RelyL.val
          · intro ν w' hL hF K hK
            skip
            go_simp
            exact hK.out _ _ rfl (Lat.refl _)
          simp only [Act.put, List.setIfInBounds_toArray, List.set_cons_zero, List.set_cons_succ, Nat.reduceAdd]
          refine RelyL.done fun ν w1 hL hF => ?_
          clear hF
          have hbw1 := hbw.th hL
          have kR1 := kR.lat hL
          have hr2 := hr1.below hL hbl
          have hl1 := hL.size
          clear hL kR hr1 hbw
          have r0 := hr2 0 _ rfl
          rw [Nat.add_zero] at r0
          clear hr2
          go_wp2_with fail
          go_roundw
          case rel => exact ⟨k + 1, kb, by omega, by go_num, rfl, HST, hbw1, kR1⟩
          case measure => simp [intOf]; omega
      · obtain ⟨q1, q2, q3⟩ := ine hk1
        rw [if_pos (.inr hk1)] at hst
        have HST := Lib.hid hst
        clear hst f1 f2 hf
        go_upto_region 5 with fail
        refine wp_rely (by kernel_rfl) (by kernel_rfl) ?_
        apply RelyL.val
        · intro ν w' hL hF K hK
          skip
          go_simp
          exact hK.out _ _ rfl (Lat.refl _)
        simp only [Act.put, List.setIfInBounds_toArray, List.set_cons_zero, List.set_cons_succ, Nat.reduceAdd]
        apply RelyL.val
        · intro ν w' hL hF K hK
          skip
          go_simp
          exact hK.out _ _ rfl (Lat.refl _)
        simp only [Act.put, List.setIfInBounds_toArray, List.set_cons_zero, List.set_cons_succ, Nat.reduceAdd]
        apply RelyL.val
        · intro ν w' hL hF K hK
          skip
          go_simp
          exact hK.out _ _ rfl (Lat.refl _)
        simp only [Act.put, List.setIfInBounds_toArray, List.set_cons_zero, List.set_cons_succ, Nat.reduceAdd]
        apply RelyL.val
        · intro ν w' hL hF K hK
          refine take_op rfl ?_
          refine wp_load_at 27 _ rfl b (off + k * 3) rfl _ _ (hr1.below hL hbl) Try.underlying27 rfl (by kernel_rfl : (Try.prog.info? 27).map (·.size) = some 3) ?_
          exact hK.out _ _ rfl (Lat.refl _)
        simp only [Act.put, List.setIfInBounds_toArray, List.set_cons_zero, List.set_cons_succ, Nat.reduceAdd]
        apply RelyL.val
        · intro ν w' hL hF K hK
          skip
          go_simp
          exact hK.out _ _ rfl (Lat.refl _)
        simp only [Act.put, List.setIfInBounds_toArray, List.set_cons_zero, List.set_cons_succ, Nat.reduceAdd]
        apply RelyL.val
        · intro ν w' hL hF K hK
          go_simp
          go_at_call 46
          refine (rtruth_any false _).mono ?_
          rintro r w'' ⟨rfl, hbp⟩
          exact hK.out _ _ rfl hbp
        simp only [Act.put, List.setIfInBounds_toArray, List.set_cons_zero, List.set_cons_succ, Nat.reduceAdd]
        simp only [bit, if_true, Bool.false_eq_true, if_false, noStr] at *
        apply RelyL.val
        · intro ν w' hL hF K hK
          skip
          go_simp
          exact hK.out _ _ rfl (Lat.refl _)
        simp only [Act.put, List.setIfInBounds_toArray, List.set_cons_zero, List.set_cons_succ, Nat.reduceAdd]
        refine RelyL.done fun ν w1 hL hF => ?_
        clear hF
        have hbw1 := hbw.th hL
        have kR1 := kR.lat hL
        have hr2 := hr1.below hL hbl
        have hl1 := hL.size
        clear hL kR hr1 hbw
        have r0 := hr2 0 _ rfl
        rw [Nat.add_zero] at r0
        clear hr2
        go_wp2_with fail
        go_roundw
        case rel => exact ⟨k + 1, false, by omega, by go_num, rfl, HST, hbw1, kR1⟩
        case measure => simp [intOf]; omega
    · have hst := HH.out
      rw [List.drop_of_length_le (by omega)] at hst
      rw [junE] at hst
      have cR := kR.cell
      have fR := kR.free
      cases kb with
      | false =>
        have HST := Lib.hid hst
        clear hst HH
        go_wp2_with fail
        refine bodyPost_ret (v := ?_) ?_ rfl ?_
        rotate_left
        · simp [results, Try.results82, go_sem, cR]; exact rfl
        refine ⟨by rw [HST.out]; rfl, ?_⟩
        (repeat (first | exact Below.refl _ _ | refine Below.al ?_ _ | refine Below.st ?_ (by simp; try omega) _ | refine Below.th ?_ (by assumption)))
      | true =>
        have HST := Lib.hid hst
        clear hst HH
        go_wp2_with fail
        refine (rtruth_any true _).mono ?_
        rintro r w2 ⟨rfl, hb2⟩
        have hR := kR.below hb2
        have lR := hR.lt
        clear cR fR
        have cR := hR.cell
        have fR := hR.free
        simp only [bit, if_true, Bool.false_eq_true, if_false, noStr] at *
        go_wp2_with fail
        refine bodyPost_ret (v := ?_) ?_ rfl ?_
        rotate_left
        · simp [results, Try.results82, go_sem, cR]; exact rfl
        refine ⟨by rw [HST.out]; rfl, ?_⟩
        (repeat (first | exact Below.refl _ _ | refine Below.al ?_ _ | refine Below.st ?_ (by simp; try omega) _ | refine Below.th ?_ (by assumption)))
set_option maxRecDepth 100000 in
set_option maxHeartbeats 4000000 in
theorem rchain1_any (xs : List EV) (A : Option Addr) (c : Nat) (B : Nat) (w : World) (hB : B ≤ w.heap.size) (hr : IsRows B w 3 (xs.map EV.cells) A) (hl : xs.length ≤ 140737488351232) (hf : ∀ x ∈ xs, x.fine) :
    Calls Try.prog 82 #[.slice A xs.length c, .bool true] w fun r w' => r = .returned (junE 1 xs false).val ∧ Below w.heap.size w w' := by
  have hJ : junE 1 xs false = junE 1 xs false := rfl
  go_enter Try.func82, Try.ntmps82
  go_wp2_with fail
  go_loopw [5, 6] (fun kn i wr => ∃ (k : Nat) (kb : Bool), k ≤ xs.length ∧ i = .int .i64 k ∧ kn = .bool kb ∧ Hid (junE 1 xs false = junE 1 (xs.drop k) (!kb)) ∧ Below w.heap.size w wr ∧ Blk wr w.heap.size 27 #[.int .i64 0, .int .i64 0, .string { data := #[] }]) (fun _ i _ => xs.length - (intOf i).toNat)
  case atStart => exact ⟨0, true, Nat.zero_le _, rfl, rfl, Lib.hid rfl, (Below.refl _ _).al _, Blk.new _ _ _⟩
  case round =>
    obtain ⟨k, kb, hkl, rfl, rfl, HH, hbw, kR⟩ := hrel
    by_cases hlk : k < xs.length
    · obtain ⟨b, off, rfl, hbB, hrow⟩ := hr (by simp; omega)
      have hbl : b < wr.heap.size := by have := hbw.size; omega
      have hr1 := (hrow k (by simpa using hlk)).below hbw (Nat.lt_of_lt_of_le hbB hB)
      have hst := HH.out
      rw [List.drop_eq_getElem_cons hlk] at hst
      rw [junE] at hst
      have hfx := hf _ (List.getElem_mem hlk)
      simp only [List.getElem_map] at hr1
      clear HH hrow hr
      generalize xs[k] = x at *
      obtain ⟨xk, xn, xss, xo⟩ := x
      simp only [EV.cells] at hr1
      have f1 := hfx.isok
      have f2 := hfx.flag
      clear hfx
      simp only at f1 f2 hst
      by_cases hk1 : xk = 1
      · subst hk1
        obtain ⟨f3, f4⟩ := f2 rfl
        subst f4
        have f5 : xo = true := by rw [f1]; rfl
        subst f5
        rw [if_neg (by simp)] at hst
        clear f1 f2 hf
        by_cases hn : xn = 1
        · subst hn
          rw [if_pos rfl] at hst
          have HST := Lib.hid hst
          clear hst
          go_upto_region 5 with fail
          refine wp_rely (by kernel_rfl) (by kernel_rfl) ?_
          apply RelyL.val
          · intro ν w' hL hF K hK
            skip
            go_simp
            exact hK.out _ _ rfl (Lat.refl _)
          simp only [Act.put, List.setIfInBounds_toArray, List.set_cons_zero, List.set_cons_succ, Nat.reduceAdd]
          apply RelyL.val
          · intro ν w' hL hF K hK
            skip
            go_simp
            exact hK.out _ _ rfl (Lat.refl _)
          simp only [Act.put, List.setIfInBounds_toArray, List.set_cons_zero, List.set_cons_succ, Nat.reduceAdd]
          apply RelyL.val
          · intro ν w' hL hF K hK
            skip
            go_simp
            exact hK.out _ _ rfl (Lat.refl _)
          simp only [Act.put, List.setIfInBounds_toArray, List.set_cons_zero, List.set_cons_succ, Nat.reduceAdd]
          apply RelyL.val
          · intro ν w' hL hF K hK
            refine take_op rfl ?_
            refine wp_load_at 27 _ rfl b (off + k * 3) rfl _ _ (hr1.below hL hbl) Try.underlying27 rfl (by kernel_rfl : (Try.prog.info? 27).map (·.size) = some 3) ?_
            exact hK.out _ _ rfl (Lat.refl _)
          simp only [Act.put, List.setIfInBounds_toArray, List.set_cons_zero, List.set_cons_succ, Nat.reduceAdd]
          apply RelyL.val
          · intro ν w' hL hF K hK
            skip
            go_simp
            exact hK.out _ _ rfl (Lat.refl _)
          simp only [Act.put, List.setIfInBounds_toArray, List.set_cons_zero, List.set_cons_succ, Nat.reduceAdd]
          apply RelyL.val
          · intro ν w' hL hF K hK
            go_simp
            go_at_call 46
            refine (rtruth_any true _).mono ?_
            rintro r w'' ⟨rfl, hbp⟩
            exact hK.out _ _ rfl hbp
          simp only [Act.put, List.setIfInBounds_toArray, List.set_cons_zero, List.set_cons_succ, Nat.reduceAdd]
          simp only [bit, if_true, Bool.false_eq_true, if_false, noStr] at *
          apply RelyL.val
          · intro ν w' hL hF K hK
            skip
            go_simp
            exact hK.out _ _ rfl (Lat.refl _)
          simp only [Act.put, List.setIfInBounds_toArray, List.set_cons_zero, List.set_cons_succ, Nat.reduceAdd]
          refine RelyL.done fun ν w1 hL hF => ?_
          clear hF
          have hbw1 := hbw.th hL
          have kR1 := kR.lat hL
          have hr2 := hr1.below hL hbl
          have hl1 := hL.size
          clear hL kR hr1 hbw
          have cR := kR1.cell
          have fR := kR1.free
          go_wp2_with (with_reducible refine wpList_load_at rfl 27 _ rfl b (off + k * 3) rfl _ _ hr2 Try.underlying27 rfl (by kernel_rfl) ?_)
          refine bodyPost_ret (v := ?_) ?_ rfl ?_
          rotate_left
          · simp [results, Try.results82, go_sem, cR]; exact rfl
          refine ⟨by rw [HST.out]; rfl, ?_⟩
          (repeat (first | exact Below.refl _ _ | refine Below.al ?_ _ | refine Below.st ?_ (by simp; try omega) _ | refine Below.th ?_ (by assumption)))
        · obtain ⟨q1, q2, q3⟩ := ine hn
          rw [if_neg hn] at hst
          have HST := Lib.hid hst
          clear hst
          go_upto_region 5 with fail
          refine wp_rely (by kernel_rfl) (by kernel_rfl) ?_
          apply RelyL.val
          · intro ν w' hL hF K hK
            skip
            go_simp
            exact hK.out _ _ rfl (Lat.refl _)
          simp only [Act.put, List.setIfInBounds_toArray, List.set_cons_zero, List.set_cons_succ, Nat.reduceAdd]
          apply RelyL.val
          · intro ν w' hL hF K hK
            skip
            go_simp
            exact hK.out _ _ rfl (Lat.refl _)
          simp only [Act.put, List.setIfInBounds_toArray, List.set_cons_zero, List.set_cons_succ, Nat.reduceAdd]
          apply RelyL.val
          · intro ν w' hL hF K hK
            skip
            go_simp
            exact hK.out _ _ rfl (Lat.refl _)
          simp only [Act.put, List.setIfInBounds_toArray, List.set_cons_zero, List.set_cons_succ, Nat.reduceAdd]
          apply RelyL.val
          · intro ν w' hL hF K hK
            refine take_op rfl ?_
            refine wp_load_at 27 _ rfl b (off + k * 3) rfl _ _ (hr1.below hL hbl) Try.underlying27 rfl (by kernel_rfl : (Try.prog.info? 27).map (·.size) = some 3) ?_
            exact hK.out _ _ rfl (Lat.refl _)
          simp only [Act.put, List.setIfInBounds_toArray, List.set_cons_zero, List.set_cons_succ, Nat.reduceAdd]
          apply RelyL.val
          · intro ν w' hL hF K hK
            skip
            go_simp
            exact hK.out _ _ rfl (Lat.refl _)
          simp only [Act.put, List.setIfInBounds_toArray, List.set_cons_zero, List.set_cons_succ, Nat.reduceAdd]
          apply RelyL.val
          · intro ν w' hL hF K hK
            go_simp
            go_at_call 46
            refine (rtruth_any true _).mono ?_
            rintro r w'' ⟨rfl, hbp⟩
            exact hK.out _ _ rfl hbp
          simp only [Act.put, List.setIfInBounds_toArray, List.set_cons_zero, List.set_cons_succ, Nat.reduceAdd]
          simp only [bit, if_true, Bool.false_eq_true, if_false, noStr] at *
          apply RelyL.val
          · intro ν w' hL hF K hK
            skip
            go_simp
            exact hK.out _ _ rfl (Lat.refl _)
          simp only [Act.put, List.setIfInBounds_toArray, List.set_cons_zero, List.set_cons_succ, Nat.reduceAdd]
          refine RelyL.done fun ν w1 hL hF => ?_
          clear hF
          have hbw1 := hbw.th hL
          have kR1 := kR.lat hL
          have hr2 := hr1.below hL hbl
          have hl1 := hL.size
          clear hL kR hr1 hbw
          have r0 := hr2 0 _ rfl
          rw [Nat.add_zero] at r0
          clear hr2
          go_wp2_with fail
          go_roundw
          case rel => exact ⟨k + 1, kb, by omega, by go_num, rfl, HST, hbw1, kR1⟩
          case measure => simp [intOf]; omega
      · obtain ⟨q1, q2, q3⟩ := ine hk1
        rw [if_pos (.inr hk1)] at hst
        have HST := Lib.hid hst
        clear hst f1 f2 hf
        go_upto_region 5 with fail
        refine wp_rely (by kernel_rfl) (by kernel_rfl) ?_
        apply RelyL.val
        · intro ν w' hL hF K hK
          skip
          go_simp
          exact hK.out _ _ rfl (Lat.refl _)
        simp only [Act.put, List.setIfInBounds_toArray, List.set_cons_zero, List.set_cons_succ, Nat.reduceAdd]
        apply RelyL.val
        · intro ν w' hL hF K hK
          skip
          go_simp
          exact hK.out _ _ rfl (Lat.refl _)
        simp only [Act.put, List.setIfInBounds_toArray, List.set_cons_zero, List.set_cons_succ, Nat.reduceAdd]
        apply RelyL.val
        · intro ν w' hL hF K hK
          skip
          go_simp
          exact hK.out _ _ rfl (Lat.refl _)
        simp only [Act.put, List.setIfInBounds_toArray, List.set_cons_zero, List.set_cons_succ, Nat.reduceAdd]
        apply RelyL.val
        · intro ν w' hL hF K hK
          refine take_op rfl ?_
          refine wp_load_at 27 _ rfl b (off + k * 3) rfl _ _ (hr1.below hL hbl) Try.underlying27 rfl (by kernel_rfl : (Try.prog.info? 27).map (·.size) = some 3) ?_
          exact hK.out _ _ rfl (Lat.refl _)
        simp only [Act.put, List.setIfInBounds_toArray, List.set_cons_zero, List.set_cons_succ, Nat.reduceAdd]
        apply RelyL.val
        · intro ν w' hL hF K hK
          skip
          go_simp
          exact hK.out _ _ rfl (Lat.refl _)
        simp only [Act.put, List.setIfInBounds_toArray, List.set_cons_zero, List.set_cons_succ, Nat.reduceAdd]
        apply RelyL.val
        · intro ν w' hL hF K hK
          go_simp
          go_at_call 46
          refine (rtruth_any true _).mono ?_
          rintro r w'' ⟨rfl, hbp⟩
          exact hK.out _ _ rfl hbp
        simp only [Act.put, List.setIfInBounds_toArray, List.set_cons_zero, List.set_cons_succ, Nat.reduceAdd]
        simp only [bit, if_true, Bool.false_eq_true, if_false, noStr] at *
        apply RelyL.val
        · intro ν w' hL hF K hK
          skip
          go_simp
          exact hK.out _ _ rfl (Lat.refl _)
        simp only [Act.put, List.setIfInBounds_toArray, List.set_cons_zero, List.set_cons_succ, Nat.reduceAdd]
        refine RelyL.done fun ν w1 hL hF => ?_
        clear hF
        have hbw1 := hbw.th hL
        have kR1 := kR.lat hL
        have hr2 := hr1.below hL hbl
        have hl1 := hL.size
        clear hL kR hr1 hbw
        have r0 := hr2 0 _ rfl
        rw [Nat.add_zero] at r0
        clear hr2
        go_wp2_with fail
        go_roundw
        case rel => exact ⟨k + 1, false, by omega, by go_num, rfl, HST, hbw1, kR1⟩
        case measure => simp [intOf]; omega
    · have hst := HH.out
      rw [List.drop_of_length_le (by omega)] at hst
      rw [junE] at hst
      have cR := kR.cell
      have fR := kR.free
      cases kb with
      | false =>
        have HST := Lib.hid hst
        clear hst HH
        go_wp2_with fail
        refine bodyPost_ret (v := ?_) ?_ rfl ?_
        rotate_left
        · simp [results, Try.results82, go_sem, cR]; exact rfl
        refine ⟨by rw [HST.out]; rfl, ?_⟩
        (repeat (first | exact Below.refl _ _ | refine Below.al ?_ _ | refine Below.st ?_ (by simp; try omega) _ | refine Below.th ?_ (by assumption)))
      | true =>
        have HST := Lib.hid hst
        clear hst HH
        go_wp2_with fail
        refine (rtruth_any false _).mono ?_
        rintro r w2 ⟨rfl, hb2⟩
        have hR := kR.below hb2
        have lR := hR.lt
        clear cR fR
        have cR := hR.cell
        have fR := hR.free
        simp only [bit, if_true, Bool.false_eq_true, if_false, noStr] at *
        go_wp2_with fail
        refine bodyPost_ret (v := ?_) ?_ rfl ?_
        rotate_left
        · simp [results, Try.results82, go_sem, cR]; exact rfl
        refine ⟨by rw [HST.out]; rfl, ?_⟩
        (repeat (first | exact Below.refl _ _ | refine Below.al ?_ _ | refine Below.st ?_ (by simp; try omega) _ | refine Below.th ?_ (by assumption)))

end Go.Proofs.Ytnelgblmogciiaa
