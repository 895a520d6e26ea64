/- The reference's value of an expression: the small functions. The reference's value of an expression: attributes, operations, and, or. The reference's value of an attribute; what values valid expressions have. -/
import Derived.Test.YtafodibbcfoclaaGreatEvFindZ
import Derived.Test.YtafodibbcfoclaaGreatEvGround
import Derived.Test.YtafodibbcfoclaaGreatEvAwk
import Derived.Test.YtafodibbcfoclaaGreatEvRelys
namespace Go.Proofs.YtafodibbcfoclaaGreat.Ev
section
set_option linter.unusedSimpArgs false
set_option linter.unusedVariables false
open Go.RowKit

set_option maxHeartbeats 400000 in
theorem rtruth_any (b : Bool) (w : World) : Calls Tryz.prog 36 #[.bool b] w fun r w' => r = .returned (.agg #[.int .i64 1, .int .i64 (bit b), .string noStr]) ∧ Below w.heap.size w w' := by
  cases b
  all_goals
    go_enter Tryz.func36, Tryz.ntmps36
    go_wp2_with fail
    refine bodyPost_ret (v := ?_) ?_ rfl ?_
    rotate_left
    · simp [results, Tryz.results36, go_sem]; exact rfl
    refine ⟨by simp [bit, noStr]; try rfl, ?_⟩
    (repeat (first | exact Below.refl _ _ | refine Below.al ?_ _ | refine Below.st ?_ (by simp; try omega) _ | refine Below.th ?_ (by assumption)))
set_option maxHeartbeats 400000 in
theorem rwithin_any (t f u : Int) (w : World) : Calls Tryz.prog 72 #[.int .i64 t, .int .i64 f, .int .i64 u] w fun r w' => r = .returned (.bool (decide (duringP t f u))) ∧ w = w' := by
  go_enter Tryz.func72, Tryz.ntmps72
  go_wp2_with fail
  all_goals go_ret
  all_goals (refine ⟨ret_bool ?_, rfl⟩; refine bool_is ?_; go_tidy; unfold duringP; grind)

set_option maxHeartbeats 2000000 in
theorem rhome_any (V : LView) (vc : List Value) (role : Int) (B : Nat) (w : World) (hB : B ≤ w.heap.size) (hv : IsView B w V vc) :
    Calls Tryz.prog 75 #[.agg vc.toArray, .int .i64 role] w fun r w' => r = .returned (.bool (homeB V.members role)) ∧ Below w.heap.size w w' := by
  obtain ⟨IA, ic, MA, mc, rfl, hI, hM, _, hil, hml⟩ := hv
  obtain ⟨its, vm, vt, l⟩ := V
  dsimp only at hI hM hil hml ⊢
  generalize its.length = il at *
  clear hI
  go_enter Tryz.func75, Tryz.ntmps75
  go_wp2_with fail
  go_loopw [5] (fun i wr => ∃ k : Nat, k ≤ l.length ∧ i = .int .i64 k ∧ Hid (homeB l role = homeB (l.drop k) role) ∧ Below w.heap.size w wr ∧ Blk wr w.heap.size 27 #[.slice IA il ic, .string vm, .int .i64 vt, .slice MA l.length mc]) (fun i _ => l.length - (intOf i).toNat)
  case atStart => exact ⟨0, Nat.zero_le _, rfl, rfl, (Below.refl _ _).al _, Blk.new _ _ _⟩
  case round =>
    obtain ⟨k, hkl, rfl, HH, hbw, kV⟩ := hrel
    have cV := kV.cell
    by_cases hlk : k < l.length
    · obtain ⟨b, off, rfl, hbB, hrow⟩ := hM (by simp; omega)
      have hr1 := (hrow k (by simpa using hlk)).below hbw (Nat.lt_of_lt_of_le hbB hB)
      have hst := Lib.hid (HH.out.trans (homeB_drop hlk role))
      simp only [List.getElem_map] at hr1
      clear HH hrow hM
      generalize l[k] = m at *
      obtain ⟨mn, mr, sa, sl, sc, ra, rl, rc, mh⟩ := m
      simp only [LMember.cells] at hr1
      have r1 := hr1 1 _ rfl
      have r4 := hr1 4 _ rfl
      clear hr1
      cases mh
      · go_wp2_with fail
        go_roundw
        case rel => exact ⟨k + 1, by omega, by go_num, Lib.hid (by have := hst.out; grind), hbw, kV⟩
        case measure => simp [intOf]; omega
      · by_cases h0 : role = 0
        · have q0 : (role == 0) = true := by simpa using h0
          go_wp2_with fail
          go_ret
          exact ⟨ret_bool (by have := hst.out; grind), hbw⟩
        · have q0 : (role == 0) = false := by simpa using h0
          by_cases h1 : mr = role
          · have q1 : (mr == role) = true := by simpa using h1
            go_wp2_with fail
            go_ret
            exact ⟨ret_bool (by have := hst.out; grind), hbw⟩
          · have q1 : (mr == role) = false := by simpa using h1
            go_wp2_with fail
            go_roundw
            case rel => exact ⟨k + 1, by omega, by go_num, Lib.hid (by have := hst.out; grind), hbw, kV⟩
            case measure => simp [intOf]; omega
    · go_wp2_with fail
      go_ret
      exact ⟨ret_bool (by rw [HH.out, List.drop_of_length_le (by omega)]; rfl), hbw⟩
end
end Go.Proofs.YtafodibbcfoclaaGreat.Ev

namespace Go.Proofs.YtafodibbcfoclaaGreat.Ev
section
set_option linter.unusedSimpArgs false
set_option linter.unusedVariables false
open Go.RowKit

theorem kdA (k : Int) : ((k == 10) = true ∧ k = 10) ∨ ((k == 10) = false ∧ (k == 11) = true ∧ k = 11 ∧ ¬ k = 10) ∨ ((k == 10) = false ∧ (k == 11) = false ∧ (k == 12) = true ∧ k = 12 ∧ ¬ k = 11 ∧ ¬ k = 10) ∨ ((k == 10) = false ∧ (k == 11) = false ∧ (k == 12) = false ∧ ¬ k = 12 ∧ ¬ k = 11 ∧ ¬ k = 10) := by
  simp only [beq_iff_eq, beq_eq_false_iff_ne]; omega
theorem ine {a b : Int} (h : a ≠ b) : (a == b) = false ∧ (a != b) = true ∧ ¬ a = b := ⟨by simpa using h, by simpa using h, h⟩
theorem sne {a b : ByteArray} (h : a ≠ b) : (a.toList == b.toList) = false ∧ (a.toList != b.toList) = true ∧ ¬ a.toList = b.toList := by
  have : ¬ a.toList = b.toList := fun h' => h ((toList_inj _ _).1 h')
  exact ⟨by simpa using this, by simpa using this, this⟩
theorem fin_val {x y : EV} (h : y = x) : Ending.returned x.val = .returned y.val := by rw [h]

set_option maxRecDepth 100000 in
set_option maxHeartbeats 2000000 in
theorem rints_any (kind k1 n1 : Int) (s1 : ByteArray) (k2 n2 : Int) (s2 : ByteArray) (w : World) (h9 : kind ≠ 9) (h1 : I64 n1) (h2 : I64 n2) :
    Calls Tryz.prog 77 #[.int .i64 kind, .agg #[.int .i64 k1, .int .i64 n1, .string s1], .agg #[.int .i64 k2, .int .i64 n2, .string s2]] w fun r w' => r = .returned (opE kind k1 n1 s1 k2 n2 s2).val ∧ Below w.heap.size w w' := by
  have hJ : opE kind k1 n1 s1 k2 n2 s2 = if k1 ≠ 2 ∨ k2 ≠ 2 then unknownE else if kind = 10 then truthE (decide (n1 < n2)) else if kind = 11 then ⟨2, satI (n1 + n2), noStr, true⟩ else if kind = 12 then ⟨2, satI (n1 - n2), noStr, true⟩ else ⟨2, satI (n1 * n2), noStr, true⟩ := if_neg h9
  generalize opE kind k1 n1 s1 k2 n2 s2 = R at *
  by_cases e1 : k1 = 2
  · by_cases e2 : k2 = 2
    · subst e1 e2
      rw [if_neg (by simp)] at hJ
      rcases kdA kind with ⟨k10, k10'⟩ | ⟨k10, k11, k11', k10'⟩ | ⟨k10, k11, k12, k12', k11', k10'⟩ | ⟨k10, k11, k12, k12', k11', k10'⟩
      · rw [if_pos k10'] at hJ
        have HJ := Lib.hid hJ
        clear hJ
        go_enter Tryz.func77, Tryz.ntmps77
        go_wp2_with fail
        refine (rtruth_any _ _).mono ?_
        rintro r w2 ⟨rfl, hb2⟩
        have hR := (Blk.at2 w _ _ _ _).below hb2
        have lR := hR.lt
        have cR := hR.cell
        have fR := hR.free
        go_wp2_with fail
        refine bodyPost_ret (v := ?_) ?_ rfl ?_
        rotate_left
        · simp [results, Tryz.results77, go_sem, cR]; exact rfl
        refine ⟨by rw [HJ.out]; rfl, ?_⟩
        (repeat (first | exact Below.refl _ _ | refine Below.al ?_ _ | refine Below.st ?_ (by simp; try omega) _ | refine Below.th ?_ (by assumption)))
      · rw [if_neg k10', if_pos k11'] at hJ
        have HJ := Lib.hid hJ
        clear hJ
        go_enter Tryz.func77, Tryz.ntmps77
        go_wp2_with fail
        refine (radd_any n1 n2 _ h1 h2).mono ?_
        rintro r w2 ⟨rfl, rfl⟩
        go_wp2_with fail
        refine bodyPost_ret (v := ?_) ?_ rfl ?_
        rotate_left
        · simp [results, Tryz.results77, go_sem]; exact rfl
        refine ⟨by rw [HJ.out]; rfl, ?_⟩
        (repeat (first | exact Below.refl _ _ | refine Below.al ?_ _ | refine Below.st ?_ (by simp; try omega) _ | refine Below.th ?_ (by assumption)))
      · rw [if_neg k10', if_neg k11', if_pos k12'] at hJ
        have HJ := Lib.hid hJ
        clear hJ
        go_enter Tryz.func77, Tryz.ntmps77
        go_wp2_with fail
        refine (rsub_any n1 n2 _ h1 h2).mono ?_
        rintro r w2 ⟨rfl, rfl⟩
        go_wp2_with fail
        refine bodyPost_ret (v := ?_) ?_ rfl ?_
        rotate_left
        · simp [results, Tryz.results77, go_sem]; exact rfl
        refine ⟨by rw [HJ.out]; rfl, ?_⟩
        (repeat (first | exact Below.refl _ _ | refine Below.al ?_ _ | refine Below.st ?_ (by simp; try omega) _ | refine Below.th ?_ (by assumption)))
      · rw [if_neg k10', if_neg k11', if_neg k12'] at hJ
        have HJ := Lib.hid hJ
        clear hJ
        go_enter Tryz.func77, Tryz.ntmps77
        go_wp2_with fail
        refine (rmul_any n1 n2 _ h1 h2).mono ?_
        rintro r w2 ⟨rfl, rfl⟩
        go_wp2_with fail
        refine bodyPost_ret (v := ?_) ?_ rfl ?_
        rotate_left
        · simp [results, Tryz.results77, go_sem]; exact rfl
        refine ⟨by rw [HJ.out]; rfl, ?_⟩
        (repeat (first | exact Below.refl _ _ | refine Below.al ?_ _ | refine Below.st ?_ (by simp; try omega) _ | refine Below.th ?_ (by assumption)))
    · rw [if_pos (.inr e2)] at hJ
      obtain ⟨q1, q2, q3⟩ := ine e2
      subst e1
      have HJ := Lib.hid hJ
      clear hJ
      go_enter Tryz.func77, Tryz.ntmps77
      go_wp2_with fail
      refine bodyPost_ret (v := ?_) ?_ rfl ?_
      rotate_left
      · simp [results, Tryz.results77, go_sem]; exact rfl
      refine ⟨by rw [HJ.out]; rfl, ?_⟩
      (repeat (first | exact Below.refl _ _ | refine Below.al ?_ _ | refine Below.st ?_ (by simp; try omega) _ | refine Below.th ?_ (by assumption)))
  · rw [if_pos (.inl e1)] at hJ
    obtain ⟨q1, q2, q3⟩ := ine e1
    have HJ := Lib.hid hJ
    clear hJ
    go_enter Tryz.func77, Tryz.ntmps77
    go_wp2_with fail
    refine bodyPost_ret (v := ?_) ?_ rfl ?_
    rotate_left
    · simp [results, Tryz.results77, go_sem]; exact rfl
    refine ⟨by rw [HJ.out]; rfl, ?_⟩
    (repeat (first | exact Below.refl _ _ | refine Below.al ?_ _ | refine Below.st ?_ (by simp; try omega) _ | refine Below.th ?_ (by assumption)))

/-- The cells of a value. -/
def EV.cells (x : EV) : List Value := [.int .i64 x.k, .int .i64 x.n, .string x.s]
/-- A value as valid expressions have it. -/
structure EV.fine (x : EV) : Prop where
  isok : x.ok = decide (x.k ≠ 0)
  none : x.k = 0 → x.n = 0 ∧ x.s = noStr
  flag : x.k = 1 → (x.n = 0 ∨ x.n = 1) ∧ x.s = noStr
theorem EV.fine.unknown {x : EV} (h : x.fine) (hk : x.ok = false) : x = unknownE := by
  have h1 := h.isok
  rw [hk] at h1
  have h2 : x.k = 0 := by simpa using h1.symm
  obtain ⟨h3, h4⟩ := h.none h2
  obtain ⟨k, n, s, o⟩ := x
  simp only at h2 h3 h4 hk
  rw [h2, h3, h4, hk]; rfl
-- $1 false/true $2 d $3 not decides
set_option maxRecDepth 100000 in
set_option maxHeartbeats 4000000 in
theorem rchain0_any (xs : List EV) (A : Option Addr) (c : Nat) (B : Nat) (w : World) (hB : B ≤ w.heap.size) (hr : IsRows B w 3 (xs.map EV.cells) A) (hl : xs.length ≤ 140737488351232) (hf : ∀ x ∈ xs, x.fine) :
    Calls Tryz.prog 76 #[.slice A xs.length c, .bool false] w fun r w' => r = .returned (junE 0 xs false).val ∧ Below w.heap.size w w' := by
  have hJ : junE 0 xs false = junE 0 xs false := rfl
  go_enter Tryz.func76, Tryz.ntmps76
  go_wp2_with fail
  go_loopw [5, 6] (fun kn i wr => ∃ (k : Nat) (kb : Bool), k ≤ xs.length ∧ i = .int .i64 k ∧ kn = .bool kb ∧ Hid (junE 0 xs false = junE 0 (xs.drop k) (!kb)) ∧ Below w.heap.size w wr ∧ Blk wr w.heap.size 36 #[.int .i64 0, .int .i64 0, .string { data := #[] }]) (fun _ i _ => xs.length - (intOf i).toNat)
  case atStart => exact ⟨0, true, Nat.zero_le _, rfl, rfl, Lib.hid rfl, (Below.refl _ _).al _, Blk.new _ _ _⟩
  case round =>
    obtain ⟨k, kb, hkl, rfl, rfl, HH, hbw, kR⟩ := hrel
    by_cases hlk : k < xs.length
    · obtain ⟨b, off, rfl, hbB, hrow⟩ := hr (by simp; omega)
      have hbl : b < wr.heap.size := by have := hbw.size; omega
      have hr1 := (hrow k (by simpa using hlk)).below hbw (Nat.lt_of_lt_of_le hbB hB)
      have hst := HH.out
      rw [List.drop_eq_getElem_cons hlk] at hst
      rw [junE] at hst
      have hfx := hf _ (List.getElem_mem hlk)
      simp only [List.getElem_map] at hr1
      clear HH hrow hr
      generalize xs[k] = x at *
      obtain ⟨xk, xn, xss, xo⟩ := x
      simp only [EV.cells] at hr1
      have f1 := hfx.isok
      have f2 := hfx.flag
      clear hfx
      simp only at f1 f2 hst
      by_cases hk1 : xk = 1
      · subst hk1
        obtain ⟨f3, f4⟩ := f2 rfl
        subst f4
        have f5 : xo = true := by rw [f1]; rfl
        subst f5
        rw [if_neg (by simp)] at hst
        clear f1 f2 hf
        by_cases hn : xn = 0
        · subst hn
          rw [if_pos rfl] at hst
          have HST := Lib.hid hst
          clear hst
          go_upto_region 5 with fail
          refine wp_rely (by kernel_rfl) (by kernel_rfl) ?_
          apply RelyL.val
          · intro ν w' hL hF K hK
            skip
            go_simp
            exact hK.out _ _ rfl (Lat.refl _)
          simp only [Act.put, List.setIfInBounds_toArray, List.set_cons_zero, List.set_cons_succ, Nat.reduceAdd]
          apply RelyL.val
          · intro ν w' hL hF K hK
            skip
            go_simp
            exact hK.out _ _ rfl (Lat.refl _)
          simp only [Act.put, List.setIfInBounds_toArray, List.set_cons_zero, List.set_cons_succ, Nat.reduceAdd]
          apply RelyL.val
          · intro ν w' hL hF K hK
            skip
            go_simp
            exact hK.out _ _ rfl (Lat.refl _)
          simp only [Act.put, List.setIfInBounds_toArray, List.set_cons_zero, List.set_cons_succ, Nat.reduceAdd]
          apply RelyL.val
          · intro ν w' hL hF K hK
            refine take_op rfl ?_
            refine wp_load_at 36 _ rfl b (off + k * 3) rfl _ _ (hr1.below hL hbl) Tryz.underlying36 rfl (by kernel_rfl : (Tryz.prog.info? 36).map (·.size) = some 3) ?_
            exact hK.out _ _ rfl (Lat.refl _)
          simp only [Act.put, List.setIfInBounds_toArray, List.set_cons_zero, List.set_cons_succ, Nat.reduceAdd]
          apply RelyL.val
          · intro ν w' hL hF K hK
            skip
            go_simp
            exact hK.out _ _ rfl (Lat.refl _)
          simp only [Act.put, List.setIfInBounds_toArray, List.set_cons_zero, List.set_cons_succ, Nat.reduceAdd]
          apply RelyL.val
          · intro ν w' hL hF K hK
            go_simp
            go_at_call 36
            refine (rtruth_any false _).mono ?_
            rintro r w'' ⟨rfl, hbp⟩
            exact hK.out _ _ rfl hbp
          simp only [Act.put, List.setIfInBounds_toArray, List.set_cons_zero, List.set_cons_succ, Nat.reduceAdd]
          simp only [bit, if_true, Bool.false_eq_true, if_false, noStr] at *
          apply RelyL.val
          · intro ν w' hL hF K hK
            skip
            go_simp
            exact hK.out _ _ rfl (Lat.refl _)
          simp only [Act.put, List.setIfInBounds_toArray, List.set_cons_zero, List.set_cons_succ, Nat.reduceAdd]
          refine RelyL.done fun ν w1 hL hF => ?_
          clear hF
          have hbw1 := hbw.th hL
          have kR1 := kR.lat hL
          have hr2 := hr1.below hL hbl
          have hl1 := hL.size
          clear hL kR hr1 hbw
          have cR := kR1.cell
          have fR := kR1.free
          go_wp2_with (with_reducible refine wpList_load_at rfl 36 _ rfl b (off + k * 3) rfl _ _ hr2 Tryz.underlying36 rfl (by kernel_rfl) ?_)
          refine bodyPost_ret (v := ?_) ?_ rfl ?_
          rotate_left
          · simp [results, Tryz.results76, go_sem, cR]; exact rfl
          refine ⟨by rw [HST.out]; rfl, ?_⟩
          (repeat (first | exact Below.refl _ _ | refine Below.al ?_ _ | refine Below.st ?_ (by simp; try omega) _ | refine Below.th ?_ (by assumption)))
        · obtain ⟨q1, q2, q3⟩ := ine hn
          rw [if_neg hn] at hst
          have HST := Lib.hid hst
          clear hst
          go_upto_region 5 with fail
          refine wp_rely (by kernel_rfl) (by kernel_rfl) ?_
          apply RelyL.val
          · intro ν w' hL hF K hK
            skip
            go_simp
            exact hK.out _ _ rfl (Lat.refl _)
          simp only [Act.put, List.setIfInBounds_toArray, List.set_cons_zero, List.set_cons_succ, Nat.reduceAdd]
          apply RelyL.val
          · intro ν w' hL hF K hK
            skip
            go_simp
            exact hK.out _ _ rfl (Lat.refl _)
          simp only [Act.put, List.setIfInBounds_toArray, List.set_cons_zero, List.set_cons_succ, Nat.reduceAdd]
          apply RelyL.val
          · intro ν w' hL hF K hK
            skip
            go_simp
            exact hK.out _ _ rfl (Lat.refl _)
          simp only [Act.put, List.setIfInBounds_toArray, List.set_cons_zero, List.set_cons_succ, Nat.reduceAdd]
          apply RelyL.val
          · intro ν w' hL hF K hK
            refine take_op rfl ?_
            refine wp_load_at 36 _ rfl b (off + k * 3) rfl _ _ (hr1.below hL hbl) Tryz.underlying36 rfl (by kernel_rfl : (Tryz.prog.info? 36).map (·.size) = some 3) ?_
            exact hK.out _ _ rfl (Lat.refl _)
          simp only [Act.put, List.setIfInBounds_toArray, List.set_cons_zero, List.set_cons_succ, Nat.reduceAdd]
          apply RelyL.val
          · intro ν w' hL hF K hK
            skip
            go_simp
            exact hK.out _ _ rfl (Lat.refl _)
          simp only [Act.put, List.setIfInBounds_toArray, List.set_cons_zero, List.set_cons_succ, Nat.reduceAdd]
          apply RelyL.val
          · intro ν w' hL hF K hK
            go_simp
            go_at_call 36
            refine (rtruth_any false _).mono ?_
            rintro r w'' ⟨rfl, hbp⟩
            exact hK.out _ _ rfl hbp
          simp only [Act.put, List.setIfInBounds_toArray, List.set_cons_zero, List.set_cons_succ, Nat.reduceAdd]
          simp only [bit, if_true, Bool.false_eq_true, if_false, noStr] at *
          apply RelyL.val
          · intro ν w' hL hF K hK
            skip
            go_simp
            exact hK.out _ _ rfl (Lat.refl _)
          simp only [Act.put, List.setIfInBounds_toArray, List.set_cons_zero, List.set_cons_succ, Nat.reduceAdd]
          refine RelyL.done fun ν w1 hL hF => ?_
          clear hF
          have hbw1 := hbw.th hL
          have kR1 := kR.lat hL
          have hr2 := hr1.below hL hbl
          have hl1 := hL.size
          clear hL kR hr1 hbw
          have r0 := hr2 0 _ rfl
          rw [Nat.add_zero] at r0
          clear hr2
          go_wp2_with fail
          go_roundw
          case rel => exact ⟨k + 1, kb, by omega, by go_num, rfl, HST, hbw1, kR1⟩
          case measure => simp [intOf]; omega
      · obtain ⟨q1, q2, q3⟩ := ine hk1
        rw [if_pos (.inr hk1)] at hst
        have HST := Lib.hid hst
        clear hst f1 f2 hf
        go_upto_region 5 with fail
        refine wp_rely (by kernel_rfl) (by kernel_rfl) ?_
        apply RelyL.val
        · intro ν w' hL hF K hK
          skip
          go_simp
          exact hK.out _ _ rfl (Lat.refl _)
        simp only [Act.put, List.setIfInBounds_toArray, List.set_cons_zero, List.set_cons_succ, Nat.reduceAdd]
        apply RelyL.val
        · intro ν w' hL hF K hK
          skip
          go_simp
          exact hK.out _ _ rfl (Lat.refl _)
        simp only [Act.put, List.setIfInBounds_toArray, List.set_cons_zero, List.set_cons_succ, Nat.reduceAdd]
        apply RelyL.val
        · intro ν w' hL hF K hK
          skip
          go_simp
          exact hK.out _ _ rfl (Lat.refl _)
        simp only [Act.put, List.setIfInBounds_toArray, List.set_cons_zero, List.set_cons_succ, Nat.reduceAdd]
        apply RelyL.val
        · intro ν w' hL hF K hK
          refine take_op rfl ?_
          refine wp_load_at 36 _ rfl b (off + k * 3) rfl _ _ (hr1.below hL hbl) Tryz.underlying36 rfl (by kernel_rfl : (Tryz.prog.info? 36).map (·.size) = some 3) ?_
          exact hK.out _ _ rfl (Lat.refl _)
        simp only [Act.put, List.setIfInBounds_toArray, List.set_cons_zero, List.set_cons_succ, Nat.reduceAdd]
        apply RelyL.val
        · intro ν w' hL hF K hK
          skip
          go_simp
          exact hK.out _ _ rfl (Lat.refl _)
        simp only [Act.put, List.setIfInBounds_toArray, List.set_cons_zero, List.set_cons_succ, Nat.reduceAdd]
        apply RelyL.val
        · intro ν w' hL hF K hK
          go_simp
          go_at_call 36
          refine (rtruth_any false _).mono ?_
          rintro r w'' ⟨rfl, hbp⟩
          exact hK.out _ _ rfl hbp
        simp only [Act.put, List.setIfInBounds_toArray, List.set_cons_zero, List.set_cons_succ, Nat.reduceAdd]
        simp only [bit, if_true, Bool.false_eq_true, if_false, noStr] at *
        apply RelyL.val
        · intro ν w' hL hF K hK
          skip
          go_simp
          exact hK.out _ _ rfl (Lat.refl _)
        simp only [Act.put, List.setIfInBounds_toArray, List.set_cons_zero, List.set_cons_succ, Nat.reduceAdd]
        refine RelyL.done fun ν w1 hL hF => ?_
        clear hF
        have hbw1 := hbw.th hL
        have kR1 := kR.lat hL
        have hr2 := hr1.below hL hbl
        have hl1 := hL.size
        clear hL kR hr1 hbw
        have r0 := hr2 0 _ rfl
        rw [Nat.add_zero] at r0
        clear hr2
        go_wp2_with fail
        go_roundw
        case rel => exact ⟨k + 1, false, by omega, by go_num, rfl, HST, hbw1, kR1⟩
        case measure => simp [intOf]; omega
    · have hst := HH.out
      rw [List.drop_of_length_le (by omega)] at hst
      rw [junE] at hst
      have cR := kR.cell
      have fR := kR.free
      cases kb with
      | false =>
        have HST := Lib.hid hst
        clear hst HH
        go_wp2_with fail
        refine bodyPost_ret (v := ?_) ?_ rfl ?_
        rotate_left
        · simp [results, Tryz.results76, go_sem, cR]; exact rfl
        refine ⟨by rw [HST.out]; rfl, ?_⟩
        (repeat (first | exact Below.refl _ _ | refine Below.al ?_ _ | refine Below.st ?_ (by simp; try omega) _ | refine Below.th ?_ (by assumption)))
      | true =>
        have HST := Lib.hid hst
        clear hst HH
        go_wp2_with fail
        refine (rtruth_any true _).mono ?_
        rintro r w2 ⟨rfl, hb2⟩
        have hR := kR.below hb2
        have lR := hR.lt
        clear cR fR
        have cR := hR.cell
        have fR := hR.free
        simp only [bit, if_true, Bool.false_eq_true, if_false, noStr] at *
        go_wp2_with fail
        refine bodyPost_ret (v := ?_) ?_ rfl ?_
        rotate_left
        · simp [results, Tryz.results76, go_sem, cR]; exact rfl
        refine ⟨by rw [HST.out]; rfl, ?_⟩
        (repeat (first | exact Below.refl _ _ | refine Below.al ?_ _ | refine Below.st ?_ (by simp; try omega) _ | refine Below.th ?_ (by assumption)))
set_option maxRecDepth 100000 in
set_option maxHeartbeats 4000000 in
theorem rchain1_any (xs : List EV) (A : Option Addr) (c : Nat) (B : Nat) (w : World) (hB : B ≤ w.heap.size) (hr : IsRows B w 3 (xs.map EV.cells) A) (hl : xs.length ≤ 140737488351232) (hf : ∀ x ∈ xs, x.fine) :
    Calls Tryz.prog 76 #[.slice A xs.length c, .bool true] w fun r w' => r = .returned (junE 1 xs false).val ∧ Below w.heap.size w w' := by
  have hJ : junE 1 xs false = junE 1 xs false := rfl
  go_enter Tryz.func76, Tryz.ntmps76
  go_wp2_with fail
  go_loopw [5, 6] (fun kn i wr => ∃ (k : Nat) (kb : Bool), k ≤ xs.length ∧ i = .int .i64 k ∧ kn = .bool kb ∧ Hid (junE 1 xs false = junE 1 (xs.drop k) (!kb)) ∧ Below w.heap.size w wr ∧ Blk wr w.heap.size 36 #[.int .i64 0, .int .i64 0, .string { data := #[] }]) (fun _ i _ => xs.length - (intOf i).toNat)
  case atStart => exact ⟨0, true, Nat.zero_le _, rfl, rfl, Lib.hid rfl, (Below.refl _ _).al _, Blk.new _ _ _⟩
  case round =>
    obtain ⟨k, kb, hkl, rfl, rfl, HH, hbw, kR⟩ := hrel
    by_cases hlk : k < xs.length
    · obtain ⟨b, off, rfl, hbB, hrow⟩ := hr (by simp; omega)
      have hbl : b < wr.heap.size := by have := hbw.size; omega
      have hr1 := (hrow k (by simpa using hlk)).below hbw (Nat.lt_of_lt_of_le hbB hB)
      have hst := HH.out
      rw [List.drop_eq_getElem_cons hlk] at hst
      rw [junE] at hst
      have hfx := hf _ (List.getElem_mem hlk)
      simp only [List.getElem_map] at hr1
      clear HH hrow hr
      generalize xs[k] = x at *
      obtain ⟨xk, xn, xss, xo⟩ := x
      simp only [EV.cells] at hr1
      have f1 := hfx.isok
      have f2 := hfx.flag
      clear hfx
      simp only at f1 f2 hst
      by_cases hk1 : xk = 1
      · subst hk1
        obtain ⟨f3, f4⟩ := f2 rfl
        subst f4
        have f5 : xo = true := by rw [f1]; rfl
        subst f5
        rw [if_neg (by simp)] at hst
        clear f1 f2 hf
        by_cases hn : xn = 1
        · subst hn
          rw [if_pos rfl] at hst
          have HST := Lib.hid hst
          clear hst
          go_upto_region 5 with fail
          refine wp_rely (by kernel_rfl) (by kernel_rfl) ?_
          apply RelyL.val
          · intro ν w' hL hF K hK
            skip
            go_simp
            exact hK.out _ _ rfl (Lat.refl _)
          simp only [Act.put, List.setIfInBounds_toArray, List.set_cons_zero, List.set_cons_succ, Nat.reduceAdd]
          apply RelyL.val
          · intro ν w' hL hF K hK
            skip
            go_simp
            exact hK.out _ _ rfl (Lat.refl _)
          simp only [Act.put, List.setIfInBounds_toArray, List.set_cons_zero, List.set_cons_succ, Nat.reduceAdd]
          apply RelyL.val
          · intro ν w' hL hF K hK
            skip
            go_simp
            exact hK.out _ _ rfl (Lat.refl _)
          simp only [Act.put, List.setIfInBounds_toArray, List.set_cons_zero, List.set_cons_succ, Nat.reduceAdd]
          apply RelyL.val
          · intro ν w' hL hF K hK
            refine take_op rfl ?_
            refine wp_load_at 36 _ rfl b (off + k * 3) rfl _ _ (hr1.below hL hbl) Tryz.underlying36 rfl (by kernel_rfl : (Tryz.prog.info? 36).map (·.size) = some 3) ?_
            exact hK.out _ _ rfl (Lat.refl _)
          simp only [Act.put, List.setIfInBounds_toArray, List.set_cons_zero, List.set_cons_succ, Nat.reduceAdd]
          apply RelyL.val
          · intro ν w' hL hF K hK
            skip
            go_simp
            exact hK.out _ _ rfl (Lat.refl _)
          simp only [Act.put, List.setIfInBounds_toArray, List.set_cons_zero, List.set_cons_succ, Nat.reduceAdd]
          apply RelyL.val
          · intro ν w' hL hF K hK
            go_simp
            go_at_call 36
            refine (rtruth_any true _).mono ?_
            rintro r w'' ⟨rfl, hbp⟩
            exact hK.out _ _ rfl hbp
          simp only [Act.put, List.setIfInBounds_toArray, List.set_cons_zero, List.set_cons_succ, Nat.reduceAdd]
          simp only [bit, if_true, Bool.false_eq_true, if_false, noStr] at *
          apply RelyL.val
          · intro ν w' hL hF K hK
            skip
            go_simp
            exact hK.out _ _ rfl (Lat.refl _)
          simp only [Act.put, List.setIfInBounds_toArray, List.set_cons_zero, List.set_cons_succ, Nat.reduceAdd]
          refine RelyL.done fun ν w1 hL hF => ?_
          clear hF
          have hbw1 := hbw.th hL
          have kR1 := kR.lat hL
          have hr2 := hr1.below hL hbl
          have hl1 := hL.size
          clear hL kR hr1 hbw
          have cR := kR1.cell
          have fR := kR1.free
          go_wp2_with (with_reducible refine wpList_load_at rfl 36 _ rfl b (off + k * 3) rfl _ _ hr2 Tryz.underlying36 rfl (by kernel_rfl) ?_)
          refine bodyPost_ret (v := ?_) ?_ rfl ?_
          rotate_left
          · simp [results, Tryz.results76, go_sem, cR]; exact rfl
          refine ⟨by rw [HST.out]; rfl, ?_⟩
          (repeat (first | exact Below.refl _ _ | refine Below.al ?_ _ | refine Below.st ?_ (by simp; try omega) _ | refine Below.th ?_ (by assumption)))
        · obtain ⟨q1, q2, q3⟩ := ine hn
          rw [if_neg hn] at hst
          have HST := Lib.hid hst
          clear hst
          go_upto_region 5 with fail
          refine wp_rely (by kernel_rfl) (by kernel_rfl) ?_
          apply RelyL.val
          · intro ν w' hL hF K hK
            skip
            go_simp
            exact hK.out _ _ rfl (Lat.refl _)
          simp only [Act.put, List.setIfInBounds_toArray, List.set_cons_zero, List.set_cons_succ, Nat.reduceAdd]
          apply RelyL.val
          · intro ν w' hL hF K hK
            skip
            go_simp
            exact hK.out _ _ rfl (Lat.refl _)
          simp only [Act.put, List.setIfInBounds_toArray, List.set_cons_zero, List.set_cons_succ, Nat.reduceAdd]
          apply RelyL.val
          · intro ν w' hL hF K hK
            skip
            go_simp
            exact hK.out _ _ rfl (Lat.refl _)
          simp only [Act.put, List.setIfInBounds_toArray, List.set_cons_zero, List.set_cons_succ, Nat.reduceAdd]
          apply RelyL.val
          · intro ν w' hL hF K hK
            refine take_op rfl ?_
            refine wp_load_at 36 _ rfl b (off + k * 3) rfl _ _ (hr1.below hL hbl) Tryz.underlying36 rfl (by kernel_rfl : (Tryz.prog.info? 36).map (·.size) = some 3) ?_
            exact hK.out _ _ rfl (Lat.refl _)
          simp only [Act.put, List.setIfInBounds_toArray, List.set_cons_zero, List.set_cons_succ, Nat.reduceAdd]
          apply RelyL.val
          · intro ν w' hL hF K hK
            skip
            go_simp
            exact hK.out _ _ rfl (Lat.refl _)
          simp only [Act.put, List.setIfInBounds_toArray, List.set_cons_zero, List.set_cons_succ, Nat.reduceAdd]
          apply RelyL.val
          · intro ν w' hL hF K hK
            go_simp
            go_at_call 36
            refine (rtruth_any true _).mono ?_
            rintro r w'' ⟨rfl, hbp⟩
            exact hK.out _ _ rfl hbp
          simp only [Act.put, List.setIfInBounds_toArray, List.set_cons_zero, List.set_cons_succ, Nat.reduceAdd]
          simp only [bit, if_true, Bool.false_eq_true, if_false, noStr] at *
          apply RelyL.val
          · intro ν w' hL hF K hK
            skip
            go_simp
            exact hK.out _ _ rfl (Lat.refl _)
          simp only [Act.put, List.setIfInBounds_toArray, List.set_cons_zero, List.set_cons_succ, Nat.reduceAdd]
          refine RelyL.done fun ν w1 hL hF => ?_
          clear hF
          have hbw1 := hbw.th hL
          have kR1 := kR.lat hL
          have hr2 := hr1.below hL hbl
          have hl1 := hL.size
          clear hL kR hr1 hbw
          have r0 := hr2 0 _ rfl
          rw [Nat.add_zero] at r0
          clear hr2
          go_wp2_with fail
          go_roundw
          case rel => exact ⟨k + 1, kb, by omega, by go_num, rfl, HST, hbw1, kR1⟩
          case measure => simp [intOf]; omega
      · obtain ⟨q1, q2, q3⟩ := ine hk1
        rw [if_pos (.inr hk1)] at hst
        have HST := Lib.hid hst
        clear hst f1 f2 hf
        go_upto_region 5 with fail
        refine wp_rely (by kernel_rfl) (by kernel_rfl) ?_
        apply RelyL.val
        · intro ν w' hL hF K hK
          skip
          go_simp
          exact hK.out _ _ rfl (Lat.refl _)
        simp only [Act.put, List.setIfInBounds_toArray, List.set_cons_zero, List.set_cons_succ, Nat.reduceAdd]
        apply RelyL.val
        · intro ν w' hL hF K hK
          skip
          go_simp
          exact hK.out _ _ rfl (Lat.refl _)
        simp only [Act.put, List.setIfInBounds_toArray, List.set_cons_zero, List.set_cons_succ, Nat.reduceAdd]
        apply RelyL.val
        · intro ν w' hL hF K hK
          skip
          go_simp
          exact hK.out _ _ rfl (Lat.refl _)
        simp only [Act.put, List.setIfInBounds_toArray, List.set_cons_zero, List.set_cons_succ, Nat.reduceAdd]
        apply RelyL.val
        · intro ν w' hL hF K hK
          refine take_op rfl ?_
          refine wp_load_at 36 _ rfl b (off + k * 3) rfl _ _ (hr1.below hL hbl) Tryz.underlying36 rfl (by kernel_rfl : (Tryz.prog.info? 36).map (·.size) = some 3) ?_
          exact hK.out _ _ rfl (Lat.refl _)
        simp only [Act.put, List.setIfInBounds_toArray, List.set_cons_zero, List.set_cons_succ, Nat.reduceAdd]
        apply RelyL.val
        · intro ν w' hL hF K hK
          skip
          go_simp
          exact hK.out _ _ rfl (Lat.refl _)
        simp only [Act.put, List.setIfInBounds_toArray, List.set_cons_zero, List.set_cons_succ, Nat.reduceAdd]
        apply RelyL.val
        · intro ν w' hL hF K hK
          go_simp
          go_at_call 36
          refine (rtruth_any true _).mono ?_
          rintro r w'' ⟨rfl, hbp⟩
          exact hK.out _ _ rfl hbp
        simp only [Act.put, List.setIfInBounds_toArray, List.set_cons_zero, List.set_cons_succ, Nat.reduceAdd]
        simp only [bit, if_true, Bool.false_eq_true, if_false, noStr] at *
        apply RelyL.val
        · intro ν w' hL hF K hK
          skip
          go_simp
          exact hK.out _ _ rfl (Lat.refl _)
        simp only [Act.put, List.setIfInBounds_toArray, List.set_cons_zero, List.set_cons_succ, Nat.reduceAdd]
        refine RelyL.done fun ν w1 hL hF => ?_
        clear hF
        have hbw1 := hbw.th hL
        have kR1 := kR.lat hL
        have hr2 := hr1.below hL hbl
        have hl1 := hL.size
        clear hL kR hr1 hbw
        have r0 := hr2 0 _ rfl
        rw [Nat.add_zero] at r0
        clear hr2
        go_wp2_with fail
        go_roundw
        case rel => exact ⟨k + 1, false, by omega, by go_num, rfl, HST, hbw1, kR1⟩
        case measure => simp [intOf]; omega
    · have hst := HH.out
      rw [List.drop_of_length_le (by omega)] at hst
      rw [junE] at hst
      have cR := kR.cell
      have fR := kR.free
      cases kb with
      | false =>
        have HST := Lib.hid hst
        clear hst HH
        go_wp2_with fail
        refine bodyPost_ret (v := ?_) ?_ rfl ?_
        rotate_left
        · simp [results, Tryz.results76, go_sem, cR]; exact rfl
        refine ⟨by rw [HST.out]; rfl, ?_⟩
        (repeat (first | exact Below.refl _ _ | refine Below.al ?_ _ | refine Below.st ?_ (by simp; try omega) _ | refine Below.th ?_ (by assumption)))
      | true =>
        have HST := Lib.hid hst
        clear hst HH
        go_wp2_with fail
        refine (rtruth_any false _).mono ?_
        rintro r w2 ⟨rfl, hb2⟩
        have hR := kR.below hb2
        have lR := hR.lt
        clear cR fR
        have cR := hR.cell
        have fR := hR.free
        simp only [bit, if_true, Bool.false_eq_true, if_false, noStr] at *
        go_wp2_with fail
        refine bodyPost_ret (v := ?_) ?_ rfl ?_
        rotate_left
        · simp [results, Tryz.results76, go_sem, cR]; exact rfl
        refine ⟨by rw [HST.out]; rfl, ?_⟩
        (repeat (first | exact Below.refl _ _ | refine Below.al ?_ _ | refine Below.st ?_ (by simp; try omega) _ | refine Below.th ?_ (by assumption)))
end
end Go.Proofs.YtafodibbcfoclaaGreat.Ev

namespace Go.Proofs.YtafodibbcfoclaaGreat.Ev
section
set_option linter.unusedSimpArgs false
set_option linter.unusedVariables false
open Go.RowKit

theorem ba_nil {s : ByteArray} (h : s.size = 0) : s = noStr := (toList_inj _ _).1 (((toList_nil s).2 h).trans ((toList_nil noStr).2 rfl).symm)
theorem valCheck_zero {k n : Int} {s : ByteArray} (h : valCheck k n s = 0) : valOk k n ∧ (k ≠ 4 → s = noStr) := by
  unfold valCheck at h
  by_cases h1 : k < 0 ∨ 4 < k
  · rw [if_pos h1] at h; cases h
  rw [if_neg h1] at h
  by_cases h2 : valOk k n
  · rw [if_neg (fun h' => h' h2)] at h
    refine ⟨h2, fun h4 => ?_⟩
    by_cases h3 : 60 < s.size
    · rw [if_pos h3] at h; cases h
    rw [if_neg h3] at h
    by_cases h5 : s.size ≠ 0 ∧ k ≠ 4
    · rw [if_pos h5] at h; cases h
    · exact ba_nil (by omega)
  · rw [if_pos h2] at h; cases h
set_option maxRecDepth 100000 in
set_option maxHeartbeats 2000000 in
theorem rattr_any (V : LView) (vc : List Value) (d : Int) (cl at_ : ByteArray) (B : Nat) (w : World) (hB : B ≤ w.heap.size) (hv : IsView B w V vc) :
    Calls Tryz.prog 71 #[.agg vc.toArray, .agg #[.int .i64 d, .string cl, .string at_]] w fun r w' => r = .returned (attrE V.items d cl at_).val ∧ Below w.heap.size w w' := by
  obtain ⟨IA, ic, MA, mc, rfl, hI, _, _, hil, _⟩ := hv
  obtain ⟨l, vm, vt, ms⟩ := V
  dsimp only at hI hil ⊢
  generalize ms.length = ml at *
  go_enter Tryz.func71, Tryz.ntmps71
  go_wp2_with fail
  go_loopw [5] (fun i wr => ∃ k : Nat, k ≤ l.length ∧ i = .int .i64 k ∧ Hid (attrE l d cl at_ = attrE (l.drop k) d cl at_) ∧ Below w.heap.size w wr ∧
      Blk wr w.heap.size 27 #[.slice IA l.length ic, .string vm, .int .i64 vt, .slice MA ml mc] ∧ Blk wr (w.heap.size + 1) 38 #[.int .i64 d, .string cl, .string at_] ∧ Blk wr (w.heap.size + 1 + 1) 36 #[.int .i64 0, .int .i64 0, .string { data := #[] }]) (fun i _ => l.length - (intOf i).toNat)
  case atStart => exact ⟨0, Nat.zero_le _, rfl, rfl, (((Below.refl _ _).al _).al _).al _, ((Blk.new _ _ _).alloc _).alloc _, (Blk.at1 _ _ _ _).alloc _, Blk.at2 _ _ _ _ _⟩
  case round =>
    obtain ⟨k, hkl, rfl, HH, hbw, kV, kK, kR⟩ := hrel
    have cV := kV.cell
    by_cases hlk : k < l.length
    · obtain ⟨b, off, rfl, hbB, hrow⟩ := hI (by simp; omega)
      have hbl : b < wr.heap.size := by have := hbw.size; omega
      have hr1 := (hrow k (by simpa using hlk)).below hbw (Nat.lt_of_lt_of_le hbB hB)
      have hst := HH.out
      rw [List.drop_eq_getElem_cons hlk] at hst
      rw [attrE] at hst
      simp only [List.getElem_map] at hr1
      clear HH hrow hI
      generalize l[k] = x at *
      obtain ⟨md, mcl, mat, mvk, mvn, mvs, mver⟩ := x
      simp only [LItem.cells] at hr1
      dsimp only at hst
      have hk1 : RowAt wr b (off + k * 7) [.int .i64 md, .string mcl, .string mat] := (rowAt_app (r := [.int .i64 md, .string mcl, .string mat])).1 hr1 |>.1
      have hv1 : RowAt wr b (off + k * 7 + 3) [.int .i64 mvk, .int .i64 mvn, .string mvs] := (rowAt_app (r := [.int .i64 mvk, .int .i64 mvn, .string mvs])).1 ((rowAt_app (r := [.int .i64 md, .string mcl, .string mat])).1 hr1).2 |>.1
      clear hr1
      by_cases e1 : md = d
      · by_cases e2 : mcl = cl
        · by_cases e3 : mat = at_
          · subst e1 e2 e3
            rw [if_pos ⟨rfl, rfl, rfl⟩, itemE] at hst
            go_upto_region 4 with fail
            clear cV
            refine wp_rely (by kernel_rfl) (by kernel_rfl) ?_
            apply RelyL.val
            · intro ν w' hL hF K hK
              have cV := (kV.lat hL).cell
              go_simp
              exact hK.out _ _ rfl (Lat.refl _)
            simp only [Act.put, List.setIfInBounds_toArray, List.set_cons_zero, List.set_cons_succ, Nat.reduceAdd]
            apply RelyL.val
            · intro ν w' hL hF K hK
              have cV := (kV.lat hL).cell
              go_simp
              exact hK.out _ _ rfl (Lat.refl _)
            simp only [Act.put, List.setIfInBounds_toArray, List.set_cons_zero, List.set_cons_succ, Nat.reduceAdd]
            apply RelyL.val
            · intro ν w' hL hF K hK
              have cV := (kV.lat hL).cell
              go_simp
              exact hK.out _ _ rfl (Lat.refl _)
            simp only [Act.put, List.setIfInBounds_toArray, List.set_cons_zero, List.set_cons_succ, Nat.reduceAdd]
            apply RelyL.val
            · intro ν w' hL hF K hK
              have cV := (kV.lat hL).cell
              go_simp
              exact hK.out _ _ rfl (Lat.refl _)
            simp only [Act.put, List.setIfInBounds_toArray, List.set_cons_zero, List.set_cons_succ, Nat.reduceAdd]
            apply RelyL.val
            · intro ν w' hL hF K hK
              have cV := (kV.lat hL).cell
              go_simp
              exact hK.out _ _ rfl (Lat.refl _)
            simp only [Act.put, List.setIfInBounds_toArray, List.set_cons_zero, List.set_cons_succ, Nat.reduceAdd]
            apply RelyL.val
            · intro ν w' hL hF K hK
              refine take_op rfl ?_
              refine wp_load_at 38 _ rfl b (off + k * 7) rfl _ _ (hk1.below hL hbl) Tryz.underlying38 rfl (by kernel_rfl) ?_
              exact hK.out _ _ rfl (Lat.refl _)
            simp only [Act.put, List.setIfInBounds_toArray, List.set_cons_zero, List.set_cons_succ, Nat.reduceAdd]
            apply RelyL.val
            · intro ν w' hL hF K hK
              refine take_op rfl ?_
              refine wp_load_blk rfl rfl (kK.lat hL) Tryz.underlying38 rfl (by kernel_rfl : (Tryz.prog.info? 38).map (·.size) = some 3) rfl ?_
              exact hK.out _ _ rfl (Lat.refl _)
            simp only [Act.put, List.setIfInBounds_toArray, List.set_cons_zero, List.set_cons_succ, Nat.reduceAdd]
            apply RelyL.val
            · intro ν w' hL hF K hK
              have cV := (kV.lat hL).cell
              go_simp
              exact hK.out _ _ rfl (Lat.refl _)
            simp only [Act.put, List.setIfInBounds_toArray, List.set_cons_zero, List.set_cons_succ, Nat.reduceAdd]
            refine RelyL.done fun ν w1 hL hF => ?_
            clear hF
            have hbw1 := hbw.th hL
            have kV1 := kV.lat hL
            have kK1 := kK.lat hL
            have kR1 := kR.lat hL
            have hv2 := hv1.below hL hbl
            have hl1 := hL.size
            have lR := kR1.lt
            have cV := kV1.cell
            clear hL kV kK kR hv1 hk1 hbw
            have cR := kR1.cell
            have fR := kR1.free
            rcases Bool.eq_false_or_eq_true (valCheck mvk mvn mvs != 0) with hc | hc
            · rw [if_pos (.inr (by simpa using hc))] at hst
              have HST := Lib.hid hst
              clear hst
              go_wp2_with (with_reducible refine wpList_load_at rfl 36 _ rfl b (off + k * 7 + 3) rfl _ _ hv2 Tryz.underlying36 rfl (by kernel_rfl) ?_)
              refine (rvalCheck_any _ _ _ _).mono ?_
              rintro r w2 ⟨rfl, hb2⟩
              have kR2 := kR1.below hb2
              have hs2 := hb2.size
              clear cR fR cV
              have cR := kR2.cell
              have fR := kR2.free
              go_wp2_with fail
              refine bodyPost_ret (v := ?_) ?_ rfl ?_
              rotate_left
              · simp [results, Tryz.results71, go_sem, cR]; exact rfl
              refine ⟨by rw [HST.out]; rfl, ?_⟩
              (repeat (first | exact Below.refl _ _ | refine Below.al ?_ _ | refine Below.st ?_ (by simp; try omega) _ | refine Below.th ?_ (by assumption)))
            · have hc0 : valCheck mvk mvn mvs = 0 := by simpa using hc
              have hE : attrE l md mcl mat = ⟨mvk, mvn, mvs, true⟩ ∨ attrE l md mcl mat = unknownE ∧ mvk = 0 ∧ mvn = 0 ∧ mvs = noStr := by
                by_cases hk0 : mvk = 0
                · rw [if_pos (.inl hk0)] at hst
                  obtain ⟨v1, v2⟩ := valCheck_zero hc0
                  unfold valOk at v1
                  exact .inr ⟨hst, hk0, by omega, v2 (by omega)⟩
                · rw [if_neg (by simp [hk0, hc0])] at hst
                  exact .inl hst
              have hE2 : (attrE l md mcl mat).val = .agg #[.int .i64 mvk, .int .i64 mvn, .string mvs] := by
                rcases hE with h | ⟨h, h1, h2, h3⟩
                · rw [h]
                · rw [h, h1, h2, h3]; rfl
              have HST := Lib.hid hE2
              clear hst hE hE2 hc0
              go_wp2_with (with_reducible refine wpList_load_at rfl 36 _ rfl b (off + k * 7 + 3) rfl _ _ hv2 Tryz.underlying36 rfl (by kernel_rfl) ?_)
              refine (rvalCheck_any _ _ _ _).mono ?_
              rintro r w2 ⟨rfl, hb2⟩
              have kR2 := kR1.below hb2
              have cV2 := (kV1.below hb2).cell
              have hv3 := hv2.below hb2 (by omega)
              have hs2 := hb2.size
              clear cR fR cV hv2
              have hv2 := hv3
              have cR := kR2.cell
              have fR := kR2.free
              go_wp2_with (with_reducible refine wpList_load_at rfl 36 _ rfl b (off + k * 7 + 3) rfl _ _ hv2 Tryz.underlying36 rfl (by kernel_rfl) ?_)
              refine bodyPost_ret (v := ?_) ?_ rfl ?_
              rotate_left
              · simp [results, Tryz.results71, go_sem, cR]; exact rfl
              refine ⟨by rw [HST.out], ?_⟩
              (repeat (first | exact Below.refl _ _ | refine Below.al ?_ _ | refine Below.st ?_ (by simp; try omega) _ | refine Below.th ?_ (by assumption)))
          · subst e1 e2
            obtain ⟨q1, q2, q3⟩ := sne e3
            rw [if_neg (fun h => e3 h.2.2)] at hst
            have HST := Lib.hid hst
            clear hst
            go_upto_region 4 with fail
            clear cV
            refine wp_rely (by kernel_rfl) (by kernel_rfl) ?_
            apply RelyL.val
            · intro ν w' hL hF K hK
              have cV := (kV.lat hL).cell
              go_simp
              exact hK.out _ _ rfl (Lat.refl _)
            simp only [Act.put, List.setIfInBounds_toArray, List.set_cons_zero, List.set_cons_succ, Nat.reduceAdd]
            apply RelyL.val
            · intro ν w' hL hF K hK
              have cV := (kV.lat hL).cell
              go_simp
              exact hK.out _ _ rfl (Lat.refl _)
            simp only [Act.put, List.setIfInBounds_toArray, List.set_cons_zero, List.set_cons_succ, Nat.reduceAdd]
            apply RelyL.val
            · intro ν w' hL hF K hK
              have cV := (kV.lat hL).cell
              go_simp
              exact hK.out _ _ rfl (Lat.refl _)
            simp only [Act.put, List.setIfInBounds_toArray, List.set_cons_zero, List.set_cons_succ, Nat.reduceAdd]
            apply RelyL.val
            · intro ν w' hL hF K hK
              have cV := (kV.lat hL).cell
              go_simp
              exact hK.out _ _ rfl (Lat.refl _)
            simp only [Act.put, List.setIfInBounds_toArray, List.set_cons_zero, List.set_cons_succ, Nat.reduceAdd]
            apply RelyL.val
            · intro ν w' hL hF K hK
              have cV := (kV.lat hL).cell
              go_simp
              exact hK.out _ _ rfl (Lat.refl _)
            simp only [Act.put, List.setIfInBounds_toArray, List.set_cons_zero, List.set_cons_succ, Nat.reduceAdd]
            apply RelyL.val
            · intro ν w' hL hF K hK
              refine take_op rfl ?_
              refine wp_load_at 38 _ rfl b (off + k * 7) rfl _ _ (hk1.below hL hbl) Tryz.underlying38 rfl (by kernel_rfl) ?_
              exact hK.out _ _ rfl (Lat.refl _)
            simp only [Act.put, List.setIfInBounds_toArray, List.set_cons_zero, List.set_cons_succ, Nat.reduceAdd]
            apply RelyL.val
            · intro ν w' hL hF K hK
              refine take_op rfl ?_
              refine wp_load_blk rfl rfl (kK.lat hL) Tryz.underlying38 rfl (by kernel_rfl : (Tryz.prog.info? 38).map (·.size) = some 3) rfl ?_
              exact hK.out _ _ rfl (Lat.refl _)
            simp only [Act.put, List.setIfInBounds_toArray, List.set_cons_zero, List.set_cons_succ, Nat.reduceAdd]
            apply RelyL.val
            · intro ν w' hL hF K hK
              have cV := (kV.lat hL).cell
              go_simp
              exact hK.out _ _ rfl (Lat.refl _)
            simp only [Act.put, List.setIfInBounds_toArray, List.set_cons_zero, List.set_cons_succ, Nat.reduceAdd]
            refine RelyL.done fun ν w1 hL hF => ?_
            clear hF
            have hbw1 := hbw.th hL
            have kV1 := kV.lat hL
            have kK1 := kK.lat hL
            have kR1 := kR.lat hL
            have hv2 := hv1.below hL hbl
            have hl1 := hL.size
            have lR := kR1.lt
            have cV := kV1.cell
            clear hL kV kK kR hv1 hk1 hbw
            clear hv2
            go_wp2_with fail
            go_roundw
            case rel => exact ⟨k + 1, by omega, by go_num, HST, hbw1, kV1, kK1, kR1⟩
            case measure => simp [intOf]; omega
        · subst e1
          obtain ⟨q1, q2, q3⟩ := sne e2
          rw [if_neg (fun h => e2 h.2.1)] at hst
          have HST := Lib.hid hst
          clear hst
          go_upto_region 4 with fail
          clear cV
          refine wp_rely (by kernel_rfl) (by kernel_rfl) ?_
          apply RelyL.val
          · intro ν w' hL hF K hK
            have cV := (kV.lat hL).cell
            go_simp
            exact hK.out _ _ rfl (Lat.refl _)
          simp only [Act.put, List.setIfInBounds_toArray, List.set_cons_zero, List.set_cons_succ, Nat.reduceAdd]
          apply RelyL.val
          · intro ν w' hL hF K hK
            have cV := (kV.lat hL).cell
            go_simp
            exact hK.out _ _ rfl (Lat.refl _)
          simp only [Act.put, List.setIfInBounds_toArray, List.set_cons_zero, List.set_cons_succ, Nat.reduceAdd]
          apply RelyL.val
          · intro ν w' hL hF K hK
            have cV := (kV.lat hL).cell
            go_simp
            exact hK.out _ _ rfl (Lat.refl _)
          simp only [Act.put, List.setIfInBounds_toArray, List.set_cons_zero, List.set_cons_succ, Nat.reduceAdd]
          apply RelyL.val
          · intro ν w' hL hF K hK
            have cV := (kV.lat hL).cell
            go_simp
            exact hK.out _ _ rfl (Lat.refl _)
          simp only [Act.put, List.setIfInBounds_toArray, List.set_cons_zero, List.set_cons_succ, Nat.reduceAdd]
          apply RelyL.val
          · intro ν w' hL hF K hK
            have cV := (kV.lat hL).cell
            go_simp
            exact hK.out _ _ rfl (Lat.refl _)
          simp only [Act.put, List.setIfInBounds_toArray, List.set_cons_zero, List.set_cons_succ, Nat.reduceAdd]
          apply RelyL.val
          · intro ν w' hL hF K hK
            refine take_op rfl ?_
            refine wp_load_at 38 _ rfl b (off + k * 7) rfl _ _ (hk1.below hL hbl) Tryz.underlying38 rfl (by kernel_rfl) ?_
            exact hK.out _ _ rfl (Lat.refl _)
          simp only [Act.put, List.setIfInBounds_toArray, List.set_cons_zero, List.set_cons_succ, Nat.reduceAdd]
          apply RelyL.val
          · intro ν w' hL hF K hK
            refine take_op rfl ?_
            refine wp_load_blk rfl rfl (kK.lat hL) Tryz.underlying38 rfl (by kernel_rfl : (Tryz.prog.info? 38).map (·.size) = some 3) rfl ?_
            exact hK.out _ _ rfl (Lat.refl _)
          simp only [Act.put, List.setIfInBounds_toArray, List.set_cons_zero, List.set_cons_succ, Nat.reduceAdd]
          apply RelyL.val
          · intro ν w' hL hF K hK
            have cV := (kV.lat hL).cell
            go_simp
            exact hK.out _ _ rfl (Lat.refl _)
          simp only [Act.put, List.setIfInBounds_toArray, List.set_cons_zero, List.set_cons_succ, Nat.reduceAdd]
          refine RelyL.done fun ν w1 hL hF => ?_
          clear hF
          have hbw1 := hbw.th hL
          have kV1 := kV.lat hL
          have kK1 := kK.lat hL
          have kR1 := kR.lat hL
          have hv2 := hv1.below hL hbl
          have hl1 := hL.size
          have lR := kR1.lt
          have cV := kV1.cell
          clear hL kV kK kR hv1 hk1 hbw
          clear hv2
          go_wp2_with fail
          go_roundw
          case rel => exact ⟨k + 1, by omega, by go_num, HST, hbw1, kV1, kK1, kR1⟩
          case measure => simp [intOf]; omega
      · obtain ⟨q1, q2, q3⟩ := ine e1
        rw [if_neg (fun h => e1 h.1)] at hst
        have HST := Lib.hid hst
        clear hst
        go_upto_region 4 with fail
        clear cV
        refine wp_rely (by kernel_rfl) (by kernel_rfl) ?_
        apply RelyL.val
        · intro ν w' hL hF K hK
          have cV := (kV.lat hL).cell
          go_simp
          exact hK.out _ _ rfl (Lat.refl _)
        simp only [Act.put, List.setIfInBounds_toArray, List.set_cons_zero, List.set_cons_succ, Nat.reduceAdd]
        apply RelyL.val
        · intro ν w' hL hF K hK
          have cV := (kV.lat hL).cell
          go_simp
          exact hK.out _ _ rfl (Lat.refl _)
        simp only [Act.put, List.setIfInBounds_toArray, List.set_cons_zero, List.set_cons_succ, Nat.reduceAdd]
        apply RelyL.val
        · intro ν w' hL hF K hK
          have cV := (kV.lat hL).cell
          go_simp
          exact hK.out _ _ rfl (Lat.refl _)
        simp only [Act.put, List.setIfInBounds_toArray, List.set_cons_zero, List.set_cons_succ, Nat.reduceAdd]
        apply RelyL.val
        · intro ν w' hL hF K hK
          have cV := (kV.lat hL).cell
          go_simp
          exact hK.out _ _ rfl (Lat.refl _)
        simp only [Act.put, List.setIfInBounds_toArray, List.set_cons_zero, List.set_cons_succ, Nat.reduceAdd]
        apply RelyL.val
        · intro ν w' hL hF K hK
          have cV := (kV.lat hL).cell
          go_simp
          exact hK.out _ _ rfl (Lat.refl _)
        simp only [Act.put, List.setIfInBounds_toArray, List.set_cons_zero, List.set_cons_succ, Nat.reduceAdd]
        apply RelyL.val
        · intro ν w' hL hF K hK
          refine take_op rfl ?_
          refine wp_load_at 38 _ rfl b (off + k * 7) rfl _ _ (hk1.below hL hbl) Tryz.underlying38 rfl (by kernel_rfl) ?_
          exact hK.out _ _ rfl (Lat.refl _)
        simp only [Act.put, List.setIfInBounds_toArray, List.set_cons_zero, List.set_cons_succ, Nat.reduceAdd]
        apply RelyL.val
        · intro ν w' hL hF K hK
          refine take_op rfl ?_
          refine wp_load_blk rfl rfl (kK.lat hL) Tryz.underlying38 rfl (by kernel_rfl : (Tryz.prog.info? 38).map (·.size) = some 3) rfl ?_
          exact hK.out _ _ rfl (Lat.refl _)
        simp only [Act.put, List.setIfInBounds_toArray, List.set_cons_zero, List.set_cons_succ, Nat.reduceAdd]
        apply RelyL.val
        · intro ν w' hL hF K hK
          have cV := (kV.lat hL).cell
          go_simp
          exact hK.out _ _ rfl (Lat.refl _)
        simp only [Act.put, List.setIfInBounds_toArray, List.set_cons_zero, List.set_cons_succ, Nat.reduceAdd]
        refine RelyL.done fun ν w1 hL hF => ?_
        clear hF
        have hbw1 := hbw.th hL
        have kV1 := kV.lat hL
        have kK1 := kK.lat hL
        have kR1 := kR.lat hL
        have hv2 := hv1.below hL hbl
        have hl1 := hL.size
        have lR := kR1.lt
        have cV := kV1.cell
        clear hL kV kK kR hv1 hk1 hbw
        clear hv2
        go_wp2_with fail
        go_roundw
        case rel => exact ⟨k + 1, by omega, by go_num, HST, hbw1, kV1, kK1, kR1⟩
        case measure => simp [intOf]; omega
    · have hst := HH.out
      rw [List.drop_of_length_le (by omega)] at hst
      rw [attrE] at hst
      have HST := Lib.hid hst
      have cR := kR.cell
      have fR := kR.free
      have lR := kR.lt
      clear hst HH
      go_wp2_with fail
      refine bodyPost_ret (v := ?_) ?_ rfl ?_
      rotate_left
      · simp [results, Tryz.results71, go_sem, cR]; exact rfl
      refine ⟨by rw [HST.out]; rfl, ?_⟩
      (repeat (first | exact Below.refl _ _ | refine Below.al ?_ _ | refine Below.st ?_ (by simp; try omega) _ | refine Below.th ?_ (by assumption)))

theorem truthE_fine (b : Bool) : (truthE b).fine := ⟨rfl, fun h => (by cases h), fun _ => ⟨by cases b <;> simp [truthE, bit], rfl⟩⟩
theorem unknownE_fine : unknownE.fine := ⟨rfl, fun _ => ⟨rfl, rfl⟩, fun h => (by cases h)⟩
theorem int_fine (n : Int) : (⟨2, n, noStr, true⟩ : EV).fine := ⟨rfl, fun h => (by cases h), fun h => (by cases h)⟩
theorem val_fine {k n : Int} {s : ByteArray} (hk : k ≠ 0) (h : valCheck k n s = 0) : (⟨k, n, s, true⟩ : EV).fine := by
  refine ⟨by simp [hk], fun h0 => absurd h0 hk, fun h1 => ?_⟩
  simp only at h1 ⊢
  obtain ⟨v1, v2⟩ := valCheck_zero h
  unfold valOk at v1
  exact ⟨by omega, v2 (by omega)⟩
theorem attrE_fine (l : List LItem) (d : Int) (cl a : ByteArray) : (attrE l d cl a).fine := by
  induction l with
  | nil => exact unknownE_fine
  | cons x l ih =>
    rw [attrE]
    split
    · unfold itemE
      split
      · exact unknownE_fine
      · rename_i h
        exact val_fine (fun h' => h (.inl h')) (Classical.not_not.1 (fun h' => h (.inr h')))
    · exact ih
theorem junE_fine (d : Int) : ∀ (l : List EV) (op : Bool), (junE d l op).fine
  | [], op => by rw [junE]; split <;> first | exact unknownE_fine | exact truthE_fine _
  | x :: l, op => by
    rw [junE]
    split
    · exact junE_fine d l true
    · split
      · exact truthE_fine _
      · exact junE_fine d l op
theorem opE_fine (kd k1 n1 : Int) (s1 : ByteArray) (k2 n2 : Int) (s2 : ByteArray) : (opE kd k1 n1 s1 k2 n2 s2).fine := by
  unfold opE
  repeat' split
  all_goals first | exact truthE_fine _ | exact unknownE_fine | exact int_fine _
theorem getD_fine {xs : List EV} (h : ∀ x ∈ xs, x.fine) (i : Nat) : (xs.getD i unknownE).fine := by
  rw [List.getD_eq_getElem?_getD]
  cases hx : xs[i]? with
  | none => exact unknownE_fine
  | some x => exact h x (List.mem_of_getElem? hx)
theorem lit_ok {h : Hd} {n : Int} (hc : nodeCheck h n = 0) (h1 : h.kind = 1) : h.vk ≠ 0 ∧ valCheck h.vk h.vn h.vs = 0 := by
  unfold nodeCheck at hc
  by_cases a1 : h.kind < 1 ∨ 15 < h.kind
  · omega
  rw [if_neg a1] at hc
  by_cases a2 : ¬ kidsOk h.kind n ∨ h.spareB = false
  · rw [if_pos a2] at hc; cases hc
  rw [if_neg a2] at hc
  by_cases a3 : h.rangesB = false
  · rw [if_pos a3] at hc; cases hc
  rw [if_neg a3, if_neg (fun h' => by omega), if_neg (fun h' => by omega)] at hc
  by_cases a4 : h.kind = 1 ∧ valCheck h.vk h.vn h.vs ≠ 0
  · rw [if_pos a4] at hc; exact absurd hc a4.2
  rw [if_neg a4] at hc
  by_cases a5 : h.kind = 1 ∧ h.vk = 0
  · rw [if_pos a5] at hc; cases hc
  exact ⟨fun h0 => a5 ⟨h1, h0⟩, Classical.not_not.1 fun h0 => a4 ⟨h1, h0⟩⟩
theorem ite_fine {c : Prop} [Decidable c] {a b : EV} (ha : c → a.fine) (hb : ¬ c → b.fine) : (if c then a else b).fine := by
  by_cases h : c
  · rw [if_pos h]; exact ha h
  · rw [if_neg h]; exact hb h
theorem nodeE_fine (V : LView) (h : Hd) (n : Int) (xs : List EV) (hc : nodeCheck h n = 0) (hx : ∀ x ∈ xs, x.fine) : (nodeE V h xs).fine := by
  unfold nodeE
  refine ite_fine (fun h1 => val_fine (lit_ok hc h1).1 (lit_ok hc h1).2) fun _ => ?_
  refine ite_fine (fun _ => attrE_fine _ _ _ _) fun _ => ?_
  refine ite_fine (fun _ => truthE_fine _) fun _ => ?_
  refine ite_fine (fun _ => ite_fine (fun _ => unknownE_fine) fun _ => truthE_fine _) fun _ => ?_
  refine ite_fine (fun _ => ite_fine (fun _ => unknownE_fine) fun _ => truthE_fine _) fun _ => ?_
  refine ite_fine (fun _ => truthE_fine _) fun _ => ?_
  refine ite_fine (fun _ => ite_fine (fun _ => unknownE_fine) fun _ => truthE_fine _) fun _ => ?_
  refine ite_fine (fun _ => junE_fine _ _ _) fun _ => ?_
  refine ite_fine (fun _ => junE_fine _ _ _) fun _ => ?_
  refine ite_fine (fun _ => ite_fine (fun _ => unknownE_fine) fun _ => ite_fine (fun _ => getD_fine hx _) fun _ => getD_fine hx _) fun _ => ?_
  exact ite_fine (fun _ => unknownE_fine) fun _ => opE_fine _ _ _ _ _ _ _
theorem findS_fine (V : LView) (e : LExpr) : okE e → (findS V e).fine := by
  induction e using LExpr.ind with | _ h ks ih => ?_
  intro hok
  rw [okE] at hok
  rw [findS]
  refine nodeE_fine V h ks.length _ hok.1 (fun x hx => ?_)
  have hL : ∀ l : List LExpr, (∀ k ∈ l, (findS V k).fine) → ∀ x ∈ findL V l, x.fine := by
    intro l
    induction l with
    | nil => intro _ x hx; rw [findL] at hx; cases hx
    | cons k l ihl =>
      intro hg x hx
      rw [findL] at hx
      rcases List.mem_cons.1 hx with rfl | hx
      · exact hg k List.mem_cons_self
      · exact ihl (fun k hk => hg k (List.mem_cons_of_mem _ hk)) x hx
  exact hL ks (fun k hk => by obtain ⟨i, hi, rfl⟩ := List.getElem_of_mem hk; exact ih i hi (hok.2 _ (List.getElem_mem hi))) x hx
end
end Go.Proofs.YtafodibbcfoclaaGreat.Ev
