/- The reference's value of an expression: the small functions. -/
import Derived.Test.YtnelgblmogciiaaFindZ
import Derived.Test.YtnelgblmogciiaaGround
import Derived.Test.YtnelgblmogciiaaShapes
set_option linter.unusedSimpArgs false
set_option linter.unusedVariables false
namespace Go.Proofs.Ytnelgblmogciiaa
open Go.RowKit

set_option maxHeartbeats 400000 in
theorem rtruth_any (b : Bool) (w : World) : Calls Try.prog 46 #[.bool b] w fun r w' => r = .returned (.agg #[.int .i64 1, .int .i64 (bit b), .string noStr]) ∧ Below w.heap.size w w' := by
  cases b
  all_goals
    go_enter Try.func46, Try.ntmps46
    go_wp2_with fail
    refine bodyPost_ret (v := ?_) ?_ rfl ?_
    rotate_left
    · simp [results, Try.results46, go_sem]; exact rfl
    refine ⟨by simp [bit, noStr]; try rfl, ?_⟩
    (repeat (first | exact Below.refl _ _ | refine Below.al ?_ _ | refine Below.st ?_ (by simp; try omega) _ | refine Below.th ?_ (by assumption)))
set_option maxHeartbeats 400000 in
theorem rwithin_any (t f u : Int) (w : World) : Calls Try.prog 78 #[.int .i64 t, .int .i64 f, .int .i64 u] w fun r w' => r = .returned (.bool (decide (duringP t f u))) ∧ w = w' := by
  go_enter Try.func78, Try.ntmps78
  go_wp2_with fail
  all_goals go_ret
  all_goals (refine ⟨ret_bool ?_, rfl⟩; refine bool_is ?_; go_tidy; unfold duringP; grind)

set_option maxHeartbeats 2000000 in
theorem rhome_any (V : LView) (vc : List Value) (role : Int) (B : Nat) (w : World) (hB : B ≤ w.heap.size) (hv : IsView B w V vc) :
    Calls Try.prog 81 #[.agg vc.toArray, .int .i64 role] w fun r w' => r = .returned (.bool (homeB V.members role)) ∧ Below w.heap.size w w' := by
  obtain ⟨IA, ic, MA, mc, rfl, hI, hM, _, hil, hml⟩ := hv
  obtain ⟨its, vm, vt, l⟩ := V
  dsimp only at hI hM hil hml ⊢
  generalize its.length = il at *
  clear hI
  go_enter Try.func81, Try.ntmps81
  go_wp2_with fail
  go_loopw [5] (fun i wr => ∃ k : Nat, k ≤ l.length ∧ i = .int .i64 k ∧ Hid (homeB l role = homeB (l.drop k) role) ∧ Below w.heap.size w wr ∧ Blk wr w.heap.size 25 #[.slice IA il ic, .string vm, .int .i64 vt, .slice MA l.length mc]) (fun i _ => l.length - (intOf i).toNat)
  case atStart => exact ⟨0, Nat.zero_le _, rfl, rfl, (Below.refl _ _).al _, Blk.new _ _ _⟩
  case round =>
    obtain ⟨k, hkl, rfl, HH, hbw, kV⟩ := hrel
    have cV := kV.cell
    by_cases hlk : k < l.length
    · obtain ⟨b, off, rfl, hbB, hrow⟩ := hM (by simp; omega)
      have hr1 := (hrow k (by simpa using hlk)).below hbw (Nat.lt_of_lt_of_le hbB hB)
      have hst := Lib.hid (HH.out.trans (homeB_drop hlk role))
      simp only [List.getElem_map] at hr1
      clear HH hrow hM
      generalize l[k] = m at *
      obtain ⟨mn, mr, sa, sl, sc, ra, rl, rc, mh⟩ := m
      simp only [LMember.cells] at hr1
      have r1 := hr1 1 _ rfl
      have r4 := hr1 4 _ rfl
      clear hr1
      cases mh
      · go_wp2_with fail
        go_roundw
        case rel => exact ⟨k + 1, by omega, by go_num, Lib.hid (by have := hst.out; grind), hbw, kV⟩
        case measure => simp [intOf]; omega
      · by_cases h0 : role = 0
        · have q0 : (role == 0) = true := by simpa using h0
          go_wp2_with fail
          go_ret
          exact ⟨ret_bool (by have := hst.out; grind), hbw⟩
        · have q0 : (role == 0) = false := by simpa using h0
          by_cases h1 : mr = role
          · have q1 : (mr == role) = true := by simpa using h1
            go_wp2_with fail
            go_ret
            exact ⟨ret_bool (by have := hst.out; grind), hbw⟩
          · have q1 : (mr == role) = false := by simpa using h1
            go_wp2_with fail
            go_roundw
            case rel => exact ⟨k + 1, by omega, by go_num, Lib.hid (by have := hst.out; grind), hbw, kV⟩
            case measure => simp [intOf]; omega
    · go_wp2_with fail
      go_ret
      exact ⟨ret_bool (by rw [HH.out, List.drop_of_length_le (by omega)]; rfl), hbw⟩

end Go.Proofs.Ytnelgblmogciiaa
