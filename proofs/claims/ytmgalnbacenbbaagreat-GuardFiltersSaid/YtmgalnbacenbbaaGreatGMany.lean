/- Guard: many: the bounds on decisions. -/
import Derived.Test.YtmgalnbacenbbaaGreatVDecs
set_option linter.unusedSimpArgs false
set_option linter.unusedVariables false
namespace Go.Proofs.YtmgalnbacenbbaaGreat
open Go.RowKit

/-- Decisions within the bounds. -/
def FewD (xs : List LD) : Prop := xs.length ≤ 30 ∧ ∀ d ∈ xs, d.los.length ≤ 30
/-- What many tells. -/
def MaOut (xs : List LD) (r : Ending) : Prop := ∃ b, r = .returned (.bool b) ∧ (b = false → FewD xs)
set_option maxRecDepth 100000 in
set_option maxHeartbeats 2000000 in
theorem many_any (xs : List LD) (A : Option Addr) (c : Nat) (w : World) (hx : RdD w xs (.slice A xs.length c)) :
    Calls Tryz.prog 5 #[.slice A xs.length c] w fun r w' => MaOut xs r ∧ Lat w w' := by
  go_enter Tryz.func5, Tryz.ntmps5
  by_cases h1 : 30 < xs.length
  · have a1 : (30 : Int) < (xs.length : Int) := by omega
    have a2 : ¬ ((xs.length : Int) ≤ 30) := by omega
    have a3 : (0 : Int) < (xs.length : Int) := by omega
    clear h1
    go_wp2_with fail
    refine wp_loop_rounds 1 ?_
    rw [rounds_succ]
    go_wp2_with fail
    go_ret
    exact ⟨⟨true, rfl, fun h => by cases h⟩, Lat.refl _⟩
  · have a1 : ¬ ((30 : Int) < (xs.length : Int)) := by omega
    have a2 : ((xs.length : Int) ≤ 30) := by omega
    go_wp2_with fail
    go_loopw [3] (fun i wr => ∃ j : Nat, j ≤ xs.length ∧ i = .int .i64 j ∧ Hid (∀ d ∈ xs.take j, d.los.length ≤ 30) ∧ Lat w wr) (fun i _ => xs.length - (intOf i).toNat)
    case atStart => exact ⟨0, Nat.zero_le _, rfl, Lib.hid (fun p hp => by simp at hp), Lat.refl _⟩
    case round =>
      obtain ⟨j, hjl, rfl, HJ, hLW⟩ := hrel
      by_cases hlt : j < xs.length
      · obtain ⟨b, off, A', n', c', hA, hbb, hr1, hlo⟩ := (hx.lat hLW).row j hlt
        subst hA
        obtain ⟨_, _, hv, _⟩ := hlo
        injection hv with e1 e2 e3
        have HN := fun (h : xs[j].los.length ≤ 30) => (show ∀ d ∈ xs.take (j + 1), d.los.length ≤ 30 from fun p hp => by
          rw [List.take_succ_eq_append_getElem hlt] at hp
          rcases List.mem_append.1 hp with hp | hp
          · exact HJ.out p hp
          · rw [List.mem_singleton] at hp; subst hp; exact h)
        rw [← e2] at HN
        have c1 := (dec_los hr1).1
        have HN := Lib.hid HN
        clear hr1 HJ e1 e2 e3
        by_cases h3 : 30 < n'
        · have a3 : (30 : Int) < (n' : Int) := by omega
          clear h3
          go_wp2_with fail
          go_ret
          exact ⟨⟨true, rfl, fun h => by cases h⟩, hLW⟩
        · have a3 : ¬ ((30 : Int) < (n' : Int)) := by omega
          have HN2 := Lib.hid (HN.out (by omega))
          clear HN
          go_wp2_with fail
          go_roundw
          case rel => exact ⟨j + 1, by omega, by go_num, HN2, hLW⟩
          case measure => simp [intOf]; omega
      · have hF : Hid (FewD xs) := Lib.hid ⟨by omega, by
          have h := HJ.out
          rwa [List.take_of_length_le (by omega)] at h⟩
        have hj : j = xs.length := by omega
        subst hj
        clear HJ
        go_wp2_with fail
        go_ret
        exact ⟨⟨false, ret_bool (decide_eq_false (by omega)), fun _ => hF.out⟩, hLW⟩
end Go.Proofs.YtmgalnbacenbbaaGreat
