/- Guard: great: the bounds of the statements. -/
import Derived.Test.YtmgalnbacenbbaaGreatGOps
set_option linter.unusedSimpArgs false
set_option linter.unusedVariables false
namespace Go.Proofs.YtmgalnbacenbbaaGreat
open Go.RowKit

/-- Locks within the bounds. -/
structure Fits (ps : List (LkR × LLock)) (acts : List ByteArray) : Prop where
  locks : ps.length ≤ 30
  acts : acts.length ≤ 60
  items : ∀ p ∈ ps, p.2.force.length ≤ 30 ∧ p.2.forbid.length ≤ 30
/-- What great tells. -/
def GrOut (ps : List (LkR × LLock)) (acts : List ByteArray) (r : Ending) : Prop := ∃ b, r = .returned (.bool b) ∧ (b = false → Fits ps acts)
set_option maxRecDepth 100000 in
set_option maxHeartbeats 2000000 in
theorem great_any (ps : List (LkR × LLock)) (A : Option Addr) (c : Nat) (acts : List ByteArray) (B : Option Addr) (m : Nat) (w : World) (hx : RdL w ps (.slice A ps.length c)) :
    Calls Tryz.prog 4 #[.slice A ps.length c, .slice B acts.length m] w fun r w' => GrOut ps acts r ∧ Lat w w' := by
  go_enter Tryz.func4, Tryz.ntmps4
  by_cases h1 : 30 < ps.length
  · have a1 : (30 : Int) < (ps.length : Int) := by omega
    clear h1
    go_wp2_with fail
    go_ret
    exact ⟨⟨true, rfl, fun h => by cases h⟩, Lat.refl _⟩
  · have a1 : ¬ ((30 : Int) < (ps.length : Int)) := by omega
    by_cases h2 : 60 < acts.length
    · have a2 : (60 : Int) < (acts.length : Int) := by omega
      clear h2
      go_wp2_with fail
      go_ret
      exact ⟨⟨true, rfl, fun h => by cases h⟩, Lat.refl _⟩
    · have a2 : ¬ ((60 : Int) < (acts.length : Int)) := by omega
      go_wp2_with fail
      go_loopw [5] (fun i wr => ∃ j : Nat, j ≤ ps.length ∧ i = .int .i64 j ∧ Hid (∀ p ∈ ps.take j, p.2.force.length ≤ 30 ∧ p.2.forbid.length ≤ 30) ∧ Lat w wr) (fun i _ => ps.length - (intOf i).toNat)
      case atStart => exact ⟨0, Nat.zero_le _, rfl, Lib.hid (fun p hp => by simp at hp), Lat.refl _⟩
      case round =>
        obtain ⟨j, hjl, rfl, HJ, hLW⟩ := hrel
        by_cases hlt : j < ps.length
        · obtain ⟨b, off, hA, hbb, hr1, hsy⟩ := (hx.lat hLW).row j hlt
          subst hA
          have fn := Says.fn hsy
          have gn := Says.gn hsy
          have HN := fun (h : ps[j].2.force.length ≤ 30 ∧ ps[j].2.forbid.length ≤ 30) => (show ∀ p ∈ ps.take (j + 1), p.2.force.length ≤ 30 ∧ p.2.forbid.length ≤ 30 from fun p hp => by
            rw [List.take_succ_eq_append_getElem hlt] at hp
            rcases List.mem_append.1 hp with hp | hp
            · exact HJ.out p hp
            · rw [List.mem_singleton] at hp; subst hp; exact h)
          rw [← fn, ← gn] at HN
          clear HJ fn gn hsy
          generalize ps[j].1 = X at *
          have c1 : wr.cell? ⟨b, off + j * 16 + 14, none⟩ = some (.slice X.FA X.Fn X.Fc) := hr1 14 _ rfl
          have c2 : wr.cell? ⟨b, off + j * 16 + 15, none⟩ = some (.slice X.GA X.Gn X.Gc) := hr1 15 _ rfl
          have HN := Lib.hid HN
          clear hr1
          generalize X.Fn = N1 at *
          generalize X.Gn = N2 at *
          by_cases h3 : 30 < N1
          · have a3 : (30 : Int) < (N1 : Int) := by omega
            clear h3
            go_wp2_with fail
            go_ret
            exact ⟨⟨true, rfl, fun h => by cases h⟩, hLW⟩
          · have a3 : ¬ ((30 : Int) < (N1 : Int)) := by omega
            by_cases h4 : 30 < N2
            · have a4 : (30 : Int) < (N2 : Int) := by omega
              clear h4
              go_wp2_with fail
              go_ret
              exact ⟨⟨true, rfl, fun h => by cases h⟩, hLW⟩
            · have a4 : ¬ ((30 : Int) < (N2 : Int)) := by omega
              have HN2 := Lib.hid (HN.out ⟨by omega, by omega⟩)
              clear HN
              go_wp2_with fail
              go_roundw
              case rel => exact ⟨j + 1, by omega, by go_num, HN2, hLW⟩
              case measure => simp [intOf]; omega
        · have hF : Hid (Fits ps acts) := Lib.hid ⟨by omega, by omega, by
            have h := HJ.out
            rwa [List.take_of_length_le (by omega)] at h⟩
          clear HJ
          go_wp2_with fail
          go_ret
          exact ⟨⟨false, rfl, fun _ => hF.out⟩, hLW⟩
end Go.Proofs.YtmgalnbacenbbaaGreat
