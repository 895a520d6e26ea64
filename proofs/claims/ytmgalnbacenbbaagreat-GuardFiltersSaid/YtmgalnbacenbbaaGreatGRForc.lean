/- Guard: the reference's Clamp and Forced. -/
import Derived.Test.YtmgalnbacenbbaaGreatGRKeys
import Derived.Test.YtmgalnbacenbbaaGreatGRBlk
set_option linter.unusedSimpArgs false
set_option linter.unusedVariables false
namespace Go.Proofs.YtmgalnbacenbbaaGreat
open Go.RowKit

set_option maxRecDepth 100000 in
set_option maxHeartbeats 1000000 in
theorem clamp_any (r : Int) (w : World) : Calls Tryz.prog 46 #[.int .i64 r, .int .i64 0, .int .i64 100] w fun e w' => e = .returned (.int .i64 (cl r)) ∧ Lat w w' := by
  go_enter Tryz.func46, Tryz.ntmps46
  by_cases h1 : 100 < r
  · have e : cl r = 100 := by unfold cl; rw [if_pos h1]; rfl
    rw [e]
    clear e
    go_wp2_with fail
    go_ret
    exact ⟨rfl, Lat.refl _⟩
  · by_cases h2 : r < 0
    · have e : cl r = 0 := by unfold cl; rw [if_neg h1, if_neg (by omega)]
      rw [e]
      clear e
      have h1' : ¬ (r > 100) := h1
      go_wp2_with fail
      go_ret
      exact ⟨rfl, Lat.refl _⟩
    · have e : cl r = r := by unfold cl; rw [if_neg h1]; split <;> omega
      rw [e]
      clear e
      go_wp2_with fail
      go_ret
      exact ⟨rfl, Lat.refl _⟩
/-- Keys that no lock forces are of no account. -/
theorem frcd_none {ps : List (LkR × LLock)} {k : LKey} (h : ¬ HasF ps k) : frcd ps k = none := by
  unfold frcd
  rw [List.find?_eq_none.2 (fun p hp hh => h ?_)]
  · rfl
  · unfold hasI at hh
    obtain ⟨it, hit⟩ := Option.isSome_iff_exists.1 hh
    have h1 := List.find?_some hit
    have h2 := List.mem_of_find?_eq_some hit
    exact ⟨p, hp, it, h2, of_decide_eq_true h1⟩
theorem frc_filter (ps : List (LkR × LLock)) : ∀ ks : List LKey, (classical_dec : DecidablePred (HasF ps)) → frc ps ks = frc ps (ks.filter (fun k => decide (HasF ps k)))
  | [], _ => rfl
  | k :: r, inst => by
    unfold frc at *
    have ih := frc_filter ps r inst
    unfold frc at ih
    by_cases h : HasF ps k
    · rw [List.filter_cons, if_pos (by simpa using h), List.filterMap_cons, List.filterMap_cons, ih]
    · rw [List.filter_cons, if_neg (by simpa using h), List.filterMap_cons, frcd_none h]
      exact ih
/-- The program's keys and the reference's give the same writes. -/
theorem frc_same {ps : List (LkR × LLock)} {ks ks' : List LKey} (h1 : ks.Pairwise (fun a b => kless a b = true)) (h2 : ∀ k, k ∈ ks ↔ HasKey ps k) (h1' : ks'.Pairwise (fun a b => kless a b = true)) (h2' : ∀ k, k ∈ ks' ↔ HasF ps k) : frc ps ks = frc ps ks' := by
  classical
  have e : ks.filter (fun k => decide (HasF ps k)) = ks' := sorted_ext sto_kless _ _ (h1.sublist List.filter_sublist) h1' (fun x => by
    rw [List.mem_filter, h2', h2]
    constructor
    · rintro ⟨-, h⟩; simpa using h
    · intro h
      refine ⟨?_, by simpa using h⟩
      obtain ⟨p, hp, it, hi, e⟩ := h
      exact ⟨p, hp, it, by unfold itsOf; exact List.mem_append_left _ hi, e⟩)
  rw [frc_filter ps ks (fun k => Classical.propDecidable _)]
  congr 1
end Go.Proofs.YtmgalnbacenbbaaGreat
