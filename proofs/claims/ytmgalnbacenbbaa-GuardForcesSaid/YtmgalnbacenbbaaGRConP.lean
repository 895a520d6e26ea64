/- Guard: Conflicts: the plain law of both. -/
import Derived.Test.YtmgalnbacenbbaaGConf
import Derived.Test.YtmgalnbacenbbaaGRForc
set_option linter.unusedSimpArgs false
set_option linter.unusedVariables false
namespace Go.Proofs.Ytmgalnbacenbbaa
open Go.RowKit

/-- Two locks agree on a key. -/
def Agree (k : LKey) (a b : LkR × LLock) : Prop := hasI a.2.force k = true → hasI b.2.force k = true → (getI a.2.force k).val = (getI b.2.force k).val
theorem cflF_false (k : LKey) : ∀ (ps : List (LkR × LLock)) (last : Option LVal), cflF k last ps = false ↔ (∀ x ∈ last, ∀ p ∈ ps, hasI p.2.force k = true → (getI p.2.force k).val = x) ∧ ps.Pairwise (Agree k)
  | [], last => by
    constructor
    · intro _; exact ⟨fun x _ p hp => by simp at hp, List.Pairwise.nil⟩
    · intro _; cases last <;> rfl
  | p :: r, last => by
    rw [List.pairwise_cons]
    by_cases h : hasI p.2.force k = true
    · cases last with
      | none =>
        have e : cflF k none (p :: r) = cflF k (some (getI p.2.force k).val) r := by
          show (if hasI p.2.force k then _ else _) = _
          rw [if_pos h]
        rw [e, cflF_false k r]
        constructor
        · rintro ⟨h1, h2⟩
          refine ⟨fun x hx => by simp at hx, fun q hq _ hq2 => (h1 _ rfl q hq hq2).symm, h2⟩
        · rintro ⟨-, h1, h2⟩
          refine ⟨fun x hx q hq hq2 => ?_, h2⟩
          injection hx with hx
          rw [← hx]
          exact (h1 q hq h hq2).symm
      | some y =>
        have e : cflF k (some y) (p :: r) = if y = (getI p.2.force k).val then cflF k (some (getI p.2.force k).val) r else true := by
          show (if hasI p.2.force k then _ else _) = _
          rw [if_pos h]
        rw [e]
        by_cases hy : y = (getI p.2.force k).val
        · rw [if_pos hy, cflF_false k r]
          subst hy
          constructor
          · rintro ⟨h1, h2⟩
            refine ⟨fun x hx q hq hq2 => ?_, fun q hq _ hq2 => (h1 _ rfl q hq hq2).symm, h2⟩
            injection hx with hx
            rcases List.mem_cons.1 hq with rfl | hq
            · exact hx
            · rw [← hx]; exact h1 _ rfl q hq hq2
          · rintro ⟨h0, h1, h2⟩
            refine ⟨fun x hx q hq hq2 => ?_, h2⟩
            injection hx with hx
            rw [← hx]
            exact (h1 q hq h hq2).symm
        · rw [if_neg hy]
          constructor
          · intro h'; cases h'
          · rintro ⟨h0, -⟩
            exact absurd (h0 y rfl p (by simp) h).symm hy
    · have e : cflF k last (p :: r) = cflF k last r := by
        cases last <;> (show (if hasI p.2.force k then _ else _) = _; rw [if_neg h])
      rw [e, cflF_false k r]
      constructor
      · rintro ⟨h1, h2⟩
        refine ⟨fun x hx q hq hq2 => ?_, fun q hq hp2 => absurd hp2 h, h2⟩
        rcases List.mem_cons.1 hq with rfl | hq
        · exact absurd hq2 h
        · exact h1 x hx q hq hq2
      · rintro ⟨h0, -, h2⟩
        exact ⟨fun x hx q hq => h0 x hx q (by simp [hq]), h2⟩
/-- As the reference counts: by places. -/
theorem cflF_places (k : LKey) (ps : List (LkR × LLock)) : cflF k none ps = false ↔ ∀ (i j : Nat) (hi : i < ps.length) (hj : j < i), Agree k (ps[j]'(Nat.lt_trans hj hi)) ps[i] := by
  rw [cflF_false, List.pairwise_iff_getElem]
  constructor
  · rintro ⟨-, h⟩ i j hi hj; exact h j i _ hi hj
  · intro h; exact ⟨fun x hx => by simp at hx, fun i j hi hj hij => h j i hj hij⟩
theorem cflF_unforced {ps : List (LkR × LLock)} {k : LKey} (h : ¬ HasF ps k) : cflF k none ps = false := by
  rw [cflF_false]
  have hn : ∀ p ∈ ps, ¬ hasI p.2.force k = true := fun p hp hh => h (by
    unfold hasI at hh
    obtain ⟨it, hit⟩ := Option.isSome_iff_exists.1 hh
    have h1 := List.find?_some hit
    have h2 := List.mem_of_find?_eq_some hit
    exact ⟨p, hp, it, h2, of_decide_eq_true h1⟩)
  refine ⟨fun x hx => by simp at hx, ?_⟩
  rw [List.pairwise_iff_getElem]
  intro i j hi hj _ h1
  exact absurd h1 (hn _ (List.getElem_mem hi))
/-- The program's keys and the reference's give the same conflicts. -/
theorem con_same {ps : List (LkR × LLock)} {ks ks' : List LKey} (h1 : ks.Pairwise (fun a b => kless a b = true)) (h2 : ∀ k, k ∈ ks ↔ HasKey ps k) (h1' : ks'.Pairwise (fun a b => kless a b = true)) (h2' : ∀ k, k ∈ ks' ↔ HasF ps k) : con ps ks = con ps ks' := by
  refine sorted_ext sto_kless _ _ (h1.sublist List.filter_sublist) (h1'.sublist List.filter_sublist) (fun x => ?_)
  unfold con
  rw [List.mem_filter, List.mem_filter, h2, h2']
  constructor
  · rintro ⟨-, h⟩
    refine ⟨Classical.byContradiction fun hn => ?_, h⟩
    rw [cflF_unforced hn] at h; cases h
  · rintro ⟨⟨p, hp, it, hi, e⟩, h⟩
    exact ⟨⟨p, hp, it, by unfold itsOf; exact List.mem_append_left _ hi, e⟩, h⟩
end Go.Proofs.Ytmgalnbacenbbaa
