/- Guard: a value that a lock forces is blocked by a stronger lock alone: the plain law. -/
import Derived.Test.YtmgalnbacenbbaaGUnlike
set_option linter.unusedSimpArgs false
set_option linter.unusedVariables false
namespace Go.Proofs.Ytmgalnbacenbbaa
open Go.RowKit

theorem blkN_first (k : LKey) (v : LVal) : ∀ (ls : List LLock), blkN k v ls ≠ ⟨#[]⟩ → ∃ (i : Nat) (hi : i < ls.length), ls[i].name = blkN k v ls ∧ (hasI ls[i].force k = true → (getI ls[i].force k).val ≠ v) ∧ ∀ (q : Nat) (hq : q < i), hasI (ls[q]'(Nat.lt_trans hq hi)).force k = false
  | [], h => absurd rfl h
  | l :: r, h => by
    rw [blkN] at h ⊢
    by_cases h1 : hasI l.force k = true
    · rw [if_pos h1] at h ⊢
      by_cases h2 : (getI l.force k).val = v
      · rw [if_pos h2] at h; exact absurd rfl h
      · rw [if_neg h2] at h ⊢
        exact ⟨0, by simp, rfl, fun _ => h2, fun q hq => by omega⟩
    · rw [if_neg h1] at h ⊢
      by_cases h3 : l.forbid.any (isKV k v) = true
      · rw [if_pos h3] at h ⊢
        exact ⟨0, by simp, rfl, fun h' => absurd h' h1, fun q hq => by omega⟩
      · rw [if_neg h3] at h ⊢
        obtain ⟨i, hi, e, hv, hq⟩ := blkN_first k v r h
        refine ⟨i + 1, by simpa using hi, e, hv, fun q hq' => ?_⟩
        cases q with
        | zero => simpa using h1
        | succ q => exact hq q (by omega)
/-- Where the lock stands that blocks. -/
theorem blk_at {ps : List (LkR × LLock)} {acts : List ByteArray} {k : LKey} {v : LVal} (hs : ∀ p ∈ ps, p.1.name = p.2.name) (h : blkAll ps acts k v ≠ ⟨#[]⟩) : ∃ (i : Nat) (hi : i < (strg ps acts).length), (strg ps acts)[i].1.name = blkAll ps acts k v ∧ (hasI (strg ps acts)[i].2.force k = true → (getI (strg ps acts)[i].2.force k).val ≠ v) ∧ ∀ (q : Nat) (hq : q < i), hasI ((strg ps acts)[q]'(Nat.lt_trans hq hi)).2.force k = false := by
  obtain ⟨i, hi, e, hv, hq⟩ := blkN_first k v _ h
  have hi' : i < (strg ps acts).length := by simpa using hi
  refine ⟨i, hi', ?_, ?_, ?_⟩
  · rw [hs _ (strg_mem (List.getElem_mem hi'))]
    unfold blkAll
    simpa using e
  · simpa using hv
  · intro q hq'
    have := hq q hq'
    simpa using this
theorem blk_named {ps : List (LkR × LLock)} {acts : List ByteArray} {k : LKey} {v : LVal} (hs : ∀ p ∈ ps, p.1.name = p.2.name) (h : blkAll ps acts k v ≠ ⟨#[]⟩) : ∃ (j : Nat) (hj : j < ps.length), ps[j].1.name = blkAll ps acts k v := by
  obtain ⟨i, hi, e, -⟩ := blk_at hs h
  obtain ⟨j, hj, e2⟩ := List.getElem_of_mem (strg_mem (List.getElem_mem hi))
  exact ⟨j, hj, by rw [e2]; exact e⟩
/-- A lock that forces the value stands behind the one that blocks it. -/
theorem weaker {ps : List (LkR × LLock)} {acts : List ByteArray} {k : LKey} {v : LVal} (hs : ∀ p ∈ ps, p.1.name = p.2.name) (hu : Unlike ps) (h : blkAll ps acts k v ≠ ⟨#[]⟩) {x y : LkR × LLock} (hx : x ∈ ps) (hy : y ∈ ps) (hyn : y.1.name = blkAll ps acts k v)
    (hon : actP acts x = true) (hf : hasI x.2.force k = true) (hv : (getI x.2.force k).val = v) : ¬ (x.1.rank < y.1.rank) ∧ (x.1.rank = y.1.rank → Op.bytesLess (blkAll ps acts k v).toList x.1.name.toList = true) := by
  obtain ⟨i, hi, e, hne, hq⟩ := blk_at hs h
  have hyi : (strg ps acts)[i] = y := hu.inj _ (strg_mem (List.getElem_mem hi)) _ hy (by rw [e, hyn])
  have hxm : x ∈ strg ps acts := (stab_perm _ _).mem_iff.2 (List.mem_filter.2 ⟨hx, hon⟩)
  obtain ⟨a, ha, hax⟩ := List.getElem_of_mem hxm
  have hxy : x ≠ y := fun e => by
    subst e
    rw [hyi] at hne
    exact hne hf hv
  have hai : i < a := by
    rcases Nat.lt_trichotomy a i with h' | h' | h'
    · have := hq a h'
      rw [hax] at this; rw [hf] at this; cases this
    · subst h'; rw [hax] at hyi; exact absurd hyi hxy
    · exact h'
  have hso := List.pairwise_iff_getElem.1 (stab_sorted swo_strP (ps.filter (actP acts))) i a hi ha hai
  have hso' : strP x y = false := by
    have e1 : (stab strP (ps.filter (actP acts)))[a] = x := hax
    have e2 : (stab strP (ps.filter (actP acts)))[i] = y := hyi
    rw [e1, e2] at hso; exact hso
  unfold strP rn lexP at hso'
  dsimp only at hso'
  have hnn : x.1.name ≠ y.1.name := fun e => hxy (hu.inj x hx y hy e)
  by_cases hr : x.1.rank = y.1.rank
  · rw [if_neg (by simp [hr])] at hso'
    refine ⟨by omega, fun _ => ?_⟩
    rw [← hyn]
    exact sto_ltB.tri _ _ hso' hnn
  · rw [if_pos hr] at hso'
    refine ⟨?_, fun e => absurd e hr⟩
    have := of_decide_eq_false hso'
    exact this
end Go.Proofs.Ytmgalnbacenbbaa
