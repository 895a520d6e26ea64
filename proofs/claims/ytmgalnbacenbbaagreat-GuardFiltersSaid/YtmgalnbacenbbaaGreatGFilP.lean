/- Guard: the decisions that Filter hands back, and that each forced write wins: plain law. -/
import Derived.Test.YtmgalnbacenbbaaGreatGForced
import Derived.Test.YtmgalnbacenbbaaGreatVGo
import Derived.Test.YtmgalnbacenbbaaGreatGSafe
set_option linter.unusedSimpArgs false
set_option linter.unusedVariables false
namespace Go.Proofs.YtmgalnbacenbbaaGreat

/-- A decision with the error that the locks give it. -/
def fixE (ps : List (LkR × LLock)) (acts : List ByteArray) (d : LD) : LD := ⟨d.key, d.win, d.los, if (blkAll ps acts d.win.key d.win.val).size = 0 then 0 else 19⟩
theorem frcd_key {ps : List (LkR × LLock)} {k : LKey} {x : LW} (h : frcd ps k = some x) : x.key = k ∧ x.ck = 4 := by
  unfold frcd at h
  cases hf : ps.find? (fun p => hasI p.2.force k) with
  | none => rw [hf] at h; cases h
  | some p => rw [hf] at h; cases h; exact ⟨rfl, rfl⟩
theorem frc_key {ps : List (LkR × LLock)} {ks : List LKey} {x : LW} (h : x ∈ frc ps ks) : x.ck = 4 ∧ frcd ps x.key = some x := by
  obtain ⟨k, _, hk⟩ := List.mem_filterMap.1 h
  obtain ⟨h1, h2⟩ := frcd_key hk
  subst h1
  exact ⟨h2, hk⟩
theorem wins {ps : List (LkR × LLock)} {ks : List LKey} {S : LW → Prop} {ds : List LD} (h : Good (fun x => S x ∨ x ∈ frc ps ks) ds) (hS : ∀ x, S x → x.ck < 4) (x : LW) (hx : x ∈ frc ps ks) : ∃ d ∈ ds, d.key = x.key ∧ d.win = x := by
  obtain ⟨d, hd, hm⟩ := h.full x (.inr hx)
  refine ⟨d, hd, (h.key d hd x hm).symm, ?_⟩
  have ho := h.ord d hd
  have hw : d.win ∈ d.all := by simp [LD.all]
  have hkw := (h.key d hd _ hw).trans (h.key d hd x hm).symm
  obtain ⟨c4, f4⟩ := frc_key hx
  rcases h.sound d hd _ hw with h1 | h1
  · rcases List.mem_cons.1 hm with e | e
    · exact e.symm
    · exfalso
      have hb := (List.pairwise_cons.1 ho).1 x e
      have hc := hS _ h1
      unfold bef at hb
      rw [if_pos (by omega)] at hb
      simp only [gtI, decide_eq_true_eq] at hb
      omega
  · obtain ⟨c5, f5⟩ := frc_key h1
    rw [hkw] at f5
    rw [f5] at f4
    exact Option.some.inj f4
theorem wins_fix {ps : List (LkR × LLock)} {acts : List ByteArray} {ks : List LKey} {S : LW → Prop} {ds : List LD} (h : Good (fun x => S x ∨ x ∈ frc (strg ps acts) ks) ds) (hS : ∀ x, S x → x.ck < 4) (x : LW) (hx : x ∈ frc (strg ps acts) ks) : (ds.map (fixE ps acts)).any (fun d => decide (d.key = x.key) && decide (d.win = x)) = true := by
  obtain ⟨d, hd, h1, h2⟩ := wins h hS x hx
  rw [List.any_eq_true]
  exact ⟨fixE ps acts d, List.mem_map_of_mem hd, by simp [fixE, h1, h2]⟩
end Go.Proofs.YtmgalnbacenbbaaGreat
