/- Resolve: what Decide does with the sorted writes; it gives the decisions about them. -/
import Derived.Test.YtmgalnbacenbbaaGreatGBase
set_option linter.unusedSimpArgs false
set_option linter.unusedVariables false
namespace Go.Proofs.YtmgalnbacenbbaaGreat

def newD (x : LW) : LD := ⟨x.key, x, [], 0⟩
def addD (ds : List LD) (x : LW) : List LD := match ds.getLast? with
  | none => [newD x]
  | some d => if d.key = x.key then ds.dropLast ++ [⟨d.key, d.win, d.los ++ [x], d.err⟩] else ds ++ [newD x]
theorem addD_nil (x : LW) : addD [] x = [newD x] := rfl
theorem addD_snoc (pre : List LD) (d : LD) (x : LW) : addD (pre ++ [d]) x = if d.key = x.key then pre ++ [⟨d.key, d.win, d.los ++ [x], d.err⟩] else pre ++ [d] ++ [newD x] := by
  simp [addD]
def goD : Option LW → List LD → List LW → List LD
  | _, ds, [] => ds
  | p, ds, x :: l => if p = some x then goD (some x) ds l else goD (some x) (addD ds x) l
theorem Good.congr {S T : LW → Prop} {ds : List LD} (h : Good S ds) (he : ∀ x, S x ↔ T x) : Good T ds :=
  ⟨h.keys, h.err, h.ord, h.key, fun d hd x hx => (he x).1 (h.sound d hd x hx), fun x hx => h.full x ((he x).2 hx)⟩
theorem Good.nil : Good (fun x => x ∈ ([] : List LW)) [] :=
  ⟨List.Pairwise.nil, fun d h => (by simp at h), fun d h => (by simp at h), fun d h => (by simp at h), fun d h => (by simp at h), fun x h => (by simp at h)⟩
theorem Good.one {p : List LW} {ds : List LD} (x : LW) (h : Good (fun y => y ∈ p) ds) (hk : ∀ d ∈ ds, kless d.key x.key = true) : Good (fun y => y ∈ p ++ [x]) (ds ++ [newD x]) where
  keys := by
    rw [List.pairwise_append]
    exact ⟨h.keys, by simp, fun a ha b hb => by rw [List.mem_singleton] at hb; subst hb; exact hk a ha⟩
  err d hd := by
    rcases List.mem_append.1 hd with hd | hd
    · exact h.err d hd
    · rw [List.mem_singleton] at hd; subst hd; rfl
  ord d hd := by
    rcases List.mem_append.1 hd with hd | hd
    · exact h.ord d hd
    · rw [List.mem_singleton] at hd; subst hd; simp [LD.all, newD]
  key d hd y hy := by
    rcases List.mem_append.1 hd with hd | hd
    · exact h.key d hd y hy
    · rw [List.mem_singleton] at hd; subst hd; simp [LD.all, newD] at hy; subst hy; rfl
  sound d hd y hy := by
    rcases List.mem_append.1 hd with hd | hd
    · exact List.mem_append_left _ (h.sound d hd y hy)
    · rw [List.mem_singleton] at hd; subst hd; simp [LD.all, newD] at hy; subst hy; simp
  full y hy := by
    rcases List.mem_append.1 hy with hy | hy
    · obtain ⟨d, hd, hx⟩ := h.full y hy
      exact ⟨d, List.mem_append_left _ hd, hx⟩
    · rw [List.mem_singleton] at hy; subst hy
      exact ⟨newD y, by simp, by simp [LD.all, newD]⟩
theorem Good.lose {p : List LW} {pre : List LD} {d : LD} (x : LW) (h : Good (fun y => y ∈ p) (pre ++ [d])) (hk : d.key = x.key) (hb : ∀ y ∈ d.all, bef y x = true) : Good (fun y => y ∈ p ++ [x]) (pre ++ [⟨d.key, d.win, d.los ++ [x], d.err⟩]) := by
  have hall : (⟨d.key, d.win, d.los ++ [x], d.err⟩ : LD).all = d.all ++ [x] := rfl
  have hd : d ∈ pre ++ [d] := by simp
  refine ⟨?_, fun c hc => ?_, fun c hc => ?_, fun c hc y hy => ?_, fun c hc y hy => ?_, fun y hy => ?_⟩
  · have := h.keys
    rw [List.pairwise_append] at this ⊢
    refine ⟨this.1, by simp, fun a ha b hb' => ?_⟩
    rw [List.mem_singleton] at hb'; subst hb'
    exact this.2.2 a ha d (by simp)
  · rcases List.mem_append.1 hc with hc | hc
    · exact h.err c (by simp [hc])
    · rw [List.mem_singleton] at hc; subst hc; exact h.err d hd
  · rcases List.mem_append.1 hc with hc | hc
    · exact h.ord c (by simp [hc])
    · rw [List.mem_singleton] at hc; subst hc
      rw [hall, List.pairwise_append]
      exact ⟨h.ord d hd, by simp, fun a ha b hb' => by rw [List.mem_singleton] at hb'; subst hb'; exact hb a ha⟩
  · rcases List.mem_append.1 hc with hc | hc
    · exact h.key c (by simp [hc]) y hy
    · rw [List.mem_singleton] at hc; subst hc
      rw [hall] at hy
      rcases List.mem_append.1 hy with hy | hy
      · exact h.key d hd y hy
      · rw [List.mem_singleton] at hy; subst hy; exact hk.symm
  · rcases List.mem_append.1 hc with hc | hc
    · exact List.mem_append_left _ (h.sound c (by simp [hc]) y hy)
    · rw [List.mem_singleton] at hc; subst hc
      rw [hall] at hy
      rcases List.mem_append.1 hy with hy | hy
      · exact List.mem_append_left _ (h.sound d hd y hy)
      · exact List.mem_append_right _ hy
  · rcases List.mem_append.1 hy with hy | hy
    · obtain ⟨c, hc, hx⟩ := h.full y hy
      rcases List.mem_append.1 hc with hc | hc
      · exact ⟨c, by simp [hc], hx⟩
      · rw [List.mem_singleton] at hc; subst hc
        exact ⟨⟨c.key, c.win, c.los ++ [x], c.err⟩, by simp, by rw [hall]; exact List.mem_append_left _ hx⟩
    · exact ⟨⟨d.key, d.win, d.los ++ [x], d.err⟩, by simp, by rw [hall]; exact List.mem_append_right _ hy⟩
theorem goD_good : ∀ (l p : List LW) (ds : List LD), Good (fun y => y ∈ p) ds → (p ++ l).Pairwise (fun a b => wless b a = false) → Good (fun y => y ∈ p ++ l) (goD p.getLast? ds l)
  | [], p, ds, h, _ => by rw [goD]; simpa using h
  | x :: l, p, ds, h, hs => by
    have e1 : p ++ x :: l = (p ++ [x]) ++ l := by simp
    have e2 : (p ++ [x]).getLast? = some x := by simp
    have hs' := hs
    rw [e1] at hs' ⊢
    rw [goD]
    split
    · rename_i hp
      have hx : x ∈ p := List.mem_of_getLast? hp
      have := goD_good l (p ++ [x]) ds (h.congr fun y => ⟨fun hy => List.mem_append_left _ hy, fun hy => by
        rcases List.mem_append.1 hy with hy | hy
        · exact hy
        · rw [List.mem_singleton] at hy; subst hy; exact hx⟩) hs'
      rwa [e2] at this
    · rename_i hp
      have hle : ∀ y ∈ p, wless x y = false := fun y hy => (List.pairwise_append.1 hs).2.2 y hy x (by simp)
      have hlt : ∀ y ∈ p, wless y x = true := fun y hy => by
        by_cases he : y = x
        · exfalso
          subst he
          obtain ⟨q, hq⟩ : ∃ q, p.getLast? = some q := by
            cases hg : p.getLast? with
            | none => rw [List.getLast?_eq_none_iff] at hg; subst hg; simp at hy
            | some q => exact ⟨q, rfl⟩
          obtain ⟨p0, rfl⟩ : ∃ p0, p = p0 ++ [q] := by
            rcases List.eq_nil_or_concat p with e | ⟨a, b, e⟩
            · subst e; simp at hq
            · rw [List.concat_eq_append] at e
              subst e
              rw [List.getLast?_append] at hq
              simp at hq
              exact ⟨a, by rw [hq]⟩
          have hqx : q ≠ y := fun e => hp (by rw [hq, e])
          have hqy : wless q y = false := by
            rcases List.mem_append.1 hy with hy0 | hy0
            · exact (List.pairwise_append.1 (List.pairwise_append.1 hs).1).2.2 y hy0 q (by simp)
            · rw [List.mem_singleton] at hy0; exact absurd hy0.symm hqx
          have h1 := hle q (by simp)
          have h2 := sto_wless.tri _ _ hqy hqx
          rw [h1] at h2; cases h2
        · exact sto_wless.tri _ _ (hle y hy) (fun e => he e.symm)
      have hadd : Good (fun y => y ∈ p ++ [x]) (addD ds x) := by
        rcases List.eq_nil_or_concat ds with e | ⟨pre, d, e⟩
        · subst e
          have := h.one x (fun d hd => by simp at hd)
          rw [addD_nil]; simpa using this
        · rw [List.concat_eq_append] at e
          subst e
          rw [addD_snoc]
          have hd : d ∈ pre ++ [d] := by simp
          split
          · rename_i hk
            refine h.lose x hk (fun y hy => ?_)
            have h1 := hlt y (h.sound d hd y hy)
            have h2 := h.key d hd y hy
            unfold wless at h1
            rw [if_neg (by rw [h2, hk]; simp)] at h1
            exact h1
          · rename_i hk
            have hkd : ∀ c ∈ pre ++ [d], c.key ≠ x.key → kless c.key x.key = true := fun c hc hck => by
              have hw : c.win ∈ c.all := by simp [LD.all]
              have h1 := hlt c.win (h.sound c hc _ hw)
              have h2 := h.key c hc _ hw
              unfold wless at h1
              rw [if_pos (by rw [h2]; exact hck), h2] at h1
              exact h1
            refine h.one x (fun c hc => ?_)
            by_cases hck : c.key = x.key
            · exfalso
              rcases List.mem_append.1 hc with hc' | hc'
              · have h1 := (List.pairwise_append.1 h.keys).2.2 c hc' d (by simp)
                have h2 := hkd d hd hk
                have h3 := sto_kless.trans _ _ _ h1 h2
                rw [hck, sto_kless.irrefl] at h3; cases h3
              · rw [List.mem_singleton] at hc'; subst hc'; exact hk hck
            · exact hkd c hc hck
      have := goD_good l (p ++ [x]) (addD ds x) hadd hs'
      rwa [e2] at this
theorem decide_good {l d : List LW} (hp : d.Perm l) (hs : d.Pairwise (fun a b => wless b a = false)) : Good (fun y => y ∈ l) (goD none [] d) := by
  have := goD_good d [] [] Good.nil (by simpa using hs)
  exact this.congr fun x => by simp [hp.mem_iff]
end Go.Proofs.YtmgalnbacenbbaaGreat
