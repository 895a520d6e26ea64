/- Hold: plain: the reference's order of the watched rules, by insertion of their places. -/
import Derived.Test.YtafodibbcfoclaaGreatHPlains
set_option linter.unusedSimpArgs false
set_option linter.unusedVariables false
namespace Go.Proofs.YtafodibbcfoclaaGreat

section
variable {α : Type} {lt : α → α → Bool}
def insR (lt : α → α → Bool) (x : α) : List α → List α
  | [] => [x]
  | y :: r => if lt x y then x :: y :: r else y :: insR lt x r
/-- One step of the scan. -/
def stpR (lt : α → α → Bool) (x : α) (s : List α × Bool) (y : α) : List α × Bool := if !s.2 && lt x y then (s.1 ++ [x] ++ [y], true) else (s.1 ++ [y], s.2)
def scanR (lt : α → α → Bool) (x : α) (l : List α) : List α × Bool := l.foldl (stpR lt x) ([], false)
def endR (x : α) (s : List α × Bool) : List α := if s.2 then s.1 else s.1 ++ [x]
theorem scanR_take (x : α) (l : List α) (j : Nat) (h : j < l.length) : scanR lt x (l.take (j + 1)) = stpR lt x (scanR lt x (l.take j)) l[j] := by
  unfold scanR
  rw [List.take_succ_eq_append_getElem h, List.foldl_append]
  rfl
theorem scan_true (x : α) : ∀ (l acc : List α), l.foldl (stpR lt x) (acc, true) = (acc ++ l, true)
  | [], acc => by simp
  | y :: r, acc => by
    rw [List.foldl_cons, show stpR lt x (acc, true) y = (acc ++ [y], true) from rfl, scan_true x r]
    simp
theorem scan_false (x : α) : ∀ (l acc : List α), endR x (l.foldl (stpR lt x) (acc, false)) = acc ++ insR lt x l
  | [], acc => rfl
  | y :: r, acc => by
    rw [List.foldl_cons, insR]
    cases h : lt x y with
    | true =>
      rw [show stpR lt x (acc, false) y = (acc ++ [x] ++ [y], true) from by unfold stpR; simp [h], scan_true, if_pos rfl]
      simp [endR]
    | false =>
      rw [show stpR lt x (acc, false) y = (acc ++ [y], false) from by unfold stpR; simp [h], scan_false x r, if_neg (by decide)]
      simp
theorem endR_is (x : α) (l : List α) : endR x (scanR lt x l) = insR lt x l := by
  unfold scanR
  rw [scan_false]
  rfl
theorem scanR_len (x : α) : ∀ (l : List α), (scanR lt x l).1.length ≤ l.length + 1 := fun l => by
  have h1 : ∀ (l : List α) (s : List α × Bool), (l.foldl (stpR lt x) s).1.length + (if s.2 then 1 else 0) ≤ s.1.length + l.length + 1 := by
    intro l
    induction l with
    | nil => intro s; simp; split <;> omega
    | cons y r ih =>
      intro s
      rw [List.foldl_cons]
      have := ih (stpR lt x s y)
      obtain ⟨s1, s2⟩ := s
      cases s2 with
      | true =>
        rw [show stpR lt x (s1, true) y = (s1 ++ [y], true) from rfl] at this ⊢
        generalize List.foldl (stpR lt x) (s1 ++ [y], true) r = R at *
        simp at this ⊢
        omega
      | false =>
        cases hl : lt x y with
        | true =>
          rw [show stpR lt x (s1, false) y = (s1 ++ [x] ++ [y], true) from by unfold stpR; simp [hl]] at this ⊢
          generalize List.foldl (stpR lt x) (s1 ++ [x] ++ [y], true) r = R at *
          simp at this ⊢
          omega
        | false =>
          rw [show stpR lt x (s1, false) y = (s1 ++ [y], false) from by unfold stpR; simp [hl]] at this ⊢
          generalize List.foldl (stpR lt x) (s1 ++ [y], false) r = R at *
          simp at this ⊢
          omega
  have := h1 l ([], false)
  simpa [scanR] using this
theorem insR_perm (x : α) : ∀ l : List α, (insR lt x l).Perm (x :: l)
  | [] => List.Perm.refl _
  | y :: r => by
    rw [insR]
    split
    · exact List.Perm.refl _
    · exact ((insR_perm x r).cons y).trans (List.Perm.swap x y r)
theorem insR_sorted (h : Sort.SWO lt) (x : α) : ∀ l : List α, l.Pairwise (fun a b => lt b a = false) → (insR lt x l).Pairwise (fun a b => lt b a = false)
  | [], _ => by simp [insR]
  | y :: r, hp => by
    have hp' := hp
    rw [List.pairwise_cons] at hp
    rw [insR]
    have asym : ∀ a b, lt a b = true → lt b a = false := fun a b h1 => by
      cases h2 : lt b a with
      | false => rfl
      | true =>
        have := h.trans _ _ _ h1 h2
        rw [h.irrefl] at this; cases this
    cases hxy : lt x y with
    | true =>
      rw [if_pos rfl, List.pairwise_cons]
      refine ⟨fun z hz => ?_, hp'⟩
      rcases List.mem_cons.1 hz with rfl | hz
      · exact asym _ _ hxy
      · cases h2 : lt z x with
        | false => rfl
        | true =>
          have h3 := h.trans _ _ _ h2 hxy
          rw [hp.1 z hz] at h3; cases h3
    | false =>
      rw [if_neg (by decide), List.pairwise_cons]
      refine ⟨fun z hz => ?_, insR_sorted h x r hp.2⟩
      rcases List.mem_cons.1 ((insR_perm x r).mem_iff.1 hz) with rfl | hz
      · exact hxy
      · exact hp.1 z hz
end
def RP0 : RP := (⟨noStr, 0, none, 0, 0, ⟨0, 0, 0, noStr, 0, 0, noStr, 0, noStr, noStr⟩, none, 0, 0, none, 0, 0⟩, ⟨noStr, [], .mk ⟨0, 0, 0, noStr, 0, 0, noStr, 0, noStr, noStr⟩ []⟩)
/-- What a place and a time stand for. -/
def atP (ps : List RP) (q : Nat × Int) : HP := ((ps[q.1]?).getD RP0, q.2)
theorem atP_is {ps : List RP} {q : Nat × Int} (h : q.1 < ps.length) : atP ps q = (ps[q.1], q.2) := by
  unfold atP; rw [List.getElem?_eq_getElem h]; rfl
def ltQ (ps : List RP) (a b : Nat × Int) : Bool := ltH (atP ps a) (atP ps b)
theorem ltQ_is {ps : List RP} {a b : Nat × Int} (ha : a.1 < ps.length) (hb : b.1 < ps.length) : ltQ ps a b = ltB ps[a.1].1.name ps[b.1].1.name := by
  unfold ltQ ltH; rw [atP_is ha, atP_is hb]
theorem swo_ltQ (ps : List RP) : Sort.SWO (ltQ ps) := swo_by swo_ltH (atP ps)
/-- What the scan has of the first rules. -/
structure Held (ps : List RP) (j : Nat) (out : List (Nat × Int)) : Prop where
  lt : ∀ q ∈ out, q.1 < ps.length
  perm : (out.map (atP ps)).Perm (candF [] (ps.take j))
  asc : out.Pairwise (fun a b => ltQ ps b a = false)
theorem Held.zero (ps : List RP) : Held ps 0 [] := ⟨fun q h => (by simp at h), List.Perm.refl _, List.Pairwise.nil⟩
theorem Held.len {ps : List RP} {j : Nat} {out : List (Nat × Int)} (h : Held ps j out) : out.length ≤ ps.length := by
  have h1 := h.perm.length_eq
  have h2 := candF_len (ps.take j) []
  rw [List.length_map] at h1
  rw [List.length_take] at h2
  omega
theorem Held.skip {ps : List RP} {j : Nat} {out : List (Nat × Int)} (h : Held ps j out) (hj : j < ps.length) (hs : trg ps[j].2.on = none ∨ hasN ((ps.take j).map (fun q => q.1.name)) ps[j].1.name = true) : Held ps (j + 1) out := by
  refine ⟨h.lt, ?_, h.asc⟩
  rw [candF_take ps j hj]
  have : (if hasN ((ps.take j).map (fun q => q.1.name)) ps[j].1.name then [] else opH ps[j]) = [] := by
    rcases hs with hs | hs
    · unfold opH; rw [hs]; simp
    · rw [hs]; rfl
  rw [this, List.append_nil]
  exact h.perm
theorem Held.put {ps : List RP} {j : Nat} {out : List (Nat × Int)} (h : Held ps j out) (hj : j < ps.length) {t : Int} (ht : trg ps[j].2.on = some t) (hs : hasN ((ps.take j).map (fun q => q.1.name)) ps[j].1.name = false) : Held ps (j + 1) (insR (ltQ ps) (j, t) out) := by
  refine ⟨fun q hq => ?_, ?_, insR_sorted (swo_ltQ ps) _ _ h.asc⟩
  · rcases List.mem_cons.1 ((insR_perm _ _).mem_iff.1 hq) with rfl | hq
    · exact hj
    · exact h.lt q hq
  · rw [candF_take ps j hj, hs, if_neg (by decide)]
    have e : opH ps[j] = [(ps[j], t)] := by unfold opH; rw [ht]; rfl
    rw [e]
    refine ((insR_perm _ _).map _).trans ?_
    rw [List.map_cons, atP_is (show (j, t).1 < ps.length from hj)]
    exact (h.perm.cons _).trans (List.perm_append_comm (l₁ := [(ps[j], t)]))
theorem Held.all {ps : List RP} {out : List (Nat × Int)} (h : Held ps ps.length out) : (out.take 40).map (atP ps) = holdsP ps := by
  have hp := h.perm
  rw [List.take_length] at hp
  unfold holdsP
  rw [List.map_take, sortedH_is (candF_names ps []) hp (by rw [List.pairwise_map]; exact h.asc)]
end Go.Proofs.YtafodibbcfoclaaGreat
