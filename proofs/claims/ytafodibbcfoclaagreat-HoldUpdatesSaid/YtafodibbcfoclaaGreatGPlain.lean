/- Guard: the stable order, plainly: one after another, from the end. -/
import Derived.Test.YtafodibbcfoclaaGreatGStab
set_option linter.unusedSimpArgs false
set_option linter.unusedVariables false
namespace Go.Proofs.YtafodibbcfoclaaGreat
open Go Go.Sort
section
variable {α : Type}
/-- Into a list that is laid the wrong way round: behind all that it is less than. -/
def insRev (lt : α → α → Bool) (x : α) : List α → List α
  | [] => [x]
  | y :: r => if lt x y then y :: insRev lt x r else x :: y :: r
/-- The stable order. -/
def stab (lt : α → α → Bool) (l : List α) : List α := (l.foldl (fun acc x => insRev lt x acc) []).reverse
theorem insRev_perm (lt : α → α → Bool) (x : α) : ∀ l, (insRev lt x l).Perm (x :: l)
  | [] => List.Perm.refl _
  | y :: r => by
    rw [insRev]
    split
    · exact ((insRev_perm lt x r).cons y).trans (List.Perm.swap x y r)
    · exact List.Perm.refl _
theorem insRev_len (lt : α → α → Bool) (x : α) (l : List α) : (insRev lt x l).length = l.length + 1 := by rw [(insRev_perm lt x l).length_eq, List.length_cons]
theorem fold_perm (lt : α → α → Bool) : ∀ (l acc : List α), (l.foldl (fun acc x => insRev lt x acc) acc).Perm (l.reverse ++ acc)
  | [], acc => List.Perm.refl _
  | x :: r, acc => by
    rw [List.foldl_cons, List.reverse_cons, List.append_assoc]
    exact (fold_perm lt r _).trans ((insRev_perm lt x acc).append_left r.reverse)
theorem stab_perm (lt : α → α → Bool) (l : List α) : (stab lt l).Perm l := by
  unfold stab
  refine (List.reverse_perm _).trans ((fold_perm lt l []).trans ?_)
  rw [List.append_nil]; exact List.reverse_perm _
theorem stab_len (lt : α → α → Bool) (l : List α) : (stab lt l).length = l.length := (stab_perm lt l).length_eq
theorem insRev_sorted {lt : α → α → Bool} (h : SWO lt) (x : α) : ∀ l : List α, l.Pairwise (fun a b => lt a b = false) → (insRev lt x l).Pairwise (fun a b => lt a b = false)
  | [], _ => by simp [insRev]
  | y :: r, hp => by
    rw [List.pairwise_cons] at hp
    rw [insRev]
    split
    · rename_i hl
      rw [List.pairwise_cons]
      refine ⟨fun z hz => ?_, insRev_sorted h x r hp.2⟩
      rcases List.mem_cons.1 ((insRev_perm lt x r).mem_iff.1 hz) with rfl | hz
      · exact h.asymmA hl
      · exact hp.1 z hz
    · rename_i hl
      rw [List.pairwise_cons, List.pairwise_cons]
      have hl' : lt x y = false := by simpa using hl
      refine ⟨fun z hz => ?_, hp.1, hp.2⟩
      rcases List.mem_cons.1 hz with rfl | hz
      · exact hl'
      · exact h.ntrans _ _ _ hl' (hp.1 z hz)
theorem fold_sorted {lt : α → α → Bool} (h : SWO lt) : ∀ (l acc : List α), acc.Pairwise (fun a b => lt a b = false) → (l.foldl (fun acc x => insRev lt x acc) acc).Pairwise (fun a b => lt a b = false)
  | [], acc, ha => ha
  | x :: r, acc, ha => fold_sorted h r _ (insRev_sorted h x acc ha)
theorem stab_sorted {lt : α → α → Bool} (h : SWO lt) (l : List α) : (stab lt l).Pairwise (fun a b => lt b a = false) := by
  unfold stab
  rw [List.pairwise_reverse]
  exact fold_sorted h l [] List.Pairwise.nil
theorem sorted_eq {lt : α → α → Bool} : ∀ (l m : List α), l.Perm m → l.Pairwise (fun a b => lt b a = false) → m.Pairwise (fun a b => lt b a = false) → (∀ a ∈ l, ∀ b ∈ l, lt a b = false → lt b a = false → a = b) → l = m
  | [], m, hp, _, _, _ => (List.nil_perm.1 hp).symm
  | a :: l, [], hp, _, _, _ => absurd hp.length_eq (by simp)
  | a :: l, b :: m, hp, h1, h2, ht => by
    rw [List.pairwise_cons] at h1 h2
    have hab : a = b := by
      have hb : b ∈ a :: l := hp.mem_iff.2 (by simp)
      have ha : a ∈ b :: m := hp.mem_iff.1 (by simp)
      rcases List.mem_cons.1 hb with e | hb'
      · exact e.symm
      · rcases List.mem_cons.1 ha with e | ha'
        · exact e
        · exact ht a (by simp) b hb (h2.1 a ha') (h1.1 b hb')
    subst hab
    have := sorted_eq l m hp.cons_inv h1.2 h2.2 (fun x hx y hy => ht x (by simp [hx]) y (by simp [hy]))
    rw [this]
end
section
variable {β : Type}
theorem insRev_tag (lt : β → β → Bool) (x : β × Nat) : ∀ l : List (β × Nat), (∀ y ∈ l, y.2 < x.2) → (insRev (tl lt) x l).map Prod.fst = insRev lt x.1 (l.map Prod.fst)
  | [], _ => rfl
  | y :: r, h => by
    have e : tl lt x y = lt x.1 y.1 := tl_l1 (h y (by simp))
    rw [List.map_cons, insRev, insRev, e]
    split
    · rw [List.map_cons, insRev_tag lt x r (fun z hz => h z (by simp [hz]))]
    · rfl
theorem fold_tag (lt : β → β → Bool) : ∀ (l acc : List (β × Nat)), l.Pairwise (fun a b => a.2 < b.2) → (∀ x ∈ l, ∀ y ∈ acc, y.2 < x.2) → (l.foldl (fun acc x => insRev (tl lt) x acc) acc).map Prod.fst = (l.map Prod.fst).foldl (fun acc x => insRev lt x acc) (acc.map Prod.fst)
  | [], acc, _, _ => rfl
  | x :: r, acc, hp, h => by
    rw [List.pairwise_cons] at hp
    rw [List.foldl_cons, List.map_cons, List.foldl_cons, fold_tag lt r _ hp.2, insRev_tag lt x acc (fun y hy => h x (by simp) y hy)]
    intro z hz y hy
    rcases List.mem_cons.1 ((insRev_perm _ x acc).mem_iff.1 hy) with rfl | hy
    · exact hp.1 z hz
    · exact h z (by simp [hz]) y hy
theorem stab_tag (lt : β → β → Bool) (l : List (β × Nat)) (hp : l.Pairwise (fun a b => a.2 < b.2)) : (stab (tl lt) l).map Prod.fst = stab lt (l.map Prod.fst) := by
  unfold stab
  rw [List.map_reverse, fold_tag lt l [] hp (fun x _ y hy => by simp at hy)]
  rfl
theorem tags_inj {l : List (β × Nat)} (hp : l.Pairwise (fun a b => a.2 < b.2)) : ∀ a ∈ l, ∀ b ∈ l, a.2 = b.2 → a = b := by
  intro a ha b hb e
  obtain ⟨i, hi, rfl⟩ := List.getElem_of_mem ha
  obtain ⟨j, hj, rfl⟩ := List.getElem_of_mem hb
  rw [List.pairwise_iff_getElem] at hp
  rcases Nat.lt_trichotomy i j with h | h | h
  · have := hp i j hi hj h; omega
  · subst h; rfl
  · have := hp j i hj hi h; omega
/-- What the sort leaves is the stable order. -/
theorem stabled [Inhabited β] {lt : β → β → Bool} (h0 : SWO lt) {l : List (β × Nat)} {d' : Array (β × Nat)} (hp : l.Pairwise (fun a b => a.2 < b.2)) (h1 : PermIn 0 l.length l.toArray d') (h2 : SortedIn (tl lt) 0 l.length d') :
    d'.toList.map Prod.fst = stab lt (l.map Prod.fst) := by
  have hs : d'.size = l.length := by have := h1.1; simpa using this
  have hpm : d'.toList.Perm l := by
    have := h1.2.2
    have e1 : d'.extract 0 l.length = d' := by rw [← hs]; exact Array.extract_size
    have e2 : l.toArray.extract 0 l.length = l.toArray := by
      have : l.length = l.toArray.size := by simp
      rw [this]; exact Array.extract_size
    rw [e1, e2] at this
    simpa using this
  have hso : d'.toList.Pairwise (fun a b => tl lt b a = false) := by
    rw [List.pairwise_iff_getElem]
    intro i j hi hj hij
    have hi' : i < d'.size := by simpa using hi
    have hj' : j < d'.size := by simpa using hj
    have := h2 i j (Nat.zero_le _) hij (by omega)
    rw [getElem!_pos d' i hi', getElem!_pos d' j hj'] at this
    simpa using this
  rw [← stab_tag lt l hp]
  congr 1
  refine sorted_eq (lt := tl lt) _ _ (hpm.trans (stab_perm _ _).symm) hso (stab_sorted (tl_swo h0) l) fun a ha b hb e1 e2 => ?_
  exact tags_inj hp a (hpm.mem_iff.1 ha) b (hpm.mem_iff.1 hb) (tl_tot a b e1 e2)
theorem stab_map {α : Type} (lt : β → β → Bool) (lt' : α → α → Bool) (f : α → β) (h : ∀ x y, lt' x y = lt (f x) (f y)) (l : List α) : (stab lt' l).map f = stab lt (l.map f) := by
  have h1 : ∀ (x : α) (acc : List α), (insRev lt' x acc).map f = insRev lt (f x) (acc.map f) := by
    intro x acc
    induction acc with
    | nil => rfl
    | cons y r ih =>
      rw [List.map_cons, insRev, insRev, h]
      split
      · rw [List.map_cons, ih]
      · rfl
  have h2 : ∀ (l acc : List α), (l.foldl (fun acc x => insRev lt' x acc) acc).map f = (l.map f).foldl (fun acc x => insRev lt x acc) (acc.map f) := by
    intro l
    induction l with
    | nil => intro acc; rfl
    | cons x r ih => intro acc; rw [List.foldl_cons, List.map_cons, List.foldl_cons, ih, h1]
  unfold stab
  rw [List.map_reverse, h2]
  rfl
end
end Go.Proofs.YtafodibbcfoclaaGreat
