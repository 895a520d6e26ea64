/- Resolve: what the reference's Decide does; it gives the decisions about the writes. -/
import Derived.Test.YtgjoojailghilaaDoorVPlain
set_option linter.unusedSimpArgs false
set_option linter.unusedVariables false
namespace Go.Proofs.YtgjoojailghilaaDoor

section
variable {α : Type} [DecidableEq α]
def insB (f : α → α → Bool) : List α → α → List α
  | [], x => [x]
  | y :: l, x => if f y x then y :: insB f l x else if y = x then y :: l else x :: y :: l
theorem insB_mem (f : α → α → Bool) (x z : α) : ∀ l : List α, z ∈ insB f l x ↔ z ∈ l ∨ z = x
  | [] => by simp [insB]
  | y :: l => by
    rw [insB]
    split
    · rw [List.mem_cons, insB_mem f x z l, List.mem_cons, or_assoc]
    · split
      · rename_i h; subst h
        simp only [List.mem_cons]
        exact ⟨fun h => .inl h, fun h => h.elim id .inl⟩
      · simp only [List.mem_cons]
        exact ⟨fun h => h.elim .inr .inl, fun h => h.elim .inr .inl⟩
theorem insB_sorted {f : α → α → Bool} (h : STO f) (x : α) : ∀ l : List α, l.Pairwise (fun a b => f a b = true) → (insB f l x).Pairwise (fun a b => f a b = true)
  | [], _ => by simp [insB]
  | y :: l, hs => by
    rw [insB]
    have hs' := List.pairwise_cons.1 hs
    split
    · rename_i hy
      refine List.pairwise_cons.2 ⟨fun z hz => ?_, insB_sorted h x l hs'.2⟩
      rcases (insB_mem f x z l).1 hz with hz | rfl
      · exact hs'.1 z hz
      · exact hy
    · rename_i hy
      split
      · exact hs
      · rename_i hne
        have hxy : f x y = true := h.tri _ _ (by simpa using hy) hne
        refine List.pairwise_cons.2 ⟨fun z hz => ?_, hs⟩
        rcases List.mem_cons.1 hz with rfl | hz
        · exact hxy
        · exact h.trans _ _ _ hxy (hs'.1 z hz)
theorem insAll_mem (f : α → α → Bool) (z : α) : ∀ (l acc : List α), z ∈ l.foldl (insB f) acc ↔ z ∈ acc ∨ z ∈ l
  | [], acc => by simp
  | x :: l, acc => by
    rw [List.foldl_cons, insAll_mem f z l, insB_mem, List.mem_cons, or_assoc]
theorem insAll_sorted {f : α → α → Bool} (h : STO f) : ∀ (l acc : List α), acc.Pairwise (fun a b => f a b = true) → (l.foldl (insB f) acc).Pairwise (fun a b => f a b = true)
  | [], acc, hs => hs
  | x :: l, acc, hs => insAll_sorted h l _ (insB_sorted h x acc hs)
end
def keysR (l : List LW) : List LKey := (l.map LW.key).foldl (insB kless) []
def allR (l : List LW) (k : LKey) : List LW := (l.filter (fun x => x.key = k)).foldl (insB bef) []
def decK (l : List LW) (k : LKey) : LD := match allR l k with
  | [] => ⟨k, ⟨k, ⟨0, 0, noStr⟩, 0, noStr, 0, 0⟩, [], 0⟩
  | x :: r => ⟨k, x, r, 0⟩
def decR (l : List LW) : List LD := (keysR l).map (decK l)
theorem mem_allR {l : List LW} {k : LKey} {x : LW} : x ∈ allR l k ↔ x ∈ l ∧ x.key = k := by
  rw [allR, insAll_mem]; simp
theorem mem_keysR {l : List LW} {k : LKey} : k ∈ keysR l ↔ ∃ x ∈ l, x.key = k := by
  rw [keysR, insAll_mem]; simp
theorem decK_all {l : List LW} {k : LKey} (h : k ∈ keysR l) : (decK l k).all = allR l k ∧ (decK l k).key = k ∧ (decK l k).err = 0 := by
  obtain ⟨x, hx, hk⟩ := mem_keysR.1 h
  have hm : x ∈ allR l k := mem_allR.2 ⟨hx, hk⟩
  unfold decK
  cases ha : allR l k with
  | nil => rw [ha] at hm; cases hm
  | cons y r => exact ⟨rfl, rfl, rfl⟩
theorem decR_good (l : List LW) : Good (fun x => x ∈ l) (decR l) where
  keys := by
    have := insAll_sorted sto_kless (l.map LW.key) [] List.Pairwise.nil
    have hk : ∀ ks : List LKey, (∀ k ∈ ks, k ∈ keysR l) → ks.Pairwise (fun a b => kless a b = true) → (ks.map (decK l)).Pairwise (fun a b => kless a.key b.key = true) := by
      intro ks hm hs
      rw [List.pairwise_map]
      refine hs.imp_of_mem fun {a b} ha hb h => ?_
      rw [(decK_all (hm a ha)).2.1, (decK_all (hm b hb)).2.1]; exact h
    exact hk _ (fun k h => h) this
  err := by
    intro d hd
    obtain ⟨k, hk, rfl⟩ := List.mem_map.1 hd
    exact (decK_all hk).2.2
  ord := by
    intro d hd
    obtain ⟨k, hk, rfl⟩ := List.mem_map.1 hd
    rw [(decK_all hk).1]
    exact insAll_sorted sto_bef _ [] List.Pairwise.nil
  key := by
    intro d hd x hx
    obtain ⟨k, hk, rfl⟩ := List.mem_map.1 hd
    rw [(decK_all hk).1] at hx
    rw [(decK_all hk).2.1]
    exact (mem_allR.1 hx).2
  sound := by
    intro d hd x hx
    obtain ⟨k, hk, rfl⟩ := List.mem_map.1 hd
    rw [(decK_all hk).1] at hx
    exact (mem_allR.1 hx).1
  full := by
    intro x hx
    have hk : x.key ∈ keysR l := mem_keysR.2 ⟨x, hx, rfl⟩
    exact ⟨decK l x.key, List.mem_map.2 ⟨_, hk, rfl⟩, by rw [(decK_all hk).1]; exact mem_allR.2 ⟨hx, rfl⟩⟩
end Go.Proofs.YtgjoojailghilaaDoor
