/- Guard: the reference's Put: a key put in its place. -/
import Derived.Test.YtmgalnbacenbbaaGreatGRSort
import Derived.Test.YtmgalnbacenbbaaGreatGCpt
set_option linter.unusedSimpArgs false
set_option linter.unusedVariables false
namespace Go.Proofs.YtmgalnbacenbbaaGreat
open Go.RowKit

/-- What is appended from a place on. -/
def putS (k : LKey) : Bool → List LKey → List LKey
  | d, [] => if d then [] else [k]
  | d, x :: r => (if !d && !kless x k then [k] else []) ++ (if x = k then [] else [x]) ++ putS k (d || !kless x k) r
theorem putS_done (k : LKey) : ∀ l : List LKey, putS k true l = l.filter (fun x => decide (x ≠ k))
  | [] => rfl
  | x :: r => by
    rw [putS, Bool.true_or, putS_done k r]
    by_cases e : x = k <;> simp [e]
theorem putS_mem (k : LKey) : ∀ (l : List LKey) (x : LKey), x ∈ putS k false l ↔ x = k ∨ x ∈ l
  | [], x => by simp [putS]
  | y :: r, x => by
    rw [putS]
    by_cases h : kless y k = true
    · have hne : y ≠ k := sto_kless.ne h
      rw [h]
      simp only [Bool.not_true, Bool.and_false, Bool.false_eq_true, if_false, List.nil_append, Bool.or_false, if_neg hne, List.mem_append, List.mem_cons, List.not_mem_nil, or_false]
      rw [putS_mem k r x]
      constructor
      · rintro (h | h | h)
        · exact .inr (.inl h)
        · exact .inl h
        · exact .inr (.inr h)
      · rintro (h | h | h)
        · exact .inr (.inl h)
        · exact .inl h
        · exact .inr (.inr h)
    · have h' : kless y k = false := by simpa using h
      rw [h']
      simp only [Bool.not_false, Bool.and_true, if_true, Bool.or_true]
      rw [putS_done]
      by_cases e : y = k
      · subst e
        simp only [if_true, List.append_nil, List.mem_append, List.mem_singleton, List.mem_filter, List.mem_cons, decide_eq_true_eq]
        by_cases ex : x = y <;> simp [ex]
      · simp only [if_neg e, List.mem_append, List.mem_singleton, List.mem_filter, List.mem_cons, decide_eq_true_eq]
        by_cases ex : x = k <;> simp [ex]
theorem putS_asc (k : LKey) : ∀ (l : List LKey), l.Pairwise (fun a b => kless a b = true) → (putS k false l).Pairwise (fun a b => kless a b = true)
  | [], _ => by simp [putS]
  | y :: r, hp => by
    have hy := (List.pairwise_cons.1 hp).1
    have hr := (List.pairwise_cons.1 hp).2
    rw [putS]
    by_cases h : kless y k = true
    · have hne : y ≠ k := sto_kless.ne h
      rw [h]
      simp only [Bool.not_true, Bool.and_false, Bool.false_eq_true, if_false, List.nil_append, Bool.or_false, if_neg hne, List.singleton_append]
      refine List.pairwise_cons.2 ⟨fun x hx => ?_, putS_asc k r hr⟩
      rcases (putS_mem k r x).1 hx with rfl | hx
      · exact h
      · exact hy x hx
    · have h' : kless y k = false := by simpa using h
      rw [h']
      simp only [Bool.not_false, Bool.and_true, if_true, Bool.or_true]
      rw [putS_done]
      have hf : (r.filter (fun x => decide (x ≠ k))).Pairwise (fun a b => kless a b = true) := hr.sublist List.filter_sublist
      by_cases e : y = k
      · subst e
        simp only [if_true, List.append_nil, List.singleton_append]
        exact List.pairwise_cons.2 ⟨fun x hx => hy x (List.mem_filter.1 hx).1, hf⟩
      · have hky : kless k y = true := sto_kless.tri y k h' e
        simp only [if_neg e, List.singleton_append, List.cons_append, List.nil_append]
        refine List.pairwise_cons.2 ⟨fun x hx => ?_, List.pairwise_cons.2 ⟨fun x hx => hy x (List.mem_filter.1 hx).1, hf⟩⟩
        rcases List.mem_cons.1 hx with rfl | hx
        · exact hky
        · exact sto_kless.trans _ _ _ hky (hy x (List.mem_filter.1 hx).1)
theorem putS_len (k : LKey) : ∀ (d : Bool) (l : List LKey), (putS k d l).length ≤ l.length + (if d then 0 else 1)
  | d, [] => by cases d <;> simp [putS]
  | d, x :: r => by
    have h1 := putS_len k (d || !kless x k) r
    rw [putS, List.length_append, List.length_append, List.length_cons]
    generalize kless x k = b at *
    have e1 : (if x = k then ([] : List LKey) else [x]).length ≤ 1 := by split <;> simp
    generalize (if x = k then ([] : List LKey) else [x]).length = n at *
    cases d <;> cases b <;> simp at h1 ⊢ <;> omega
theorem putS_drop (k : LKey) (d : Bool) (l : List LKey) (j : Nat) (h : j < l.length) : putS k d (l.drop j) = (if !d && !kless l[j] k then [k] else []) ++ (if l[j] = k then [] else [l[j]]) ++ putS k (d || !kless l[j] k) (l.drop (j + 1)) := by
  rw [List.drop_eq_getElem_cons h, putS]
end Go.Proofs.YtmgalnbacenbbaaGreat
