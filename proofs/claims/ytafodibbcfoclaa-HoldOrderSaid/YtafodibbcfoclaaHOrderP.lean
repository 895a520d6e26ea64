/- Hold: plain: the rules in another order. -/
import Derived.Test.YtafodibbcfoclaaHPlains
import Derived.Test.YtafodibbcfoclaaHMark
set_option linter.unusedSimpArgs false
set_option linter.unusedVariables false
namespace Go.Proofs.Ytafodibbcfoclaa

/-- No two rules of one name. -/
def Unlike (ps : List RP) : Prop := ps.Pairwise (fun a b => a.1.name ≠ b.1.name)
theorem candF_unlike : ∀ (ps : List RP) (seen : List ByteArray), Unlike ps → (∀ p ∈ ps, p.1.name ∉ seen) → candF seen ps = ps.flatMap opH
  | [], _, _, _ => rfl
  | p :: r, seen, h, hs => by
    unfold Unlike at h
    rw [List.pairwise_cons] at h
    have h1 : hasN seen p.1.name = false := by
      cases e : hasN seen p.1.name with
      | false => rfl
      | true => exact absurd (hasN_iff.1 e) (hs p (by simp))
    rw [candF, h1, if_neg (by decide), List.flatMap_cons, candF_unlike r _ h.2 (fun q hq hm => ?_)]
    rcases List.mem_cons.1 hm with e | hm
    · exact h.1 q hq e.symm
    · exact hs q (List.mem_cons_of_mem _ hq) hm
theorem unlike_rev {ps : List RP} (h : Unlike ps) : Unlike ps.reverse := by
  unfold Unlike at h ⊢
  rw [List.pairwise_reverse]
  exact h.imp (fun e e' => e e'.symm)
theorem holdsP_rev {ps : List RP} (h : Unlike ps) : holdsP ps.reverse = holdsP ps := by
  unfold holdsP
  congr 1
  refine sortedH_is (candF_names ps []) ?_ (stab_sorted swo_ltH _)
  refine (stab_perm ltH _).trans ?_
  rw [candF_unlike _ _ (unlike_rev h) (fun p _ hm => by simp at hm), candF_unlike _ _ h (fun p _ hm => by simp at hm)]
  exact (List.reverse_perm ps).flatMap_right _
theorem mk1_rev (names : List ByteArray) : mk1 names.reverse = mk1 names := by
  funext t
  unfold mk1
  rw [List.any_reverse]
theorem markP_rev (l : List LTim) (names : List ByteArray) : markP l names.reverse = markP l names := by
  unfold markP
  rw [mk1_rev]
/-- The first j rules have no two of one name. -/
theorem unlike_step {ps : List RP} {j : Nat} (h : Unlike (ps.take j)) (hj : j < ps.length) (hn : ∀ (k : Nat) (hk : k < ps.length), k < j → ps[k].1.name ≠ ps[j].1.name) : Unlike (ps.take (j + 1)) := by
  unfold Unlike at h ⊢
  rw [List.take_succ_eq_append_getElem hj, List.pairwise_append]
  refine ⟨h, List.pairwise_singleton _ _, fun a ha b hb => ?_⟩
  rw [List.mem_singleton] at hb
  subst hb
  obtain ⟨k, hk, rfl⟩ := List.mem_take_iff_getElem.1 ha
  exact hn k (by omega) (by omega)
end Go.Proofs.Ytafodibbcfoclaa
