/- Keys in order: what folding and renaming do to the keys; numbers of nodes and levels. -/
import Derived.Test.YtnelgblmogciiaaKPlain
import Derived.Test.YtnelgblmogciiaaIdem
import Derived.Test.YtnelgblmogciiaaRRename
import Derived.Test.YtnelgblmogciiaaSizes
set_option linter.unusedSimpArgs false
set_option linter.unusedVariables false
namespace Go.Proofs.Ytnelgblmogciiaa
open Go.RowKit

theorem headK_len (h : Hd) : (headK h).length ≤ 1 := by rw [headK]; split <;> simp
mutual
theorem readsE_len : ∀ e : LExpr, (readsE e).length ≤ sizeE e
  | .mk h ks => by have := headK_len h; have := readsL_len ks; rw [readsE, sizeE, List.length_append]; omega
theorem readsL_len : ∀ l : List LExpr, (readsL l).length ≤ sizeL l
  | [] => by rw [readsL, sizeL]; simp
  | k :: l => by have := readsE_len k; have := readsL_len l; rw [readsL, sizeL, List.length_append]; omega
end
mutual
theorem depthE_le : ∀ e : LExpr, depthE e ≤ sizeE e
  | .mk h ks => by have := depthL_le ks; rw [depthE, sizeE]; omega
theorem depthL_le : ∀ l : List LExpr, depthL l ≤ sizeL l
  | [] => by rw [depthL]; exact Nat.zero_le _
  | k :: l => by have := depthE_le k; have := depthL_le l; rw [depthL, sizeL]; omega
end
mutual
theorem rdI_small : ∀ e : LExpr, depthE e ≤ 100000000 → rdI e = depthE e
  | .mk h ks => fun hd => by
    rw [depthE] at hd ⊢
    have h1 := rdL_small ks 0 (by omega)
    rw [Int.natCast_zero] at h1
    rw [rdI, h1, wrap64]
    omega
theorem rdL_small : ∀ (l : List LExpr) (d : Nat), depthL l ≤ 100000000 → rdL l (d : Int) = ((max d (depthL l) : Nat) : Int)
  | [], d => fun _ => by rw [rdL, depthL]; omega
  | k :: l, d => fun hd => by
    rw [depthL] at hd
    rw [rdL, rdI_small k (by omega)]
    by_cases h : (d : Int) < depthE k
    · rw [if_pos h, rdL_small l (depthE k) (by omega), depthL]; omega
    · rw [if_neg h, rdL_small l d (by omega), depthL]; omega
end
theorem walk_depth (e : LExpr) : ∀ (lv s : Int), 0 ≤ lv → lv + depthE e ≤ 1000000000 → walkS visDepth e lv s = (max s (lv + depthE e - 1), true) := by
  induction e using LExpr.ind with | _ hd ks ih => ?_
  have hL : ∀ (l : List LExpr), (∀ (i : Nat) (hi : i < l.length), ∀ (lv s : Int), 0 ≤ lv → lv + depthE l[i] ≤ 1000000000 → walkS visDepth l[i] lv s = (max s (lv + depthE l[i] - 1), true)) → ∀ (lv s : Int), 0 ≤ lv → lv ≤ s → lv + 1 + depthL l ≤ 1000000000 → walkL visDepth l (lv + 1) s = (max s (lv + depthL l), true) := by
    intro l
    induction l with
    | nil => intro _ lv s h0 hs _; simp only [walkL, depthL]; congr 1; simp only [Int.natCast_zero]; omega
    | cons k l ihl =>
      intro h lv s h0 hs hm
      simp only [depthL] at hm ⊢
      have hk := h 0 (by simp) (lv + 1) s (by omega) (by simp only [List.getElem_cons_zero]; omega)
      simp only [List.getElem_cons_zero] at hk
      rw [walkL, hk]
      simp only [if_true]
      rw [ihl (fun i hi => by have := h (i + 1) (by simpa using hi); simpa using this) lv _ h0 (by omega) (by omega)]
      congr 1
      omega
  intro lv s h0 hm
  simp only [depthE] at hm ⊢
  rw [walkS]
  simp only [visDepth, if_true]
  rw [show wrap64 (lv + 1) = lv + 1 from by unfold wrap64; omega, hL ks ih lv (max s lv) h0 (by omega) (by omega)]
  congr 1
  omega
theorem depth_is (e : LExpr) (h : depthE e ≤ 1000000) : (walkS visDepth e 1 0).1 = depthE e := by
  rw [walk_depth e 1 0 (by omega) (by omega)]
  have := depthE_pos e
  dsimp only
  omega
theorem size_is (e : LExpr) (h : sizeE e ≤ 1000000000) : (walkS visSize e 1 0).1 = sizeE e := by
  rcases walk_size e 1 0 with h1 | h1
  · rw [h1, Int.zero_add, wrap_small _ (by omega)]
  · exact absurd (by unfold wrap64; omega) h1

theorem readsL_mem {ks : List LExpr} {x : LKey} : x ∈ readsL ks ↔ ∃ k ∈ ks, x ∈ readsE k := by
  induction ks with
  | nil => simp [readsL]
  | cons k ks ih => rw [readsL, List.mem_append, ih]; simp
theorem reads_kid {ks : List LExpr} {i : Nat} {x : LKey} (h : x ∈ readsE (kid ks i)) : x ∈ readsL ks := by
  by_cases hi : i < ks.length
  · exact readsL_mem.2 ⟨_, kid_mem hi, h⟩
  · have e : kid ks i = .mk (litH 0) [] := by rw [kid, List.getD_eq_getElem?_getD, List.getElem?_eq_none (by omega)]; rfl
    rw [e, readsE, readsL, headK] at h
    simp [litH] at h
theorem reads_lit (b : Bool) (x : LKey) : x ∉ readsE (.mk (litB b) []) := by rw [readsE, readsL, headK]; simp [litB, litH]
theorem reads_num (n : Int) (x : LKey) : x ∉ readsE (.mk (numH n) []) := by rw [readsE, readsL, headK]; simp [numH]
theorem reads_self {h : Hd} {ks : List LExpr} {x : LKey} (hx : x ∈ readsL ks) : x ∈ readsE (.mk h ks) := by rw [readsE]; exact List.mem_append_right _ hx
theorem reads_two {h : Hd} {ks : List LExpr} {x : LKey} (hx : x ∈ readsE (.mk h [kid ks 0, kid ks 1])) : x ∈ readsE (.mk h ks) := by
  rw [readsE, List.mem_append] at hx
  rcases hx with hx | hx
  · rw [readsE]; exact List.mem_append_left _ hx
  · obtain ⟨k, hk, hx⟩ := readsL_mem.1 hx
    simp only [List.mem_cons, List.not_mem_nil, or_false] at hk
    rcases hk with rfl | rfl <;> exact reads_self (reads_kid hx)
theorem reads_foldN (h : Hd) (ks : List LExpr) (x : LKey) (hx : x ∈ readsE (foldN (.mk h ks))) : x ∈ readsE (.mk h ks) := by
  rw [foldN_eq] at hx
  split at hx
  · split at hx
    · exact absurd hx (reads_lit _ _)
    · exact hx
  split at hx
  · rw [junF_eq] at hx
    split at hx
    · exact absurd hx (reads_lit _ _)
    · split at hx
      · exact absurd hx (reads_lit _ _)
      · exact hx
  split at hx
  · rw [junF_eq] at hx
    split at hx
    · exact absurd hx (reads_lit _ _)
    · split at hx
      · exact absurd hx (reads_lit _ _)
      · exact hx
  split at hx
  · rw [binF_eq] at hx
    repeat' split at hx
    all_goals first
      | exact absurd hx (reads_lit _ _)
      | exact absurd hx (reads_num _ _)
      | exact reads_two hx
  split at hx
  · split at hx
    · exact reads_self (reads_kid hx)
    · split at hx
      · exact reads_self (reads_kid hx)
      · exact hx
  · exact hx
theorem reads_reb (e : LExpr) (x : LKey) : x ∈ readsE (rebE foldN e) → x ∈ readsE e := by
  induction e using LExpr.ind with | _ hd ks ih => ?_
  intro hx
  rw [rebE, rebL_eq] at hx
  have h1 := reads_foldN _ _ _ hx
  rw [readsE, List.mem_append] at h1 ⊢
  rcases h1 with h1 | h1
  · exact .inl h1
  · obtain ⟨k, hk, h2⟩ := readsL_mem.1 h1
    obtain ⟨k', hk', rfl⟩ := List.mem_map.1 hk
    obtain ⟨i, hi, rfl⟩ := List.getElem_of_mem hk'
    exact .inr (readsL_mem.2 ⟨_, hk', ih i hi h2⟩)
theorem reads_fold (e : LExpr) (x : LKey) (hx : x ∈ readsE (foldE e)) : x ∈ readsE e := by
  rw [foldE] at hx
  split at hx
  · exact reads_reb e x hx
  · exact hx
theorem size_fold (e : LExpr) : sizeE (foldE e) ≤ sizeE e := by
  by_cases h0 : checkE e = 0
  · exact (fold_facts e h0).2.1
  · have e1 : foldE e = e := if_neg h0
    rw [e1]; exact Nat.le_refl _

def renK (f t : Int) (k : LKey) : LKey := if k.dev = f then { k with dev := t } else k
theorem headK_ren (f t : Int) (h : Hd) : headK (renH f t h) = (headK h).map (renK f t) := by
  obtain ⟨kd, n, m, nm, vk, vn, vs, dv, cl, at_⟩ := h
  by_cases h1 : kd = 2
  · subst h1
    by_cases h2 : dv = f
    · subst h2; simp [headK, renH, renK, Hd.key]
    · simp [headK, renH, renK, Hd.key, h2]
  · simp [headK, renH, h1]
theorem readsL_map {g : LExpr → LExpr} {f : LKey → LKey} : ∀ (ks : List LExpr), (∀ (i : Nat) (hi : i < ks.length), readsE (g ks[i]) = (readsE ks[i]).map f) → readsL (ks.map g) = (readsL ks).map f
  | [], _ => by simp [readsL]
  | k :: ks, h => by
    rw [List.map_cons, readsL, readsL, List.map_append, readsL_map ks (fun i hi => by have := h (i + 1) (by simpa using hi); simpa using this)]
    have := h 0 (by simp)
    simp only [List.getElem_cons_zero] at this
    rw [this]
theorem reads_ren (f t : Int) (e : LExpr) : readsE (renE f t e) = (readsE e).map (renK f t) := by
  induction e using LExpr.ind with | _ hd ks ih => ?_
  rw [renE_mk, readsE, readsE, List.map_append, headK_ren, readsL_map ks ih]
theorem size_ren (f t : Int) (e : LExpr) : sizeE (renE f t e) = sizeE e := by
  induction e using LExpr.ind with | _ hd ks ih => ?_
  rw [renE_mk, sizeE, sizeE]
  congr 1
  have : ∀ l : List LExpr, (∀ (i : Nat) (hi : i < l.length), sizeE (renE f t l[i]) = sizeE l[i]) → sizeL (l.map (renE f t)) = sizeL l := by
    intro l
    induction l with
    | nil => intro _; rfl
    | cons k l ihl =>
      intro h
      have h0 := h 0 (by simp)
      simp only [List.getElem_cons_zero] at h0
      rw [List.map_cons, sizeL, sizeL, h0, ihl (fun i hi => by have := h (i + 1) (by simpa using hi); simpa using this)]
  exact this ks ih
theorem renH_back (f t : Int) (h : Hd) (hn : ∀ x ∈ headK h, x.dev ≠ t) : renH t f (renH f t h) = h := by
  obtain ⟨kd, n, m, nm, vk, vn, vs, dv, cl, at_⟩ := h
  by_cases h1 : kd = 2
  · subst h1
    have h3 : dv ≠ t := hn ⟨dv, cl, at_⟩ (by simp [headK, Hd.key])
    by_cases h2 : dv = f
    · subst h2; simp [renH]
    · simp [renH, h2, h3]
  · simp [renH, h1]
theorem ren_back (f t : Int) (e : LExpr) : (∀ x ∈ readsE e, x.dev ≠ t) → renE t f (renE f t e) = e := by
  induction e using LExpr.ind with | _ hd ks ih => ?_
  intro hn
  rw [renE_mk, renE_mk, renH_back f t hd (fun x hx => hn x (by rw [readsE]; exact List.mem_append_left _ hx)), List.map_map]
  congr 1
  refine List.ext_getElem (by simp) (fun i h1 h2 => ?_)
  rw [List.getElem_map]
  exact ih i h2 (fun x hx => hn x (by rw [readsE]; exact List.mem_append_right _ (readsL_mem.2 ⟨_, List.getElem_mem h2, hx⟩)))

theorem ksorted_nodup {l : List LKey} (h : KSorted l) : l.Nodup := List.Pairwise.imp (fun {a b} hab e => by subst e; rw [kless_irrefl] at hab; cases hab) h
theorem nodup_len : ∀ (l1 l2 : List LKey), l1.Nodup → (∀ x ∈ l1, x ∈ l2) → l1.length ≤ l2.length
  | [], l2, _, _ => Nat.zero_le _
  | a :: l1, l2, hn, hs => by
    have ha := hs a (by simp)
    obtain ⟨h1, h2⟩ := List.nodup_cons.1 hn
    have := nodup_len l1 (l2.erase a) h2 (fun x hx => (List.mem_erase_of_ne (fun e => by subst e; exact h1 hx)).2 (hs x (by simp [hx])))
    have hl := List.length_erase_of_mem ha
    have hp := List.length_pos_of_mem ha
    rw [List.length_cons]; omega
theorem renK_inj (f t : Int) (a b : LKey) (ha : a.dev ≠ t) (hb : b.dev ≠ t) (h : renK f t a = renK f t b) : a = b := by
  obtain ⟨a1, a2, a3⟩ := a
  obtain ⟨b1, b2, b3⟩ := b
  simp only [renK] at h ha hb
  by_cases h1 : a1 = f <;> by_cases h2 : b1 = f
  · simp [h1, h2] at h; simp [h1, h2, h]
  · simp only [if_pos h1, if_neg h2, LKey.mk.injEq] at h
    exact absurd h.1.symm hb
  · simp only [if_neg h1, if_pos h2, LKey.mk.injEq] at h
    exact absurd h.1 ha
  · simpa [h1, h2] using h
theorem keys_ren_len (f t : Int) (e : LExpr) (hn : ∀ x ∈ readsE e, x.dev ≠ t) : (keysE (renE f t e)).length = (keysE e).length := by
  have h1 : ((keysE e).map (renK f t)).Nodup := by
    refine List.Pairwise.map _ (R := fun a b => a ≠ b ∧ a.dev ≠ t ∧ b.dev ≠ t) (fun a b h e => h.1 (renK_inj f t a b h.2.1 h.2.2 e)) ?_
    refine List.Pairwise.imp_of_mem (fun {a b} ha hb h => ⟨h, hn a ((mem_keysE e a).1 ha), hn b ((mem_keysE e b).1 hb)⟩) (ksorted_nodup (sorted_keysE e))
  have h2 : ∀ x, x ∈ keysE (renE f t e) ↔ x ∈ (keysE e).map (renK f t) := fun x => by
    rw [mem_keysE, reads_ren, List.mem_map, List.mem_map]
    exact ⟨fun ⟨a, ha, h⟩ => ⟨a, (mem_keysE e a).2 ha, h⟩, fun ⟨a, ha, h⟩ => ⟨a, (mem_keysE e a).1 ha, h⟩⟩
  have h3 := nodup_len _ _ (ksorted_nodup (sorted_keysE (renE f t e))) (fun x hx => (h2 x).1 hx)
  have h4 := nodup_len _ _ h1 (fun x hx => (h2 x).2 hx)
  rw [List.length_map] at h3 h4
  omega
theorem keys_ren_no (f t : Int) (hft : f ≠ t) (e : LExpr) (x : LKey) (hx : x ∈ keysE (renE f t e)) : x.dev ≠ f := by
  rw [mem_keysE, reads_ren, List.mem_map] at hx
  obtain ⟨a, _, rfl⟩ := hx
  rw [renK]
  split
  · exact fun e => hft e.symm
  · assumption
end Go.Proofs.Ytnelgblmogciiaa
