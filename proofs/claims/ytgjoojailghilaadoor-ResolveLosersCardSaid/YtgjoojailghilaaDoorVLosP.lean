/- Resolve: losers, plain law. -/
import Derived.Test.YtgjoojailghilaaDoorVMerge
import Derived.Test.YtgjoojailghilaaDoorVWin
import Derived.Test.YtgjoojailghilaaDoorVRefP
set_option linter.unusedSimpArgs false
set_option linter.unusedVariables false
namespace Go.Proofs.YtgjoojailghilaaDoor

theorem sorted_nodup {α : Type} {f : α → α → Bool} (h : STO f) {l : List α} (hs : l.Pairwise (fun a b => f a b = true)) : l.Nodup :=
  hs.imp fun {a b} hab e => by subst e; rw [h.irrefl] at hab; cases hab
theorem allW_nodup {S : LW → Prop} {ds : List LD} (h : Good S ds) : (allW ds).Nodup := by
  unfold allW
  rw [List.Nodup, List.pairwise_flatten]
  refine ⟨fun l hl => ?_, ?_⟩
  · obtain ⟨d, hd, rfl⟩ := List.mem_map.1 hl
    exact sorted_nodup sto_bef (h.ord d hd)
  · rw [List.pairwise_map]
    refine h.keys.imp_of_mem fun {a b} ha hb hab x hx y hy e => ?_
    subst e
    have h1 := h.key a ha x hx
    have h2 := h.key b hb x hy
    rw [← h1, ← h2, sto_kless.irrefl] at hab; cases hab
theorem count_one {S : LW → Prop} {ds : List LD} (h : Good S ds) {x : LW} (hx : S x) : (allW ds).count x = 1 := by
  obtain ⟨d, hd, hm⟩ := h.full x hx
  have hmem : x ∈ allW ds := mem_allW.2 ⟨d, hd, hm⟩
  have h1 := List.nodup_iff_count.1 (allW_nodup h) x
  have h2 := List.count_pos_iff.2 hmem
  omega
/-- The different writes among the first ones. -/
def nub (l : List LW) : Nat → List LW
  | 0 => []
  | j + 1 => match l[j]? with
    | none => nub l j
    | some x => if x ∈ l.take j then nub l j else nub l j ++ [x]
theorem nub_succ (l : List LW) (j : Nat) (h : j < l.length) : nub l (j + 1) = if l[j] ∈ l.take j then nub l j else nub l j ++ [l[j]] := by
  rw [nub, List.getElem?_eq_getElem h]
theorem nub_len (l : List LW) : ∀ j, (nub l j).length ≤ j
  | 0 => Nat.le_refl _
  | j + 1 => by
    have := nub_len l j
    rw [nub]
    split
    · omega
    · split
      · omega
      · simp; omega
theorem nub_mem (l : List LW) : ∀ j, j ≤ l.length → ∀ x, x ∈ nub l j ↔ x ∈ l.take j
  | 0, _, x => by simp [nub]
  | j + 1, h, x => by
    rw [nub_succ l j h, List.take_succ_eq_append_getElem h]
    have ih := nub_mem l j (by omega) x
    split
    · rename_i hm
      rw [ih, List.mem_append, List.mem_singleton]
      exact ⟨.inl, fun h => h.elim id (fun e => e ▸ hm)⟩
    · rw [List.mem_append, List.mem_append, ih]
theorem nub_nodup (l : List LW) : ∀ j, j ≤ l.length → (nub l j).Nodup
  | 0, _ => by simp [nub]
  | j + 1, h => by
    rw [nub_succ l j h]
    have ih := nub_nodup l j (by omega)
    split
    · exact ih
    · rename_i hm
      rw [List.nodup_append]
      refine ⟨ih, by simp, fun a ha b hb e => ?_⟩
      rw [List.mem_singleton] at hb
      subst hb e
      exact hm ((nub_mem l j (by omega) _).1 ha)
theorem nodup_len {l m : List LW} (hl : l.Nodup) (hm : m.Nodup) (h : ∀ x, x ∈ l ↔ x ∈ m) : l.length = m.length := by
  have hp : l.Perm m := by
    rw [List.perm_iff_count]
    intro x
    by_cases hx : x ∈ l
    · have h1 := List.nodup_iff_count.1 hl x
      have h2 := List.nodup_iff_count.1 hm x
      have h3 := List.count_pos_iff.2 hx
      have h4 := List.count_pos_iff.2 ((h x).1 hx)
      omega
    · rw [List.count_eq_zero.2 hx, List.count_eq_zero.2 (fun e => hx ((h x).2 e))]
  exact hp.length_eq
theorem nub_all (l : List LW) : (nub l l.length).length = (allW (decR l)).length := by
  refine nodup_len (nub_nodup l _ (Nat.le_refl _)) (allW_nodup (decR_good l)) (fun x => ?_)
  rw [nub_mem l _ (Nat.le_refl _), List.take_length, mem_allW]
  constructor
  · intro hx; exact (decR_good l).full x hx
  · rintro ⟨d, hd, hx⟩; exact (decR_good l).sound d hd x hx
def lostD (ds : List LD) : List LW := (ds.map LD.los).flatten
theorem lostD_take (ds : List LD) (j : Nat) (h : j < ds.length) : lostD (ds.take (j + 1)) = lostD (ds.take j) ++ ds[j].los := by
  rw [List.take_succ_eq_append_getElem h, lostD, lostD, List.map_append, List.flatten_append]
  simp
theorem lostD_len (ds : List LD) (j : Nat) : (lostD (ds.take j)).length ≤ (allW (ds.take j)).length := by
  unfold lostD allW
  induction ds.take j with
  | nil => simp
  | cons d r ih => simp [LD.all] at *; omega
def dropL (w : LW) (d : LD) : LD := ⟨d.key, d.win, d.los.filter (fun x => x ≠ w), d.err⟩
theorem drop_good {l : List LW} {ds : List LD} {w : LW} (h : Good (fun x => x ∈ l) ds) (hw : w ∈ lostD ds) : Good (fun x => x ∈ l.filter (fun x => x ≠ w)) (ds.map (dropL w)) := by
  obtain ⟨q, hq, hwq⟩ := List.mem_flatten.1 hw
  obtain ⟨d0, hd0, rfl⟩ := List.mem_map.1 hq
  have hwin : ∀ d ∈ ds, d.win ≠ w := by
    intro d hd e
    have hk : d.key = d0.key := by
      have h1 := h.key d hd d.win (by simp [LD.all])
      have h2 := h.key d0 hd0 w (by simp [LD.all, hwq])
      rw [← h1, ← h2, e]
    obtain rfl := h.of_key hd hd0 hk
    have h3 := h.ord d hd
    rw [LD.all, List.pairwise_cons] at h3
    have h4 := h3.1 w hwq
    rw [e, sto_bef.irrefl] at h4; cases h4
  have hall : ∀ d ∈ ds, (dropL w d).all = d.all.filter (fun x => x ≠ w) := by
    intro d hd
    simp [LD.all, dropL, hwin d hd]
  refine ⟨?_, fun d hd => ?_, fun d hd => ?_, fun d hd x hx => ?_, fun d hd x hx => ?_, fun x hx => ?_⟩
  · rw [List.pairwise_map]; exact h.keys
  · obtain ⟨c, hc, rfl⟩ := List.mem_map.1 hd; exact h.err c hc
  · obtain ⟨c, hc, rfl⟩ := List.mem_map.1 hd
    rw [hall c hc]; exact (h.ord c hc).sublist List.filter_sublist
  · obtain ⟨c, hc, rfl⟩ := List.mem_map.1 hd
    rw [hall c hc] at hx
    exact h.key c hc x (List.mem_filter.1 hx).1
  · obtain ⟨c, hc, rfl⟩ := List.mem_map.1 hd
    rw [hall c hc] at hx
    have := List.mem_filter.1 hx
    exact List.mem_filter.2 ⟨h.sound c hc x this.1, this.2⟩
  · have hx' := List.mem_filter.1 hx
    obtain ⟨c, hc, hm⟩ := h.full x hx'.1
    exact ⟨dropL w c, List.mem_map.2 ⟨c, hc, rfl⟩, by rw [hall c hc]; exact List.mem_filter.2 ⟨hm, hx'.2⟩⟩
theorem drop_wins {l : List LW} {w : LW} (hw : w ∈ lostD (decR l)) : winD (decR (l.filter (fun x => x ≠ w))) = winD (decR l) := by
  rw [(decR_good _).unique (drop_good (decR_good l) hw)]
  unfold winD
  rw [List.filter_map, List.map_map]
  rfl
theorem filter_take (l : List LW) (w : LW) (j : Nat) (h : j < l.length) : (l.take (j + 1)).filter (fun x => x ≠ w) = (l.take j).filter (fun x => x ≠ w) ++ (if l[j] = w then [] else [l[j]]) := by
  rw [List.take_succ_eq_append_getElem h, List.filter_append]
  by_cases e : l[j] = w
  · simp [e]
  · simp [e]
end Go.Proofs.YtgjoojailghilaaDoor
