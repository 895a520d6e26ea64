/- Sorting and compacting ints, cloning spans: contracts on rows of the call's own. -/
import Derived.Test.YtdhccaninopicaaSShelf2
import Derived.Test.YtdhccaninopicaaSNorm
set_option linter.unusedSimpArgs false
set_option linter.unusedVariables false
namespace Go.Proofs.Ytdhccaninopicaa
open Go.Shelf Go.RowKit Go.Lib Go.Sort

theorem compactUpTo_ok (d : Array Int) (hs : ∀ j, j + 1 < d.size → d[j]! ≤ d[j + 1]!) : ∀ m, m ≤ d.size →
    (∀ e, e ∈ compactUpTo d m ↔ ∃ j, j < m ∧ d[j]! = e) ∧ (compactUpTo d m).Pairwise (· < ·) ∧ (0 < m → ∀ e ∈ compactUpTo d m, e ≤ d[m - 1]!)
  | 0, _ => ⟨fun e => by constructor; (intro h; simp [compactUpTo] at h); (rintro ⟨j, h, _⟩; omega), by simp [compactUpTo], fun h => absurd h (by omega)⟩
  | m + 1, hm => by
    obtain ⟨h1, h2, h3⟩ := compactUpTo_ok d hs m (by omega)
    rw [compactUpTo_succ]
    by_cases hk : keeps d m = true
    · rw [if_pos hk]
      have hlt : ∀ e ∈ compactUpTo d m, e < d[m]! := fun e he => by
        have hk' := of_decide_eq_true hk
        have h0 : 0 < m := by
          obtain ⟨j, hj, _⟩ := (h1 e).1 he; omega
        have h4 := h3 h0 e he
        have h5 := hs (m - 1) (by omega)
        rw [show m - 1 + 1 = m by omega] at h5
        rcases hk' with h | h
        · omega
        · omega
      refine ⟨fun e => ?_, ?_, fun _ e he => ?_⟩
      · rw [List.mem_append, h1, List.mem_singleton]
        constructor
        · rintro (⟨j, hj, rfl⟩ | rfl)
          · exact ⟨j, by omega, rfl⟩
          · exact ⟨m, by omega, rfl⟩
        · rintro ⟨j, hj, rfl⟩
          by_cases hjm : j = m
          · subst hjm; exact .inr rfl
          · exact .inl ⟨j, by omega, rfl⟩
      · rw [List.pairwise_append]
        exact ⟨h2, by simp, fun a ha b hb => by rw [List.mem_singleton] at hb; subst hb; exact hlt a ha⟩
      · rw [Nat.add_sub_cancel]
        rw [List.mem_append, List.mem_singleton] at he
        rcases he with he | rfl
        · exact Int.le_of_lt (hlt e he)
        · exact Int.le_refl _
    · rw [if_neg hk, List.append_nil]
      have hk' : ¬ (m = 0 ∨ d[m]! ≠ d[m - 1]!) := fun h => hk (decide_eq_true h)
      have h0 : 0 < m := by
        rcases Nat.eq_zero_or_pos m with h | h
        · exact absurd (.inl h) hk'
        · exact h
      have he : d[m]! = d[m - 1]! := Classical.byContradiction fun h => hk' (.inr h)
      refine ⟨fun e => ?_, h2, fun _ e hm' => ?_⟩
      · rw [h1]
        constructor
        · rintro ⟨j, hj, rfl⟩; exact ⟨j, by omega, rfl⟩
        · rintro ⟨j, hj, rfl⟩
          by_cases hjm : j = m
          · subst hjm; exact ⟨j - 1, by omega, he.symm⟩
          · exact ⟨j, by omega, rfl⟩
      · rw [Nat.add_sub_cancel, he]; exact h3 h0 e hm'
theorem compact_ok {zs : List Int} (hs : zs.Pairwise (· ≤ ·)) : (compact zs).Pairwise (· < ·) ∧ ∀ e, e ∈ compact zs ↔ e ∈ zs := by
  have h := compactUpTo_ok zs.toArray (fun j hj => by
    have hj' : j + 1 < zs.length := by simpa using hj
    have := List.pairwise_iff_getElem.1 hs j (j + 1) (by omega) hj' (by omega)
    rw [getElem!_pos _ j (by simp; omega), getElem!_pos _ (j + 1) (by simpa using hj)]
    simpa using this) zs.length (by simp)
  refine ⟨h.2.1, fun e => ?_⟩
  unfold compact
  rw [h.1]
  constructor
  · rintro ⟨j, hj, rfl⟩
    rw [getElem!_pos _ j (by simpa using hj)]
    simp
  · intro he
    obtain ⟨j, hj, rfl⟩ := List.getElem_of_mem he
    exact ⟨j, hj, by rw [getElem!_pos _ j (by simpa using hj)]; simp⟩

abbrev intV (e : Int) : Value := .int .i64 e
def ISortPost (zs : List Int) (v : Value) (base : Nat) (w : World) (e : Ending) (w' : World) : Prop :=
  ∃ ys : List Int, e = .returned (.tuple #[]) ∧ ys.Perm zs ∧ ys.Pairwise (· ≤ ·) ∧ w'.ownsRow base 3 1 v ys.length (ys.map (Value.int .i64)) ∧ w.heap.size ≤ w'.heap.size ∧ ∀ B, B ≤ base → B ≤ w.heap.size → RowKit.Below B w w'
theorem isort_any (zs : List Int) (v : Value) (base : Nat) (w : World) (hown : w.ownsRow base 3 1 v zs.length (zs.map (Value.int .i64))) (hl : zs.length ≤ 140737488351232) :
    Calls Try.prog 49 #[v] w (ISortPost zs v base w) := by
  by_cases hv : v = .slice none 0 0
  · subst hv
    have h0 : zs = [] := by
      rcases hown.2 with ⟨_, h⟩ | ⟨g, cap, cur, h, _⟩
      · exact List.eq_nil_of_length_eq_zero h
      · cases h
    subst h0
    refine (slices_Sort_int_none none 0 w).mono ?_
    rintro e w' ⟨rfl, rfl⟩
    exact ⟨[], rfl, List.Perm.refl _, List.Pairwise.nil, hown, Nat.le_refl _, fun B _ _ => RowKit.Below.refl _ _⟩
  · obtain ⟨g, cap, rfl, hbg, hgl, hnc, hcm, _, hH⟩ := holds_of_ownsRow hown hv
    refine (slices_Sort_int g 0 cap zs w hH hgl (by omega)).mono ?_
    rintro e w' ⟨rfl, n, os, rfl⟩
    have hlen : (zs.mergeSort fun x y => decide (x ≤ y)).length = zs.length := List.length_mergeSort ..
    have ho := ownsRow_putRow (q := n) hown hlen (Nat.le_refl _)
    rw [← hlen, List.take_length] at ho
    have hb : ∀ B, B ≤ base → B ≤ w.heap.size → RowKit.Below B w (grow (putRow (Value.int .i64) (Sort.ahead w n) g 0 (zs.mergeSort fun x y => decide (x ≤ y)).toArray) os) := fun B h1 h2 => by
      have h3 : RowKit.Below B w (putRow (Value.int .i64) (Sort.ahead w n) g 0 (zs.mergeSort fun x y => decide (x ≤ y)).toArray) := below_putRow (RowKit.Below.refl B w) (by omega)
      exact h3.trans (below_growW B _ (Nat.le_trans h2 h3.size) os)
    refine ⟨zs.mergeSort fun x y => decide (x ≤ y), rfl, List.mergeSort_perm .., ?_, ?_, (hb 0 (Nat.zero_le _) (Nat.zero_le _)).size, hb⟩
    · have := List.pairwise_mergeSort (le := fun x y : Int => decide (x ≤ y)) (fun a b c h1 h2 => by simp at *; omega) (fun a b => by simp; omega) zs
      exact this.imp (fun h => by simpa using h)
    · rw [hlen] at ho ⊢
      exact own_grow ho os
def ICompPost (zs : List Int) (base : Nat) (w : World) (e : Ending) (w' : World) : Prop :=
  ∃ v : Value, e = .returned v ∧ w'.ownsRow base 3 1 v (compact zs).length ((compact zs).map (Value.int .i64)) ∧ w.heap.size ≤ w'.heap.size ∧ ∀ B, B ≤ base → B ≤ w.heap.size → RowKit.Below B w w'
theorem icompact_any (zs : List Int) (v : Value) (base : Nat) (w : World) (hown : w.ownsRow base 3 1 v zs.length (zs.map (Value.int .i64))) (hl : zs.length ≤ 140737488351232) :
    Calls Try.prog 50 #[v] w (ICompPost zs base w) := by
  by_cases hv : v = .slice none 0 0
  · subst hv
    have h0 : zs = [] := by
      rcases hown.2 with ⟨_, h⟩ | ⟨g, cap, cur, h, _⟩
      · exact List.eq_nil_of_length_eq_zero h
      · cases h
    subst h0
    refine (slices_Compact_int_empty none 0 w).mono ?_
    rintro e w' ⟨rfl, rfl⟩
    exact ⟨_, rfl, hown, Nat.le_refl _, fun B _ _ => RowKit.Below.refl _ _⟩
  · obtain ⟨g, cap, rfl, hbg, hgl, hnc, hcm, _, hH⟩ := holds_of_ownsRow hown hv
    refine (slices_Compact_int g 0 cap zs w hH (by omega) hnc).mono ?_
    rintro e w' ⟨rfl, q, rfl⟩
    have hcl := compact_length_le zs
    have hlen : (compact zs ++ List.replicate (zs.length - (compact zs).length) 0).length = zs.length := by simp; omega
    have ho := ownsRow_putRow (q := q) hown hlen hcl
    rw [List.take_append_of_le_length (Nat.le_refl _), List.take_length] at ho
    have hb : ∀ B, B ≤ base → B ≤ w.heap.size → RowKit.Below B w (putRow (Value.int .i64) (Sort.ahead w q) g 0 (compact zs ++ List.replicate (zs.length - (compact zs).length) 0).toArray) := fun B h1 h2 =>
      below_putRow (RowKit.Below.refl B w) (by omega)
    exact ⟨_, rfl, ho, (hb 0 (Nat.zero_le _) (Nat.zero_le _)).size, hb⟩

def ClonePost (l : List Sp) (w : World) (e : Ending) (w' : World) : Prop := ∃ v : Value, e = .returned v ∧ w'.ownsRow w.heap.size 35 2 v l.length (l.map spC).flatten ∧ RowKit.Below w.heap.size w w'
set_option maxHeartbeats 1000000 in
theorem clone_any (l : List Sp) (A : Option Addr) (c : Nat) (B : Nat) (w : World) (hB : B ≤ w.heap.size) (hr : IsRows B w 2 (l.map spC) A) (hnil : A = none → c = 0 ∧ l.length = 0) (hl : l.length ≤ 1000000) :
    Calls Try.prog 48 #[.slice A l.length c] w (ClonePost l w) := by
  cases A with
  | none =>
    obtain ⟨rfl, h0⟩ := hnil rfl
    obtain rfl := List.eq_nil_of_length_eq_zero h0
    have q1 := fun w => Lib.run_eql_slice_nil (P := Try.prog) (w := w)
    go_enter Try.func48, Try.ntmps48
    go_wp2_with fail
    go_ret
    exact ⟨_, rfl, World.ownsRow_nil _ _ _ _, RowKit.Below.refl _ _⟩
  | some ad =>
    obtain ⟨i0, hi, hz0, hz1, hz2⟩ := info_parts infoSp2
    have hrw : IsRows w.heap.size w 2 (l.map spC) (some ad) := hr.mono hB
    have hlm : (l.map spC).length = l.length := List.length_map ..
    have HLM := Lib.hid hlm
    have HON := Lib.hid (World.ownsRow_lit (base := w.heap.size) (e := 35) (size := 2) w #[] 0 (Nat.le_refl _) (by simp [maxLen]) rfl)
    have HR := Lib.hid (hrw.carry ((RowKit.Below.refl _ _).alloc (Nat.le_refl _) (.cells #[] 35)))
    clear hr hrw hlm
    have q1 := fun w => Lib.run_eql_slice_nil (P := Try.prog) w 22 35 (some ad) l.length c 0 0 Try.underlying22
    go_enter Try.func48, Try.ntmps48
    go_wp2_with (at_builtin; refine append_rows rfl _ _ 22 rfl w.heap.size 35 i0 _ 2 16 Try.underlying22 hi hz0 hz1 hz2 rfl (by decide) _ [] rfl HON.out (some ad) l.length c w.heap.size (l.map spC) rfl HLM.out.symm (fun h => by cases h) HR.out spC_all spC_one (by rw [HLM.out]; simp [maxLen]; omega) (by rw [HLM.out]; simp; omega) (by simp) ?_; intro v6 w6 own6 hg6)
    go_ret
    exact ⟨_, rfl, by simpa [HLM.out] using own6, ((RowKit.Below.refl _ _).alloc (Nat.le_refl _) _).grown hg6 (by simp) (fun q hq => ownBlock_le hq)⟩

end Go.Proofs.Ytdhccaninopicaa
