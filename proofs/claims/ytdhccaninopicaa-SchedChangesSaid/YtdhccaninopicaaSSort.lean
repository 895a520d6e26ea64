/- Spans sorted by their beginnings. -/
import Derived.Test.YtdhccaninopicaaSShelf
set_option linter.unusedSimpArgs false
set_option linter.unusedVariables false
namespace Go.Proofs.Ytdhccaninopicaa
open Go.Shelf Go.RowKit Go.Lib Go.Sort

set_option maxHeartbeats 400000 in
theorem isNaN_any (x : Int) (w : World) : Calls Try.prog 47 #[.int .i64 x] w fun e w' => e = .returned (.bool false) ∧ w = w' := by
  go_enter Try.func47, Try.ntmps47
  go_wp2_with fail
  go_ret
  exact ⟨by simp, rfl⟩
set_option maxHeartbeats 400000 in
theorem compare_any (x y : Int) (w : World) : Calls Try.prog 35 #[.int .i64 x, .int .i64 y] w fun e w' => e = .returned (.int .i64 (Lib.compareInt x y)) ∧ w = w' := by
  go_enter Try.func35, Try.ntmps35
  go_wp2_with (go_at_call 47; refine (isNaN_any _ _).mono ?_; rintro e w' ⟨rfl, rfl⟩)
  all_goals (go_ret; refine ⟨?_, rfl⟩; unfold Lib.compareInt; (repeat' split) <;> first | rfl | (exfalso; omega))
set_option maxHeartbeats 1000000 in
theorem closure_any (x y : Sp) (W : World) : Calls Try.prog 34 #[.agg #[.int .i64 x.1, .int .i64 x.2], .agg #[.int .i64 y.1, .int .i64 y.2]] W fun e w' => e = .returned (.int .i64 (Lib.compareInt x.1 y.1)) ∧ ∃ q os', w' = grow (W.drewN q) os' := by
  have hcon := fun W' => Lib.hid (compare_any x.1 y.1 W')
  generalize Lib.compareInt x.1 y.1 = r at hcon ⊢
  go_enter Try.func34, Try.ntmps34
  go_wp2_with (go_at_call 35; refine (hcon _).out.mono ?_; rintro e w' ⟨rfl, rfl⟩)
  go_ret
  exact ⟨rfl, 0, _, by rw [alloc_eq_grow, alloc_eq_grow, grow_grow]; rfl⟩
theorem ltSp (x y : Sp) : ltOf (fun x y : Sp => Lib.compareInt x.1 y.1) x y = decide (x.1 < y.1) := by
  unfold ltOf Lib.compareInt
  by_cases h1 : x.1 < y.1
  · simp [h1]
  · by_cases h2 : y.1 < x.1 <;> simp [h1, h2]
theorem swoSp : SWO (ltOf fun x y : Sp => Lib.compareInt x.1 y.1) where
  irrefl x := by rw [ltSp]; simp
  trans x y z h1 h2 := by rw [ltSp] at *; simp at *; omega
  ntrans x y z h1 h2 := by rw [ltSp] at *; simp at *; omega

theorem flat_get : ∀ (l : List Sp) (t : Nat), t < l.length * 2 → (l.map spC).flatten[t]? = some ((spC l[t / 2]!)[t % 2]!)
  | [], t, h => by simp at h
  | s :: r, 0, _ => rfl
  | s :: r, 1, _ => rfl
  | s :: r, t + 2, h => by
    have ih := flat_get r t (by simp at h; omega)
    rw [List.map_cons, List.flatten_cons, List.getElem?_append_right (by rw [spC_len]; omega), spC_len, show t + 2 - 2 = t from by omega, ih]
    have e1 : (t + 2) / 2 = t / 2 + 1 := by omega
    have e2 : (t + 2) % 2 = t % 2 := by omega
    rw [e1, e2]
    rfl
theorem own_holds {w : World} {base g n cap : Nat} {l : List Sp} (h : w.ownsRow base 35 2 (.slice (some ⟨g, 0, none⟩) n cap) n (l.map spC).flatten) (hn : l.length = n) : HoldsK spC 2 w g 0 l.toArray := by
  intro j hj
  rw [size_flatK, List.size_toArray] at hj
  rw [Nat.zero_add]
  refine ⟨?_, h.frozenAt j⟩
  rw [h.cellAt j (by omega), flat_get l j hj, get_flatK _ _ _ _ (by simpa using hj)]
  simp
theorem own_put {w : World} {base g n cap q : Nat} {l d : List Sp} (h : w.ownsRow base 35 2 (.slice (some ⟨g, 0, none⟩) n cap) n (l.map spC).flatten) (hd : d.length = n) :
    (putRowK spC 2 (Sort.ahead w q) g 0 d.toArray).ownsRow base 35 2 (.slice (some ⟨g, 0, none⟩) n cap) n (d.map spC).flatten := by
  rcases h.2 with ⟨e0, _⟩ | ⟨g', cap', cur, e0, hb, hg, hn, hm, hs, ht⟩
  · cases e0
  · injection e0 with e1 _ e3
    injection e1 with e1
    injection e1 with e1
    subst e1; subst e3
    have hfl : (d.map spC).flatten.length = n * 2 := by rw [flat_len _ spC_all, List.length_map, hd]
    refine ⟨hfl, .inr ⟨g, cap, putCells id 0 (flatK spC 2 d.toArray) cur, rfl, hb, ?_, hn, hm, by simpa [putCells] using hs, ?_⟩⟩
    · simp [putRowK, putRow, mapBlock, Sort.ahead, Array.getElem?_modify, hg, onCells]
    · apply List.ext_getElem?
      intro j
      rw [List.getElem?_take, Array.getElem?_toList]
      by_cases hj : j < n * 2
      · have hjc : j < cur.size := by omega
        rw [if_pos hj, flat_get d j (by omega)]
        simp only [putCells, Array.getElem?_mapIdx, Array.getElem?_eq_getElem hjc, Option.map_some]
        rw [if_pos (by simp; omega), Nat.sub_zero, get_flatK _ _ _ _ (by simp; omega)]
        simp
      · rw [if_neg hj, List.getElem?_eq_none (by omega)]
theorem own_grow {w : World} {B : Nat} {e : TypeId} {size : Nat} {v : Value} {n : Nat} {xs : List Value} (h : w.ownsRow B e size v n xs) (os : Array Obj) : (grow w os).ownsRow B e size v n xs := by
  obtain ⟨hl, h0 | ⟨g, cap, cur, hv, hb, hh, r⟩⟩ := h
  · exact ⟨hl, .inl h0⟩
  · have hg : g < w.heap.size := (Array.getElem?_eq_some_iff.1 hh).1
    refine ⟨hl, .inr ⟨g, cap, cur, hv, hb, ?_, r⟩⟩
    rw [← hh]
    show (w.heap ++ os)[g]? = w.heap[g]?
    exact Array.getElem?_append_left hg
theorem below_growW (B : Nat) (w : World) (hB : B ≤ w.heap.size) (os : Array Obj) : RowKit.Below B w (grow w os) :=
  ⟨rfl, rfl, rfl, by show w.heap.size ≤ (w.heap ++ os).size; rw [Array.size_append]; omega, fun j hj => by
    show (w.heap ++ os)[j]? = w.heap[j]?
    exact Array.getElem?_append_left (by omega)⟩
theorem below_sort {B g q : Nat} {w : World} (hB : B ≤ w.heap.size) (hg : B ≤ g) (d : Array Sp) (os : Array Obj) : RowKit.Below B w (sortWorldK spC 2 w g 0 q d os) := by
  have h1 : RowKit.Below B w (putRowK spC 2 (Sort.ahead w q) g 0 d) := below_putRow (RowKit.Below.refl B w) hg
  exact h1.trans (below_growW B _ (Nat.le_trans hB h1.size) os)

def SortPost (l : List Sp) (v : Value) (base : Nat) (w : World) (e : Ending) (w' : World) : Prop :=
  ∃ d : List Sp, e = .returned (.tuple #[]) ∧ d.Perm l ∧ d.Pairwise (fun a b => a.1 ≤ b.1) ∧ w'.ownsRow base 35 2 v d.length (d.map spC).flatten ∧ w.heap.size ≤ w'.heap.size ∧ ∀ B, B ≤ base → B ≤ w.heap.size → RowKit.Below B w w'

set_option maxHeartbeats 2000000 in
theorem ins_none (p : Option Addr) (cap : Nat) (fv : Value) (w : World) : Calls Try.prog 51 #[.slice p 0 cap, .int .i64 0, .int .i64 0, fv] w fun e w' => e = .returned (.tuple #[]) ∧ w = w' := by
  go_enter Try.func51, Try.ntmps51
  go_wp2_with fail
  refine wp_loop_rounds 1 ?_
  rw [rounds_succ]
  go_wp2_with fail
  go_end0
  exact ⟨rfl, rfl⟩
set_option maxHeartbeats 2000000 in
theorem pdq_none (p : Option Addr) (cap : Nat) (lim : Int) (fv : Value) (w : World) : Calls Try.prog 45 #[.slice p 0 cap, .int .i64 0, .int .i64 0, .int .i64 lim, fv] w fun e w' => e = .returned (.tuple #[]) ∧ w = w' := by
  go_enter Try.func45, Try.ntmps45
  go_wp2_with fail
  refine wp_loop_rounds 1 ?_
  rw [rounds_succ]
  go_wp2_with (go_at_call 51; refine (ins_none _ _ _ _).mono ?_; rintro e w' ⟨rfl, rfl⟩)
  (try simp only [Exit.inBlock, Exit.then]); refine bodyPost_ret (results_none rfl _ _ _) rfl ?_
  exact ⟨rfl, rfl⟩
set_option maxHeartbeats 2000000 in
theorem sort_none (p : Option Addr) (cap : Nat) (fv : Value) (w : World) : Calls Try.prog 33 #[.slice p 0 cap, fv] w fun e w' => e = .returned (.tuple #[]) ∧ w = w' := by
  have hl : ∀ W, Hid (Calls Try.prog 46 #[.int .u64 0] W fun e w' => e = .returned (.int .i64 (Lib.bitLen 0 : Nat)) ∧ w' = W) := fun W => Lib.hid (by
    have h := Any.bits_Len (SlLaysF0.n15.bits (P := Try.prog) (ρ := sortSp_ren) { sortSp with }) 0 W (by omega) (by omega)
    exact h)
  go_enter Try.func33, Try.ntmps33
  go_wp2_with (first | (go_at_call 46; refine (hl _).out.mono ?_; rintro e w' ⟨rfl, rfl⟩) | (go_at_call 45; refine (pdq_none _ _ _ _ _).mono ?_; rintro e w' ⟨rfl, rfl⟩))
  go_end0
  exact ⟨rfl, rfl⟩

theorem sort_any (l : List Sp) (v : Value) (base : Nat) (w : World) (hown : w.ownsRow base 35 2 v l.length (l.map spC).flatten) (hl : l.length ≤ 140737488351232) :
    Calls Try.prog 33 #[v, .func (.func 34) #[] #[]] w (SortPost l v base w) := by
  cases l with
  | nil =>
    obtain ⟨A, c, hv, _⟩ := own_ret hown
    subst hv
    refine (sort_none A c _ w).mono ?_
    rintro e w' ⟨rfl, rfl⟩
    exact ⟨[], rfl, List.Perm.refl _, List.Pairwise.nil, hown, Nat.le_refl _, fun B _ _ => RowKit.Below.refl _ _⟩
  | cons s r =>
    obtain ⟨g, cap, rfl, hbg, hgl⟩ := hown.form (by simp)
    have eg : ∀ args w, (callFunc 34 args).run Try.prog w = .ok (.enter 34 args) w := enters_of Try.func34 (by kernel_rfl) rfl
    have hH := own_holds hown rfl
    have hcon := AnyQ.slices_SortFunc sortSp 2 Try.isAgg35 Try.sizeOf35 spC (fun _ => rfl) (fun x v hv => by simp [spC] at hv; rcases hv with rfl | rfl <;> rfl) (fun x y => Lib.compareInt x.1 y.1) swoSp 34 #[] g 0 cap (s :: r).toArray w eg (fun _ _ _ _ x y => closure_any x y _) hH hgl (by simp at hl ⊢; omega)
    refine hcon.mono ?_
    rintro e w' ⟨rfl, d', n, os, hp, hs, rfl⟩
    obtain ⟨hp1, _, hp2⟩ := hp
    have hsz : d'.size = (s :: r).length := by rw [hp1]; simp
    have e1 : d'.extract 0 (s :: r).toArray.size = d' := by rw [List.size_toArray, ← hsz]; exact Array.extract_size
    have e2 : (s :: r).toArray.extract 0 (s :: r).toArray.size = (s :: r).toArray := Array.extract_size
    rw [e1, e2] at hp2
    have hl' : d'.toList.length = (s :: r).length := by rw [Array.length_toList]; exact hsz
    refine ⟨d'.toList, rfl, by simpa using hp2, ?_, ?_, (below_sort (B := 0) (Nat.zero_le _) (Nat.zero_le _) _ _).size, fun B h1 h2 => below_sort h2 (by omega) _ _⟩
    · rw [List.pairwise_iff_getElem]
      intro i j hi hj hij
      have := hs i j (Nat.zero_le _) hij (by simp; simpa [hsz] using hj)
      rw [ltSp] at this
      have hi' : i < d'.size := by simpa using hi
      have hj' : j < d'.size := by simpa using hj
      rw [getElem!_pos d' i hi', getElem!_pos d' j hj'] at this
      have := of_decide_eq_false this
      simp only [Array.getElem_toList]
      omega
    · have := own_grow (own_put (q := n) (d := d'.toList) hown hl') os
      rw [Array.toArray_toList] at this
      rw [hl']
      exact this

end Go.Proofs.Ytdhccaninopicaa
