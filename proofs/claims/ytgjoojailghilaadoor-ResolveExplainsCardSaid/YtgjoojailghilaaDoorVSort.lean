/- Resolve: writes sorted by keys, then by precedence. -/
import Derived.Test.YtgjoojailghilaaDoorVShelf
import Derived.Deep.AppendLies
set_option linter.unusedSimpArgs false
set_option linter.unusedVariables false
namespace Go.Proofs.YtgjoojailghilaaDoor
open Go.Shelf Go.RowKit Go.Lib Go.Sort

instance : Inhabited LW := ⟨⟨⟨0, noStr, noStr⟩, ⟨0, 0, noStr⟩, 0, noStr, 0, 0⟩⟩
theorem Dr.Lat.grows {w w' : World} (h : Dr.Lat w w') : ∃ q os', w' = grow (w.drewN q) os' := by
  refine ⟨w'.drawn - w.drawn, w'.heap.extract w.heap.size w'.heap.size, ?_⟩
  have h1 := h.os
  have h2 := h.tape
  have h3 := h.output
  have h4 := h.drawn
  have h5 : w'.heap = w.heap ++ w'.heap.extract w.heap.size w'.heap.size := by
    apply Array.ext_getElem?
    intro i
    have hs := h.size
    by_cases hi : i < w.heap.size
    · rw [Array.getElem?_append_left hi]; exact h.block i hi
    · rw [Array.getElem?_append_right (by omega), Array.getElem?_extract]
      split
      · congr 1; omega
      · rw [Array.getElem?_eq_none (by omega)]
  cases w' with
  | mk heap tape drawn os output =>
    cases w with
    | mk heap0 tape0 drawn0 os0 output0 =>
      simp only [grow, World.drewN] at *
      subst h1 h2 h3
      rw [← h5]
      congr 1
      omega
theorem ltW (x y : LW) : ltOf ordI x y = wless x y := by
  unfold ltOf
  rw [Bool.eq_iff_iff]
  simp only [decide_eq_true_eq]
  exact cmpI_neg x y
theorem swoW : SWO (ltOf ordI) where
  irrefl x := by rw [ltW]; exact sto_wless.irrefl x
  trans x y z h1 h2 := by rw [ltW] at *; exact sto_wless.trans _ _ _ h1 h2
  ntrans x y z h1 h2 := by
    rw [ltW] at *
    by_cases h : wless x z = true
    · exfalso
      by_cases e1 : x = y
      · subst e1; rw [h] at h2; cases h2
      · have h3 := sto_wless.trans _ _ _ (sto_wless.tri _ _ h1 e1) h
        rw [h2] at h3; cases h3
    · simpa using h
theorem wC_len (x : LW) : (wC x).length = 10 := rfl
theorem flat_get : ∀ (l : List LW) (t : Nat), t < l.length * 10 → (l.map wC).flatten[t]? = some ((wC l[t / 10]!)[t % 10]!)
  | [], t, h => by simp at h
  | s :: r, t, h => by
    rw [List.map_cons, List.flatten_cons]
    by_cases ht : t < 10
    · rw [List.getElem?_append_left (by rw [wC_len]; exact ht), show t / 10 = 0 from by omega, show t % 10 = t from by omega]
      simp only [List.getElem!_cons_zero]
      rw [List.getElem?_eq_getElem (by rw [wC_len]; exact ht), getElem!_pos (wC s) t (by rw [wC_len]; exact ht)]
    · rw [List.getElem?_append_right (by rw [wC_len]; omega), wC_len, flat_get r (t - 10) (by simp at h; omega)]
      have e1 : t / 10 = (t - 10) / 10 + 1 := by omega
      have e2 : t % 10 = (t - 10) % 10 := by omega
      rw [e1, e2]
      simp
theorem own_holds {w : World} {base g n cap : Nat} {l : List LW} (h : w.ownsRow base 29 10 (.slice (some ⟨g, 0, none⟩) n cap) n (l.map wC).flatten) (hn : l.length = n) : HoldsK wC 10 w g 0 l.toArray := by
  intro j hj
  rw [size_flatK, List.size_toArray] at hj
  rw [Nat.zero_add]
  refine ⟨?_, h.frozenAt j⟩
  rw [h.cellAt j (by omega), flat_get l j hj, get_flatK _ _ _ _ (by simpa using hj)]
  simp
theorem own_put {w : World} {base g n cap q : Nat} {l d : List LW} (h : w.ownsRow base 29 10 (.slice (some ⟨g, 0, none⟩) n cap) n (l.map wC).flatten) (hd : d.length = n) :
    (putRowK wC 10 (Sort.ahead w q) g 0 d.toArray).ownsRow base 29 10 (.slice (some ⟨g, 0, none⟩) n cap) n (d.map wC).flatten := by
  rcases h.2 with ⟨e0, _⟩ | ⟨g', cap', cur, e0, hb, hg, hn, hm, hs, ht⟩
  · cases e0
  · injection e0 with e1 _ e3
    injection e1 with e1
    injection e1 with e1
    subst e1; subst e3
    have hfl : (d.map wC).flatten.length = n * 10 := by
      have := EW.flat d
      rw [show (d.map EW.f) = d.map wC from rfl] at this
      rw [this, hd]; rfl
    refine ⟨hfl, .inr ⟨g, cap, putCells id 0 (flatK wC 10 d.toArray) cur, rfl, hb, ?_, hn, hm, by simpa [putCells] using hs, ?_⟩⟩
    · simp [putRowK, putRow, mapBlock, Sort.ahead, Array.getElem?_modify, hg, onCells]
    · apply List.ext_getElem?
      intro j
      rw [List.getElem?_take, Array.getElem?_toList]
      by_cases hj : j < n * 10
      · have hjc : j < cur.size := by omega
        rw [if_pos hj, flat_get d j (by omega)]
        simp only [putCells, Array.getElem?_mapIdx, Array.getElem?_eq_getElem hjc, Option.map_some]
        rw [if_pos (by simp; omega), Nat.sub_zero, get_flatK _ _ _ _ (by simp; omega)]
        simp
      · rw [if_neg hj, List.getElem?_eq_none (by omega)]
theorem own_grow {w : World} {B : Nat} {e : TypeId} {size : Nat} {v : Value} {n : Nat} {xs : List Value} (h : w.ownsRow B e size v n xs) (os : Array Obj) : (grow w os).ownsRow B e size v n xs := by
  obtain ⟨hl, h0 | ⟨g, cap, cur, hv, hb, hh, r⟩⟩ := h
  · exact ⟨hl, .inl h0⟩
  · have hg : g < w.heap.size := (Array.getElem?_eq_some_iff.1 hh).1
    refine ⟨hl, .inr ⟨g, cap, cur, hv, hb, ?_, r⟩⟩
    rw [← hh]
    show (w.heap ++ os)[g]? = w.heap[g]?
    exact Array.getElem?_append_left hg
theorem below_growW (B : Nat) (w : World) (hB : B ≤ w.heap.size) (os : Array Obj) : RowKit.Below B w (grow w os) :=
  ⟨rfl, rfl, rfl, by show w.heap.size ≤ (w.heap ++ os).size; rw [Array.size_append]; omega, fun j hj => by
    show (w.heap ++ os)[j]? = w.heap[j]?
    exact Array.getElem?_append_left (by omega)⟩
theorem below_sort {B g q : Nat} {w : World} (hB : B ≤ w.heap.size) (hg : B ≤ g) (d : Array LW) (os : Array Obj) : RowKit.Below B w (sortWorldK wC 10 w g 0 q d os) := by
  have h1 : RowKit.Below B w (putRowK wC 10 (Sort.ahead w q) g 0 d) := below_putRow (RowKit.Below.refl B w) hg
  exact h1.trans (below_growW B _ (Nat.le_trans hB h1.size) os)

def SortPost (l : List LW) (v : Value) (base : Nat) (w : World) (e : Ending) (w' : World) : Prop :=
  ∃ d : List LW, e = .returned (.tuple #[]) ∧ d.Perm l ∧ d.Pairwise (fun a b => wless b a = false) ∧ EW.Own w' base d v ∧ w.heap.size ≤ w'.heap.size ∧ ∀ B, B ≤ base → B ≤ w.heap.size → RowKit.Below B w w'

set_option maxHeartbeats 2000000 in
theorem ins_none (p : Option Addr) (cap : Nat) (fv : Value) (w : World) : Calls Tryd.prog 58 #[.slice p 0 cap, .int .i64 0, .int .i64 0, fv] w fun e w' => e = .returned (.tuple #[]) ∧ w = w' := by
  go_enter Tryd.func58, Tryd.ntmps58
  go_wp2_with fail
  refine wp_loop_rounds 1 ?_
  rw [rounds_succ]
  go_wp2_with fail
  go_end0
  exact ⟨rfl, rfl⟩
set_option maxHeartbeats 2000000 in
theorem pdq_none (p : Option Addr) (cap : Nat) (lim : Int) (fv : Value) (w : World) : Calls Tryd.prog 50 #[.slice p 0 cap, .int .i64 0, .int .i64 0, .int .i64 lim, fv] w fun e w' => e = .returned (.tuple #[]) ∧ w = w' := by
  go_enter Tryd.func50, Tryd.ntmps50
  go_wp2_with fail
  refine wp_loop_rounds 1 ?_
  rw [rounds_succ]
  go_wp2_with (go_at_call 58; refine (ins_none _ _ _ _).mono ?_; rintro e w' ⟨rfl, rfl⟩)
  (try simp only [Exit.inBlock, Exit.then]); refine bodyPost_ret (results_none rfl _ _ _) rfl ?_
  exact ⟨rfl, rfl⟩
set_option maxHeartbeats 2000000 in
theorem sort_none (p : Option Addr) (cap : Nat) (fv : Value) (w : World) : Calls Tryd.prog 32 #[.slice p 0 cap, fv] w fun e w' => e = .returned (.tuple #[]) ∧ w = w' := by
  have hl : ∀ W, Hid (Calls Tryd.prog 51 #[.int .u64 0] W fun e w' => e = .returned (.int .i64 (Lib.bitLen 0 : Nat)) ∧ w' = W) := fun W => Lib.hid (by
    have h := Any.bits_Len (SlLaysF0.n15.bits (P := Tryd.prog) (ρ := sortW_ren) { sortW with }) 0 W (by omega) (by omega)
    exact h)
  go_enter Tryd.func32, Tryd.ntmps32
  go_wp2_with (first | (go_at_call 51; refine (hl _).out.mono ?_; rintro e w' ⟨rfl, rfl⟩) | (go_at_call 50; refine (pdq_none _ _ _ _ _).mono ?_; rintro e w' ⟨rfl, rfl⟩))
  go_end0
  exact ⟨rfl, rfl⟩

theorem sort_any (l : List LW) (v : Value) (base : Nat) (w : World) (hown : EW.Own w base l v) (hl : l.length ≤ 1000000) :
    Calls Tryd.prog 32 #[v, .func (.func 33) #[] #[]] w (SortPost l v base w) := by
  cases l with
  | nil =>
    obtain ⟨A, c, hv⟩ := hown.slice
    subst hv
    refine (sort_none A c _ w).mono ?_
    rintro e w' ⟨rfl, rfl⟩
    exact ⟨[], rfl, List.Perm.refl _, List.Pairwise.nil, hown, Nat.le_refl _, fun B _ _ => RowKit.Below.refl _ _⟩
  | cons s r =>
    have hown' : w.ownsRow base 29 10 v (s :: r).length ((s :: r).map wC).flatten := hown
    obtain ⟨g, cap, rfl, hbg, hgl⟩ := hown'.form (by simp)
    have eg : ∀ args w, (callFunc 33 args).run Tryd.prog w = .ok (.enter 33 args) w := enters_of Tryd.func33 (by kernel_rfl) rfl
    have hH := own_holds hown' rfl
    have hcon := AnyQ.slices_SortFunc sortW 10 Tryd.isAgg29 Tryd.sizeOf29 wC (fun _ => rfl) (fun x v hv => EW.one x v hv) ordI swoW 33 #[] g 0 cap (s :: r).toArray w eg (fun _ _ _ _ x y => (closure_any x y _).mono fun e w' h => ⟨h.1, h.2.grows⟩) hH hgl (by simp at hl ⊢; omega)
    refine hcon.mono ?_
    rintro e w' ⟨rfl, d', n, os, hp, hs, rfl⟩
    obtain ⟨hp1, _, hp2⟩ := hp
    have hsz : d'.size = (s :: r).length := by rw [hp1]; simp
    have e1 : d'.extract 0 (s :: r).toArray.size = d' := by rw [List.size_toArray, ← hsz]; exact Array.extract_size
    have e2 : (s :: r).toArray.extract 0 (s :: r).toArray.size = (s :: r).toArray := Array.extract_size
    rw [e1, e2] at hp2
    have hl' : d'.toList.length = (s :: r).length := by rw [Array.length_toList]; exact hsz
    refine ⟨d'.toList, rfl, by simpa using hp2, ?_, ?_, (below_sort (B := 0) (Nat.zero_le _) (Nat.zero_le _) _ _).size, fun B h1 h2 => below_sort h2 (by omega) _ _⟩
    · rw [List.pairwise_iff_getElem]
      intro i j hi hj hij
      have := hs i j (Nat.zero_le _) hij (by simp; simpa [hsz] using hj)
      rw [ltW] at this
      have hi' : i < d'.size := by simpa using hi
      have hj' : j < d'.size := by simpa using hj
      rw [getElem!_pos d' i hi', getElem!_pos d' j hj'] at this
      simpa using this
    · have := own_grow (own_put (q := n) (d := d'.toList) hown' hl') os
      rw [Array.toArray_toList] at this
      unfold Elt.Own
      rw [hl']
      exact this
end Go.Proofs.YtgjoojailghilaaDoor
