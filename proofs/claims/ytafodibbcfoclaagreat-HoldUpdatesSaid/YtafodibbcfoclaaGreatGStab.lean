/- Guard: the plain law of a stable sort: insertion blocks and a merge by rotations, at elements with their first places. -/
import Derived.Sort.LotA
import Derived.Sort.WalkA
set_option linter.unusedSimpArgs false
set_option linter.unusedVariables false
namespace Go.Proofs.YtafodibbcfoclaaGreat
open Go Go.Sort
section
variable {β : Type} [Inhabited β]

/-- Less, or alike and of an earlier place. -/
def tl (lt : β → β → Bool) (x y : β × Nat) : Bool := lt x.1 y.1 || (!lt y.1 x.1 && decide (x.2 < y.2))
/-- The comparison alone. -/
def l1 (lt : β → β → Bool) (x y : β × Nat) : Bool := lt x.1 y.1
variable {lt : β → β → Bool}
omit [Inhabited β] in
theorem tl_iff (x y : β × Nat) : tl lt x y = true ↔ lt x.1 y.1 = true ∨ (lt y.1 x.1 = false ∧ x.2 < y.2) := by
  unfold tl; simp
omit [Inhabited β] in
theorem tl_no (x y : β × Nat) : tl lt x y = false ↔ lt x.1 y.1 = false ∧ (lt y.1 x.1 = true ∨ y.2 ≤ x.2) := by
  rw [← Bool.not_eq_true, tl_iff]
  cases h1 : lt x.1 y.1 <;> cases h2 : lt y.1 x.1 <;> simp
omit [Inhabited β] in
theorem tl_swo (h : SWO lt) : SWO (tl lt) where
  irrefl x := by rw [tl_no]; exact ⟨h.irrefl _, .inr (Nat.le_refl _)⟩
  trans x y z := by
    rw [tl_iff, tl_iff, tl_iff]
    rintro (h1 | ⟨h1, h2⟩) (h3 | ⟨h3, h4⟩)
    · exact .inl (h.trans _ _ _ h1 h3)
    · left
      cases hx : lt x.1 z.1 with
      | true => rfl
      | false =>
        have := h.ntrans _ _ _ hx h3
        rw [h1] at this; cases this
    · left
      cases hx : lt x.1 z.1 with
      | true => rfl
      | false =>
        have := h.ntrans _ _ _ h1 hx
        rw [h3] at this; cases this
    · exact .inr ⟨h.ntrans _ _ _ h3 h1, by omega⟩
  ntrans x y z := by
    rw [tl_no, tl_no, tl_no]
    rintro ⟨h1, h2⟩ ⟨h3, h4⟩
    refine ⟨h.ntrans _ _ _ h1 h3, ?_⟩
    cases hz : lt z.1 x.1 with
    | true => exact .inl rfl
    | false =>
      right
      have e1 : lt y.1 x.1 = false := by
        cases hh : lt y.1 x.1 with
        | false => rfl
        | true =>
          have := h.ntrans _ _ _ h3 hz
          rw [hh] at this; cases this
      have e2 : lt z.1 y.1 = false := by
        cases hh : lt z.1 y.1 with
        | false => rfl
        | true =>
          have := h.ntrans _ _ _ hz h1
          rw [hh] at this; cases this
      rw [e1] at h2
      rw [e2] at h4
      have h5 := h2.resolve_left (by decide)
      have h6 := h4.resolve_left (by decide)
      omega
omit [Inhabited β] in
theorem tl_tot (x y : β × Nat) (h1 : tl lt x y = false) (h2 : tl lt y x = false) : x.2 = y.2 := by
  rw [tl_no] at h1 h2
  rcases h1.2 with h | h
  · rw [h2.1] at h; cases h
  · rcases h2.2 with h' | h'
    · rw [h1.1] at h'; cases h'
    · omega
omit [Inhabited β] in
/-- Where the second one's place is later, the comparison alone tells. -/
theorem tl_l1 {x y : β × Nat} (h : x.2 < y.2) : tl lt y x = l1 lt y x := by
  unfold tl l1
  rw [decide_eq_false (by omega : ¬ y.2 < x.2), Bool.and_false, Bool.or_false]
theorem insInner_l1 (a : Nat) : ∀ (j : Nat) (d : Array (β × Nat)), j < d.size → (∀ q, a ≤ q → q < j → d[q]!.2 < d[j]!.2) → insInner (l1 lt) a j d = insInner (tl lt) a j d := by
  intro j
  induction j with
  | zero => intro d _ _; simp [insInner]
  | succ j ih =>
    intro d hs h
    unfold insInner
    by_cases ha : j + 1 > a
    · have h1 := h j (by omega) (by omega)
      rw [tl_l1 h1]
      by_cases hl : l1 lt d[j + 1]! d[j]! = true
      · rw [if_pos (by simp [ha, hl]), if_pos (by simp [ha, hl])]
        refine ih _ (by rw [size_swp]; omega) fun q h2 h3 => ?_
        rw [swp_get d hs (by omega), swp_get d hs (by omega), if_neg (by omega), if_neg (by omega), if_pos rfl]
        exact h q h2 (by omega)
      · rw [if_neg (by simp [hl]), if_neg (by simp [hl])]
    · rw [if_neg (by simp [ha]), if_neg (by simp [ha])]
theorem insOuter_l1 (h0 : SWO lt) (a b : Nat) : ∀ (n i : Nat) (d : Array (β × Nat)), b - i = n → a < i → i ≤ b → b ≤ d.size → SortedIn (tl lt) a i d → (∀ p q, a ≤ q → q < p → i ≤ p → p < b → d[q]!.2 < d[p]!.2) → insOuter (l1 lt) a b i d = insOuter (tl lt) a b i d := by
  intro n
  induction n with
  | zero =>
    intro i d hn _ hib _ _ _
    rw [insOuter_stop (l1 lt) a b i d (by omega), insOuter_stop (tl lt) a b i d (by omega)]
  | succ n ih =>
    intro i d hn hai hib hb hso h
    rw [insOuter_go (l1 lt) a b i d (by omega), insOuter_go (tl lt) a b i d (by omega), insInner_l1 a i d (by omega) (fun q h1 h2 => h i q h1 h2 (Nat.le_refl _) (by omega))]
    have h1 := insInner_spec (tl_swo h0) swp_permIn permIn_refl permIn_trans a (i + 1) i (by omega) i d (by omega) (Nat.le_refl _) (by omega) ⟨fun p q hap hpq hqi _ hq => hso p q hap hpq (by omega), fun q h1 h2 => by omega⟩
    have hout := h1.1.2.1
    refine ih (i + 1) _ (by omega) (by omega) (by omega) (by rw [h1.1.1]; exact hb) h1.2 fun p q h2 h3 h4 h5 => ?_
    rw [hout p (.inr (by omega))]
    by_cases hq : i + 1 ≤ q
    · rw [hout q (.inr hq)]; exact h p q h2 h3 (by omega) h5
    · refine permIn_all d _ a (i + 1) (fun x => x.2 < d[p]!.2) (by omega) h1.1 (fun k h6 h7 => ?_) q h2 (by omega)
      exact h p k h6 (by omega) (by omega) h5
/-- A block whose places ascend: the insertion sort is the stable order. -/
theorem ins_stable (h0 : SWO lt) (d : Array (β × Nat)) (a b : Nat) (hab : a ≤ b) (hb : b ≤ d.size) (h : ∀ p q, a ≤ q → q < p → p < b → d[q]!.2 < d[p]!.2) :
    PermIn a b d (insertionSort (l1 lt) d a b) ∧ SortedIn (tl lt) a b (insertionSort (l1 lt) d a b) := by
  by_cases he : a = b
  · subst he
    unfold insertionSort
    rw [insOuter, if_neg (by omega)]
    exact ⟨permIn_refl d a a, fun i j h1 h2 h3 => by omega⟩
  · have : insertionSort (l1 lt) d a b = insertionSort (tl lt) d a b := by
      unfold insertionSort
      exact insOuter_l1 h0 a b (b - (a + 1)) (a + 1) d rfl (by omega) (by omega) hb (fun i j h1 h2 h3 => by omega) (fun p q h1 h2 _ h3 => h p q h1 h2 h3)
    rw [this]
    exact insertionSort_holds (tl_swo h0) d a b hab hb

/-- What a merge asks: both halves in the stable order, all places of the first ahead of those of the second. -/
structure Half (lt : β → β → Bool) (d : Array (β × Nat)) (a m b : Nat) : Prop where
  left : SortedIn (tl lt) a m d
  right : SortedIn (tl lt) m b d
  tags : ∀ p q, a ≤ p → p < m → m ≤ q → q < b → d[p]!.2 < d[q]!.2
/-- The second half's element is less: told by the comparison alone. -/
theorem Half.cmp {d : Array (β × Nat)} {a m b : Nat} (h : Half lt d a m b) {p q : Nat} (h1 : a ≤ p) (h2 : p < m) (h3 : m ≤ q) (h4 : q < b) : tl lt d[q]! d[p]! = l1 lt d[q]! d[p]! := tl_l1 (h.tags p q h1 h2 h3 h4)
theorem Half.other {d : Array (β × Nat)} {a m b : Nat} (h : Half lt d a m b) {p q : Nat} (h1 : a ≤ p) (h2 : p < m) (h3 : m ≤ q) (h4 : q < b) (hn : tl lt d[q]! d[p]! = false) : tl lt d[p]! d[q]! = true := by
  cases hh : tl lt d[p]! d[q]! with
  | true => rfl
  | false =>
    have := tl_tot _ _ hh hn
    have := h.tags p q h1 h2 h3 h4
    omega

/-- One place moved up: what lay at a lies at i - 1. -/
def Up (d d' : Array (β × Nat)) (a i : Nat) : Prop := PermIn a i d d' ∧ ∀ x, d'[x]! = if a ≤ x ∧ x + 1 < i then d[x + 1]! else if x + 1 = i ∧ a ≤ x then d[a]! else d[x]!
/-- One place moved down: what lay at m lies at i. -/
def Down (d d' : Array (β × Nat)) (i m : Nat) : Prop := PermIn i (m + 1) d d' ∧ ∀ x, d'[x]! = if i < x ∧ x ≤ m then d[x - 1]! else if x = i then d[m]! else d[x]!
/-- Two neighbouring rows exchanged. -/
def Rot (d d' : Array (β × Nat)) (a m b : Nat) : Prop := PermIn a b d d' ∧ ∀ x, d'[x]! = if a ≤ x ∧ x < a + (b - m) then d[x + (m - a)]! else if a + (b - m) ≤ x ∧ x < b then d[x - (b - m)]! else d[x]!

theorem Up.start (d : Array (β × Nat)) (a : Nat) : Up d d a (a + 1) := ⟨permIn_refl d a (a + 1), fun x => by
  rw [if_neg (by omega)]
  split
  · rename_i h; obtain rfl : x = a := by omega
    rfl
  · rfl⟩
theorem Up.step {d d' : Array (β × Nat)} {a k : Nat} (h : Up d d' a (k + 1)) (hak : a ≤ k) (hk : k + 1 < d.size) : Up d (swp d' k (k + 1)) a (k + 2) := by
  have hs := h.1.1
  refine ⟨permIn_trans _ _ _ _ _ (permIn_mono _ _ a (k + 1) a (k + 2) (Nat.le_refl _) (by omega) (by omega) h.1) (swp_permIn d' a (k + 2) k (k + 1) hak (by omega) (by omega) (by omega) (by rw [hs]; omega)), fun x => ?_⟩
  rw [swp_get d' (by rw [hs]; omega) (by rw [hs]; omega), h.2 k, h.2 (k + 1), h.2 x]
  by_cases h1 : x = k + 1
  · subst h1
    rw [if_pos rfl, if_neg (by omega), if_pos (by omega), if_neg (by omega), if_pos (by omega)]
  · rw [if_neg h1]
    by_cases h2 : x = k
    · subst h2
      rw [if_pos rfl, if_neg (by omega), if_neg (by omega), if_pos (by omega)]
    · rw [if_neg h2]
      by_cases h3 : a ≤ x ∧ x + 1 < k + 1
      · rw [if_pos h3, if_pos (by omega)]
      · rw [if_neg h3, if_neg (by omega), if_neg (by omega), if_neg (by omega)]
theorem Down.start (d : Array (β × Nat)) (m : Nat) : Down d d m m := ⟨permIn_refl d m (m + 1), fun x => by
  rw [if_neg (by omega)]
  split
  · rename_i h; subst h; rfl
  · rfl⟩
theorem Down.step {d d' : Array (β × Nat)} {k m : Nat} (h : Down d d' (k + 1) m) (hk : k + 1 ≤ m) (hm : m < d.size) : Down d (swp d' (k + 1) k) k m := by
  have hs := h.1.1
  refine ⟨permIn_trans _ _ _ _ _ (permIn_mono _ _ (k + 1) (m + 1) k (m + 1) (by omega) (Nat.le_refl _) (by omega) h.1) (swp_permIn d' k (m + 1) (k + 1) k (by omega) (by omega) (by omega) (by omega) (by rw [hs]; omega)), fun x => ?_⟩
  rw [swp_get d' (by rw [hs]; omega) (by rw [hs]; omega), h.2 k, h.2 (k + 1), h.2 x]
  by_cases h1 : x = k
  · subst h1
    rw [if_pos rfl, if_neg (by omega), if_pos rfl, if_neg (by omega), if_pos rfl]
  · rw [if_neg h1]
    by_cases h2 : x = k + 1
    · subst h2
      rw [if_pos rfl, if_neg (by omega), if_neg (by omega), if_pos (by omega), Nat.add_sub_cancel]
    · rw [if_neg h2]
      by_cases h3 : k + 1 < x ∧ x ≤ m
      · rw [if_pos h3, if_pos (by omega)]
      · rw [if_neg h3, if_neg (by omega), if_neg (by omega), if_neg (by omega)]

/-- Two rows of n elements exchanged. -/
def SwapR (d d' : Array (β × Nat)) (a b n : Nat) : Prop := PermIn a (b + n) d d' ∧ ∀ x, d'[x]! = if a ≤ x ∧ x < a + n then d[x + (b - a)]! else if b ≤ x ∧ x < b + n then d[x - (b - a)]! else d[x]!
theorem SwapR.start (d : Array (β × Nat)) (a b : Nat) : SwapR d d a b 0 := ⟨permIn_refl d a (b + 0), fun x => by rw [if_neg (by omega), if_neg (by omega)]⟩
theorem SwapR.step {d d' : Array (β × Nat)} {a b n i : Nat} (h : SwapR d d' a b i) (hi : i < n) (hab : a + n ≤ b) (hb : b + n ≤ d.size) : SwapR d (swp d' (a + i) (b + i)) a b (i + 1) := by
  have hs := h.1.1
  refine ⟨permIn_trans _ _ _ _ _ (permIn_mono _ _ a (b + i) a (b + (i + 1)) (Nat.le_refl _) (by omega) (by omega) h.1) (swp_permIn d' a (b + (i + 1)) (a + i) (b + i) (by omega) (by omega) (by omega) (by omega) (by omega)), fun x => ?_⟩
  rw [swp_get d' (by omega) (by omega), h.2 (a + i), h.2 (b + i), h.2 x]
  by_cases h1 : x = b + i
  · subst h1
    rw [if_pos rfl, if_neg (by omega), if_neg (by omega), if_neg (by omega), if_pos (by omega)]
    congr 1 <;> omega
  · rw [if_neg h1]
    by_cases h2 : x = a + i
    · subst h2
      rw [if_pos rfl, if_neg (by omega), if_neg (by omega), if_pos (by omega)]
      congr 1 <;> omega
    · rw [if_neg h2]
      by_cases h3 : a ≤ x ∧ x < a + i
      · rw [if_pos h3, if_pos (by omega)]
      · by_cases h4 : b ≤ x ∧ x < b + i
        · rw [if_neg h3, if_pos h4, if_neg (by omega), if_pos (by omega)]
        · rw [if_neg h3, if_neg h4, if_neg (by omega), if_neg (by omega)]
/-- What lies at x behind a rotation. -/
def rotv (d : Array (β × Nat)) (a m b x : Nat) : β × Nat := if a ≤ x ∧ x < a + (b - m) then d[x + (m - a)]! else if a + (b - m) ≤ x ∧ x < b then d[x - (b - m)]! else d[x]!
/-- The rotation, begun: what is left is the rotation of i elements and j behind them. -/
structure RotS (d dk : Array (β × Nat)) (a m b i j : Nat) : Prop where
  hi : 1 ≤ i
  hj : 1 ≤ j
  ha : a + i ≤ m
  hb : m + j ≤ b
  hp : PermIn a b d dk
  hv : ∀ x, rotv d a m b x = rotv dk (m - i) m (m + j) x
theorem RotS.start (d : Array (β × Nat)) {a m b : Nat} (h1 : a < m) (h2 : m < b) : RotS d d a m b (m - a) (b - m) :=
  ⟨by omega, by omega, by omega, by omega, permIn_refl d a b, fun x => by rw [show m - (m - a) = a from by omega, show m + (b - m) = b from by omega]⟩
theorem RotS.left {d dk dk' : Array (β × Nat)} {a m b i j : Nat} (h : RotS d dk a m b i j) (hij : j < i) (hb : b ≤ d.size) (hs : SwapR dk dk' (m - i) m j) : RotS d dk' a m b (i - j) j := by
  obtain ⟨h1, h2, h3, h4, hp, hv⟩ := h
  have hz := hp.1
  have hz2 := hs.1.1
  refine ⟨by omega, h2, by omega, h4, permIn_trans _ _ _ _ _ hp (permIn_mono _ _ _ _ a b (by omega) (by omega) (by omega) hs.1), fun x => ?_⟩
  rw [hv x]
  unfold rotv
  rw [hs.2, hs.2, hs.2]
  by_cases c1 : m - i ≤ x ∧ x < m - i + j
  · rw [if_pos (by omega), if_neg (by omega), if_neg (by omega), if_pos c1]
  · rw [if_neg (by omega)]
    by_cases c2 : m - i + j ≤ x ∧ x < m + j
    · rw [if_pos (by omega)]
      by_cases c3 : x < m - i + 2 * j
      · rw [if_pos (by omega), if_neg (by omega), if_pos (by omega)]
        congr 1 <;> omega
      · rw [if_neg (by omega), if_pos (by omega), if_neg (by omega), if_neg (by omega)]
    · rw [if_neg (by omega), if_neg (by omega), if_neg (by omega), if_neg c1, if_neg (by omega)]
theorem RotS.right {d dk dk' : Array (β × Nat)} {a m b i j : Nat} (h : RotS d dk a m b i j) (hij : i < j) (hb : b ≤ d.size) (hs : SwapR dk dk' (m - i) (m + j - i) i) : RotS d dk' a m b i (j - i) := by
  obtain ⟨h1, h2, h3, h4, hp, hv⟩ := h
  have hz := hp.1
  have hz2 := hs.1.1
  refine ⟨h1, by omega, h3, by omega, permIn_trans _ _ _ _ _ hp (permIn_mono _ _ _ _ a b (by omega) (by omega) (by omega) hs.1), fun x => ?_⟩
  rw [hv x]
  unfold rotv
  rw [hs.2, hs.2, hs.2]
  by_cases c1 : m - i ≤ x ∧ x < m - i + j
  · rw [if_pos (by omega)]
    by_cases c2 : x < m - i + (j - i)
    · rw [if_pos (by omega), if_neg (by omega), if_neg (by omega)]
    · rw [if_neg (by omega), if_pos (by omega), if_pos (by omega)]
      congr 1 <;> omega
  · rw [if_neg (by omega)]
    by_cases c2 : m - i + j ≤ x ∧ x < m + j
    · rw [if_pos (by omega), if_neg (by omega), if_neg (by omega), if_neg (by omega), if_pos (by omega)]
      congr 1 <;> omega
    · rw [if_neg (by omega), if_neg (by omega), if_neg (by omega), if_neg (by omega), if_neg (by omega)]
theorem RotS.fin {d dk dk' : Array (β × Nat)} {a m b i : Nat} (h : RotS d dk a m b i i) (hb : b ≤ d.size) (hs : SwapR dk dk' (m - i) m i) : Rot d dk' a m b := by
  obtain ⟨h1, h2, h3, h4, hp, hv⟩ := h
  have hz := hp.1
  have hz2 := hs.1.1
  refine ⟨permIn_trans _ _ _ _ _ hp (permIn_mono _ _ _ _ a b (by omega) (by omega) (by omega) hs.1), fun x => ?_⟩
  refine Eq.trans ?_ (hv x).symm
  unfold rotv
  rw [hs.2]
  by_cases c1 : m - i ≤ x ∧ x < m - i + i
  · rw [if_pos c1, if_pos (by omega)]
  · rw [if_neg c1]
    by_cases c2 : m ≤ x ∧ x < m + i
    · rw [if_pos c2, if_neg (by omega), if_pos (by omega)]
      congr 1 <;> omega
    · rw [if_neg c2, if_neg (by omega), if_neg (by omega)]
/-- The first half is one element: it is laid behind all that are less. -/
theorem merge_up {d d' : Array (β × Nat)} {a b i : Nat} (h0 : SWO lt) (h : Half lt d a (a + 1) b) (h1 : a + 1 ≤ i) (h2 : i ≤ b) (hb : b ≤ d.size) (hlo : ∀ q, a + 1 ≤ q → q < i → tl lt d[q]! d[a]! = true) (hhi : ∀ q, i ≤ q → q < b → tl lt d[q]! d[a]! = false) (hu : Up d d' a i) :
    PermIn a b d d' ∧ SortedIn (tl lt) a b d' := by
  have hT := tl_swo h0
  refine ⟨permIn_mono _ _ a i a b (Nat.le_refl _) h2 (by have := hu.1.1; omega) hu.1, fun p q h3 h4 h5 => ?_⟩
  rw [hu.2 p, hu.2 q]
  by_cases c1 : p + 1 < i
  · rw [if_pos (by omega : a ≤ p ∧ p + 1 < i)]
    by_cases c2 : q + 1 < i
    · rw [if_pos (by omega)]; exact h.right _ _ (by omega) (by omega) (by omega)
    · rw [if_neg (by omega)]
      by_cases c3 : q + 1 = i
      · rw [if_pos (by omega)]; exact hT.asymmA (hlo (p + 1) (by omega) (by omega))
      · rw [if_neg (by omega)]; exact h.right _ _ (by omega) (by omega) (by omega)
  · rw [if_neg (by omega : ¬ (a ≤ p ∧ p + 1 < i)), if_neg (by omega : ¬ (a ≤ q ∧ q + 1 < i)), if_neg (by omega : ¬ (q + 1 = i ∧ a ≤ q))]
    by_cases c2 : p + 1 = i
    · rw [if_pos (by omega)]; exact hhi q (by omega) h5
    · rw [if_neg (by omega)]; exact h.right _ _ (by omega) h4 h5
/-- The second half is one element: it is laid ahead of all that are greater. -/
theorem merge_down {d d' : Array (β × Nat)} {a m i : Nat} (h0 : SWO lt) (h : Half lt d a m (m + 1)) (h1 : a ≤ i) (h2 : i ≤ m) (hb : m + 1 ≤ d.size) (hlo : ∀ q, a ≤ q → q < i → tl lt d[m]! d[q]! = false) (hhi : ∀ q, i ≤ q → q < m → tl lt d[m]! d[q]! = true) (hu : Down d d' i m) :
    PermIn a (m + 1) d d' ∧ SortedIn (tl lt) a (m + 1) d' := by
  have hT := tl_swo h0
  refine ⟨permIn_mono _ _ i (m + 1) a (m + 1) h1 (Nat.le_refl _) (by have := hu.1.1; omega) hu.1, fun p q h3 h4 h5 => ?_⟩
  rw [hu.2 p, hu.2 q]
  by_cases c1 : i < p
  · rw [if_pos (by omega : i < p ∧ p ≤ m), if_pos (by omega : i < q ∧ q ≤ m)]; exact h.left _ _ (by omega) (by omega) (by omega)
  · rw [if_neg (by omega : ¬ (i < p ∧ p ≤ m))]
    by_cases c2 : p = i
    · rw [if_pos c2, if_pos (by omega : i < q ∧ q ≤ m)]; exact hT.asymmA (hhi (q - 1) (by omega) (by omega))
    · rw [if_neg c2]
      by_cases c3 : i < q
      · rw [if_pos (by omega : i < q ∧ q ≤ m)]; exact h.left _ _ (by omega) (by omega) (by omega)
      · rw [if_neg (by omega : ¬ (i < q ∧ q ≤ m))]
        by_cases c4 : q = i
        · rw [if_pos c4]; exact hlo p h3 (by omega)
        · rw [if_neg c4]; exact h.left _ _ (by omega) (by omega) (by omega)

/-- Where the rotation cuts: the first half's first elements, and as many of the second's that together fill the half. -/
structure Cut (lt : β → β → Bool) (d : Array (β × Nat)) (a m b mid start : Nat) : Prop where
  h1 : a ≤ start
  h2 : start ≤ m
  h3 : m ≤ mid + m - start
  h4 : mid + m - start ≤ b
  h5 : start ≤ mid
  lo : ∀ c, a ≤ c → c < start → m ≤ mid + m - 1 - c → mid + m - 1 - c < b → tl lt d[mid + m - 1 - c]! d[c]! = false
  hi : ∀ c, start ≤ c → c < m → m ≤ mid + m - 1 - c → mid + m - 1 - c < b → tl lt d[mid + m - 1 - c]! d[c]! = true
theorem halves {d d' : Array (β × Nat)} {a m b mid start : Nat} (h0 : SWO lt) (h : Half lt d a m b) (hc : Cut lt d a m b mid start) (ham : a ≤ mid) (hmb : mid ≤ b) (hb : b ≤ d.size) (hr : Rot d d' start m (mid + m - start)) :
    Half lt d' a start mid ∧ Half lt d' mid (mid + m - start) b ∧ ∀ p q, a ≤ p → p < mid → mid ≤ q → q < b → tl lt d'[q]! d'[p]! = false := by
  have hT := tl_swo h0
  obtain ⟨h1, h2, h3, h4, h5, lo, hi⟩ := hc
  have hE : mid + m - start - m = mid - start := by omega
  have gp : ∀ x, d'[x]! = if start ≤ x ∧ x < mid then d[x + (m - start)]! else if mid ≤ x ∧ x < mid + m - start then d[x - (mid - start)]! else d[x]! := fun x => by
    rw [hr.2 x, hE, show start + (mid - start) = mid from by omega]
  have gA : ∀ x, x < start → d'[x]! = d[x]! := fun x hx => by rw [gp, if_neg (by omega), if_neg (by omega)]
  have gB : ∀ x, start ≤ x → x < mid → d'[x]! = d[x + (m - start)]! := fun x hx hy => by rw [gp, if_pos ⟨hx, hy⟩]
  have gC : ∀ x, mid ≤ x → x < mid + m - start → d'[x]! = d[x - (mid - start)]! := fun x hx hy => by rw [gp, if_neg (by omega), if_pos ⟨hx, hy⟩]
  have gD : ∀ x, mid + m - start ≤ x → d'[x]! = d[x]! := fun x hx => by rw [gp, if_neg (by omega), if_neg (by omega)]
  -- the first half's first elements are less than the second's last
  have key1 : ∀ p q, a ≤ p → p < start → mid + m - start ≤ q → q < b → tl lt d[q]! d[p]! = false := by
    intro p q i1 i2 i3 i4
    have e1 := lo (start - 1) (by omega) (by omega) (by omega) (by omega)
    rw [show mid + m - 1 - (start - 1) = mid + m - start from by omega] at e1
    have e2 : tl lt d[mid + m - start]! d[p]! = false := by
      by_cases hp : p = start - 1
      · rw [hp]; exact e1
      · exact hT.ntrans _ _ _ e1 (h.left p (start - 1) i1 (by omega) (by omega))
    by_cases hq : q = mid + m - start
    · rw [hq]; exact e2
    · exact hT.ntrans _ _ _ (h.right (mid + m - start) q (by omega) (by omega) i4) e2
  -- the second half's first elements are less than the first's last
  have key2 : ∀ p q, start ≤ p → p < m → m ≤ q → q < mid + m - start → tl lt d[p]! d[q]! = false := by
    intro p q i1 i2 i3 i4
    have e1 := hi start (Nat.le_refl _) (by omega) (by omega) (by omega)
    rw [show mid + m - 1 - start = mid + m - start - 1 from by omega] at e1
    have e1' := hT.asymmA e1
    have e2 : tl lt d[p]! d[mid + m - start - 1]! = false := by
      by_cases hp : p = start
      · rw [hp]; exact e1'
      · exact hT.ntrans _ _ _ (h.left start p (by omega) (by omega) i2) e1'
    by_cases hq : q = mid + m - start - 1
    · rw [hq]; exact e2
    · exact hT.ntrans _ _ _ e2 (h.right q (mid + m - start - 1) i3 (by omega) (by omega))
  refine ⟨⟨fun p q i1 i2 i3 => ?_, fun p q i1 i2 i3 => ?_, fun p q i1 i2 i3 i4 => ?_⟩, ⟨fun p q i1 i2 i3 => ?_, fun p q i1 i2 i3 => ?_, fun p q i1 i2 i3 i4 => ?_⟩, fun p q i1 i2 i3 i4 => ?_⟩
  · rw [gA p (by omega), gA q (by omega)]; exact h.left _ _ (by omega) (by omega) (by omega)
  · rw [gB p (by omega) (by omega), gB q (by omega) (by omega)]; exact h.right _ _ (by omega) (by omega) (by omega)
  · rw [gA p (by omega), gB q (by omega) (by omega)]; exact h.tags _ _ (by omega) (by omega) (by omega) (by omega)
  · rw [gC p (by omega) (by omega), gC q (by omega) (by omega)]; exact h.left _ _ (by omega) (by omega) (by omega)
  · rw [gD p (by omega), gD q (by omega)]; exact h.right _ _ (by omega) (by omega) (by omega)
  · rw [gC p (by omega) (by omega), gD q (by omega)]; exact h.tags _ _ (by omega) (by omega) (by omega) (by omega)
  · by_cases c1 : p < start
    · rw [gA p c1]
      by_cases c2 : q < mid + m - start
      · rw [gC q (by omega) c2]; exact h.left _ _ (by omega) (by omega) (by omega)
      · rw [gD q (by omega)]; exact key1 p q i1 c1 (by omega) i4
    · rw [gB p (by omega) (by omega)]
      by_cases c2 : q < mid + m - start
      · rw [gC q (by omega) c2]; exact key2 _ _ (by omega) (by omega) (by omega) (by omega)
      · rw [gD q (by omega)]; exact h.right _ _ (by omega) (by omega) (by omega)
/-- Two sorted halves, none of the second less than one of the first. -/
theorem join_halves {d d1 d2 : Array (β × Nat)} {a mid b : Nat} (ham : a ≤ mid) (hmb : mid ≤ b) (hb : b ≤ d.size) (hx : ∀ p q, a ≤ p → p < mid → mid ≤ q → q < b → tl lt d[q]! d[p]! = false)
    (h1 : PermIn a mid d d1) (s1 : SortedIn (tl lt) a mid d1) (h2 : PermIn mid b d1 d2) (s2 : SortedIn (tl lt) mid b d2) : PermIn a b d d2 ∧ SortedIn (tl lt) a b d2 := by
  have z1 := h1.1
  have z2 := h2.1
  refine ⟨permIn_trans _ _ _ _ _ (permIn_mono _ _ a mid a b (Nat.le_refl _) hmb (by omega) h1) (permIn_mono _ _ mid b a b ham (Nat.le_refl _) (by omega) h2), fun p q i1 i2 i3 => ?_⟩
  by_cases c1 : mid ≤ p
  · exact s2 p q c1 i2 i3
  · by_cases c2 : q < mid
    · rw [h2.2.1 q (.inl c2), h2.2.1 p (.inl (by omega))]; exact s1 p q i1 i2 c2
    · rw [h2.2.1 p (.inl (by omega))]
      refine permIn_all d1 d2 mid b (fun x => tl lt x d1[p]! = false) (by omega) h2 (fun k i4 i5 => ?_) q (by omega) i3
      rw [h1.2.1 k (.inr i4)]
      refine permIn_all d d1 a mid (fun x => tl lt d[k]! x = false) (by omega) h1 (fun k2 i6 i7 => hx k2 k i6 i7 i4 i5) p i1 (by omega)
end
end Go.Proofs.YtafodibbcfoclaaGreat
