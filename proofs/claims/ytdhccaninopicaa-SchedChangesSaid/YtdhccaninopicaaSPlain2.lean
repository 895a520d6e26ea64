/- Combining sets of minutes; the time until the next change; daily times: plain lists and integers. -/
import Derived.Test.YtdhccaninopicaaSPlain
set_option linter.unusedVariables false
set_option linter.unusedSimpArgs false
namespace Go.Proofs.Ytdhccaninopicaa

def pairsOf (es : List Int) : List Sp := es.zip es.tail
theorem pairsOf_cons (u v : Int) (r : List Int) : pairsOf (u :: v :: r) = (u, v) :: pairsOf (v :: r) := rfl
theorem pairs_mem {p : Sp} : ∀ {es : List Int}, es.Pairwise (· < ·) → p ∈ pairsOf es → p.1 ∈ es ∧ p.2 ∈ es ∧ p.1 < p.2 ∧ ∀ e ∈ es, e ≤ p.1 ∨ p.2 ≤ e
  | [], _, h => by cases h
  | [_], _, h => by simp [pairsOf] at h
  | u :: v :: r, hs, h => by
    have hs' := List.pairwise_cons.1 hs
    have hv := List.pairwise_cons.1 hs'.2
    rw [pairsOf_cons] at h
    rcases List.mem_cons.1 h with rfl | h
    · refine ⟨by simp, by simp, hs'.1 v (by simp), fun e he => ?_⟩
      rcases List.mem_cons.1 he with rfl | he
      · exact .inl (Int.le_refl _)
      · rcases List.mem_cons.1 he with rfl | he
        · exact .inr (Int.le_refl _)
        · exact .inr (Int.le_of_lt (hv.1 e he))
    · obtain ⟨h1, h2, h3, h4⟩ := pairs_mem hs'.2 h
      refine ⟨List.mem_cons_of_mem _ h1, List.mem_cons_of_mem _ h2, h3, fun e he => ?_⟩
      rcases List.mem_cons.1 he with rfl | he
      · exact .inl (Int.le_of_lt (hs'.1 _ h1))
      · exact h4 e he
theorem pairs_hit {m v : Int} : ∀ {es : List Int}, es.Pairwise (· < ·) → (∃ u ∈ es, u ≤ m) → v ∈ es → m < v → ∃ p ∈ pairsOf es, p.1 ≤ m ∧ m < p.2
  | [], _, _, h, _ => by cases h
  | [x], _, ⟨u, hu, hm⟩, hv, hl => by simp at hu hv; omega
  | a :: b :: r, hs, ⟨u, hu, hm⟩, hv, hl => by
    have hs' := List.pairwise_cons.1 hs
    rw [pairsOf_cons]
    by_cases hb : b ≤ m
    · have hvb : v ∈ b :: r := by
        rcases List.mem_cons.1 hv with rfl | hv
        · have := hs'.1 b (by simp); omega
        · exact hv
      obtain ⟨p, hp, h⟩ := pairs_hit hs'.2 ⟨b, by simp, hb⟩ hvb hl
      exact ⟨p, List.mem_cons_of_mem _ hp, h⟩
    · refine ⟨(a, b), by simp, ?_, by show m < b; omega⟩
      show a ≤ m
      rcases List.mem_cons.1 hu with rfl | hu
      · exact hm
      · rcases List.mem_cons.1 hu with rfl | hu
        · omega
        · have := (List.pairwise_cons.1 hs'.2).1 u hu; omega

/-- The ends of spans. -/
def endsOf (l : List Sp) : List Int := l.flatMap fun s => [s.1, s.2]
theorem endsOf_mem {l : List Sp} {s : Sp} (h : s ∈ l) : s.1 ∈ endsOf l ∧ s.2 ∈ endsOf l := by
  unfold endsOf
  exact ⟨List.mem_flatMap.2 ⟨s, h, by simp⟩, List.mem_flatMap.2 ⟨s, h, by simp⟩⟩
theorem endsOf_append (a b : List Sp) : endsOf (a ++ b) = endsOf a ++ endsOf b := by unfold endsOf; rw [List.flatMap_append]
theorem endsOf_range {l : List Sp} (h : ∀ s ∈ l, spOk s = true) {e : Int} (he : e ∈ endsOf l) : 0 ≤ e ∧ e ≤ 10080 := by
  unfold endsOf at he
  obtain ⟨s, hs, he⟩ := List.mem_flatMap.1 he
  have := (spOk_iff s).1 (h s hs)
  simp at he
  omega
/-- Between two ends that follow each other nothing turns. -/
theorem memS_gap {l : List Sp} {p : Sp} {es : List Int} (hp : p ∈ pairsOf es) (hs : es.Pairwise (· < ·)) (hl : ∀ s ∈ l, s.1 ∈ es ∧ s.2 ∈ es) {m : Int} (h1 : p.1 ≤ m) (h2 : m < p.2) : memS l p.1 = memS l m := by
  obtain ⟨_, _, _, h⟩ := pairs_mem hs hp
  rw [Bool.eq_iff_iff, memS_iff, memS_iff]
  constructor
  · rintro ⟨s, hsl, hi⟩
    have h3 := h _ (hl s hsl).1
    have h4 := h _ (hl s hsl).2
    have := (spIn_iff _ _).1 hi
    exact ⟨s, hsl, (spIn_iff _ _).2 ⟨this.1, by omega, by omega⟩⟩
  · rintro ⟨s, hsl, hi⟩
    have h3 := h _ (hl s hsl).1
    have h4 := h _ (hl s hsl).2
    have := (spIn_iff _ _).1 hi
    exact ⟨s, hsl, (spIn_iff _ _).2 ⟨this.1, by omega, by omega⟩⟩
def keepL (K : Bool → Bool → Bool) (x y : List Sp) (es : List Int) : List Sp := (pairsOf es).filter fun p => K (memS x p.1) (memS y p.1)
theorem keepL_mem (K : Bool → Bool → Bool) (hK : K false false = false) {x y : List Sp} (hx : ∀ s ∈ x, spOk s = true) (hy : ∀ s ∈ y, spOk s = true) {es : List Int} (hs : es.Pairwise (· < ·)) (he : ∀ e, e ∈ es ↔ e ∈ endsOf (x ++ y)) (m : Int) :
    memS (keepL K x y es) m = K (memS x m) (memS y m) := by
  have ex : ∀ s ∈ x, s.1 ∈ es ∧ s.2 ∈ es := fun s h => by
    have := endsOf_mem (l := x ++ y) (List.mem_append.2 (.inl h))
    exact ⟨(he _).2 this.1, (he _).2 this.2⟩
  have ey : ∀ s ∈ y, s.1 ∈ es ∧ s.2 ∈ es := fun s h => by
    have := endsOf_mem (l := x ++ y) (List.mem_append.2 (.inr h))
    exact ⟨(he _).2 this.1, (he _).2 this.2⟩
  have hxy : ∀ s ∈ x ++ y, spOk s = true := fun s h => (List.mem_append.1 h).elim (hx s) (hy s)
  rw [Bool.eq_iff_iff, memS_iff]
  constructor
  · rintro ⟨p, hp, hi⟩
    obtain ⟨hp, hk⟩ := List.mem_filter.1 hp
    have := (spIn_iff _ _).1 hi
    rw [← memS_gap hp hs ex this.2.1 this.2.2, ← memS_gap hp hs ey this.2.1 this.2.2]
    exact hk
  · intro hk
    have : memS x m = true ∨ memS y m = true := by
      cases hx' : memS x m <;> cases hy' : memS y m
      · rw [hx', hy', hK] at hk; cases hk
      · exact .inr rfl
      · exact .inl rfl
      · exact .inl rfl
    obtain ⟨s, hs', hi⟩ : ∃ s ∈ x ++ y, spIn s m = true := by
      rcases this with h | h
      · obtain ⟨s, h1, h2⟩ := (memS_iff _ _).1 h; exact ⟨s, List.mem_append.2 (.inl h1), h2⟩
      · obtain ⟨s, h1, h2⟩ := (memS_iff _ _).1 h; exact ⟨s, List.mem_append.2 (.inr h1), h2⟩
    have hi' := (spIn_iff _ _).1 hi
    have hee := endsOf_mem hs'
    obtain ⟨p, hp, h1, h2⟩ := pairs_hit (m := m) hs ⟨s.1, (he _).2 hee.1, hi'.2.1⟩ ((he _).2 hee.2) hi'.2.2
    have hpm := pairs_mem hs hp
    have g1 := endsOf_range hxy ((he _).1 hpm.1)
    have g2 := endsOf_range hxy ((he _).1 hpm.2.1)
    refine ⟨p, List.mem_filter.2 ⟨hp, ?_⟩, (spIn_iff _ _).2 ⟨⟨g1.1, hpm.2.2.1, g2.2⟩, h1, h2⟩⟩
    rw [memS_gap hp hs ex h1 h2, memS_gap hp hs ey h1 h2]
    exact hk
/-- What the walk over a normal form finds at a minute, all spans ahead of the i-th being at their ends. -/
theorem nf_at {x : List Sp} (h : IsNf x) {i : Nat} {f : Int} (h0 : ∀ j (hj : j < x.length), j < i → x[j].2 ≤ f) (h1 : ∀ hi : i < x.length, f < x[i].2) : memS x f = decide (∃ hi : i < x.length, x[i].1 ≤ f) := by
  rw [Bool.eq_iff_iff, memS_iff, decide_eq_true_eq]
  constructor
  · rintro ⟨s, hs, hi⟩
    obtain ⟨j, hj, rfl⟩ := List.getElem_of_mem hs
    have := (spIn_iff _ _).1 hi
    rcases Nat.lt_trichotomy j i with hl | hl | hl
    · have := h0 j hj hl; omega
    · subst hl; exact ⟨hj, this.2.1⟩
    · have hi' : i < x.length := by omega
      have h2 := List.pairwise_iff_getElem.1 h.1 i j hi' hj hl
      have := h1 hi'
      omega
  · rintro ⟨hi, hf⟩
    exact ⟨x[i], List.getElem_mem hi, (spIn_iff _ _).2 ⟨(spOk_iff _).1 (h.2 _ (List.getElem_mem hi)), hf, h1 hi⟩⟩

/-- A minute of the week. -/
def wrapI (m : Int) : Int := m % 10080
theorem wrapI_bd (m : Int) : 0 ≤ wrapI m ∧ wrapI m < 10080 := by unfold wrapI; omega
theorem wrapI_of {m : Int} (h0 : 0 ≤ m) (h1 : m < 10080) : wrapI m = m := by unfold wrapI; omega
theorem wrapI_tmod (m : Int) : (if m.tmod 10080 < 0 then m.tmod 10080 + 10080 else m.tmod 10080) = wrapI m := by
  unfold wrapI
  rcases Int.le_total 0 m with h | h
  · rw [Int.tmod_eq_emod_of_nonneg h, if_neg (by omega)]
  · have e : m.tmod 10080 = -((-m) % 10080) := by
      have := Int.neg_tmod (a := -m) (b := 10080)
      rw [Int.neg_neg] at this
      rw [this, Int.tmod_eq_emod_of_nonneg (by omega)]
    rw [e]
    split <;> omega

def nextTo (S : Int → Bool) (m : Int) : Nat → Int → Int
  | 0, _ => 0
  | f + 1, k => if S (wrapI (m + k)) = S m then nextTo S m f (k + 1) else k
def nextI (S : Int → Bool) (m : Int) : Int := nextTo S m 10080 1
def IsNext (S : Int → Bool) (m k : Int) : Prop :=
  (k = 0 ∧ ∀ j, 0 ≤ j → j < 10080 → S j = S m) ∨ (1 ≤ k ∧ k ≤ 10080 ∧ S (wrapI (m + k)) ≠ S m ∧ ∀ j, 1 ≤ j → j < k → S (wrapI (m + j)) = S m)
theorem nextTo_spec (S : Int → Bool) (m : Int) (h0 : 0 ≤ m) (h1 : m < 10080) : ∀ (f : Nat) (k : Int), k + f = 10081 → 1 ≤ k → (∀ j, 1 ≤ j → j < k → S (wrapI (m + j)) = S m) → IsNext S m (nextTo S m f k)
  | 0, k, hk, hk1, h => .inl ⟨rfl, fun j hj0 hj1 => by
      by_cases hjm : m < j
      · have := h (j - m) (by omega) (by omega)
        rwa [show m + (j - m) = j from by omega, wrapI_of hj0 hj1] at this
      · have := h (j - m + 10080) (by omega) (by omega)
        rwa [show wrapI (m + (j - m + 10080)) = j from by unfold wrapI; omega] at this⟩
  | f + 1, k, hk, hk1, h => by
    rw [nextTo]
    by_cases he : S (wrapI (m + k)) = S m
    · rw [if_pos he]
      refine nextTo_spec S m h0 h1 f (k + 1) (by omega) (by omega) (fun j hj hj' => ?_)
      by_cases hjk : j = k
      · subst hjk; exact he
      · exact h j hj (by omega)
    · rw [if_neg he]
      exact .inr ⟨hk1, by omega, he, h⟩
theorem nextI_spec (S : Int → Bool) (m : Int) (h0 : 0 ≤ m) (h1 : m < 10080) : IsNext S m (nextI S m) :=
  nextTo_spec S m h0 h1 10080 1 (by omega) (by omega) (fun j _ _ => by omega)
theorem isNext_unique {S : Int → Bool} {m a b : Int} (h0 : 0 ≤ m) (h1 : m < 10080) (ha : IsNext S m a) (hb : IsNext S m b) : a = b := by
  have zero : ∀ {a b : Int}, (a = 0 ∧ ∀ j, 0 ≤ j → j < 10080 → S j = S m) → (1 ≤ b ∧ b ≤ 10080 ∧ S (wrapI (m + b)) ≠ S m ∧ ∀ j, 1 ≤ j → j < b → S (wrapI (m + j)) = S m) → False := fun {a b} h h' => by
    have := wrapI_bd (m + b)
    exact h'.2.2.1 (h.2 _ this.1 this.2)
  rcases ha with ha | ha <;> rcases hb with hb | hb
  · rw [ha.1, hb.1]
  · exact (zero ha hb).elim
  · exact (zero hb ha).elim
  · rcases Int.lt_trichotomy a b with h | h | h
    · exact absurd (hb.2.2.2 a ha.1 h) ha.2.2.1
    · exact h
    · exact absurd (ha.2.2.2 b hb.1 h) hb.2.2.1
theorem nextI_of {S : Int → Bool} {m k : Int} (h0 : 0 ≤ m) (h1 : m < 10080) (h : IsNext S m k) : k = nextI S m := isNext_unique h0 h1 h (nextI_spec S m h0 h1)
theorem nextI_congr {S T : Int → Bool} {m : Int} (h0 : 0 ≤ m) (h1 : m < 10080) (h : ∀ j, 0 ≤ j → j < 10080 → S j = T j) : nextI S m = nextI T m := by
  have : ∀ (f : Nat) (k : Int), nextTo S m f k = nextTo T m f k := by
    intro f
    induction f with
    | zero => intro k; rfl
    | succ f ih =>
      intro k
      have hw := wrapI_bd (m + k)
      rw [nextTo, nextTo, h _ hw.1 hw.2, h m h0 h1, ih]
  exact this _ _

-- the next change, off the normal form: the spans ahead of the i-th end at m or ahead of it
section
variable {x : List Sp} {m : Int} {i : Nat}
theorem memS_none (hx : IsNf x) (h0 : ∀ j (hj : j < x.length), j < i → x[j].2 ≤ m) {f : Int} (hf : m ≤ f) (h1 : ∀ hi : i < x.length, f < x[i].1) : memS x f = false := by
  rw [Bool.eq_false_iff]; intro hh
  obtain ⟨s, hs, hi⟩ := (memS_iff _ _).1 hh
  obtain ⟨j, hj, rfl⟩ := List.getElem_of_mem hs
  have := (spIn_iff _ _).1 hi
  rcases Nat.lt_trichotomy j i with hl | hl | hl
  · have := h0 j hj hl; omega
  · subst hl; have := h1 hj; omega
  · have hi' : i < x.length := by omega
    have h2 := List.pairwise_iff_getElem.1 hx.1 i j hi' hj hl
    have := h1 hi'
    have := (spOk_iff _).1 (hx.2 _ (List.getElem_mem hi'))
    omega
theorem memS_at (hx : IsNf x) (hi : i < x.length) {f : Int} (h1 : x[i].1 ≤ f) (h2 : f < x[i].2) : memS x f = true :=
  (memS_iff _ _).2 ⟨x[i], List.getElem_mem hi, (spIn_iff _ _).2 ⟨(spOk_iff _).1 (hx.2 _ (List.getElem_mem hi)), h1, h2⟩⟩
theorem memS_end (hx : IsNf x) (hi : i < x.length) : memS x x[i].2 = false := by
  rw [Bool.eq_false_iff]; intro hh
  obtain ⟨s, hs, hh⟩ := (memS_iff _ _).1 hh
  obtain ⟨j, hj, rfl⟩ := List.getElem_of_mem hs
  have h3 := (spIn_iff _ _).1 hh
  have h4 := (spOk_iff _).1 (hx.2 _ (List.getElem_mem hi))
  rcases Nat.lt_trichotomy j i with hl | hl | hl
  · have := List.pairwise_iff_getElem.1 hx.1 j i hj hi hl; omega
  · subst hl; omega
  · have := List.pairwise_iff_getElem.1 hx.1 i j hi hj hl; omega
theorem memS_before (hx : IsNf x) (h : 0 < x.length) {f : Int} (hf : f < x[0].1) : memS x f = false := by
  rw [Bool.eq_false_iff]; intro hh
  obtain ⟨s, hs, hh⟩ := (memS_iff _ _).1 hh
  obtain ⟨j, hj, rfl⟩ := List.getElem_of_mem hs
  have h3 := (spIn_iff _ _).1 hh
  have h4 := (spOk_iff _).1 (hx.2 _ (List.getElem_mem h))
  cases j with
  | zero => omega
  | succ j => have := List.pairwise_iff_getElem.1 hx.1 0 (j + 1) h hj (by omega); omega

theorem next_before (hx : IsNf x) (hm : 0 ≤ m) (hi : i < x.length) (h0 : ∀ j (hj : j < x.length), j < i → x[j].2 ≤ m) (h : m < x[i].1) : IsNext (memS x) m (x[i].1 - m) := by
  have h4 := (spOk_iff _).1 (hx.2 _ (List.getElem_mem hi))
  have e0 : memS x m = false := memS_none hx h0 (Int.le_refl _) (fun _ => h)
  refine .inr ⟨by omega, by omega, ?_, fun j hj hj' => ?_⟩
  · rw [e0, show m + (x[i].1 - m) = x[i].1 from by omega, wrapI_of (by omega) (by omega), memS_at hx hi (Int.le_refl _) h4.2.1]; simp
  · rw [e0, wrapI_of (by omega) (by omega)]
    exact memS_none hx h0 (by omega) (fun _ => by omega)
theorem next_in (hx : IsNf x) (hm : 0 ≤ m) (hi : i < x.length) (h1 : x[i].1 ≤ m) (h2 : m < x[i].2) (h3 : x[i].2 < 10080) : IsNext (memS x) m (x[i].2 - m) := by
  have e0 : memS x m = true := memS_at hx hi h1 h2
  refine .inr ⟨by omega, by omega, ?_, fun j hj hj' => ?_⟩
  · rw [e0, show m + (x[i].2 - m) = x[i].2 from by omega, wrapI_of (by omega) (by omega), memS_end hx hi]; simp
  · rw [e0, wrapI_of (by omega) (by omega)]
    exact memS_at hx hi (by omega) (by omega)
theorem next_last (hx : IsNf x) (hm : 0 ≤ m) (hi : i < x.length) (h1 : x[i].1 ≤ m) (h2 : m < x[i].2) (h3 : x[i].2 = 10080) (hz : ¬ x[0].1 = 0) : IsNext (memS x) m (10080 - m) := by
  have h4 := (spOk_iff _).1 (hx.2 _ (List.getElem_mem (by omega : 0 < x.length)))
  have e0 : memS x m = true := memS_at hx hi h1 h2
  refine .inr ⟨by omega, by omega, ?_, fun j hj hj' => ?_⟩
  · rw [e0, show wrapI (m + (10080 - m)) = 0 from by unfold wrapI; omega, memS_before hx (by omega) (by omega)]; simp
  · rw [e0, wrapI_of (by omega) (by omega)]
    exact memS_at hx hi (by omega) (by omega)
theorem next_over (hx : IsNf x) (hm : 0 ≤ m) (hi : i < x.length) (h1 : x[i].1 ≤ m) (h2 : m < x[i].2) (h3 : x[i].2 = 10080) (hz : x[0].1 = 0) (hn : cntTo (memS x) 10080 ≠ 10080) : IsNext (memS x) m (10080 - m + x[0].2) := by
  have h0 : 0 < x.length := by omega
  have h4 := (spOk_iff _).1 (hx.2 _ (List.getElem_mem h0))
  have e0 : memS x m = true := memS_at hx hi h1 h2
  have hi0 : 0 < i := by
    rcases Nat.eq_zero_or_pos i with rfl | h
    · exact absurd (cntTo_all 10080 fun j hj hj' => memS_at hx h0 (by omega) (by have : ((10080 : Nat) : Int) = 10080 := rfl; omega)) hn
    · exact h
  have h5 := List.pairwise_iff_getElem.1 hx.1 0 i h0 hi hi0
  refine .inr ⟨by omega, by omega, ?_, fun j hj hj' => ?_⟩
  · rw [e0, show wrapI (m + (10080 - m + x[0].2)) = x[0].2 from by unfold wrapI; omega, memS_end hx h0]; simp
  · rw [e0]
    by_cases hjm : j < 10080 - m
    · rw [wrapI_of (by omega) (by omega)]
      exact memS_at hx hi (by omega) (by omega)
    · rw [show wrapI (m + j) = m + j - 10080 from by unfold wrapI; omega]
      exact memS_at hx h0 (by omega) (by omega)
theorem next_behind (hx : IsNf x) (hm : 0 ≤ m) (hm1 : m < 10080) (h : 0 < x.length) (h0 : ∀ j (hj : j < x.length), x[j].2 ≤ m) : IsNext (memS x) m (10080 - m + x[0].1) := by
  have h4 := (spOk_iff _).1 (hx.2 _ (List.getElem_mem h))
  have h5 := h0 0 h
  have no : ∀ f, m ≤ f → memS x f = false := fun f hf => memS_none (i := x.length) hx (fun j hj _ => h0 j hj) hf (fun hi => absurd hi (by omega))
  refine .inr ⟨by omega, by omega, ?_, fun j hj hj' => ?_⟩
  · rw [no m (Int.le_refl _), show wrapI (m + (10080 - m + x[0].1)) = x[0].1 from by unfold wrapI; omega, memS_at hx h (Int.le_refl _) h4.2.1]; simp
  · rw [no m (Int.le_refl _)]
    by_cases hjm : j < 10080 - m
    · rw [wrapI_of (by omega) (by omega)]; exact no _ (by omega)
    · rw [show wrapI (m + j) = m + j - 10080 from by unfold wrapI; omega]
      exact memS_before hx h (by omega)
theorem next_none (hc : cntTo (memS x) 10080 = 0) (hm : 0 ≤ m) (hm1 : m < 10080) : IsNext (memS x) m 0 :=
  .inl ⟨rfl, fun j hj hj' => by rw [cntTo_zero 10080 hc j hj (by have : ((10080 : Nat) : Int) = 10080 := rfl; omega), cntTo_zero 10080 hc m hm (by have : ((10080 : Nat) : Int) = 10080 := rfl; omega)]⟩
theorem next_full (hc : cntTo (memS x) 10080 = 10080) (hm : 0 ≤ m) (hm1 : m < 10080) : IsNext (memS x) m 0 :=
  .inl ⟨rfl, fun j hj hj' => by rw [cntTo_full 10080 hc j hj (by have : ((10080 : Nat) : Int) = 10080 := rfl; omega), cntTo_full 10080 hc m hm (by have : ((10080 : Nat) : Int) = 10080 := rfl; omega)]⟩
end

/-- The minutes of a time of one day. -/
def dayHit (first len m : Int) : Bool := decide (0 ≤ m ∧ m < 10080 ∧ (m - first) % 10080 < len)
def daySpans (first len : Int) : List Sp := let f := if first ≥ 10080 then first - 10080 else first; [(f, min (f + len) 10080), (0, f + len - 10080)]
theorem daySpans_mem {first len : Int} (h0 : 0 ≤ first) (h1 : first ≤ 10080) (h2 : 0 ≤ len) (h3 : len ≤ 1440) (m : Int) : memS (daySpans first len) m = dayHit first len m := by
  unfold daySpans dayHit
  simp only []
  rw [Bool.eq_iff_iff, memS_cons, memS_cons, memS_nil, Bool.or_false, Bool.or_eq_true, spIn_iff, spIn_iff, decide_eq_true_eq]
  split <;> simp only [] <;> omega
theorem dayHit_iff {first len : Int} (h0 : 0 ≤ len) (h1 : len ≤ 10080) (m : Int) : dayHit first len m = true ↔ ∃ k, 0 ≤ k ∧ k < len ∧ wrapI (first + k) = m := by
  unfold dayHit wrapI
  rw [decide_eq_true_eq]
  constructor
  · intro h
    exact ⟨(m - first) % 10080, by omega, by omega, by omega⟩
  · rintro ⟨k, hk0, hk1, rfl⟩
    omega
end Go.Proofs.Ytdhccaninopicaa
