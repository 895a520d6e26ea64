/- Sets of minutes of the week and their normal forms: plain lists and integers. -/
import Derived.Lib.Hide
set_option linter.unusedVariables false
set_option linter.unusedSimpArgs false
namespace Go.Proofs.Ytdhccaninopicaa

abbrev Sp := Int × Int
def spOk (s : Sp) : Bool := decide (0 ≤ s.1 ∧ s.1 < s.2 ∧ s.2 ≤ 10080)
def spIn (s : Sp) (m : Int) : Bool := spOk s && decide (s.1 ≤ m ∧ m < s.2)
def memS (l : List Sp) (m : Int) : Bool := l.any fun s => spIn s m
def IsNf (k : List Sp) : Prop := k.Pairwise (fun a b => a.2 < b.1) ∧ ∀ s ∈ k, spOk s = true

theorem spOk_iff (s : Sp) : spOk s = true ↔ 0 ≤ s.1 ∧ s.1 < s.2 ∧ s.2 ≤ 10080 := by unfold spOk; simp
theorem spIn_iff (s : Sp) (m : Int) : spIn s m = true ↔ (0 ≤ s.1 ∧ s.1 < s.2 ∧ s.2 ≤ 10080) ∧ s.1 ≤ m ∧ m < s.2 := by unfold spIn; simp [spOk_iff]
theorem memS_nil (m : Int) : memS [] m = false := rfl
theorem memS_cons (s : Sp) (l : List Sp) (m : Int) : memS (s :: l) m = (spIn s m || memS l m) := rfl
theorem memS_append (a b : List Sp) (m : Int) : memS (a ++ b) m = (memS a m || memS b m) := by unfold memS; rw [List.any_append]
theorem memS_iff (l : List Sp) (m : Int) : memS l m = true ↔ ∃ s ∈ l, spIn s m = true := by unfold memS; rw [List.any_eq_true]
theorem memS_range {l : List Sp} {m : Int} (h : memS l m = true) : 0 ≤ m ∧ m < 10080 := by
  obtain ⟨s, _, hs⟩ := (memS_iff l m).1 h
  have := (spIn_iff s m).1 hs
  omega
theorem memS_filter (l : List Sp) (m : Int) : memS (l.filter spOk) m = memS l m := by
  induction l with
  | nil => rfl
  | cons s r ih =>
    by_cases h : spOk s = true
    · rw [List.filter_cons_of_pos h, memS_cons, memS_cons, ih]
    · rw [List.filter_cons_of_neg h, memS_cons, ih]
      have : spIn s m = false := by unfold spIn; rw [Bool.not_eq_true] at h; rw [h]; rfl
      rw [this, Bool.false_or]
theorem memS_perm {a b : List Sp} (h : a.Perm b) (m : Int) : memS a m = memS b m := by
  rw [Bool.eq_iff_iff, memS_iff, memS_iff]
  exact ⟨fun ⟨s, hs, hi⟩ => ⟨s, h.mem_iff.1 hs, hi⟩, fun ⟨s, hs, hi⟩ => ⟨s, h.mem_iff.2 hs, hi⟩⟩

theorem IsNf.tail {s : Sp} {k : List Sp} (h : IsNf (s :: k)) : IsNf k := ⟨(List.pairwise_cons.1 h.1).2, fun x hx => h.2 x (List.mem_cons_of_mem _ hx)⟩
theorem IsNf.head {s : Sp} {k : List Sp} (h : IsNf (s :: k)) : 0 ≤ s.1 ∧ s.1 < s.2 ∧ s.2 ≤ 10080 := (spOk_iff s).1 (h.2 s (List.mem_cons_self ..))
/-- What lies in the rest of a normal form lies behind its first span, and not at its end. -/
theorem IsNf.above {s : Sp} {k : List Sp} (h : IsNf (s :: k)) {m : Int} (hm : memS k m = true) : s.2 < m := by
  obtain ⟨x, hx, hi⟩ := (memS_iff k m).1 hm
  have h1 := (List.pairwise_cons.1 h.1).1 x hx
  have h2 := (spIn_iff x m).1 hi
  omega
theorem IsNf.nil : IsNf [] := ⟨List.Pairwise.nil, fun _ h => by cases h⟩
/-- A set has one normal form. -/
theorem nf_unique : ∀ {a b : List Sp}, IsNf a → IsNf b → (∀ m, memS a m = memS b m) → a = b
  | [], [], _, _, _ => rfl
  | [], s :: b, _, hb, h => by
    have := h s.1
    rw [memS_nil, memS_cons, (spIn_iff s s.1).2 (by have := hb.head; omega)] at this
    simp at this
  | s :: a, [], ha, _, h => by
    have := h s.1
    rw [memS_nil, memS_cons, (spIn_iff s s.1).2 (by have := ha.head; omega)] at this
    simp at this
  | s :: a, t :: b, ha, hb, h => by
    have h1 := ha.head
    have h2 := hb.head
    have lo : ∀ {s : Sp} {a : List Sp}, IsNf (s :: a) → ∀ m, memS (s :: a) m = true → s.1 ≤ m := fun {s a} ha m hm => by
      rw [memS_cons, Bool.or_eq_true] at hm
      rcases hm with hm | hm
      · exact ((spIn_iff s m).1 hm).2.1
      · have := ha.above hm; have := ha.head; omega
    have i1 : memS (s :: a) s.1 = true := by rw [memS_cons, (spIn_iff s s.1).2 (by omega)]; rfl
    have i2 : memS (t :: b) t.1 = true := by rw [memS_cons, (spIn_iff t t.1).2 (by omega)]; rfl
    have e1 : s.1 = t.1 := by
      have j1 := lo hb s.1 (by rw [← h]; exact i1)
      have j2 := lo ha t.1 (by rw [h]; exact i2)
      omega
    have no : ∀ {s : Sp} {a : List Sp}, IsNf (s :: a) → memS (s :: a) s.2 = false := fun {s a} ha => by
      rw [memS_cons, Bool.or_eq_false_iff]
      refine ⟨?_, ?_⟩
      · rw [Bool.eq_false_iff]; intro hh; have := (spIn_iff s s.2).1 hh; omega
      · rw [Bool.eq_false_iff]; intro hh; have := ha.above hh; omega
    have e2 : s.2 = t.2 := by
      rcases Int.lt_trichotomy s.2 t.2 with hl | hl | hl
      · have := h s.2
        rw [no ha, memS_cons, (spIn_iff t s.2).2 (by omega)] at this
        simp at this
      · exact hl
      · have := h t.2
        rw [no hb, memS_cons, (spIn_iff s t.2).2 (by omega)] at this
        simp at this
    have e : s = t := Prod.ext e1 e2
    subst e
    congr 1
    refine nf_unique ha.tail hb.tail fun m => ?_
    by_cases hm : s.2 < m
    · have := h m
      rw [memS_cons, memS_cons] at this
      have f : spIn s m = false := by rw [Bool.eq_false_iff]; intro hh; have := (spIn_iff s m).1 hh; omega
      rwa [f, Bool.false_or, Bool.false_or] at this
    · have f1 : memS a m = false := by rw [Bool.eq_false_iff]; intro hh; have := ha.above hh; omega
      have f2 : memS b m = false := by rw [Bool.eq_false_iff]; intro hh; have := hb.above hh; omega
      rw [f1, f2]

/-- The last span ended at x. -/
def extLast (l : List Sp) (x : Int) : List Sp := match l.getLast? with
  | none => []
  | some s => l.dropLast ++ [(s.1, x)]
theorem extLast_snoc (l : List Sp) (s : Sp) (x : Int) : extLast (l ++ [s]) x = l ++ [(s.1, x)] := by
  unfold extLast; simp
theorem isNf_snoc (l : List Sp) (s : Sp) : IsNf (l ++ [s]) ↔ IsNf l ∧ (∀ a ∈ l, a.2 < s.1) ∧ spOk s = true := by
  unfold IsNf
  rw [List.pairwise_append]
  constructor
  · rintro ⟨⟨h1, _, h3⟩, h4⟩
    exact ⟨⟨h1, fun x hx => h4 x (by simp [hx])⟩, fun a ha => h3 a ha s (by simp), h4 s (by simp)⟩
  · rintro ⟨⟨h1, h2⟩, h3, h4⟩
    refine ⟨⟨h1, by simp, fun a ha b hb => ?_⟩, fun x hx => ?_⟩
    · simp at hb; subst hb; exact h3 a ha
    · simp at hx; rcases hx with hx | hx
      · exact h2 x hx
      · subst hx; exact h4
theorem snoc_cases (l : List Sp) : l = [] ∨ ∃ a s, l = a ++ [s] := by
  rcases List.eq_nil_or_concat l with h | ⟨a, s, h⟩
  · exact .inl h
  · exact .inr ⟨a, s, by rw [h]; simp⟩

/-- The spans of a set's minutes ahead of n (the reference's way). -/
def spansTo (S : Int → Bool) : Nat → List Sp
  | 0 => []
  | n + 1 => if S n then (if (0 < n) && S ((n : Int) - 1) then extLast (spansTo S n) (n + 1) else spansTo S n ++ [((n : Int), (n : Int) + 1)]) else spansTo S n
def nf (S : Int → Bool) : List Sp := spansTo S 10080
theorem spansTo_spec (S : Int → Bool) : ∀ n : Nat, n ≤ 10080 → IsNf (spansTo S n) ∧ (∀ m, memS (spansTo S n) m = (decide (0 ≤ m ∧ m < n) && S m)) ∧ (∀ s ∈ spansTo S n, s.2 ≤ n) ∧ (0 < n → S ((n : Int) - 1) = true → ∃ (a : List Sp) (s : Sp), spansTo S n = a ++ [s] ∧ s.2 = (n : Int)) ∧ (0 < n → S ((n : Int) - 1) = false → ∀ s ∈ spansTo S n, s.2 < n)
  | 0, _ => ⟨IsNf.nil, fun m => by simp [spansTo, memS_nil]; omega, (fun s h => by cases h), fun h => absurd h (by omega), fun h => absurd h (by omega)⟩
  | n + 1, hn => by
    obtain ⟨h1, h2, h3, h4, h5⟩ := spansTo_spec S n (by omega)
    have en : ((n + 1 : Nat) : Int) - 1 = n := by omega
    rw [en, spansTo]
    by_cases hs : S n = true
    · rw [if_pos hs]
      by_cases hp : ((0 < n) && S ((n : Int) - 1)) = true
      · rw [if_pos hp]
        simp only [Bool.and_eq_true, decide_eq_true_eq] at hp
        obtain ⟨a, s, e, es⟩ := h4 hp.1 hp.2
        rw [e] at h1 h2 h3 ⊢
        rw [extLast_snoc]
        obtain ⟨k1, k2, k3⟩ := (isNf_snoc _ _).1 h1
        have k4 := (spOk_iff s).1 k3
        refine ⟨(isNf_snoc _ _).2 ⟨k1, k2, (spOk_iff _).2 ⟨k4.1, by show s.1 < (n : Int) + 1; omega, by show (n : Int) + 1 ≤ 10080; omega⟩⟩, fun m => ?_, fun x hx => ?_, fun _ _ => ⟨a, _, rfl, by show (n : Int) + 1 = _; omega⟩, fun _ h => absurd (h.symm.trans hs) (by simp)⟩
        · have := h2 m
          rw [memS_append] at this ⊢
          rw [memS_cons, memS_nil, Bool.or_false] at this ⊢
          rw [Bool.eq_iff_iff] at this ⊢
          simp only [Bool.or_eq_true, Bool.and_eq_true, decide_eq_true_eq, spIn_iff] at this ⊢
          by_cases hm : m = n
          · subst hm; constructor
            · intro _; exact ⟨by omega, hs⟩
            · intro _; right; omega
          · constructor
            · rintro (h | h)
              · have := this.1 (.inl h); exact ⟨by omega, this.2⟩
              · have := this.1 (.inr (by omega)); exact ⟨by omega, this.2⟩
            · rintro ⟨h, h'⟩
              rcases this.2 ⟨by omega, h'⟩ with h | h
              · exact .inl h
              · right; omega
        · simp at hx
          rcases hx with hx | hx
          · have := h3 x (by simp [hx]); omega
          · subst hx; show (n : Int) + 1 ≤ _; omega
      · rw [if_neg hp]
        have hlt : ∀ s ∈ spansTo S n, s.2 < (n : Int) := fun s hs' => by
          by_cases h0 : 0 < n
          · have : S ((n : Int) - 1) = false := by
              cases hb : S ((n : Int) - 1) with
              | false => rfl
              | true => exact absurd (by simp [h0, hb]) hp
            exact h5 h0 this s hs'
          · have : n = 0 := by omega
            subst this; cases hs'
        refine ⟨(isNf_snoc _ _).2 ⟨h1, hlt, (spOk_iff _).2 ⟨by show (0 : Int) ≤ n; omega, by show (n : Int) < n + 1; omega, by show (n : Int) + 1 ≤ 10080; omega⟩⟩, fun m => ?_, fun x hx => ?_, fun _ _ => ⟨_, _, rfl, by show (n : Int) + 1 = _; omega⟩, fun _ h => absurd (h.symm.trans hs) (by simp)⟩
        · have := h2 m
          rw [memS_append, memS_cons, memS_nil, Bool.or_false, this]
          rw [Bool.eq_iff_iff]
          simp only [Bool.or_eq_true, Bool.and_eq_true, decide_eq_true_eq, spIn_iff]
          by_cases hm : m = n
          · subst hm; constructor
            · intro _; exact ⟨by omega, hs⟩
            · intro _; right; omega
          · constructor
            · rintro (h | h)
              · exact ⟨by omega, h.2⟩
              · omega
            · rintro ⟨h, h'⟩
              left; exact ⟨by omega, h'⟩
        · simp at hx
          rcases hx with hx | hx
          · have := h3 x hx; omega
          · subst hx; show (n : Int) + 1 ≤ _; omega
    · rw [if_neg hs]
      rw [Bool.not_eq_true] at hs
      refine ⟨h1, fun m => ?_, fun x hx => by have := h3 x hx; omega, fun _ h => absurd (h.symm.trans hs) (by simp), fun _ _ x hx => by have := h3 x hx; omega⟩
      rw [h2 m]
      by_cases hm : m = n
      · subst hm; rw [hs]; simp
      · rw [Bool.eq_iff_iff]
        simp only [Bool.and_eq_true, decide_eq_true_eq]
        constructor
        · rintro ⟨a, b⟩; exact ⟨by omega, b⟩
        · rintro ⟨a, b⟩; exact ⟨by omega, b⟩
theorem nf_isNf (S : Int → Bool) : IsNf (nf S) := (spansTo_spec S 10080 (Nat.le_refl _)).1
theorem memS_nf (S : Int → Bool) (m : Int) : memS (nf S) m = (decide (0 ≤ m ∧ m < 10080) && S m) := (spansTo_spec S 10080 (Nat.le_refl _)).2.1 m
theorem memS_nf_of {S : Int → Bool} (h : ∀ m, S m = true → 0 ≤ m ∧ m < 10080) (m : Int) : memS (nf S) m = S m := by
  rw [memS_nf]
  cases hs : S m with
  | false => simp
  | true => simp [h m hs]
theorem memS_nf_mem (l : List Sp) (m : Int) : memS (nf (memS l)) m = memS l m := memS_nf_of (fun _ h => memS_range h) m
/-- A normal form of a set is its normal form. -/
theorem nf_eq {S : Int → Bool} {k : List Sp} (h : IsNf k) (hm : ∀ m, memS k m = (decide (0 ≤ m ∧ m < 10080) && S m)) : k = nf S :=
  nf_unique h (nf_isNf S) fun m => by rw [hm, memS_nf]
theorem nf_congr {S T : Int → Bool} (h : ∀ m, 0 ≤ m → m < 10080 → S m = T m) : nf S = nf T :=
  nf_eq (nf_isNf S) fun m => by
    rw [memS_nf]
    by_cases hm : 0 ≤ m ∧ m < 10080
    · rw [h m hm.1 hm.2]
    · simp [hm]
theorem nf_self {k : List Sp} (h : IsNf k) : nf (memS k) = k := (nf_eq h fun m => by
  cases hs : memS k m with
  | false => simp
  | true => simp [memS_range hs]).symm

/-- One span more, in the order of the beginnings. -/
def mergeStep (out : List Sp) (s : Sp) : List Sp := match out.getLast? with
  | none => [s]
  | some t => if s.1 ≤ t.2 then out.dropLast ++ [(t.1, max t.2 s.2)] else out ++ [s]
theorem mergeStep_nil (s : Sp) : mergeStep [] s = [s] := rfl
theorem mergeStep_snoc (l : List Sp) (t s : Sp) : mergeStep (l ++ [t]) s = if s.1 ≤ t.2 then l ++ [(t.1, max t.2 s.2)] else l ++ [t] ++ [s] := by unfold mergeStep; simp
def mergeL (d : List Sp) : List Sp := d.foldl mergeStep []
theorem mergeL_snoc (d : List Sp) (s : Sp) : mergeL (d ++ [s]) = mergeStep (mergeL d) s := by unfold mergeL; rw [List.foldl_append]; rfl
theorem mergeL_spec : ∀ (d : List Sp), (∀ s ∈ d, spOk s = true) → d.Pairwise (fun a b => a.1 ≤ b.1) → IsNf (mergeL d) ∧ (∀ m, memS (mergeL d) m = memS d m) ∧ ∀ t ∈ mergeL d, ∃ a ∈ d, t.1 = a.1 := by
  intro d
  induction hn : d.length generalizing d with
  | zero => intro _ _; obtain rfl := List.eq_nil_of_length_eq_zero hn; exact ⟨IsNf.nil, fun _ => rfl, fun t h => by cases h⟩
  | succ n ih =>
    intro hok hpw
    rcases snoc_cases d with rfl | ⟨a, s, rfl⟩
    · cases hn
    · rw [List.pairwise_append] at hpw
      obtain ⟨hp1, _, hp3⟩ := hpw
      obtain ⟨h1, h2, h3⟩ := ih a (by simpa using hn) (fun x hx => hok x (by simp [hx])) hp1
      have hs := (spOk_iff s).1 (hok s (by simp))
      rw [mergeL_snoc]
      rcases snoc_cases (mergeL a) with he | ⟨l, t, he⟩
      · rw [he] at h2 ⊢
        rw [mergeStep_nil]
        refine ⟨(isNf_snoc [] s).2 ⟨IsNf.nil, (fun _ h => by cases h), hok s (by simp)⟩, fun m => ?_, fun t ht => ⟨s, by simp, by simp at ht; rw [ht]⟩⟩
        rw [memS_append, ← h2 m, memS_nil, Bool.false_or]
      · rw [he] at h1 h2 h3 ⊢
        rw [mergeStep_snoc]
        obtain ⟨k1, k2, k3⟩ := (isNf_snoc _ _).1 h1
        have k4 := (spOk_iff t).1 k3
        obtain ⟨x, hx, hxe⟩ := h3 t (by simp)
        have hts : t.1 ≤ s.1 := by rw [hxe]; exact hp3 x hx s (by simp)
        split
        · rename_i hle
          refine ⟨(isNf_snoc _ _).2 ⟨k1, k2, (spOk_iff _).2 ⟨k4.1, by show t.1 < max t.2 s.2; omega, by show max t.2 s.2 ≤ 10080; omega⟩⟩, fun m => ?_, fun y hy => ?_⟩
          · rw [memS_append a, ← h2 m, memS_append, memS_append]
            simp only [memS_cons, memS_nil, Bool.or_false]
            rw [Bool.eq_iff_iff]
            simp only [Bool.or_eq_true, spIn_iff]
            by_cases hm : memS l m = true
            · simp [hm]
            · simp only [hm, Bool.false_eq_true, false_or]; omega
          · simp at hy
            rcases hy with hy | hy
            · obtain ⟨z, hz, hze⟩ := h3 y (by simp [hy]); exact ⟨z, by simp [hz], hze⟩
            · subst hy; exact ⟨x, by simp [hx], hxe⟩
        · rename_i hle
          refine ⟨(isNf_snoc _ _).2 ⟨h1, fun y hy => ?_, hok s (by simp)⟩, fun m => ?_, fun y hy => ?_⟩
          · simp at hy
            rcases hy with hy | hy
            · have := k2 y hy; omega
            · rw [hy]; omega
          · rw [memS_append a, ← h2 m, memS_append]
          · simp at hy
            rcases hy with hy | hy | hy
            · obtain ⟨z, hz, hze⟩ := h3 y (by simp [hy]); exact ⟨z, by simp [hz], hze⟩
            · subst hy; exact ⟨x, by simp [hx], hxe⟩
            · exact ⟨s, by simp, by rw [hy]⟩
theorem merge_nf {l d : List Sp} (hp : d.Perm (l.filter spOk)) (hs : d.Pairwise (fun a b => a.1 ≤ b.1)) : mergeL d = nf (memS l) := by
  obtain ⟨h1, h2, _⟩ := mergeL_spec d (fun s h => (List.mem_filter.1 (hp.mem_iff.1 h)).2) hs
  refine nf_unique h1 (nf_isNf _) fun m => ?_
  rw [h2, memS_nf_mem, memS_perm hp, memS_filter]

/-- How many minutes ahead of n a set has. -/
def cntTo (S : Int → Bool) : Nat → Int
  | 0 => 0
  | n + 1 => cntTo S n + if S n then 1 else 0
def lenS (k : List Sp) : Int := (k.map fun s => s.2 - s.1).sum
theorem cntTo_le (S : Int → Bool) : ∀ n : Nat, 0 ≤ cntTo S n ∧ cntTo S n ≤ n
  | 0 => ⟨by simp [cntTo], by simp [cntTo]⟩
  | n + 1 => by have := cntTo_le S n; unfold cntTo; split <;> omega
theorem cntTo_congr {S T : Int → Bool} : ∀ n : Nat, (∀ m : Int, 0 ≤ m → m < n → S m = T m) → cntTo S n = cntTo T n
  | 0, _ => rfl
  | n + 1, h => by rw [cntTo, cntTo, cntTo_congr n (fun m h0 h1 => h m h0 (by omega)), h n (by omega) (by omega)]
theorem cntTo_or {S T : Int → Bool} : ∀ n : Nat, (∀ m : Int, ¬ (S m = true ∧ T m = true)) → cntTo (fun m => S m || T m) n = cntTo S n + cntTo T n
  | 0, _ => rfl
  | n + 1, h => by
    rw [cntTo, cntTo, cntTo, cntTo_or n h]
    have := h n
    cases hs : S n <;> cases ht : T n <;> simp [hs, ht] at this ⊢ <;> omega
theorem cntTo_none {S : Int → Bool} : ∀ n : Nat, (∀ m : Int, 0 ≤ m → m < n → S m = false) → cntTo S n = 0
  | 0, _ => rfl
  | n + 1, h => by rw [cntTo, cntTo_none n (fun m h0 h1 => h m h0 (by omega)), h n (by omega) (by omega)]; rfl
theorem cntTo_span (s : Sp) (h : 0 ≤ s.1 ∧ s.1 < s.2 ∧ s.2 ≤ 10080) : ∀ n : Nat, cntTo (spIn s) n = max 0 (min s.2 n - s.1)
  | 0 => by simp [cntTo]; omega
  | n + 1 => by
    rw [cntTo, cntTo_span s h n]
    split
    · rename_i hi; have := (spIn_iff _ _).1 hi; omega
    · rename_i hi
      have : ¬ (s.1 ≤ (n : Int) ∧ (n : Int) < s.2) := fun hh => hi ((spIn_iff _ _).2 ⟨h, hh⟩)
      omega
theorem lenS_eq : ∀ k : List Sp, IsNf k → lenS k = cntTo (memS k) 10080
  | [], _ => (cntTo_none (S := memS []) 10080 (fun _ _ _ => rfl)).symm
  | s :: k, h => by
    have h1 : cntTo (memS (s :: k)) 10080 = cntTo (fun m => spIn s m || memS k m) 10080 := cntTo_congr _ fun m _ _ => rfl
    have h2 := h.head
    rw [h1, cntTo_or _ (fun m ⟨a, b⟩ => by have := (spIn_iff _ _).1 a; have := h.above b; omega), cntTo_span s h2, ← lenS_eq k h.tail]
    show _ + lenS k = _
    have : ((10080 : Nat) : Int) = 10080 := rfl
    rw [this]
    simp only []
    omega
theorem lenS_nf (l : List Sp) : lenS (nf (memS l)) = cntTo (memS l) 10080 := by
  rw [lenS_eq _ (nf_isNf _)]; exact cntTo_congr _ fun m _ _ => memS_nf_mem l m
theorem cntTo_zero {S : Int → Bool} : ∀ n : Nat, cntTo S n = 0 → ∀ m : Int, 0 ≤ m → m < n → S m = false
  | 0, _, m, h0, h1 => by omega
  | n + 1, h, m, h0, h1 => by
    rw [cntTo] at h
    have := (cntTo_le S n).1
    by_cases hm : m = n
    · subst hm; cases hs : S n with
      | false => rfl
      | true => simp [hs] at h; omega
    · exact cntTo_zero n (by split at h <;> omega) m h0 (by omega)
theorem cntTo_full {S : Int → Bool} : ∀ n : Nat, cntTo S n = n → ∀ m : Int, 0 ≤ m → m < n → S m = true
  | 0, _, m, h0, h1 => by omega
  | n + 1, h, m, h0, h1 => by
    rw [cntTo] at h
    have := (cntTo_le S n).2
    by_cases hm : m = n
    · subst hm; cases hs : S n with
      | true => rfl
      | false => simp [hs] at h; omega
    · exact cntTo_full n (by split at h <;> omega) m h0 (by omega)
theorem cntTo_all {S : Int → Bool} : ∀ n : Nat, (∀ m : Int, 0 ≤ m → m < n → S m = true) → cntTo S n = n
  | 0, _ => rfl
  | n + 1, h => by rw [cntTo, cntTo_all n (fun m h0 h1 => h m h0 (by omega)), h n (by omega) (by omega)]; simp
end Go.Proofs.Ytdhccaninopicaa
