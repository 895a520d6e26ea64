/- Keys in order: the plain law. -/
import Derived.Test.YtnelgblmogciiaaWalks
set_option linter.unusedSimpArgs false
set_option linter.unusedVariables false
namespace Go.Proofs.Ytnelgblmogciiaa
open Go.RowKit

structure LKey where
  dev : Int
  cl : ByteArray
  at_ : ByteArray
deriving DecidableEq

def kcells (k : LKey) : List Value := [.int .i64 k.dev, .string k.cl, .string k.at_]
def Hd.key (h : Hd) : LKey := ⟨h.dev, h.cl, h.at_⟩

def kless (a b : LKey) : Bool :=
  if a.dev ≠ b.dev then decide (a.dev < b.dev) else if a.cl ≠ b.cl then Op.bytesLess a.cl.toList b.cl.toList else Op.bytesLess a.at_.toList b.at_.toList

theorem bl_eq : ∀ (x y : List UInt8), Op.bytesLess x y = decide (x < y)
  | [], [] => by simp [Op.bytesLess]
  | _ :: _, [] => by simp [Op.bytesLess]
  | [], _ :: _ => by simp [Op.bytesLess]
  | a :: x, b :: y => by
    rw [Op.bytesLess, bl_eq x y]
    simp only [List.cons_lt_cons_iff]
    by_cases h1 : a < b <;> by_cases h2 : a = b <;> by_cases h3 : x < y <;> simp [h1, h2, h3]
theorem bl_irrefl (x : List UInt8) : Op.bytesLess x x = false := by rw [bl_eq]; simp [List.lt_irrefl]
theorem bl_trans (x y z : List UInt8) (h1 : Op.bytesLess x y = true) (h2 : Op.bytesLess y z = true) : Op.bytesLess x z = true := by
  rw [bl_eq, decide_eq_true_eq] at *
  exact List.lt_trans h1 h2
theorem bl_tri (x y : List UInt8) (h1 : Op.bytesLess x y = false) (h2 : x ≠ y) : Op.bytesLess y x = true := by
  rw [bl_eq, decide_eq_false_iff_not] at h1
  rw [bl_eq, decide_eq_true_eq]
  rcases List.le_total x y with h | h
  · exact absurd (List.le_antisymm h (List.not_lt.1 h1)) h2
  · exact List.not_le.1 fun h' => h2 (List.le_antisymm h' h)

theorem kless_irrefl (a : LKey) : kless a a = false := by simp [kless, bl_irrefl]
theorem kless_trans (a b c : LKey) (h1 : kless a b = true) (h2 : kless b c = true) : kless a c = true := by
  obtain ⟨a1, a2, a3⟩ := a
  obtain ⟨b1, b2, b3⟩ := b
  obtain ⟨c1, c2, c3⟩ := c
  simp only [kless] at *
  have hT := bl_trans
  by_cases e1 : a1 = b1 <;> by_cases e2 : b1 = c1
  · subst e1 e2
    simp only [ne_eq, not_true_eq_false, if_false] at *
    by_cases e3 : a2 = b2 <;> by_cases e4 : b2 = c2
    · subst e3 e4
      simp only [not_true_eq_false, if_false] at *
      exact hT _ _ _ h1 h2
    · subst e3
      simp only [not_true_eq_false, if_false, if_pos e4] at *
      exact h2
    · subst e4
      simp only [not_true_eq_false, if_false, if_pos e3] at *
      exact h1
    · rw [if_pos e3] at h1
      rw [if_pos e4] at h2
      have := hT _ _ _ h1 h2
      by_cases e5 : a2 = c2
      · subst e5
        rw [bl_irrefl] at this
        cases this
      · rw [if_pos e5]; exact this
  · subst e1
    simp only [ne_eq, not_true_eq_false, if_false, e2, not_false_eq_true, if_true] at *
    exact h2
  · subst e2
    simp only [ne_eq, not_true_eq_false, if_false, e1, not_false_eq_true, if_true] at *
    exact h1
  · simp only [ne_eq, e1, e2, not_false_eq_true, if_true, decide_eq_true_eq] at h1 h2
    have e3 : a1 ≠ c1 := by omega
    simp only [ne_eq, e3, not_false_eq_true, if_true, decide_eq_true_eq]
    omega
theorem kless_tri (a b : LKey) (h1 : kless a b = false) (h2 : a ≠ b) : kless b a = true := by
  obtain ⟨a1, a2, a3⟩ := a
  obtain ⟨b1, b2, b3⟩ := b
  simp only [kless] at *
  by_cases e1 : a1 = b1
  · subst e1
    simp only [ne_eq, not_true_eq_false, if_false] at *
    by_cases e2 : a2 = b2
    · subst e2
      simp only [not_true_eq_false, if_false] at *
      exact bl_tri _ _ h1 fun h => h2 (by rw [(toList_inj _ _).1 h])
    · rw [if_pos e2] at h1
      rw [if_pos (fun h => e2 h.symm)]
      exact bl_tri _ _ h1 fun h => e2 ((toList_inj _ _).1 h)
  · simp only [ne_eq, e1, not_false_eq_true, if_true, decide_eq_false_iff_not] at h1
    have e3 : b1 ≠ a1 := fun h => e1 h.symm
    simp only [ne_eq, e3, not_false_eq_true, if_true, decide_eq_true_eq]
    omega
theorem kless_asym (a b : LKey) (h : kless a b = true) : kless b a = false := by
  rcases Bool.eq_false_or_eq_true (kless b a) with h' | h'
  · have := kless_trans _ _ _ h h'
    rw [kless_irrefl] at this
    cases this
  · exact h'

/-- The list is in strict order. -/
def KSorted (l : List LKey) : Prop := l.Pairwise (fun a b => kless a b = true)

/-- A key laid into its place. -/
def insK : List LKey → LKey → List LKey
  | [], k => [k]
  | a :: l, k => if kless a k then a :: insK l k else if a = k then a :: l else k :: a :: l

theorem mem_insK (l : List LKey) (k x : LKey) : x ∈ insK l k ↔ x = k ∨ x ∈ l := by
  induction l with
  | nil => simp [insK]
  | cons a l ih =>
    rw [insK]
    split
    · simp only [List.mem_cons, ih]; exact ⟨fun h => by rcases h with h | h | h <;> simp [h], fun h => by rcases h with h | h | h <;> simp [h]⟩
    · split
      · rename_i h; subst h; simp
      · simp
theorem sorted_insK (l : List LKey) (k : LKey) (h : KSorted l) : KSorted (insK l k) := by
  induction l with
  | nil => simp [insK, KSorted]
  | cons a l ih =>
    obtain ⟨h1, h2⟩ := List.pairwise_cons.1 h
    rw [insK]
    split
    · rename_i h3
      refine List.pairwise_cons.2 ⟨fun x hx => ?_, ih h2⟩
      rcases (mem_insK _ _ _).1 hx with rfl | hx
      · exact h3
      · exact h1 _ hx
    · rename_i h3
      split
      · exact h
      · rename_i h4
        have h5 := kless_tri _ _ (by simpa using h3) h4
        refine List.pairwise_cons.2 ⟨fun x hx => ?_, h⟩
        rcases List.mem_cons.1 hx with rfl | hx
        · exact h5
        · exact kless_trans _ _ _ h5 (h1 _ hx)

/-- How many keys at the head are less than this one. -/
def posK : List LKey → LKey → Nat
  | [], _ => 0
  | a :: l, k => if kless a k then posK l k + 1 else 0
theorem posK_le (l : List LKey) (k : LKey) : posK l k ≤ l.length := by
  induction l with
  | nil => simp [posK]
  | cons a l ih => rw [posK]; split <;> simp <;> omega
theorem posK_lt (l : List LKey) (k : LKey) : ∀ (i : Nat) (hi : i < l.length), i < posK l k → kless l[i] k = true := by
  induction l with
  | nil => intro i hi; simp at hi
  | cons a l ih =>
    intro i hi h
    rw [posK] at h
    split at h
    · rename_i h1
      cases i with
      | zero => exact h1
      | succ i => exact ih i (by simpa using hi) (by omega)
    · omega
theorem posK_at (l : List LKey) (k : LKey) (h : posK l k < l.length) : kless l[posK l k] k = false := by
  induction l with
  | nil => simp at h
  | cons a l ih =>
    by_cases h1 : kless a k = true
    · have e : posK (a :: l) k = posK l k + 1 := by rw [posK, if_pos h1]
      simp only [e, List.getElem_cons_succ]
      exact ih (by rw [e] at h; simpa using h)
    · have e : posK (a :: l) k = 0 := by rw [posK, if_neg h1]
      simp only [e, List.getElem_cons_zero]
      simpa using h1
theorem insK_pos (l : List LKey) (k : LKey) : insK l k = if l[posK l k]? = some k then l else l.take (posK l k) ++ k :: l.drop (posK l k) := by
  induction l with
  | nil => simp [insK, posK]
  | cons a l ih =>
    rw [insK, posK]
    split
    · simp only [List.getElem?_cons_succ, List.take_succ_cons, List.drop_succ_cons, ih]
      split <;> simp
    · split
      · rename_i h; simp [h]
      · rename_i h; simp [h]

/-- The reference's way: a new list, the key laid ahead of the first that is not less. -/
def putK : Bool → List LKey → LKey → List LKey
  | d, [], k => if d then [] else [k]
  | d, a :: l, k => (if !d && !kless a k then [k] else []) ++ (if a = k then [] else [a]) ++ putK (d || !kless a k) l k
theorem putK_true (l : List LKey) (k : LKey) (h : k ∉ l) : putK true l k = l := by
  induction l with
  | nil => simp [putK]
  | cons a l ih =>
    have h1 : a ≠ k := fun e => h (by simp [e])
    rw [putK]
    simp only [Bool.not_true, Bool.false_and, Bool.true_or, if_neg h1]
    rw [ih fun e => h (by simp [e])]
    rfl
theorem putK_any (l : List LKey) (k : LKey) (h : KSorted l) : putK false l k = insK l k := by
  induction l with
  | nil => simp [putK, insK]
  | cons a l ih =>
    obtain ⟨h1, h2⟩ := List.pairwise_cons.1 h
    rw [putK, insK]
    rcases Bool.eq_false_or_eq_true (kless a k) with h3 | h3
    · have h4 : a ≠ k := fun e => by rw [e, kless_irrefl] at h3; cases h3
      rw [h3]
      simp only [Bool.not_true, Bool.and_false, Bool.false_or, if_neg h4, if_true]
      rw [ih h2]
      rfl
    · have h4 : k ∉ l := fun hk => by
        have h5 := h1 _ hk
        rw [h3] at h5
        cases h5
      rw [h3]
      simp only [Bool.not_false, Bool.and_self, Bool.or_true, Bool.false_eq_true, if_false, if_true]
      rw [putK_true _ _ h4]
      by_cases h6 : a = k
      · subst h6; simp
      · simp [h6]

/-- The keys that an expression reads, in the order of the visit. -/
def headK (h : Hd) : List LKey := if h.kind = 2 then [h.key] else []
mutual
def readsE : LExpr → List LKey
  | .mk h ks => headK h ++ readsL ks
def readsL : List LExpr → List LKey
  | [] => []
  | k :: ks => readsE k ++ readsL ks
end
def keysE (e : LExpr) : List LKey := (readsE e).foldl insK []
theorem mem_foldK (r : List LKey) : ∀ (l : List LKey) (x : LKey), x ∈ r.foldl insK l ↔ x ∈ r ∨ x ∈ l := by
  induction r with
  | nil => simp
  | cons a r ih =>
    intro l x
    rw [List.foldl_cons, ih, mem_insK, List.mem_cons]
    exact ⟨fun h => by rcases h with h | h | h <;> simp [h], fun h => by rcases h with (h | h) | h <;> simp [h]⟩
theorem sorted_foldK (r : List LKey) : ∀ l, KSorted l → KSorted (r.foldl insK l) := by
  induction r with
  | nil => exact fun l h => h
  | cons a r ih => exact fun l h => ih _ (sorted_insK _ _ h)
theorem mem_keysE (e : LExpr) (x : LKey) : x ∈ keysE e ↔ x ∈ readsE e := by rw [keysE, mem_foldK]; simp
theorem sorted_keysE (e : LExpr) : KSorted (keysE e) := sorted_foldK _ _ List.Pairwise.nil
theorem len_insK (l : List LKey) (k : LKey) : (insK l k).length ≤ l.length + 1 := by
  induction l with
  | nil => simp [insK]
  | cons a l ih =>
    rw [insK]
    split
    · simp only [List.length_cons]; omega
    · split <;> simp
theorem len_foldK (r : List LKey) : ∀ l, (r.foldl insK l).length ≤ l.length + r.length := by
  induction r with
  | nil => simp
  | cons a r ih => intro l; have := ih (insK l a); have := len_insK l a; rw [List.foldl_cons, List.length_cons]; omega

end Go.Proofs.Ytnelgblmogciiaa
