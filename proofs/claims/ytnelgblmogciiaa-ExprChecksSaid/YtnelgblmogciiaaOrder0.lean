/- The check of an expression by its parts; the order of two kids does not matter. -/
import Derived.Test.YtnelgblmogciiaaFindZ
set_option linter.unusedSimpArgs false
set_option linter.unusedVariables false
namespace Go.Proofs.Ytnelgblmogciiaa
open Go.RowKit

mutual
def sizeE : LExpr → Nat
  | .mk _ ks => 1 + sizeL ks
def sizeL : List LExpr → Nat
  | [] => 0
  | k :: ks => sizeE k + sizeL ks
end
mutual
def depthE : LExpr → Nat
  | .mk _ ks => 1 + depthL ks
def depthL : List LExpr → Nat
  | [] => 0
  | k :: ks => max (depthE k) (depthL ks)
end

theorem rwalk_iff (e : LExpr) : ∀ lv bf : Int, lv ≤ 25 → 0 ≤ bf → bf ≤ 200 →
    ((rwalk e lv bf).2 = 0 ↔ okE e ∧ lv + depthE e ≤ 25 ∧ bf + sizeE e ≤ 200) ∧ ((rwalk e lv bf).2 = 0 → (rwalk e lv bf).1 = bf + sizeE e) := by
  induction e using LExpr.ind with | _ hd ks ih => ?_
  have hL : ∀ (l : List LExpr), (∀ (i : Nat) (hi : i < l.length), ∀ lv bf : Int, lv ≤ 25 → 0 ≤ bf → bf ≤ 200 →
      ((rwalk l[i] lv bf).2 = 0 ↔ okE l[i] ∧ lv + depthE l[i] ≤ 25 ∧ bf + sizeE l[i] ≤ 200) ∧ ((rwalk l[i] lv bf).2 = 0 → (rwalk l[i] lv bf).1 = bf + sizeE l[i])) →
      ∀ lv bf : Int, lv ≤ 25 → 0 ≤ bf → bf ≤ 200 →
      ((rwalkL l lv bf).2 = 0 ↔ (∀ k ∈ l, okE k) ∧ lv + depthL l ≤ 25 ∧ bf + sizeL l ≤ 200) ∧ ((rwalkL l lv bf).2 = 0 → (rwalkL l lv bf).1 = bf + sizeL l) := by
    intro l
    induction l with
    | nil => intro _ lv bf h1 h2 h3; simp [rwalkL, depthL, sizeL]; omega
    | cons k ks ihl =>
      intro h lv bf h1 h2 h3
      have hk := h 0 (by simp) lv bf h1 h2 h3
      simp only [List.getElem_cons_zero] at hk
      obtain ⟨k1, k2⟩ := hk
      simp only [rwalkL, depthL, sizeL, List.mem_cons, forall_eq_or_imp]
      by_cases h0 : (rwalk k lv bf).2 = 0
      · rw [if_neg (by simp [h0])]
        have e1 := k2 h0
        have e2 := k1.1 h0
        rw [e1]
        have := ihl (fun i hi => by have := h (i + 1) (by simpa using hi); simpa using this) lv (bf + sizeE k) h1 (by omega) e2.2.2
        obtain ⟨t1, t2⟩ := this
        refine ⟨t1.trans ⟨fun ⟨a, b, c⟩ => ⟨⟨e2.1, a⟩, by omega, by omega⟩, fun ⟨⟨_, a⟩, b, c⟩ => ⟨a, by omega, by omega⟩⟩, fun h' => by rw [t2 h']; push_cast; omega⟩
      · rw [if_pos h0]
        refine ⟨⟨fun h' => absurd h' h0, fun ⟨⟨a, _⟩, b, c⟩ => absurd (k1.2 ⟨a, by omega, by omega⟩) h0⟩, fun h' => absurd h' h0⟩
  intro lv bf h1 h2 h3
  simp only [rwalk, okE, depthE, sizeE]
  by_cases a1 : 24 < lv
  · rw [if_pos a1]
    refine ⟨⟨fun h' => by simp at h', fun ⟨_, b, _⟩ => by omega⟩, fun h' => by simp at h'⟩
  · rw [if_neg a1]
    by_cases a2 : 200 ≤ bf
    · rw [if_pos a2]
      refine ⟨⟨fun h' => by simp at h', fun ⟨_, _, b⟩ => by omega⟩, fun h' => by simp at h'⟩
    · rw [if_neg a2]
      by_cases a3 : nodeCheck hd ks.length = 0
      · rw [if_neg (by simp [a3])]
        obtain ⟨t1, t2⟩ := hL ks ih (lv + 1) (bf + 1) (by omega) (by omega) (by omega)
        refine ⟨t1.trans ⟨fun ⟨a, b, c⟩ => ⟨⟨a3, a⟩, by omega, by omega⟩, fun ⟨⟨_, a⟩, b, c⟩ => ⟨a, by omega, by omega⟩⟩, fun h' => by rw [t2 h']; push_cast; omega⟩
      · rw [if_pos a3]
        refine ⟨⟨fun h' => absurd h' a3, fun ⟨⟨a, _⟩, _⟩ => absurd a a3⟩, fun h' => absurd h' a3⟩

theorem checkE_iff (e : LExpr) : checkE e = 0 ↔ okE e ∧ depthE e ≤ 24 ∧ sizeE e ≤ 200 := by
  have := (rwalk_iff e 1 0 (by omega) (by omega) (by omega)).1
  rw [checkE, this]
  constructor
  · rintro ⟨a, b, c⟩; exact ⟨a, by omega, by omega⟩
  · rintro ⟨a, b, c⟩; exact ⟨a, by omega, by omega⟩

theorem junE_swap (d : Int) (x y : EV) : junE d [x, y] false = junE d [y, x] false := by
  simp only [junE]
  repeat' split
  all_goals first | rfl | grind
theorem opE_swap (k : Int) (hk : k = 9 ∨ k = 11 ∨ k = 13) (k1 n1 : Int) (s1 : ByteArray) (k2 n2 : Int) (s2 : ByteArray) : opE k k1 n1 s1 k2 n2 s2 = opE k k2 n2 s2 k1 n1 s1 := by
  have e1 : (k1 = k2 ∧ n1 = n2 ∧ s1 = s2) ↔ (k2 = k1 ∧ n2 = n1 ∧ s2 = s1) := ⟨fun ⟨a, b, c⟩ => ⟨a.symm, b.symm, c.symm⟩, fun ⟨a, b, c⟩ => ⟨a.symm, b.symm, c.symm⟩⟩
  have e2 : (k1 ≠ 2 ∨ k2 ≠ 2) ↔ (k2 ≠ 2 ∨ k1 ≠ 2) := Or.comm
  unfold opE
  rcases hk with rfl | rfl | rfl
  · simp [e1]
  · simp [e2, Int.add_comm]
  · simp [e2, Int.mul_comm]

theorem evalE_swap (V : LView) (h : Hd) (a b : LExpr) (hk : h.kind = 7 ∨ h.kind = 8 ∨ h.kind = 9 ∨ h.kind = 11 ∨ h.kind = 13) : evalE V (.mk h [a, b]) = evalE V (.mk h [b, a]) := by
  have hc : checkE (.mk h [a, b]) = 0 ↔ checkE (.mk h [b, a]) = 0 := by
    rw [checkE_iff, checkE_iff]
    simp only [okE, depthE, depthL, sizeE, sizeL, List.length_cons, List.length_nil, List.mem_cons, List.not_mem_nil, or_false, forall_eq_or_imp, forall_eq]
    constructor
    · rintro ⟨⟨h1, h2, h3⟩, h4, h5⟩; exact ⟨⟨h1, h3, h2⟩, by omega, by omega⟩
    · rintro ⟨⟨h1, h2, h3⟩, h4, h5⟩; exact ⟨⟨h1, h3, h2⟩, by omega, by omega⟩
  have hf : findS V (.mk h [a, b]) = findS V (.mk h [b, a]) := by
    simp only [findS, findL, nodeE]
    rcases hk with h1 | h1 | h1 | h1 | h1 <;> simp [h1]
    · exact junE_swap _ _ _
    · exact junE_swap _ _ _
    all_goals
      rw [opE_swap _ (by omega)]
      simp only [or_comm]
  unfold evalE
  by_cases h0 : checkE (.mk h [a, b]) = 0
  · rw [if_pos h0, if_pos (hc.1 h0), hf]
  · rw [if_neg h0, if_neg (fun h' => h0 (hc.2 h'))]

end Go.Proofs.Ytnelgblmogciiaa
