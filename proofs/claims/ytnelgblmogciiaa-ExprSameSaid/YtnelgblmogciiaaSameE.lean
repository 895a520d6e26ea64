/- Are two expressions equal? The reference. -/
import Derived.Test.YtnelgblmogciiaaTree
set_option linter.unusedSimpArgs false
set_option linter.unusedVariables false
namespace Go.Proofs.Ytnelgblmogciiaa
open Go.RowKit


def hdEq (h h' : Hd) : Bool := decide (h.kind = h'.kind ∧ h.n = h'.n ∧ h.m = h'.m ∧ h.name = h'.name ∧ h.vk = h'.vk ∧ h.vn = h'.vn ∧ h.vs = h'.vs ∧ h.dev = h'.dev ∧ h.cl = h'.cl ∧ h.at_ = h'.at_)
theorem hdEq_iff (h h' : Hd) : hdEq h h' = true ↔ h = h' := by
  cases h; cases h'
  simp [hdEq]
mutual
def sameE : LExpr → LExpr → Bool
  | .mk h ks, .mk h' ks' => hdEq h h' && (ks.length == ks'.length && sameL ks ks')
def sameL : List LExpr → List LExpr → Bool
  | k :: ks, k' :: ks' => sameE k k' && sameL ks ks'
  | _, _ => true
end
theorem sameE_iff (e : LExpr) : ∀ e', sameE e e' = true ↔ e = e' := by
  induction e using LExpr.ind with | _ hd ks ih => ?_
  intro e'
  obtain ⟨hd', ks'⟩ := e'
  have hL : ∀ (l l' : List LExpr), (∀ (i : Nat) (hi : i < l.length), ∀ e', sameE l[i] e' = true ↔ l[i] = e') → l.length = l'.length → (sameL l l' = true ↔ l = l') := by
    intro l
    induction l with
    | nil => intro l' _ hl; cases l' with | nil => simp [sameL] | cons => simp at hl
    | cons k l ihl =>
      intro l' h hl
      cases l' with
      | nil => simp at hl
      | cons k' l' =>
        have h0 := h 0 (by simp) k'
        simp only [List.getElem_cons_zero] at h0
        rw [sameL, Bool.and_eq_true, h0, ihl l' (fun i hi => by have := h (i + 1) (by simpa using hi); simpa using this) (by simpa using hl), List.cons.injEq]
  rw [sameE, Bool.and_eq_true, Bool.and_eq_true, hdEq_iff, beq_iff_eq, LExpr.mk.injEq]
  constructor
  · rintro ⟨h1, h2, h3⟩; exact ⟨h1, (hL ks ks' ih h2).1 h3⟩
  · rintro ⟨h1, h2⟩; subst h2; exact ⟨h1, rfl, (hL ks ks ih rfl).2 rfl⟩
theorem sameE_self (e : LExpr) : sameE e e = true := (sameE_iff e e).2 rfl
theorem sameL_take : ∀ (l l' : List LExpr) (j : Nat) (h : j < l.length) (h' : j < l'.length), sameL (l.take (j + 1)) (l'.take (j + 1)) = (sameL (l.take j) (l'.take j) && sameE l[j] l'[j])
  | [], _, _, h, _ => by simp at h
  | _ :: _, [], _, _, h' => by simp at h'
  | k :: l, k' :: l', 0, _, _ => by simp [sameL]
  | k :: l, k' :: l', j + 1, h, h' => by
    have := sameL_take l l' j (by simpa using h) (by simpa using h')
    rw [List.take_succ_cons, List.take_succ_cons, List.take_succ_cons, List.take_succ_cons, sameL, sameL, this, Bool.and_assoc]; rfl
theorem sameL_bad : ∀ (l l' : List LExpr) (j : Nat) (h : j < l.length) (h' : j < l'.length), sameE l[j] l'[j] = false → sameL l l' = false
  | [], _, _, h, _, _ => by simp at h
  | _ :: _, [], _, _, h', _ => by simp at h'
  | k :: l, k' :: l', 0, _, _, hb => by have hb' : sameE k k' = false := hb; rw [sameL, hb']; rfl
  | k :: l, k' :: l', j + 1, h, h', hb => by
    have := sameL_bad l l' j (by simpa using h) (by simpa using h') (by simpa using hb)
    rw [sameL, this, Bool.and_false]

/-- The first field in which two heads differ. -/
def Diff (a b : Hd) : Prop :=
  a.kind ≠ b.kind ∨ (a.kind = b.kind ∧ a.n ≠ b.n) ∨ (a.kind = b.kind ∧ a.n = b.n ∧ a.m ≠ b.m) ∨ (a.kind = b.kind ∧ a.n = b.n ∧ a.m = b.m ∧ a.name ≠ b.name) ∨
  (a.kind = b.kind ∧ a.n = b.n ∧ a.m = b.m ∧ a.name = b.name ∧ a.vk ≠ b.vk) ∨ (a.kind = b.kind ∧ a.n = b.n ∧ a.m = b.m ∧ a.name = b.name ∧ a.vk = b.vk ∧ a.vn ≠ b.vn) ∨
  (a.kind = b.kind ∧ a.n = b.n ∧ a.m = b.m ∧ a.name = b.name ∧ a.vk = b.vk ∧ a.vn = b.vn ∧ a.vs ≠ b.vs) ∨ (a.kind = b.kind ∧ a.n = b.n ∧ a.m = b.m ∧ a.name = b.name ∧ a.vk = b.vk ∧ a.vn = b.vn ∧ a.vs = b.vs ∧ a.dev ≠ b.dev) ∨
  (a.kind = b.kind ∧ a.n = b.n ∧ a.m = b.m ∧ a.name = b.name ∧ a.vk = b.vk ∧ a.vn = b.vn ∧ a.vs = b.vs ∧ a.dev = b.dev ∧ a.cl ≠ b.cl) ∨ (a.kind = b.kind ∧ a.n = b.n ∧ a.m = b.m ∧ a.name = b.name ∧ a.vk = b.vk ∧ a.vn = b.vn ∧ a.vs = b.vs ∧ a.dev = b.dev ∧ a.cl = b.cl ∧ a.at_ ≠ b.at_)
theorem diff_of {a b : Hd} (h : hdEq a b = false) : Diff a b := by
  by_cases h1 : a.kind = b.kind
  · by_cases h2 : a.n = b.n
    · by_cases h3 : a.m = b.m
      · by_cases h4 : a.name = b.name
        · by_cases h5 : a.vk = b.vk
          · by_cases h6 : a.vn = b.vn
            · by_cases h7 : a.vs = b.vs
              · by_cases h8 : a.dev = b.dev
                · by_cases h9 : a.cl = b.cl
                  · by_cases h10 : a.at_ = b.at_
                    · simp [hdEq, h1, h2, h3, h4, h5, h6, h7, h8, h9, h10] at h
                    · unfold Diff; simp [h1, h2, h3, h4, h5, h6, h7, h8, h9, h10]
                  · unfold Diff; simp [h1, h2, h3, h4, h5, h6, h7, h8, h9]
                · unfold Diff; simp [h1, h2, h3, h4, h5, h6, h7, h8]
              · unfold Diff; simp [h1, h2, h3, h4, h5, h6, h7]
            · unfold Diff; simp [h1, h2, h3, h4, h5, h6]
          · unfold Diff; simp [h1, h2, h3, h4, h5]
        · unfold Diff; simp [h1, h2, h3, h4]
      · unfold Diff; simp [h1, h2, h3]
    · unfold Diff; simp [h1, h2]
  · unfold Diff; simp [h1]
theorem int_ne {a b : Int} (h : a ≠ b) : (a == b) = false ∧ (a != b) = true ∧ ¬ a = b := ⟨by simpa using h, by simpa using h, h⟩
theorem str_ne {a b : ByteArray} (h : a ≠ b) : (a.toList == b.toList) = false ∧ (a.toList != b.toList) = true ∧ ¬ a.toList = b.toList := by
  have h' : ¬ a.toList = b.toList := fun e => h ((toList_inj _ _).1 e)
  exact ⟨by simpa using h', by simpa using h', h'⟩

set_option maxRecDepth 100000 in
set_option maxHeartbeats 8000000 in
theorem rdiff_any (a b : Hd) (A A' : Option Addr) (l l' c c' : Nat) (w : World) (h : Diff a b) :
    Calls Try.prog 36 #[.agg (a.cells (.slice A l c)).toArray, .agg (b.cells (.slice A' l' c')).toArray] w fun r w' => r = .returned (.bool false) ∧ Below w.heap.size w w' := by
  unfold Hd.cells
  rcases h with h | ⟨e1, h⟩ | ⟨e1, e2, h⟩ | ⟨e1, e2, e3, h⟩ | ⟨e1, e2, e3, e4, h⟩ | ⟨e1, e2, e3, e4, e5, h⟩ | ⟨e1, e2, e3, e4, e5, e6, h⟩ | ⟨e1, e2, e3, e4, e5, e6, e7, h⟩ | ⟨e1, e2, e3, e4, e5, e6, e7, e8, h⟩ | ⟨e1, e2, e3, e4, e5, e6, e7, e8, e9, h⟩
  · obtain ⟨q1, q2, q3⟩ := int_ne h
    clear h
    go_enter Try.func36, Try.ntmps36
    go_wp2_with fail
    go_ret
    exact ⟨rfl, ((Below.refl _ _).al _).al _⟩
  · obtain ⟨q1, q2, q3⟩ := int_ne h
    rw [e1]
    clear h e1
    go_enter Try.func36, Try.ntmps36
    go_wp2_with fail
    go_ret
    exact ⟨rfl, ((Below.refl _ _).al _).al _⟩
  · obtain ⟨q1, q2, q3⟩ := int_ne h
    rw [e1, e2]
    clear h e1 e2
    go_enter Try.func36, Try.ntmps36
    go_wp2_with fail
    go_ret
    exact ⟨rfl, ((Below.refl _ _).al _).al _⟩
  · obtain ⟨q1, q2, q3⟩ := str_ne h
    rw [e1, e2, e3]
    clear h e1 e2 e3
    go_enter Try.func36, Try.ntmps36
    go_wp2_with fail
    go_ret
    exact ⟨rfl, ((Below.refl _ _).al _).al _⟩
  · obtain ⟨q1, q2, q3⟩ := int_ne h
    rw [e1, e2, e3, e4]
    clear h e1 e2 e3 e4
    go_enter Try.func36, Try.ntmps36
    go_wp2_with fail
    go_ret
    exact ⟨rfl, ((Below.refl _ _).al _).al _⟩
  · obtain ⟨q1, q2, q3⟩ := int_ne h
    rw [e1, e2, e3, e4, e5]
    clear h e1 e2 e3 e4 e5
    go_enter Try.func36, Try.ntmps36
    go_wp2_with fail
    go_ret
    exact ⟨rfl, ((Below.refl _ _).al _).al _⟩
  · obtain ⟨q1, q2, q3⟩ := str_ne h
    rw [e1, e2, e3, e4, e5, e6]
    clear h e1 e2 e3 e4 e5 e6
    go_enter Try.func36, Try.ntmps36
    go_wp2_with fail
    go_ret
    exact ⟨rfl, ((Below.refl _ _).al _).al _⟩
  · obtain ⟨q1, q2, q3⟩ := int_ne h
    rw [e1, e2, e3, e4, e5, e6, e7]
    clear h e1 e2 e3 e4 e5 e6 e7
    go_enter Try.func36, Try.ntmps36
    go_wp2_with fail
    go_ret
    exact ⟨rfl, ((Below.refl _ _).al _).al _⟩
  · obtain ⟨q1, q2, q3⟩ := str_ne h
    rw [e1, e2, e3, e4, e5, e6, e7, e8]
    clear h e1 e2 e3 e4 e5 e6 e7 e8
    go_enter Try.func36, Try.ntmps36
    go_wp2_with fail
    go_ret
    exact ⟨rfl, ((Below.refl _ _).al _).al _⟩
  · obtain ⟨q1, q2, q3⟩ := str_ne h
    rw [e1, e2, e3, e4, e5, e6, e7, e8, e9]
    clear h e1 e2 e3 e4 e5 e6 e7 e8 e9
    go_enter Try.func36, Try.ntmps36
    go_wp2_with fail
    go_ret
    exact ⟨rfl, ((Below.refl _ _).al _).al _⟩

set_option maxRecDepth 100000 in
set_option maxHeartbeats 2000000 in
theorem rlen_any (a : Hd) (A A' : Option Addr) (l l' c c' : Nat) (w : World) (h : l ≠ l') :
    Calls Try.prog 36 #[.agg (a.cells (.slice A l c)).toArray, .agg (a.cells (.slice A' l' c')).toArray] w fun r w' => r = .returned (.bool false) ∧ Below w.heap.size w w' := by
  unfold Hd.cells
  have q1 : ((l : Int) == l') = false := by simp; omega
  have q2 : ((l : Int) != l') = true := by simp; omega
  have q3 : (l == l') = false := by simpa using h
  have q4 : (l != l') = true := by simpa using h
  clear h
  go_enter Try.func36, Try.ntmps36
  go_wp2_with fail
  go_ret
  exact ⟨rfl, ((Below.refl _ _).al _).al _⟩

end Go.Proofs.Ytnelgblmogciiaa
