/- Hold: Next against Due: plain and walked. -/
import Derived.Test.YtafodibbcfoclaaHAwake
import Derived.Test.YtafodibbcfoclaaHNext
import Derived.Test.YtafodibbcfoclaaHSane
import Derived.Test.YtafodibbcfoclaaHFew
set_option linter.unusedSimpArgs false
set_option linter.unusedVariables false
namespace Go.Proofs.Ytafodibbcfoclaa
open Go.RowKit

def OpenT (tl : List LTim) (h : HP) : Prop := ((findT tl h.1.1.name).isSome && !(tmOf tl h.1.1.name).fired) = true
def valT2 (tl : List LTim) (h : HP) : Int := (tmOf tl h.1.1.name).since + h.2
structure NextOk (tl : List LTim) (hs : List HP) (s : Int × Bool) : Prop where
  no : s.2 = false → ∀ h ∈ hs, ¬ OpenT tl h
  yes : s.2 = true → (∃ h ∈ hs, OpenT tl h ∧ valT2 tl h = s.1) ∧ ∀ h ∈ hs, OpenT tl h → s.1 ≤ valT2 tl h
theorem nx_step (tl : List LTim) (pre : List HP) (s : Int × Bool) (h : HP) (hg : NextOk tl pre s) : NextOk tl (pre ++ [h]) (nx tl s h) := by
  obtain ⟨s1, s2⟩ := s
  unfold nx
  by_cases ho : OpenT tl h
  · have ho' : ((findT tl h.1.1.name).isSome && !(tmOf tl h.1.1.name).fired) = true := ho
    rw [if_pos ho']
    cases s2 with
    | false =>
      have hn := hg.no rfl
      have hc : (!false || decide ((tmOf tl h.1.1.name).since + h.2 < s1)) = true := by simp
      rw [if_pos hc]
      refine ⟨fun e => (by cases e), fun _ => ⟨⟨h, by simp, ho, rfl⟩, fun x hx hox => ?_⟩⟩
      rw [List.mem_append, List.mem_singleton] at hx
      rcases hx with hx | rfl
      · exact absurd hox (hn x hx)
      · exact Int.le_refl _
    | true =>
      obtain ⟨⟨y, hy, hoy, hvy⟩, hle⟩ := hg.yes rfl
      by_cases hlt : (tmOf tl h.1.1.name).since + h.2 < s1
      · have hc : (!true || decide ((tmOf tl h.1.1.name).since + h.2 < s1)) = true := by simp [hlt]
        rw [if_pos hc]
        refine ⟨fun e => (by cases e), fun _ => ⟨⟨h, by simp, ho, rfl⟩, fun x hx hox => ?_⟩⟩
        rw [List.mem_append, List.mem_singleton] at hx
        rcases hx with hx | rfl
        · have := hle x hx hox
          dsimp only at this ⊢
          omega
        · exact Int.le_refl _
      · have hc : (!true || decide ((tmOf tl h.1.1.name).since + h.2 < s1)) = false := by simp [hlt]
        rw [if_neg (by rw [hc]; decide)]
        refine ⟨fun e => (by cases e), fun _ => ⟨⟨y, by simp [hy], hoy, hvy⟩, fun x hx hox => ?_⟩⟩
        rw [List.mem_append, List.mem_singleton] at hx
        rcases hx with hx | rfl
        · exact hle x hx hox
        · show s1 ≤ (tmOf tl x.1.1.name).since + x.2
          omega
  · have ho' : ¬ ((findT tl h.1.1.name).isSome && !(tmOf tl h.1.1.name).fired) = true := ho
    rw [if_neg ho']
    refine ⟨fun e x hx => ?_, fun e => ?_⟩
    · rw [List.mem_append, List.mem_singleton] at hx
      rcases hx with hx | rfl
      · exact hg.no e x hx
      · exact ho
    · obtain ⟨⟨y, hy, hoy, hvy⟩, hle⟩ := hg.yes e
      refine ⟨⟨y, by simp [hy], hoy, hvy⟩, fun x hx hox => ?_⟩
      rw [List.mem_append, List.mem_singleton] at hx
      rcases hx with hx | rfl
      · exact hle x hx hox
      · exact absurd hox ho
theorem nx_all (tl : List LTim) : ∀ (hs pre : List HP) (s : Int × Bool), NextOk tl pre s → NextOk tl (pre ++ hs) (hs.foldl (nx tl) s)
  | [], pre, s, h => by simpa using h
  | x :: r, pre, s, h => by
    have := nx_all tl r (pre ++ [x]) _ (nx_step tl pre s x h)
    rw [List.append_assoc] at this
    exact this
theorem nextP_ok (tl : List LTim) (hs : List HP) : NextOk tl hs (nextP hs tl) := nx_all tl hs [] (0, false) ⟨fun _ h hh => (by simp at hh), fun e => (by cases e)⟩
theorem due1_nil {tl : List LTim} {now : Int} {h : HP} (hh : ¬ OpenT tl h ∨ lim now < valT2 tl h) : due1 tl now h = [] := by
  unfold due1
  rw [if_neg]
  intro e
  rw [Bool.and_eq_true, decide_eq_true_eq] at e
  rcases hh with hh | hh
  · exact hh e.1
  · unfold valT2 at hh
    have := e.2
    omega
theorem due1_more {tl : List LTim} {now : Int} {h : HP} (ho : OpenT tl h) (hv : valT2 tl h ≤ lim now) : due1 tl now h ≠ [] := by
  unfold due1
  rw [if_pos]
  · simp
  · rw [Bool.and_eq_true, decide_eq_true_eq]
    unfold valT2 at hv
    exact ⟨ho, by omega⟩
theorem dueP_nil {tl : List LTim} {now : Int} {hs : List HP} (h : ∀ x ∈ hs, ¬ OpenT tl x ∨ lim now < valT2 tl x) : dueP hs tl now = [] := by
  unfold dueP
  rw [List.flatMap_eq_nil_iff]
  exact fun x hx => due1_nil (h x hx)
theorem dueP_more {tl : List LTim} {now : Int} {hs : List HP} {x : HP} (hx : x ∈ hs) (ho : OpenT tl x) (hv : valT2 tl x ≤ lim now) : 0 < (dueP hs tl now).length := by
  rcases Nat.eq_zero_or_pos (dueP hs tl now).length with h | h
  · have h2 := List.eq_nil_of_length_eq_zero h
    unfold dueP at h2
    rw [List.flatMap_eq_nil_iff] at h2
    exact absurd (h2 x hx) (due1_more ho hv)
  · exact h
/-- What the law asks of Next and Due. -/
structure NextSays (hs : List HP) (tl : List LTim) (n : Int) : Prop where
  ge : 0 ≤ n
  le : n ≤ 2199023255552
  early : ∀ now, lim now < n → dueP hs tl now = []
  before : 0 < n → n ≤ 1099511627776 → dueP hs tl (n - 1) = []
  then_ : n ≤ 1099511627776 → 0 < (dueP hs tl n).length
theorem next_says {ps : List RP} {l : List LTim} (h : (nextP (holdsP ps) (validP l)).2 = true) : NextSays (holdsP ps) (validP l) (nextP (holdsP ps) (validP l)).1 := by
  obtain ⟨⟨x, hx, ho, hv⟩, hle⟩ := (nextP_ok (validP l) (holdsP ps)).yes h
  have r1 := trg_range (holdsP_mem hx).2
  have r2 := tmOf_rng (validP_ok l) x.1.1.name
  have hv' : (tmOf (validP l) x.1.1.name).since + x.2 = (nextP (holdsP ps) (validP l)).1 := hv
  unfold MT at r1 r2
  generalize (nextP (holdsP ps) (validP l)).1 = n at *
  have early : ∀ now, lim now < n → dueP (holdsP ps) (validP l) now = [] := fun now hlt => dueP_nil fun y hy => by
    by_cases hoy : OpenT (validP l) y
    · exact .inr (Int.lt_of_lt_of_le hlt (hle y hy hoy))
    · exact .inl hoy
  refine ⟨by omega, by omega, early, fun h0 h1 => early _ ?_, fun h1 => dueP_more hx ho ?_⟩
  · rw [lim_id (by omega) (by unfold MT; omega)]; omega
  · rw [lim_id (by omega) (by unfold MT; omega), hv]; exact Int.le_refl _
theorem next_none {ps : List RP} {l : List LTim} (h : (nextP (holdsP ps) (validP l)).2 = false) (now : Int) : dueP (holdsP ps) (validP l) now = [] :=
  dueP_nil fun x hx => .inl ((nextP_ok (validP l) (holdsP ps)).no h x hx)
end Go.Proofs.Ytafodibbcfoclaa
