/- Guard: the first of a list: names, items. -/
import Derived.Test.YtafodibbcfoclaaGreatHMem
import Derived.Shelf.Abstract
set_option linter.unusedSimpArgs false
set_option linter.unusedVariables false
namespace Go.Proofs.YtafodibbcfoclaaGreat
open Go.RowKit

/-- The first place of what is asked for, or -1. -/
def IdxAt {α : Type} (p : α → Bool) (l : List α) (z : Int) : Prop := (z = -1 ∧ ∀ x ∈ l, p x = false) ∨ ∃ (j : Nat) (h : j < l.length), z = (j : Int) ∧ p l[j] = true ∧ ∀ (q : Nat) (hq : q < j), p (l[q]'(Nat.lt_trans hq h)) = false
/-- None so far. -/
def NoneTo {α : Type} (p : α → Bool) (l : List α) (j : Nat) : Prop := ∀ (q : Nat) (hq : q < l.length), q < j → p l[q] = false
theorem NoneTo.zero {α : Type} (p : α → Bool) (l : List α) : NoneTo p l 0 := fun q hq h => by omega
theorem NoneTo.step {α : Type} {p : α → Bool} {l : List α} {j : Nat} (h : NoneTo p l j) (hj : j < l.length) (hp : p l[j] = false) : NoneTo p l (j + 1) := fun q hq hlt => by
  by_cases e : q = j
  · subst e; exact hp
  · exact h q hq (by omega)
theorem NoneTo.found {α : Type} {p : α → Bool} {l : List α} {j : Nat} (h : NoneTo p l j) (hj : j < l.length) (hp : p l[j] = true) : IdxAt p l (j : Int) := .inr ⟨j, hj, rfl, hp, fun q hq => h q _ hq⟩
theorem NoneTo.none {α : Type} {p : α → Bool} {l : List α} {j : Nat} (h : NoneTo p l j) (hj : l.length ≤ j) : IdxAt p l (-1) := .inl ⟨rfl, fun x hx => by
  obtain ⟨q, hq, rfl⟩ := List.getElem_of_mem hx
  exact h q hq (by omega)⟩
theorem IdxAt.any {α : Type} {p : α → Bool} {l : List α} {z : Int} (h : IdxAt p l z) : decide (0 ≤ z) = l.any p := by
  rcases h with ⟨rfl, h⟩ | ⟨j, hj, rfl, hp, h⟩
  · rw [decide_eq_false (by omega)]
    symm
    rw [List.any_eq_false]
    intro x hx; simp [h x hx]
  · rw [decide_eq_true (by omega)]
    symm
    rw [List.any_eq_true]
    exact ⟨l[j], List.getElem_mem hj, hp⟩
theorem IdxAt.find {α : Type} {p : α → Bool} {l : List α} {z : Int} (h : IdxAt p l z) : (z = -1 ∧ l.find? p = none) ∨ ∃ (j : Nat) (h : j < l.length), z = (j : Int) ∧ l.find? p = some l[j] := by
  rcases h with ⟨rfl, h⟩ | ⟨j, hj, rfl, hp, h⟩
  · exact .inl ⟨rfl, List.find?_eq_none.2 fun x hx => by simp [h x hx]⟩
  · exact .inr ⟨j, hj, rfl, by rw [List.find?_eq_some_iff_getElem]; exact ⟨hp, j, hj, rfl, fun q hq => by simp [h q hq]⟩⟩
set_option maxRecDepth 100000 in
set_option maxHeartbeats 1000000 in
theorem index_any (l : List ByteArray) (A : Option Addr) (c : Nat) (s : ByteArray) (w : World) (hx : ES.Rd w l (.slice A l.length c)) (hbig : l.length ≤ 1000000) :
    Calls Tryz.prog 38 #[.slice A l.length c, .string s] w fun r w' => (∃ z, r = .returned (.int .i64 z) ∧ IdxAt (fun x => decide (x = s)) l z) ∧ Lat w w' := by
  have H0 := Lib.hid (NoneTo.zero (fun x => decide (x = s)) l)
  go_enter Tryz.func38, Tryz.ntmps38
  go_wp2_with fail
  go_loopw [5, 8] (fun _ i wr => ∃ j : Nat, j ≤ l.length ∧ i = .int .i64 j ∧ Hid (NoneTo (fun x => decide (x = s)) l j) ∧ Lat w wr) (fun _ i _ => l.length - (intOf i).toNat)
  case atStart => exact ⟨0, Nat.zero_le _, rfl, H0, Lat.refl _⟩
  case round =>
    obtain ⟨j, hjl, rfl, HN, hLW⟩ := hrel
    by_cases hlt : j < l.length
    · obtain ⟨b, off, hA, hb1, hr1'⟩ := (hx.lat hLW).row j hlt
      subst hA
      have hr1 : RowAt wr b (off + j * 1) [.string l[j]] := hr1'
      have cx := hr1 0 _ rfl
      rw [Nat.mul_one, Nat.add_zero] at cx
      by_cases he : l[j] = s
      · have e1 : (s.toList == l[j].toList) = true := by rw [he]; simp
        have e2 : (l[j].toList == s.toList) = true := by rw [he]; simp
        have HF := Lib.hid (HN.out.found hlt (decide_eq_true he))
        clear he hr1 hr1' HN
        go_wp2_with fail
        go_ret
        exact ⟨⟨_, rfl, HF.out⟩, hLW⟩
      · have e1 : (s.toList == l[j].toList) = false := by rw [toList_beq]; simp; exact fun h => he h.symm
        have e2 : (l[j].toList == s.toList) = false := by rw [toList_beq]; simp [he]
        have HF := Lib.hid (HN.out.step hlt (decide_eq_false he))
        clear he hr1 hr1' HN
        go_wp2_with fail
        go_roundw
        case rel => exact ⟨j + 1, by omega, by go_num, HF, hLW⟩
        case measure => simp [intOf]; omega
    · have HF := Lib.hid (HN.out.none (by omega : l.length ≤ j))
      clear HN
      go_wp2_with fail
      go_ret
      exact ⟨⟨_, rfl, HF.out⟩, hLW⟩
theorem contains_any (l : List ByteArray) (A : Option Addr) (c : Nat) (s : ByteArray) (w : World) (hx : ES.Rd w l (.slice A l.length c)) (hbig : l.length ≤ 1000000) :
    Calls Tryz.prog 27 #[.slice A l.length c, .string s] w fun r w' => r = .returned (.bool (l.any (fun x => decide (x = s)))) ∧ Lat w w' := by
  have H := Lib.hid (index_any l A c s w hx hbig)
  generalize hB : l.any (fun x => decide (x = s)) = B at *
  have HB := Lib.hid hB
  clear hB
  go_enter Tryz.func27, Tryz.ntmps27
  go_wp2_with fail
  refine H.out.mono ?_
  rintro r w1 ⟨⟨z, rfl, hz⟩, hl1⟩
  have e := Lib.hid (hz.any)
  clear hz
  go_wp2_with fail
  go_ret
  rw [← HB.out, ← e.out]
  exact ⟨ret_bool (by simp), hl1⟩
end Go.Proofs.YtafodibbcfoclaaGreat
