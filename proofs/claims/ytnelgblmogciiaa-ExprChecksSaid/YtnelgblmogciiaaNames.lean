/- Contracts of the functions that say whether a string is a name. -/
import Derived.Test.YtnelgblmogciiaaBase
set_option linter.unusedSimpArgs false
set_option linter.unusedVariables false
namespace Go.Proofs.Ytnelgblmogciiaa
open Go.RowKit

/-- May a byte stand at a place of a name? -/
def goodC (i c : Nat) : Prop := (97 ≤ c ∧ c ≤ 122) ∨ (i ≠ 0 ∧ (c = 95 ∨ c = 45 ∨ (48 ≤ c ∧ c ≤ 57)))
instance (i c : Nat) : Decidable (goodC i c) := by unfold goodC; infer_instance

/-- Is a string a name? -/
def validName (s : ByteArray) : Bool := decide (1 ≤ s.size ∧ s.size ≤ 24 ∧ ∀ (j : Nat) (h : j < s.size), goodC j (s[j]'h).toNat)

theorem valid_short {s : ByteArray} (h : ¬ (1 ≤ s.size ∧ s.size ≤ 24)) : validName s = false := by
  unfold validName; exact decide_eq_false fun hh => h ⟨hh.1, hh.2.1⟩
theorem valid_bad {s : ByteArray} {k : Nat} (hk : k < s.size) (h : ¬ goodC k (s[k]'hk).toNat) : validName s = false := by
  unfold validName; exact decide_eq_false fun hh => h (hh.2.2 k hk)
theorem valid_good {s : ByteArray} (h1 : 1 ≤ s.size) (h2 : s.size ≤ 24) (h : ∀ (j : Nat) (h : j < s.size), goodC j (s[j]'h).toNat) : validName s = true := by
  unfold validName; exact decide_eq_true ⟨h1, h2, h⟩
theorem good_succ {s : ByteArray} {k : Nat} (hk : k < s.size) (h : ∀ (j : Nat) (h : j < s.size), j < k → goodC j (s[j]'h).toNat) (hg : goodC k (s[k]'hk).toNat) :
    ∀ (j : Nat) (h : j < s.size), j < k + 1 → goodC j (s[j]'h).toNat := fun j hj hlt => by
  by_cases e : j = k
  · subst e; exact hg
  · exact h j hj (by omega)

/-- The nine classes of a byte at a place, in the spelling of a walk. -/
theorem charClass (k c : Nat) :
    (97 ≤ (c : Int) ∧ (c : Int) ≤ 122 ∧ goodC k c) ∨
    ((c : Int) < 97 ∧ ((k : Int) == 0) = true ∧ ¬ goodC k c) ∨
    (122 < (c : Int) ∧ decide ((c : Int) ≤ 122) = false ∧ ((k : Int) == 0) = true ∧ ¬ goodC k c) ∨
    ((c : Int) < 97 ∧ ((k : Int) == 0) = false ∧ ((c : Int) != 95) = false ∧ goodC k c) ∨
    ((c : Int) < 97 ∧ ((k : Int) == 0) = false ∧ ((c : Int) != 95) = true ∧ ((c : Int) != 45) = false ∧ goodC k c) ∨
    ((c : Int) < 97 ∧ ((k : Int) == 0) = false ∧ ((c : Int) != 95) = true ∧ ((c : Int) != 45) = true ∧ 48 ≤ (c : Int) ∧ (c : Int) ≤ 57 ∧ goodC k c) ∨
    ((c : Int) < 97 ∧ ((k : Int) == 0) = false ∧ ((c : Int) != 95) = true ∧ ((c : Int) != 45) = true ∧ (c : Int) < 48 ∧ ¬ goodC k c) ∨
    ((c : Int) < 97 ∧ ((k : Int) == 0) = false ∧ ((c : Int) != 95) = true ∧ ((c : Int) != 45) = true ∧ 57 < (c : Int) ∧ ¬ goodC k c) ∨
    (122 < (c : Int) ∧ decide ((c : Int) ≤ 122) = false ∧ ((k : Int) == 0) = false ∧ ((c : Int) != 95) = true ∧ ((c : Int) != 45) = true ∧ 57 < (c : Int) ∧ ¬ goodC k c) := by
  simp only [beq_iff_eq, bne_iff_ne, beq_eq_false_iff_ne, bne_eq_false_iff_eq, decide_eq_false_iff_not]
  by_cases h1 : 97 ≤ c
  · by_cases h2 : c ≤ 122
    · exact .inl ⟨by omega, by omega, .inl ⟨h1, h2⟩⟩
    · by_cases h0 : k = 0
      · exact .inr (.inr (.inl ⟨by omega, by omega, by omega, fun h => by rcases h with h | h <;> omega⟩))
      · exact .inr (.inr (.inr (.inr (.inr (.inr (.inr (.inr ⟨by omega, by omega, by omega, by omega, by omega, by omega, fun h => by rcases h with h | ⟨_, h | h | h⟩ <;> omega⟩)))))))
  · by_cases h0 : k = 0
    · exact .inr (.inl ⟨by omega, by omega, fun h => by rcases h with h | h <;> omega⟩)
    · by_cases h3 : c = 95
      · exact .inr (.inr (.inr (.inl ⟨by omega, by omega, by omega, .inr ⟨h0, .inl h3⟩⟩)))
      · by_cases h4 : c = 45
        · exact .inr (.inr (.inr (.inr (.inl ⟨by omega, by omega, by omega, by omega, .inr ⟨h0, .inr (.inl h4)⟩⟩))))
        · by_cases h5 : 48 ≤ c
          · by_cases h6 : c ≤ 57
            · exact .inr (.inr (.inr (.inr (.inr (.inl ⟨by omega, by omega, by omega, by omega, by omega, by omega, .inr ⟨h0, .inr (.inr ⟨h5, h6⟩)⟩⟩)))))
            · exact .inr (.inr (.inr (.inr (.inr (.inr (.inr (.inl ⟨by omega, by omega, by omega, by omega, by omega, fun h => by rcases h with h | ⟨_, h | h | h⟩ <;> omega⟩)))))))
          · exact .inr (.inr (.inr (.inr (.inr (.inr (.inl ⟨by omega, by omega, by omega, by omega, by omega, fun h => by rcases h with h | ⟨_, h | h | h⟩ <;> omega⟩))))))

set_option maxHeartbeats 400000 in
theorem rvalidName_any (s : ByteArray) (w : World) : Calls Try.prog 111 #[.string s] w fun e w' => e = .returned (.bool (validName s)) ∧ w = w' := by
  go_enter Try.func111, Try.ntmps111
  by_cases hs : 1 ≤ s.size ∧ s.size ≤ 24
  · obtain ⟨hs1, hs2⟩ := hs
    go_wp2_with fail
    go_loop [3, 4, 5] (fun i _ _ => ∃ k : Nat, k ≤ s.size ∧ i = .int .i64 k ∧ ∀ (j : Nat) (h : j < s.size), j < k → goodC j (s[j]'h).toNat) (fun i _ _ => s.size - (intOf i).toNat)
    case atStart => exact ⟨0, Nat.zero_le _, rfl, fun j _ h => absurd h (by omega)⟩
    case round =>
      obtain ⟨k, hk, rfl, hg⟩ := hrel
      have HG := Lib.hid hg
      clear hg
      by_cases hlt : k < s.size
      · have hb := s[k].toNat_lt
        have hcl := charClass k s[k].toNat
        have fin0 : ¬ goodC k s[k].toNat → Hid (validName s = false) := fun h => valid_bad hlt h
        have fin1 : goodC k s[k].toNat → Hid (∀ (j : Nat) (h : j < s.size), j < k + 1 → goodC j (s[j]'h).toNat) := fun h => good_succ hlt HG.out h
        rcases hcl with ⟨a, b, g⟩ | ⟨a, z, g⟩ | ⟨a, a2, z, g⟩ | ⟨a, z, e, g⟩ | ⟨a, z, e, e2, g⟩ | ⟨a, z, e, e2, b, c, g⟩ | ⟨a, z, e, e2, b, g⟩ | ⟨a, z, e, e2, b, g⟩ | ⟨a, a2, z, e, e2, b, g⟩
        all_goals first | (have F := fin0 g; clear fin0 fin1 g; go_wp2_with fail; go_ret; exact ⟨ret_bool F.out.symm, rfl⟩) | (have F := fin1 g; clear fin0 fin1 g; go_wp2_with fail; go_round; (case rel => exact ⟨k + 1, by omega, by go_num, F.out⟩); (case measure => (simp [intOf]; omega)))
      · go_wp2_with fail
        go_ret
        exact ⟨ret_bool (valid_good hs1 hs2 fun j hj => HG.out j hj (by omega)).symm, rfl⟩
  · have hv := Lib.hid (valid_short hs)
    have h1 : s.size < 1 ∨ 24 < s.size := by omega
    clear hs
    rcases h1 with h1 | h1
    all_goals
      go_wp2_with fail
      go_ret
      exact ⟨ret_bool hv.out.symm, rfl⟩

def letB (c : Int) : Bool := decide (97 ≤ c) && decide (c ≤ 122)

set_option maxHeartbeats 400000 in
theorem letter_any (c : Int) (w : World) : Calls Try.prog 112 #[.int .i32 c] w fun e w' => e = .returned (.bool (letB c)) ∧ w = w' := by
  go_enter Try.func112, Try.ntmps112
  go_wp2
  all_goals go_ret
  all_goals (refine ⟨ret_bool ?_, rfl⟩; unfold letB; first | (simp [*]; done) | (simp [*]; omega))

/-- The classes again, in the spelling of the walk that asks 'letter'. -/
theorem runeClass (k c : Nat) :
    (letB (c : Int) = true ∧ goodC k c) ∨
    (letB (c : Int) = false ∧ ((k : Int) == 0) = true ∧ ¬ goodC k c) ∨
    (letB (c : Int) = false ∧ ((k : Int) == 0) = false ∧ ((c : Int) != 95) = false ∧ goodC k c) ∨
    (letB (c : Int) = false ∧ ((k : Int) == 0) = false ∧ ((c : Int) != 95) = true ∧ ((c : Int) != 45) = false ∧ goodC k c) ∨
    (letB (c : Int) = false ∧ ((k : Int) == 0) = false ∧ ((c : Int) != 95) = true ∧ ((c : Int) != 45) = true ∧ 48 ≤ (c : Int) ∧ (c : Int) ≤ 57 ∧ goodC k c) ∨
    (letB (c : Int) = false ∧ ((k : Int) == 0) = false ∧ ((c : Int) != 95) = true ∧ ((c : Int) != 45) = true ∧ (c : Int) < 48 ∧ ¬ goodC k c) ∨
    (letB (c : Int) = false ∧ ((k : Int) == 0) = false ∧ ((c : Int) != 95) = true ∧ ((c : Int) != 45) = true ∧ 57 < (c : Int) ∧ ¬ goodC k c) := by
  have hl : letB (c : Int) = true ↔ 97 ≤ c ∧ c ≤ 122 := by unfold letB; simp; omega
  have hl' : ¬ (97 ≤ c ∧ c ≤ 122) → letB (c : Int) = false := fun h => by
    cases hh : letB (c : Int) with
    | false => rfl
    | true => exact absurd (hl.1 hh) h
  rcases charClass k c with ⟨a, b, g⟩ | ⟨a, z, g⟩ | ⟨a, a2, z, g⟩ | ⟨a, z, e, g⟩ | ⟨a, z, e, e2, g⟩ | ⟨a, z, e, e2, b, c, g⟩ | ⟨a, z, e, e2, b, g⟩ | ⟨a, z, e, e2, b, g⟩ | ⟨a, a2, z, e, e2, b, g⟩
  · exact .inl ⟨hl.2 (by omega), g⟩
  · exact .inr (.inl ⟨hl' (by omega), z, g⟩)
  · exact .inr (.inl ⟨hl' (by omega), z, g⟩)
  · exact .inr (.inr (.inl ⟨hl' (by omega), z, e, g⟩))
  · exact .inr (.inr (.inr (.inl ⟨hl' (by omega), z, e, e2, g⟩)))
  · exact .inr (.inr (.inr (.inr (.inl ⟨hl' (by omega), z, e, e2, b, c, g⟩))))
  · exact .inr (.inr (.inr (.inr (.inr (.inl ⟨hl' (by omega), z, e, e2, b, g⟩)))))
  · exact .inr (.inr (.inr (.inr (.inr (.inr ⟨hl' (by omega), z, e, e2, b, g⟩)))))
  · exact .inr (.inr (.inr (.inr (.inr (.inr ⟨hl' (by omega), z, e, e2, b, g⟩)))))

/-- What a range over a string hands out at a byte: that byte, or a rune that is no part of a name where the byte is none either. -/
theorem rune_at (s : ByteArray) (k : Nat) (hk : k < s.size) :
    (goodC k (s[k]'hk).toNat → Utf8.decode s k = ((s[k]'hk).toNat, 1)) ∧ (¬ goodC k (s[k]'hk).toNat → ¬ goodC k (Utf8.decode s k).1) := by
  by_cases h : (s[k]'hk).toNat < 128
  · have hd := decode_ascii s k hk h
    exact ⟨fun _ => hd, fun hg => by rw [hd]; exact hg⟩
  · have hd := decode_high s k hk (by omega)
    refine ⟨fun hg => ?_, fun _ hg => ?_⟩
    · rcases hg with hg | ⟨_, hg⟩ <;> omega
    · rcases hg with hg | ⟨_, hg⟩ <;> omega

set_option maxHeartbeats 1000000 in
theorem validName_any (s : ByteArray) (w : World) : Calls Try.prog 89 #[.string s] w fun e w' => e = .returned (.bool (validName s)) ∧ Below w.heap.size w w' := by
  go_enter Try.func89, Try.ntmps89
  by_cases hs : 1 ≤ s.size ∧ s.size ≤ 24
  · obtain ⟨hs1, hs2⟩ := hs
    go_wp2_with fail
    go_loopw [3, 4] (fun _ _ w' => ∃ k : Nat, k ≤ s.size ∧ w' = w.iter s k ∧ Hid (∀ (j : Nat) (h : j < s.size), j < k → goodC j (s[j]'h).toNat)) (fun _ _ w' => s.size - w'.iterPos w.heap.size)
    case atStart => exact ⟨0, Nat.zero_le _, rfl, fun j _ h => absurd h (by omega)⟩
    case round =>
      obtain ⟨k, hk, rfl, HG⟩ := hrel
      by_cases hlt : k < s.size
      · have hnx : ∀ ty, (Instr.next (.pointer (some ⟨w.heap.size, 0, none⟩)) true ty).run Try.prog (w.iter s k) = _ := fun ty => run_next_any w s k ty hlt
        obtain ⟨hgood, hbad⟩ := rune_at s k hlt
        have fin0 : ¬ goodC k s[k].toNat → Hid (validName s = false) := fun h => valid_bad hlt h
        have fin1 : goodC k s[k].toNat → Hid (∀ (j : Nat) (h : j < s.size), j < k + 1 → goodC j (s[j]'h).toNat) := fun h => good_succ hlt HG.out h
        by_cases hgc : goodC k s[k].toNat
        · have F := fin1 hgc
          rw [hgood hgc] at hnx
          have hcl := runeClass k s[k].toNat
          clear hgood hbad fin0 fin1
          rcases hcl with ⟨a, g⟩ | ⟨a, z, g⟩ | ⟨a, z, e, g⟩ | ⟨a, z, e, e2, g⟩ | ⟨a, z, e, e2, b, c, g⟩ | ⟨a, z, e, e2, b, g⟩ | ⟨a, z, e, e2, b, g⟩
          all_goals first
            | exact absurd hgc g
            | (clear g hgc
               go_wp2_with (go_at_call 112; refine (letter_any _ _).mono ?_; rintro e w' ⟨rfl, rfl⟩)
               go_roundw
               (case rel => exact ⟨k + 1, by omega, rfl, F⟩)
               (case measure => (simp; omega)))
        · have F := fin0 hgc
          have g0 := hbad hgc
          have hcl := runeClass k (Utf8.decode s k).1
          clear hgood hbad fin0 fin1 hgc
          generalize Utf8.decode s k = rw_ at *
          rcases hcl with ⟨a, g⟩ | ⟨a, z, g⟩ | ⟨a, z, e, g⟩ | ⟨a, z, e, e2, g⟩ | ⟨a, z, e, e2, b, c, g⟩ | ⟨a, z, e, e2, b, g⟩ | ⟨a, z, e, e2, b, g⟩
          all_goals first
            | exact absurd g g0
            | (clear g g0
               go_wp2_with (go_at_call 112; refine (letter_any _ _).mono ?_; rintro e w' ⟨rfl, rfl⟩)
               go_ret
               exact ⟨ret_bool F.out.symm, (Below.refl _ _).alloc (Nat.le_refl _) _⟩)
      · have hnx : ∀ ty, (Instr.next (.pointer (some ⟨w.heap.size, 0, none⟩)) true ty).run Try.prog (w.iter s k) = _ := fun ty => run_next_end w s k ty hlt
        go_wp2_with fail
        go_ret
        exact ⟨ret_bool (valid_good hs1 hs2 fun j hj => HG.out j hj (by omega)).symm, (Below.refl _ _).alloc (Nat.le_refl _) _⟩
  · have hv := Lib.hid (valid_short hs)
    have h1 : s.size < 1 ∨ 24 < s.size := by omega
    clear hs
    rcases h1 with h1 | h1
    all_goals
      go_wp2_with fail
      go_ret
      exact ⟨ret_bool hv.out.symm, Below.refl _ _⟩

end Go.Proofs.Ytnelgblmogciiaa
