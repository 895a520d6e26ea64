/- Resolve: numbers in decimal, three ways. -/
import Derived.Test.YtgjoojailghilaaDoorVLaw1
import Derived.Test.YtgjoojailghilaaDoorVSort
import Derived.Lib.LaidTab
import Derived.Stop.LaidErr
import Derived.Laws.IdiomStrings
set_option linter.unusedSimpArgs false
set_option linter.unusedVariables false
namespace Go.Proofs.YtgjoojailghilaaDoor
open Go.RowKit

/-- The table of powers lies. -/
def Tab (w : World) : Prop := Lib.TabIs Tryd.prog w "internal/strconv.uint64pow10" .u64 Lib.pow10Tab
theorem Tab.lat {w w' : World} (h : Tab w) (hl : Lat w w') : Tab w' := by
  unfold Tab Lib.TabIs World.var? at *
  cases hg : Tryd.prog.globalNamed "internal/strconv.uint64pow10" with
  | none => simp [hg] at h
  | some g =>
    simp only [hg, Option.bind_some] at h ⊢
    have hlt : g < w.heap.size := by
      rcases Nat.lt_or_ge g w.heap.size with h' | h'
      · exact h'
      · rw [Array.getElem?_eq_none h'] at h; simp at h
    rw [hl.block g hlt]
    exact h
def itoaB (n : Int) : ByteArray := ⟨(Lib.itoa n).toArray⟩
theorem lat_grow (w : World) (q : Nat) (os : Array Obj) : Lat w (Sort.grow (w.drewN q) os) := by
  refine Below.trans (⟨rfl, rfl, rfl, Nat.le_refl _, fun _ _ => rfl⟩ : Below w.heap.size w (w.drewN q)) ?_
  exact below_growW w.heap.size (w.drewN q) (Nat.le_refl _) os
theorem itoa_any (n : Int) (h : I64 n) (w : World) (ht : Tab w) : Calls Tryd.prog 42 #[.int .i64 n] w fun r w' => r = .returned (.string (itoaB n)) ∧ Lat w w' := by
  refine (strconv_Itoa n h.1 h.2 w ht).mono ?_
  rintro r w' ⟨rfl, k, os, rfl⟩
  exact ⟨rfl, lat_grow w k os⟩
theorem nd_le {u : Nat} (h : u ≤ 9223372036854775808) : (Lib.decDigits u).length ≤ 20 := by
  rw [Lib.decDigits_length]
  rcases Nat.lt_or_ge (Lib.nDigits u) 21 with h1 | h1
  · omega
  · exfalso
    have h2 : ∀ (k u : Nat), k + 1 ≤ Lib.nDigits u → 10 ^ k ≤ u ∨ k = 0 := by
      intro k
      induction k with
      | zero => intro u _; exact .inr rfl
      | succ k ih =>
        intro u hu
        by_cases h10 : u < 10
        · rw [Lib.nDigits_small h10] at hu; omega
        · rw [Lib.nDigits_big h10] at hu
          rcases ih (u / 10) (by omega) with h3 | h3
          · left; rw [Nat.pow_succ]; omega
          · left; subst h3; omega
    rcases h2 20 u h1 with h3 | h3
    · have : (10 : Nat) ^ 20 = 100000000000000000000 := by decide
      omega
    · omega
theorem itoa_size {n : Int} (h : I64 n) : (itoaB n).size ≤ 21 := by
  show (Lib.itoa n).toArray.size ≤ 21
  rw [List.size_toArray]
  unfold Lib.itoa
  split
  · have := nd_le (u := n.natAbs) (by have := h.1; have := h.2; omega)
    simp; omega
  · have := nd_le (u := n.toNat) (by have := h.1; have := h.2; omega)
    omega
def dgB (m : Nat) : UInt8 := UInt8.ofNat (48 + m % 10)
theorem dec_step (m : Nat) : Lib.decDigits m = (if m < 10 then [] else Lib.decDigits (m / 10)) ++ [dgB m] := by
  rw [Lib.decDigits]
  split
  · rename_i h
    simp [dgB, Nat.mod_eq_of_lt h]
  · rfl
theorem conv1 (b : UInt8) (v : Int) (hv : v = (b.toNat : Int)) (w : World) : (convert 63 9 (.slice (some ⟨w.heap.size, 0, none⟩) 1 1)).run Tryd.prog (w.alloc (.cells #[.int .u8 v] 5)) = .ok (.string ⟨#[b]⟩) (w.alloc (.cells #[.int .u8 v] 5)) := by
  subst hv
  have := run_convert_bytes_back (P := Tryd.prog) (w.alloc (.cells #[.int .u8 (b.toNat : Int)] 5)) 63 9 5 ⟨w.heap.size, 0, none⟩ 1 [b] Tryd.underlying63 Tryd.underlying5 Tryd.underlying9 (fun j hj => by
    have hj0 : j = 0 := by simpa using hj
    subst hj0
    exact (Blk.new w 5 #[.int .u8 (b.toNat : Int)]).cell 0)
  exact this
theorem dgB_nat (m : Nat) : ((dgB m).toNat : Int) = 48 + (m : Int) % 10 := by
  unfold dgB
  rw [UInt8.toNat_ofNat']
  omega
theorem cat1 (b : UInt8) (l : List UInt8) : (⟨#[b]⟩ : ByteArray) ++ ⟨l.toArray⟩ = ⟨(b :: l).toArray⟩ := by
  apply ByteArray.ext
  rw [ByteArray.data_append]
  simp
set_option maxRecDepth 100000 in
set_option maxHeartbeats 1000000 in
theorem digitsP (m0 : Nat) (h0 : m0 ≤ 9223372036854775807) (w : World) : Calls Tryd.prog 45 #[.int .i64 (m0 : Int)] w fun r w' => r = .returned (.string ⟨(Lib.decDigits m0).toArray⟩) ∧ Lat w w' := by
  have hn := nd_le (u := m0) (by omega)
  have hcv := fun (m : Nat) (w : World) => conv1 (dgB m) (48 + (m : Int) % 10) (dgB_nat m).symm w
  have HD : Hid (Lib.decDigits m0 = (if m0 < 10 then [] else Lib.decDigits (m0 / 10)) ++ [dgB m0]) := Lib.hid (dec_step m0)
  generalize Lib.decDigits m0 = D at *
  go_enter Tryd.func45, Tryd.ntmps45
  go_wp2_with fail
  go_loopw [0, 4] (fun n v wr => ∃ (m : Nat) (l : List UInt8), m ≤ m0 ∧ n = .int .i64 m ∧ v = .string ⟨l.toArray⟩ ∧ Hid (D = (if m < 10 then [] else Lib.decDigits (m / 10)) ++ l) ∧ l.length ≤ D.length ∧ Lat w wr) (fun n _ _ => (intOf n).toNat)
  case atStart => exact ⟨m0, [dgB m0], Nat.le_refl _, rfl, rfl, HD, by rw [HD.out]; simp, Lat.al _ _⟩
  case round =>
    obtain ⟨m, l, hm, rfl, rfl, HE, hl, hLW⟩ := hrel
    by_cases h9 : m < 10
    · have hR : D = l := by rw [HE.out, if_pos h9]; rfl
      have HR := Lib.hid hR
      clear HE HD hR
      go_wp2_with fail
      go_ret
      rw [HR.out]
      exact ⟨rfl, hLW⟩
    · have hE := HE.out
      rw [if_neg h9, dec_step (m / 10), List.append_assoc] at hE
      have HE2 : Hid (D = (if m / 10 < 10 then [] else Lib.decDigits (m / 10 / 10)) ++ (dgB (m / 10) :: l)) := Lib.hid hE
      have hl2 : (dgB (m / 10) :: l).length ≤ D.length := by rw [hE]; simp
      have hcat := cat1 (dgB (m / 10)) l
      have hcv2 := fun (w : World) => conv1 (dgB (m / 10)) (48 + (m : Int) / 10 % 10) (by rw [dgB_nat]; omega) w
      clear HE hE
      go_wp2_with fail
      go_roundw
      case rel => exact ⟨m / 10, dgB (m / 10) :: l, by omega, by go_num, rfl, HE2, hl2, hLW.trans (Lat.al _ _)⟩
      case measure => simp [intOf]; omega
set_option maxRecDepth 100000 in
set_option maxHeartbeats 1000000 in
theorem digitsN (m0 : Nat) (h1 : 1 ≤ m0) (h0 : m0 ≤ 9223372036854775808) (w : World) : Calls Tryd.prog 45 #[.int .i64 (-(m0 : Int))] w fun r w' => r = .returned (.string ⟨(45 :: Lib.decDigits m0).toArray⟩) ∧ Lat w w' := by
  have hn := nd_le (u := m0) h0
  have HD : Hid (Lib.decDigits m0 = Lib.decDigits m0 ++ []) := Lib.hid (by simp)
  generalize hDD : Lib.decDigits m0 = D at *
  have HDD := Lib.hid hDD
  clear hDD
  go_enter Tryd.func45, Tryd.ntmps45
  go_wp2_with fail
  go_loopw [0, 3] (fun n v wr => ∃ (m : Nat) (l : List UInt8), m ≤ m0 ∧ n = .int .i64 (-(m : Int)) ∧ v = .string ⟨l.toArray⟩ ∧ Hid (D = (if m = 0 then [] else Lib.decDigits m) ++ l) ∧ l.length ≤ D.length ∧ Lat w wr) (fun n _ _ => (intOf n).natAbs)
  case atStart => exact ⟨m0, [], Nat.le_refl _, rfl, rfl, by rw [if_neg (by omega), HDD.out]; exact HD, by simp, Lat.refl _⟩
  case round =>
    obtain ⟨m, l, hm, rfl, rfl, HE, hl, hLW⟩ := hrel
    by_cases h9 : m = 0
    · have hR : D = l := by rw [HE.out, if_pos h9]; rfl
      have HR := Lib.hid hR
      have hcat := cat1 45 l
      subst h9
      clear HE HD hR
      go_wp2_with fail
      go_ret
      rw [HR.out]
      exact ⟨rfl, hLW⟩
    · have hE := HE.out
      rw [if_neg h9, dec_step m, List.append_assoc] at hE
      have HE2 : Hid (D = (if m / 10 = 0 then [] else Lib.decDigits (m / 10)) ++ (dgB m :: l)) := Lib.hid (by
        rw [hE]
        by_cases h10 : m < 10
        · rw [if_pos h10, if_pos (by omega)]; rfl
        · rw [if_neg h10, if_neg (by omega)]; rfl)
      have hl2 : (dgB m :: l).length ≤ D.length := by rw [hE]; simp
      have hcat := cat1 (dgB m) l
      have hcv2 := fun (w : World) => conv1 (dgB m) (48 + (m : Int) % 10) (by rw [dgB_nat]) w
      clear HE hE
      go_wp2_with fail
      go_roundw
      case rel => exact ⟨m / 10, dgB m :: l, by omega, by go_num, rfl, HE2, hl2, hLW.trans (Lat.al _ _)⟩
      case measure => simp [intOf]; omega
theorem itoaB_pos (m : Nat) : itoaB (m : Int) = ⟨(Lib.decDigits m).toArray⟩ := by unfold itoaB; rw [Lib.itoa_nonneg]
theorem itoaB_neg (m : Nat) (h : 1 ≤ m) : itoaB (-(m : Int)) = ⟨(45 :: Lib.decDigits m).toArray⟩ := by unfold itoaB; rw [Lib.itoa_neg m h]
/-- A number's sign and amount. -/
theorem sign_of (n : Int) : (∃ m : Nat, n = (m : Int)) ∨ ∃ m : Nat, 1 ≤ m ∧ n = -(m : Int) := by
  rcases Int.lt_or_le n 0 with h | h
  · exact .inr ⟨n.natAbs, by omega, by omega⟩
  · exact .inl ⟨n.toNat, by omega⟩
theorem digits_any (n : Int) (h : I64 n) (w : World) : Calls Tryd.prog 45 #[.int .i64 n] w fun r w' => r = .returned (.string (itoaB n)) ∧ Lat w w' := by
  rcases sign_of n with ⟨m, rfl⟩ | ⟨m, hm, rfl⟩
  · rw [itoaB_pos]; exact digitsP m (by have := h.2; omega) w
  · rw [itoaB_neg m hm]; exact digitsN m hm (by have := h.1; omega) w
theorem catL (l m : List UInt8) : (⟨l.toArray⟩ : ByteArray) ++ ⟨m.toArray⟩ = ⟨(l ++ m).toArray⟩ := by
  apply ByteArray.ext
  rw [ByteArray.data_append]
  simp
theorem sizeL (l : List UInt8) : (⟨l.toArray⟩ : ByteArray).size = l.length := by show l.toArray.size = _; simp
set_option maxRecDepth 100000 in
set_option maxHeartbeats 1000000 in
theorem rdig_small (m : Nat) (h : m < 10) (w : World) : Calls Tryd.prog 74 #[.int .i64 (m : Int)] w fun r w' => r = .returned (.string ⟨(Lib.decDigits m).toArray⟩) ∧ Lat w w' := by
  have hD : Lib.decDigits m = [dgB m] := by rw [dec_step, if_pos h]; rfl
  rw [hD]
  have hcv := fun (w : World) => conv1 (dgB m) (48 + (m : Int)) (by rw [dgB_nat]; omega) w
  clear hD
  go_enter Tryd.func74, Tryd.ntmps74
  go_wp2_with fail
  go_ret
  exact ⟨rfl, Lat.al _ _⟩
theorem rdigits_all : ∀ (N : Nat) (n : Int), n.natAbs < N → n.natAbs ≤ 1099511627776 → ∀ w : World, Calls Tryd.prog 74 #[.int .i64 n] w fun r w' => r = .returned (.string (itoaB n)) ∧ Lat w w' := by
  intro N
  induction N with
  | zero => intro n h; omega
  | succ N ih =>
    intro n hn hb w
    rcases sign_of n with ⟨m, rfl⟩ | ⟨m, hm, rfl⟩
    · by_cases h9 : m < 10
      · rw [itoaB_pos]; exact rdig_small m h9 w
      · have H1 := Lib.hid (ih ((m : Int) / 10) (by omega) (by omega) w)
        have H2 : ∀ w', Hid (Calls Tryd.prog 74 #[.int .i64 ((m : Int) % 10)] w' fun r w'' => r = .returned (.string ⟨(Lib.decDigits (m % 10)).toArray⟩) ∧ Lat w' w'') := fun w' => Lib.hid (rdig_small (m % 10) (Nat.mod_lt _ (by decide)) w')
        have hR : itoaB (m : Int) = itoaB ((m : Int) / 10) ++ ⟨(Lib.decDigits (m % 10)).toArray⟩ := by
          rw [show ((m : Int) / 10) = ((m / 10 : Nat) : Int) from rfl, itoaB_pos, itoaB_pos, catL, dec_step m, if_neg h9, dec_step (m % 10), if_pos (Nat.mod_lt _ (by decide))]
          simp [dgB]
        have HR := Lib.hid hR
        have hs1 : (itoaB ((m : Int) / 10)).size ≤ 21 := itoa_size ⟨by omega, by omega⟩
        have hs2 : (⟨(Lib.decDigits (m % 10)).toArray⟩ : ByteArray).size ≤ 20 := by rw [sizeL]; exact nd_le (by omega)
        generalize itoaB ((m : Int) / 10) = X at *
        generalize (⟨(Lib.decDigits (m % 10)).toArray⟩ : ByteArray) = Y at *
        clear ih hR hn
        go_enter Tryd.func74, Tryd.ntmps74
        go_wp2_with fail
        refine H1.out.mono ?_
        rintro r w2 ⟨rfl, hl2⟩
        go_wp2_with fail
        refine (H2 _).out.mono ?_
        rintro r w3 ⟨rfl, hl3⟩
        go_wp2_with fail
        go_ret
        rw [HR.out]
        exact ⟨rfl, hl2.trans hl3⟩
    · have hN : itoaB (-(m : Int)) = ⟨(45 :: Lib.decDigits m).toArray⟩ := itoaB_neg m hm
      by_cases h9 : m < 10
      · have H2 := fun w' => Lib.hid (rdig_small m h9 w')
        have HN := Lib.hid (hN.trans (cat1 45 (Lib.decDigits m)).symm)
        have hs2 : (⟨(Lib.decDigits m).toArray⟩ : ByteArray).size ≤ 20 := by rw [sizeL]; exact nd_le (by omega)
        generalize (⟨(Lib.decDigits m).toArray⟩ : ByteArray) = Y at *
        clear ih hN hn
        go_enter Tryd.func74, Tryd.ntmps74
        go_wp2_with fail
        refine (H2 _).out.mono ?_
        rintro r w2 ⟨rfl, hl2⟩
        go_wp2_with fail
        go_ret
        rw [HN.out]
        exact ⟨rfl, hl2⟩
      · have H1 := Lib.hid (ih (-((m : Int) / 10)) (by omega) (by omega) w)
        have H2 : ∀ w', Hid (Calls Tryd.prog 74 #[.int .i64 ((m : Int) % 10)] w' fun r w'' => r = .returned (.string ⟨(Lib.decDigits (m % 10)).toArray⟩) ∧ Lat w' w'') := fun w' => Lib.hid (rdig_small (m % 10) (Nat.mod_lt _ (by decide)) w')
        have hR : itoaB (-(m : Int)) = itoaB (-((m : Int) / 10)) ++ ⟨(Lib.decDigits (m % 10)).toArray⟩ := by
          rw [show ((m : Int) / 10) = ((m / 10 : Nat) : Int) from rfl, itoaB_neg m hm, itoaB_neg _ (by omega), catL, dec_step m, if_neg h9, dec_step (m % 10), if_pos (Nat.mod_lt _ (by decide))]
          simp [dgB]
        have HR := Lib.hid hR
        have hs1 : (itoaB (-((m : Int) / 10))).size ≤ 21 := itoa_size ⟨by omega, by omega⟩
        have hs2 : (⟨(Lib.decDigits (m % 10)).toArray⟩ : ByteArray).size ≤ 20 := by rw [sizeL]; exact nd_le (by omega)
        generalize itoaB (-((m : Int) / 10)) = X at *
        generalize (⟨(Lib.decDigits (m % 10)).toArray⟩ : ByteArray) = Y at *
        clear ih hR hn hN
        go_enter Tryd.func74, Tryd.ntmps74
        go_wp2_with fail
        refine H1.out.mono ?_
        rintro r w2 ⟨rfl, hl2⟩
        go_wp2_with fail
        refine (H2 _).out.mono ?_
        rintro r w3 ⟨rfl, hl3⟩
        go_wp2_with fail
        go_ret
        rw [HR.out]
        exact ⟨rfl, hl2.trans hl3⟩
theorem rdigits_any (n : Int) (h : n.natAbs ≤ 1099511627776) (w : World) : Calls Tryd.prog 74 #[.int .i64 n] w fun r w' => r = .returned (.string (itoaB n)) ∧ Lat w w' := rdigits_all _ n (Nat.lt_succ_self _) h w
theorem ndigits_any (n : Int) (h : I64 n) (w : World) (ht : Tab w) : Calls Tryd.prog 71 #[.int .i64 n] w fun r w' => r = .returned (.string (itoaB n)) ∧ Lat w w' := by
  have H := Lib.hid (itoa_any n h w ht)
  go_enter Tryd.func71, Tryd.ntmps71
  go_wp2_with fail
  refine H.out.mono ?_
  rintro r w2 ⟨rfl, hl2⟩
  go_wp2_with fail
  go_ret
  exact ⟨rfl, hl2⟩
end Go.Proofs.YtgjoojailghilaaDoor
