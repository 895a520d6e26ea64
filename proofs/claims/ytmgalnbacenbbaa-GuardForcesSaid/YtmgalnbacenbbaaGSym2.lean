/- Guard: two rows of locks merged in place: the second row of one. -/
import Derived.Test.YtmgalnbacenbbaaGSym
set_option linter.unusedSimpArgs false
set_option linter.unusedVariables false
namespace Go.Proofs.Ytmgalnbacenbbaa
open Go.Shelf Go.RowKit Go.Lib Go.Sort
section
variable {β : Type} [Inhabited β]
set_option maxHeartbeats 4000000 in
set_option maxRecDepth 1000000 in
theorem sym_right (lt : β → β → Bool) (h0 : SWO lt) (k : Nat) (zE : ∀ w, (Go.sizeOf 47).run Try.prog w = .ok k w) (enc : β × Nat → List Value) (cf : β × Nat → β × Nat → Int) (hcf : ∀ x y, decide (cf x y < 0) = l1 lt x y) (g : Nat) (cb : Array Value) (blk off cap a m b : Nat) (d0 d : Array (β × Nat)) (w0 w : World)
    (eg : ∀ args w, (callFunc g args).run Try.prog w = .ok (.enter g args) w) (hcmp : CmpLays Try.prog g cb enc k cf blk off d0.size w0) (R : RowK enc k w0 blk off d0) (hs : d0.size = d.size) (S : SWK enc k w0 blk off d w) (ham : a + 1 < m) (hmb : b = m + 1) (hb : b ≤ d.size) (hsz : d.size < 4611686018427387904) (hQ : Half lt d a m b) :
    Calls Try.prog 80 #[.slice (some ⟨blk, off, none⟩) d.size cap, .int .i64 a, .int .i64 m, .int .i64 b, .func (.func g) #[] cb] w (Merged lt enc k w0 blk off a b d) := by
  have aE := Try.isAgg47
  have mixed : Try.prog.follows Departure.mixedOrders = true := by kernel_rfl
  have S0 : Aside (SWK enc k w0 blk off d w) := S
  have HC : Aside _ := hcmp
  have HH : Aside (Half lt d a m b) := hQ
  have HCF : Hid (∀ x y, decide (cf x y < 0) = l1 lt x y) := Lib.hid hcf
  clear S hcmp hcf
  have rma : (IntKind.i64.wrap ((m : Int) - (a : Int)) == 1) = false := by rw [beq_eq_false_iff_ne, IntKind.wrap_i64]; omega
  have rma2 : IntKind.i64.wrap ((m : Int) - (a : Int)) = (m : Int) - (a : Int) := by rw [IntKind.wrap_i64]; omega
  rw [rma2] at rma
  have rmb : IntKind.i64.wrap ((b : Int) - (m : Int)) = 1 := by rw [IntKind.wrap_i64]; omega
  have HM : Hid (b = m + 1) := Lib.hid hmb
  have hmsz : m < d.size := by omega
  clear hmb
  go_enter Try.func80, Try.ntmps80
  go_wp2_with fail
  go_loopg [14, 15] (m - a) (fun kx s10 s11 wr => ∃ (i j : Nat), s10 = .int .i64 i ∧ s11 = .int .i64 j ∧ a ≤ i ∧ i ≤ j ∧ j ≤ m ∧ j - i ≤ kx ∧ Aside (SWK enc k w0 blk off d wr) ∧ Aside ((∀ q, a ≤ q → q < i → tl lt d[m]! d[q]! = false) ∧ (∀ q, j ≤ q → q < m → tl lt d[m]! d[q]! = true)))
  case atStart => exact ⟨a, m, rfl, rfl, Nat.le_refl _, by omega, Nat.le_refl _, Nat.le_refl _, S0, ⟨(fun q h1 h2 => by omega), (fun q h1 h2 => by omega)⟩⟩
  case round =>
    clear S0
    obtain ⟨i, j, rfl, rfl, hmi, hij, hjb, hkx, S1, I⟩ := hrel
    by_cases hlt : i < j
    · have hltz : (i : Int) < (j : Int) := by omega
      obtain ⟨h, hh⟩ : ∃ h, h = (i + j) / 2 := ⟨_, rfl⟩
      have rh : ((i : Int) + (j : Int)) / 2 = (h : Int) := by omega
      have hih : i ≤ h := by omega
      have hhj : h < j := by omega
      have rh1 : IntKind.i64.wrap ((h : Int) + 1) = ((h + 1 : Nat) : Int) := by rw [IntKind.wrap_i64]; omega
      have HM2 := HM.out
      cases hp : tl lt d[m]! d[h]! with
      | true =>
        have ea38 : ((m : Int)).toNat = m := by omega
        have pa38 : (0 : Int) ≤ (m : Int) := by omega
        have ba38 : (m : Int) < (d.size : Int) := by omega
        have ec38 : ((h : Int)).toNat = h := by omega
        have pc38 : (0 : Int) ≤ (h : Int) := by omega
        have bc38 : (h : Int) < (d.size : Int) := by omega
        obtain ⟨x38, hx38⟩ : ∃ x, x = d[m]! := ⟨_, rfl⟩
        obtain ⟨y38, hy38⟩ : ∃ x, x = d[h]! := ⟨_, rfl⟩
        have l38a := S1.out.ld R (by omega) Try.prog m (by omega)
        have l38b := S1.out.ld R (by omega) Try.prog h (by omega)
        rw [← hx38] at l38a
        rw [← hy38] at l38b
        have hc38 := S1.out.cmp HC.out (by omega) x38 y38
        have hlv : l1 lt x38 y38 = true := by rw [hx38, hy38, ← hQ.cmp (by omega) (by omega) (by omega) (by omega)]; exact hp
        rw [← HCF.out x38 y38] at hlv
        have hv38 : cf x38 y38 < 0 := of_decide_eq_true hlv
        clear hx38 hy38
        have I2 : Aside ((∀ q, a ≤ q → q < i → tl lt d[m]! d[q]! = false) ∧ (∀ q, h ≤ q → q < m → tl lt d[m]! d[q]! = true)) := And.intro I.out.1 (fun q h1 h2 => by
          by_cases hq : q = h
          · rw [hq]; exact hp
          · cases hz : tl lt d[m]! d[q]! with
            | true => rfl
            | false =>
              have := (tl_swo h0).ntrans _ _ _ hz (HH.out.left h q (by omega) (by omega) h2)
              rw [hp] at this; cases this)
        clear hp I hh HM2
        go_wp2_with fail
        go_quiet_grown (first | (go_at_fn g; refine Calls.grown_of (hc38 _ _)))
        have S2 : Aside (SWK enc k w0 blk off d (grow (wr.drewN nq) osq)) := S1.out.grown nq osq
        clear l38a l38b hc38 S1
        generalize grow (wr.drewN nq) osq = w2 at S2 ⊢
        clear nq osq
        go_wp2_with fail
        go_roundg (h - i)
        case measure => omega
        case rel => exact ⟨i, h, rfl, rfl, by omega, by omega, by omega, Nat.le_refl _, S2, I2⟩
      | false =>
        have ea38 : ((m : Int)).toNat = m := by omega
        have pa38 : (0 : Int) ≤ (m : Int) := by omega
        have ba38 : (m : Int) < (d.size : Int) := by omega
        have ec38 : ((h : Int)).toNat = h := by omega
        have pc38 : (0 : Int) ≤ (h : Int) := by omega
        have bc38 : (h : Int) < (d.size : Int) := by omega
        obtain ⟨x38, hx38⟩ : ∃ x, x = d[m]! := ⟨_, rfl⟩
        obtain ⟨y38, hy38⟩ : ∃ x, x = d[h]! := ⟨_, rfl⟩
        have l38a := S1.out.ld R (by omega) Try.prog m (by omega)
        have l38b := S1.out.ld R (by omega) Try.prog h (by omega)
        rw [← hx38] at l38a
        rw [← hy38] at l38b
        have hc38 := S1.out.cmp HC.out (by omega) x38 y38
        have hlv : l1 lt x38 y38 = false := by rw [hx38, hy38, ← hQ.cmp (by omega) (by omega) (by omega) (by omega)]; exact hp
        rw [← HCF.out x38 y38] at hlv
        have hv38 : ¬ (cf x38 y38 < 0) := of_decide_eq_false hlv
        clear hx38 hy38
        have I2 : Aside ((∀ q, a ≤ q → q < h + 1 → tl lt d[m]! d[q]! = false) ∧ (∀ q, j ≤ q → q < m → tl lt d[m]! d[q]! = true)) := And.intro (fun q h1 h2 => by
          by_cases hq : q = h
          · rw [hq]; exact hp
          · exact (tl_swo h0).ntrans _ _ _ hp (HH.out.left q h h1 (by omega) (by omega))) I.out.2
        clear hp I hh HM2
        go_wp2_with fail
        go_quiet_grown (first | (go_at_fn g; refine Calls.grown_of (hc38 _ _)))
        have S2 : Aside (SWK enc k w0 blk off d (grow (wr.drewN nq) osq)) := S1.out.grown nq osq
        clear l38a l38b hc38 S1
        generalize grow (wr.drewN nq) osq = w2 at S2 ⊢
        clear nq osq
        go_wp2_with fail
        go_roundg (j - (h + 1))
        case measure => omega
        case rel => exact ⟨h + 1, j, rfl, rfl, by omega, by omega, hjb, Nat.le_refl _, S2, I2⟩
    · have hltz : ¬ (i : Int) < (j : Int) := by omega
      obtain rfl : j = i := by omega
      go_wp2_with fail
      go_loopg [17] (m - j) (fun kx s13 wr => ∃ (x : Nat) (dk : Array (β × Nat)), s13 = .int .i64 x ∧ j ≤ x ∧ x ≤ m ∧ x - j ≤ kx ∧ Aside (SWK enc k w0 blk off dk wr) ∧ Aside (Down d dk x m))
      case atStart => exact ⟨m, d, rfl, hjb, Nat.le_refl _, Nat.le_refl _, S1, Down.start d m⟩
      case round =>
        clear S1
        obtain ⟨x, dk, rfl, hax, hxi, hkx2, S1, HU⟩ := hrel
        have hds : dk.size = d.size := HU.out.1.1
        by_cases hlt2 : j < x
        · obtain ⟨xp, rfl⟩ : ∃ xp, x = xp + 1 := ⟨x - 1, by omega⟩
          have hltz2 : (j : Int) < (xp : Int) + 1 := by omega
          have HU2 : Aside (Down d (swp dk (xp + 1) xp) xp m) := Down.step HU.out hxi hmsz
          have ea44 : (((xp : Int) + 1)).toNat = (xp + 1) := by omega
          have pa44 : (0 : Int) ≤ ((xp : Int) + 1) := by omega
          have ba44 : ((xp : Int) + 1) < (d.size : Int) := by omega
          have ra44 : IntKind.i64.wrap (((xp : Int) + 1)) = ((xp : Int) + 1) := by rw [IntKind.wrap_i64]; omega
          have ec44 : ((xp : Int)).toNat = xp := by omega
          have pc44 : (0 : Int) ≤ (xp : Int) := by omega
          have bc44 : (xp : Int) < (d.size : Int) := by omega
          have rc44 : IntKind.i64.wrap ((xp : Int)) = (xp : Int) := by rw [IntKind.wrap_i64]; omega
          have S2 : Aside (SWK enc k w0 blk off (swp dk (xp + 1) xp) ((wr.drew.setCells blk (off + (xp + 1) * k) (enc dk[xp]!)).setCells blk (off + xp * k) (enc dk[(xp + 1)]!))) := S1.out.swapped R (xp + 1) xp (by omega) (by omega)
          have l44a := S1.out.ld1 R (by omega) Try.prog (xp + 1) (by omega)
          have l44b := S1.out.ld1 R (by omega) Try.prog xp (by omega)
          have s44a := S1.out.st1 R (by omega) Try.prog (xp + 1) (by omega) dk[xp]!
          have s44b := S1.out.st2 R (by omega) Try.prog (xp + 1) xp (by omega) (by omega) dk[xp]! dk[(xp + 1)]!
          have n44a : (enc dk[(xp + 1)]!).length = k := R.hk _
          have n44b : (enc dk[xp]!).length = k := R.hk _
          generalize enc dk[(xp + 1)]! = cI44 at S2 l44a s44b n44a
          generalize enc dk[xp]! = cJ44 at S2 l44b s44a s44b n44b
          clear S1
          clear HU
          go_wp2_with fail
          go_big_region_o
          clear l44a l44b s44a s44b
          generalize (wr.drew.setCells blk (off + (xp + 1) * k) cJ44).setCells blk (off + xp * k) cI44 = w2 at S2 ⊢
          go_wp2_with fail
          go_roundg (xp - j)
          case measure => omega
          case rel => exact ⟨xp, swp dk (xp + 1) xp, by go_num, by omega, by omega, Nat.le_refl _, S2, HU2⟩
        · have hltz2 : ¬ (j : Int) < (x : Int) := by omega
          obtain rfl : x = j := by omega
          go_wp2_with fail
          go_end0
          have hM := HM.out
          subst hM
          have := merge_down h0 HH.out hmi hjb hb I.out.1 I.out.2 HU.out
          exact ⟨rfl, dk, this.1, this.2, S1.out⟩
end
end Go.Proofs.Ytmgalnbacenbbaa
