/- Guard: two rows of locks exchanged; rows rotated. Guard: rows of locks rotated. Guard: two rows of locks merged in place. Guard: two rows of locks merged in place: the second row of one. Guard: two rows of locks merged in place: by halves. -/
import Derived.Test.YtmgalnbacenbbaaGreatGStab
import Derived.Test.YtmgalnbacenbbaaGreatGMem
import Derived.Shelf.SlSortCmp.KitK
import Derived.Deep.LoopGhost
namespace Go.Proofs.YtmgalnbacenbbaaGreat
section
set_option linter.unusedSimpArgs false
set_option linter.unusedVariables false
open Go.Shelf Go.RowKit Go.Lib Go.Sort
section
variable {β : Type} [Inhabited β]
set_option maxHeartbeats 4000000 in
set_option maxRecDepth 1000000 in
theorem swapRange_any (k : Nat) (zE : ∀ w, (Go.sizeOf 40).run Tryz.prog w = .ok k w) (enc : β × Nat → List Value) (g : Nat) (cb : Array Value) (blk off cap a b n : Nat) (d0 d : Array (β × Nat)) (w0 w : World)
    (R : RowK enc k w0 blk off d0) (hs : d0.size = d.size) (S : SWK enc k w0 blk off d w) (hab : a + n ≤ b) (hb : b + n ≤ d.size) (hsz : d.size < 4611686018427387904) :
    Calls Tryz.prog 107 #[.slice (some ⟨blk, off, none⟩) d.size cap, .int .i64 a, .int .i64 b, .int .i64 n, .func (.func g) #[] cb] w fun e w' => e = .returned (.tuple #[]) ∧ ∃ d', SwapR d d' a b n ∧ SWK enc k w0 blk off d' w' := by
  have aE := Tryz.isAgg40
  have mixed : Tryz.prog.follows Departure.mixedOrders = true := by kernel_rfl
  have S0 : Aside (SWK enc k w0 blk off d w) := S
  clear S
  go_enter Tryz.func107, Tryz.ntmps107
  go_wp2_with fail
  go_loopg [10] n (fun kx s10 wr => ∃ (i : Nat) (dk : Array (β × Nat)), s10 = .int .i64 i ∧ i ≤ n ∧ n - i ≤ kx ∧ Aside (SWK enc k w0 blk off dk wr) ∧ Aside (SwapR d dk a b i))
  case atStart => exact ⟨0, d, rfl, Nat.zero_le _, Nat.le_refl _, S0, SwapR.start d a b⟩
  case round =>
    clear S0
    obtain ⟨i, dk, rfl, hin, hkx, S1, HR⟩ := hrel
    have hds : dk.size = d.size := HR.out.1.1
    by_cases hlt : i < n
    · have hltz : (i : Int) < (n : Int) := by omega
      have ra44 : IntKind.i64.wrap ((a : Int) + (i : Int)) = ((a + i : Nat) : Int) := by rw [IntKind.wrap_i64]; omega
      have rc44 : IntKind.i64.wrap ((b : Int) + (i : Int)) = ((b + i : Nat) : Int) := by rw [IntKind.wrap_i64]; omega
      have HRN := SwapR.step HR.out hlt hab hb
      obtain ⟨ai, hai⟩ : ∃ x, a + i = x := ⟨_, rfl⟩
      obtain ⟨bi, hbi⟩ : ∃ x, b + i = x := ⟨_, rfl⟩
      rw [hai, hbi] at HRN
      rw [hai] at ra44
      rw [hbi] at rc44
      have HR2 : Aside (SwapR d (swp dk ai bi) a b (i + 1)) := HRN
      have hlA : ai < d.size := by omega
      have hlB : bi < d.size := by omega
      have ea44 : ((ai : Int)).toNat = ai := by omega
      have pa44 : (0 : Int) ≤ (ai : Int) := by omega
      have ba44 : (ai : Int) < (d.size : Int) := by omega
      have ec44 : ((bi : Int)).toNat = bi := by omega
      have pc44 : (0 : Int) ≤ (bi : Int) := by omega
      have bc44 : (bi : Int) < (d.size : Int) := by omega
      have S2 : Aside (SWK enc k w0 blk off (swp dk ai bi) ((wr.drew.setCells blk (off + ai * k) (enc dk[bi]!)).setCells blk (off + bi * k) (enc dk[ai]!))) := S1.out.swapped R ai bi (by omega) (by omega)
      have l44a := S1.out.ld1 R (by omega) Tryz.prog ai (by omega)
      have l44b := S1.out.ld1 R (by omega) Tryz.prog bi (by omega)
      have s44a := S1.out.st1 R (by omega) Tryz.prog ai (by omega) dk[bi]!
      have s44b := S1.out.st2 R (by omega) Tryz.prog ai bi (by omega) (by omega) dk[bi]! dk[ai]!
      have n44a : (enc dk[ai]!).length = k := R.hk _
      have n44b : (enc dk[bi]!).length = k := R.hk _
      generalize enc dk[ai]! = cI44 at S2 l44a s44b n44a
      generalize enc dk[bi]! = cJ44 at S2 l44b s44a s44b n44b
      clear S1 HRN HR hai hbi
      go_wp2_with fail
      go_big_region_o
      clear l44a l44b s44a s44b
      generalize (wr.drew.setCells blk (off + ai * k) cJ44).setCells blk (off + bi * k) cI44 = w2 at S2 ⊢
      go_wp2_with fail
      go_roundg (n - (i + 1))
      case measure => omega
      case rel =>
        exact ⟨i + 1, swp dk ai bi, by go_num, by omega, Nat.le_refl _, S2, HR2⟩
    · have hltz : ¬ (i : Int) < (n : Int) := by omega
      obtain rfl : i = n := by omega
      go_wp2_with fail
      go_end0
      exact ⟨rfl, dk, HR.out, S1.out⟩
end
end
end Go.Proofs.YtmgalnbacenbbaaGreat

namespace Go.Proofs.YtmgalnbacenbbaaGreat
section
set_option linter.unusedSimpArgs false
set_option linter.unusedVariables false
open Go.Shelf Go.RowKit Go.Lib Go.Sort
section
variable {β : Type} [Inhabited β]
set_option maxHeartbeats 4000000 in
set_option maxRecDepth 1000000 in
theorem rotate_any (k : Nat) (zE : ∀ w, (Go.sizeOf 40).run Tryz.prog w = .ok k w) (enc : β × Nat → List Value) (g : Nat) (cb : Array Value) (blk off cap a m b : Nat) (d0 d : Array (β × Nat)) (w0 w : World)
    (R : RowK enc k w0 blk off d0) (hs : d0.size = d.size) (S : SWK enc k w0 blk off d w) (ham : a < m) (hmb : m < b) (hb : b ≤ d.size) (hsz : d.size < 4611686018427387904) :
    Calls Tryz.prog 98 #[.slice (some ⟨blk, off, none⟩) d.size cap, .int .i64 a, .int .i64 m, .int .i64 b, .func (.func g) #[] cb] w fun e w' => e = .returned (.tuple #[]) ∧ ∃ d', Rot d d' a m b ∧ SWK enc k w0 blk off d' w' := by
  have S0 : Aside (SWK enc k w0 blk off d w) := S
  have HSW := fun (d1 : Array (β × Nat)) (h1 : d1.size = d.size) (w1 : World) (S1 : SWK enc k w0 blk off d1 w1) (x y n : Nat) (hx : x + n ≤ y) (hy : y + n ≤ d.size) => Lib.hid (swapRange_any k zE enc g cb blk off cap x y n d0 d1 w0 w1 R (hs.trans h1.symm) S1 hx (by omega) (by omega))
  clear S
  go_enter Tryz.func98, Tryz.ntmps98
  go_wp2_with fail
  go_loopg [10, 11] (m - a + (b - m)) (fun kx s10 s11 wr => ∃ (i j : Nat) (dk : Array (β × Nat)), s10 = .int .i64 i ∧ s11 = .int .i64 j ∧ i + j ≤ kx ∧ Aside (SWK enc k w0 blk off dk wr) ∧ Aside (RotS d dk a m b i j))
  case atStart => exact ⟨m - a, b - m, d, by go_num, by go_num, Nat.le_refl _, S0, RotS.start d ham hmb⟩
  case round =>
    clear S0
    obtain ⟨i, j, dk, rfl, rfl, hkx, S1, HR⟩ := hrel
    have hds : dk.size = d.size := HR.out.hp.1
    obtain ⟨hi1, hj1, hai, hjb, _, _⟩ := HR.out
    by_cases heq : i = j
    · subst heq
      have hne : ((i : Int) != (i : Int)) = false := by simp
      have rm : IntKind.i64.wrap ((m : Int) - (i : Int)) = ((m - i : Nat) : Int) := by rw [IntKind.wrap_i64]; omega
      have HC := HSW dk hds wr S1.out (m - i) m i (by omega) (by omega)
      rw [hds] at HC
      go_wp2_with fail
      refine HC.out.mono ?_
      rintro e w2 ⟨rfl, d2, h2, S2⟩
      go_wp2_with fail
      go_end0
      exact ⟨rfl, d2, RotS.fin HR.out hb h2, S2⟩
    · have hne : ((i : Int) != (j : Int)) = true := by simp; omega
      by_cases hij : j < i
      · have hijz : (j : Int) < (i : Int) := by omega
        have rm : IntKind.i64.wrap ((m : Int) - (i : Int)) = ((m - i : Nat) : Int) := by rw [IntKind.wrap_i64]; omega
        have rj : IntKind.i64.wrap ((i : Int) - (j : Int)) = ((i - j : Nat) : Int) := by rw [IntKind.wrap_i64]; omega
        have HC := HSW dk hds wr S1.out (m - i) m j (by omega) (by omega)
        rw [hds] at HC
        go_wp2_with fail
        refine HC.out.mono ?_
        rintro e w2 ⟨rfl, d2, h2, S2⟩
        have H2 : Aside (RotS d d2 a m b (i - j) j) := RotS.left HR.out hij hb h2
        have S3 : Aside (SWK enc k w0 blk off d2 w2) := S2
        clear h2 S2 HR S1 HC
        go_wp2_with fail
        go_roundg (i - j + j)
        case measure => omega
        case rel => exact ⟨i - j, j, d2, rfl, rfl, Nat.le_refl _, S3, H2⟩
      · have hijz : ¬ (j : Int) < (i : Int) := by omega
        have rm : IntKind.i64.wrap ((m : Int) - (i : Int)) = ((m - i : Nat) : Int) := by rw [IntKind.wrap_i64]; omega
        have rmj : IntKind.i64.wrap ((m : Int) + (j : Int)) = ((m + j : Nat) : Int) := by rw [IntKind.wrap_i64]; omega
        have rmji : IntKind.i64.wrap (((m + j : Nat) : Int) - (i : Int)) = ((m + j - i : Nat) : Int) := by rw [IntKind.wrap_i64]; omega
        have rj : IntKind.i64.wrap ((j : Int) - (i : Int)) = ((j - i : Nat) : Int) := by rw [IntKind.wrap_i64]; omega
        have HC := HSW dk hds wr S1.out (m - i) (m + j - i) i (by omega) (by omega)
        rw [hds] at HC
        obtain ⟨mj, hmj⟩ : ∃ x, m + j = x := ⟨_, rfl⟩
        rw [hmj] at rmj rmji HC
        go_wp2_with fail
        refine HC.out.mono ?_
        rintro e w2 ⟨rfl, d2, h2, S2⟩
        rw [← hmj] at h2
        have H2 : Aside (RotS d d2 a m b i (j - i)) := RotS.right HR.out (by omega) hb h2
        have S3 : Aside (SWK enc k w0 blk off d2 w2) := S2
        clear h2 S2 HR S1 HC
        go_wp2_with fail
        go_roundg (i + (j - i))
        case measure => omega
        case rel => exact ⟨i, j - i, d2, rfl, rfl, Nat.le_refl _, S3, H2⟩
end
end
end Go.Proofs.YtmgalnbacenbbaaGreat

namespace Go.Proofs.YtmgalnbacenbbaaGreat
section
set_option linter.unusedSimpArgs false
set_option linter.unusedVariables false
open Go.Shelf Go.RowKit Go.Lib Go.Sort
section
variable {β : Type} [Inhabited β]
/-- What a merge hands back. -/
def Merged (lt : β → β → Bool) (enc : β × Nat → List Value) (k : Nat) (w0 : World) (blk off a b : Nat) (d : Array (β × Nat)) (e : Ending) (w' : World) : Prop :=
  e = .returned (.tuple #[]) ∧ ∃ d', PermIn a b d d' ∧ SortedIn (tl lt) a b d' ∧ SWK enc k w0 blk off d' w'
set_option maxHeartbeats 4000000 in
set_option maxRecDepth 1000000 in
theorem sym_left (lt : β → β → Bool) (h0 : SWO lt) (k : Nat) (zE : ∀ w, (Go.sizeOf 40).run Tryz.prog w = .ok k w) (enc : β × Nat → List Value) (cf : β × Nat → β × Nat → Int) (hcf : ∀ x y, decide (cf x y < 0) = l1 lt x y) (g : Nat) (cb : Array Value) (blk off cap a m b : Nat) (d0 d : Array (β × Nat)) (w0 w : World)
    (eg : ∀ args w, (callFunc g args).run Tryz.prog w = .ok (.enter g args) w) (hcmp : CmpLays Tryz.prog g cb enc k cf blk off d0.size w0) (R : RowK enc k w0 blk off d0) (hs : d0.size = d.size) (S : SWK enc k w0 blk off d w) (ham : m = a + 1) (hmb : m < b) (hb : b ≤ d.size) (hsz : d.size < 4611686018427387904) (hQ : Half lt d a m b) :
    Calls Tryz.prog 75 #[.slice (some ⟨blk, off, none⟩) d.size cap, .int .i64 a, .int .i64 m, .int .i64 b, .func (.func g) #[] cb] w (Merged lt enc k w0 blk off a b d) := by
  have aE := Tryz.isAgg40
  have mixed : Tryz.prog.follows Departure.mixedOrders = true := by kernel_rfl
  have S0 : Aside (SWK enc k w0 blk off d w) := S
  have HC : Aside _ := hcmp
  have HH : Aside (Half lt d a m b) := hQ
  have HCF : Hid (∀ x y, decide (cf x y < 0) = l1 lt x y) := Lib.hid hcf
  clear S hcmp hcf
  have rma : IntKind.i64.wrap ((m : Int) - (a : Int)) = 1 := by rw [IntKind.wrap_i64]; omega
  have HM : Hid (m = a + 1) := Lib.hid ham
  clear ham
  go_enter Tryz.func75, Tryz.ntmps75
  go_wp2_with fail
  go_loopg [10, 11] (b - m) (fun kx s10 s11 wr => ∃ (i j : Nat), s10 = .int .i64 i ∧ s11 = .int .i64 j ∧ m ≤ i ∧ i ≤ j ∧ j ≤ b ∧ j - i ≤ kx ∧ Aside (SWK enc k w0 blk off d wr) ∧ Aside ((∀ q, m ≤ q → q < i → tl lt d[q]! d[a]! = true) ∧ (∀ q, j ≤ q → q < b → tl lt d[q]! d[a]! = false)))
  case atStart => exact ⟨m, b, rfl, rfl, Nat.le_refl _, by omega, Nat.le_refl _, Nat.le_refl _, S0, ⟨(fun q h1 h2 => by omega), (fun q h1 h2 => by omega)⟩⟩
  case round =>
    clear S0
    obtain ⟨i, j, rfl, rfl, hmi, hij, hjb, hkx, S1, I⟩ := hrel
    by_cases hlt : i < j
    · have hltz : (i : Int) < (j : Int) := by omega
      obtain ⟨h, hh⟩ : ∃ h, h = (i + j) / 2 := ⟨_, rfl⟩
      have rh : ((i : Int) + (j : Int)) / 2 = (h : Int) := by omega
      have hih : i ≤ h := by omega
      have hhj : h < j := by omega
      have rh1 : IntKind.i64.wrap ((h : Int) + 1) = ((h + 1 : Nat) : Int) := by rw [IntKind.wrap_i64]; omega
      have HM2 := HM.out
      cases hp : tl lt d[h]! d[a]! with
      | true =>
        have ea38 : ((h : Int)).toNat = h := by omega
        have pa38 : (0 : Int) ≤ (h : Int) := by omega
        have ba38 : (h : Int) < (d.size : Int) := by omega
        have ec38 : ((a : Int)).toNat = a := by omega
        have pc38 : (0 : Int) ≤ (a : Int) := by omega
        have bc38 : (a : Int) < (d.size : Int) := by omega
        obtain ⟨x38, hx38⟩ : ∃ x, x = d[h]! := ⟨_, rfl⟩
        obtain ⟨y38, hy38⟩ : ∃ x, x = d[a]! := ⟨_, rfl⟩
        have l38a := S1.out.ld R (by omega) Tryz.prog h (by omega)
        have l38b := S1.out.ld R (by omega) Tryz.prog a (by omega)
        rw [← hx38] at l38a
        rw [← hy38] at l38b
        have hc38 := S1.out.cmp HC.out (by omega) x38 y38
        have hlv : l1 lt x38 y38 = true := by rw [hx38, hy38, ← hQ.cmp (by omega) (by omega) (by omega) (by omega)]; exact hp
        rw [← HCF.out x38 y38] at hlv
        have hv38 : cf x38 y38 < 0 := of_decide_eq_true hlv
        clear hx38 hy38
        have I2 : Aside ((∀ q, m ≤ q → q < h + 1 → tl lt d[q]! d[a]! = true) ∧ (∀ q, j ≤ q → q < b → tl lt d[q]! d[a]! = false)) := And.intro (fun q h1 h2 => by
          by_cases hq : q = h
          · rw [hq]; exact hp
          · cases hz : tl lt d[q]! d[a]! with
            | true => rfl
            | false =>
              have := (tl_swo h0).ntrans _ _ _ (HH.out.right q h h1 (by omega) (by omega)) hz
              rw [hp] at this; cases this) I.out.2
        clear hp I hh HM2
        go_wp2_with fail
        go_quiet_grown (first | (go_at_fn g; refine Calls.grown_of (hc38 _ _)))
        have S2 : Aside (SWK enc k w0 blk off d (grow (wr.drewN nq) osq)) := S1.out.grown nq osq
        clear l38a l38b hc38 S1
        generalize grow (wr.drewN nq) osq = w2 at S2 ⊢
        clear nq osq
        go_wp2_with fail
        go_roundg (j - (h + 1))
        case measure => omega
        case rel => exact ⟨h + 1, j, rfl, rfl, by omega, by omega, hjb, Nat.le_refl _, S2, I2⟩
      | false =>
        have ea38 : ((h : Int)).toNat = h := by omega
        have pa38 : (0 : Int) ≤ (h : Int) := by omega
        have ba38 : (h : Int) < (d.size : Int) := by omega
        have ec38 : ((a : Int)).toNat = a := by omega
        have pc38 : (0 : Int) ≤ (a : Int) := by omega
        have bc38 : (a : Int) < (d.size : Int) := by omega
        obtain ⟨x38, hx38⟩ : ∃ x, x = d[h]! := ⟨_, rfl⟩
        obtain ⟨y38, hy38⟩ : ∃ x, x = d[a]! := ⟨_, rfl⟩
        have l38a := S1.out.ld R (by omega) Tryz.prog h (by omega)
        have l38b := S1.out.ld R (by omega) Tryz.prog a (by omega)
        rw [← hx38] at l38a
        rw [← hy38] at l38b
        have hc38 := S1.out.cmp HC.out (by omega) x38 y38
        have hlv : l1 lt x38 y38 = false := by rw [hx38, hy38, ← hQ.cmp (by omega) (by omega) (by omega) (by omega)]; exact hp
        rw [← HCF.out x38 y38] at hlv
        have hv38 : ¬ (cf x38 y38 < 0) := of_decide_eq_false hlv
        clear hx38 hy38
        have I2 : Aside ((∀ q, m ≤ q → q < i → tl lt d[q]! d[a]! = true) ∧ (∀ q, h ≤ q → q < b → tl lt d[q]! d[a]! = false)) := ⟨I.out.1, fun q h1 h2 => by
          by_cases hq : q = h
          · rw [hq]; exact hp
          · exact (tl_swo h0).ntrans _ _ _ (HH.out.right h q (by omega) (by omega) h2) hp⟩
        clear hp I hh HM2
        go_wp2_with fail
        go_quiet_grown (first | (go_at_fn g; refine Calls.grown_of (hc38 _ _)))
        have S2 : Aside (SWK enc k w0 blk off d (grow (wr.drewN nq) osq)) := S1.out.grown nq osq
        clear l38a l38b hc38 S1
        generalize grow (wr.drewN nq) osq = w2 at S2 ⊢
        clear nq osq
        go_wp2_with fail
        go_roundg (h - i)
        case measure => omega
        case rel => exact ⟨i, h, rfl, rfl, by omega, by omega, by omega, Nat.le_refl _, S2, I2⟩
    · have hltz : ¬ (i : Int) < (j : Int) := by omega
      obtain rfl : j = i := by omega
      have HM2 := HM.out
      obtain ⟨ip, hip⟩ : ∃ ip, j = ip + 1 := ⟨j - 1, by omega⟩
      have ri : IntKind.i64.wrap ((j : Int) - 1) = (ip : Int) := by rw [IntKind.wrap_i64]; omega
      have HIP : Hid (j = ip + 1) := Lib.hid hip
      have hai : a ≤ ip := by omega
      clear hip HM2
      go_wp2_with fail
      go_loopg [13] (ip - a) (fun kx s13 wr => ∃ (x : Nat) (dk : Array (β × Nat)), s13 = .int .i64 x ∧ a ≤ x ∧ x ≤ ip ∧ ip - x ≤ kx ∧ Aside (SWK enc k w0 blk off dk wr) ∧ Aside (Up d dk a (x + 1)))
      case atStart => exact ⟨a, d, rfl, Nat.le_refl _, hai, Nat.le_refl _, S1, Up.start d a⟩
      case round =>
        clear S1
        obtain ⟨x, dk, rfl, hax, hxi, hkx2, S1, HU⟩ := hrel
        have hds : dk.size = d.size := HU.out.1.1
        by_cases hlt2 : x < ip
        · have hltz2 : (x : Int) < (ip : Int) := by omega
          have HIP2 := HIP.out
          have HU2 : Aside (Up d (swp dk x (x + 1)) a (x + 1 + 1)) := Up.step HU.out hax (by omega)
          have ea44 : ((x : Int)).toNat = x := by omega
          have pa44 : (0 : Int) ≤ (x : Int) := by omega
          have ba44 : (x : Int) < (d.size : Int) := by omega
          have ra44 : IntKind.i64.wrap ((x : Int)) = (x : Int) := by rw [IntKind.wrap_i64]; omega
          have ec44 : (((x : Int) + 1)).toNat = (x + 1) := by omega
          have pc44 : (0 : Int) ≤ ((x : Int) + 1) := by omega
          have bc44 : ((x : Int) + 1) < (d.size : Int) := by omega
          have rc44 : IntKind.i64.wrap (((x : Int) + 1)) = ((x : Int) + 1) := by rw [IntKind.wrap_i64]; omega
          have S2 : Aside (SWK enc k w0 blk off (swp dk x (x + 1)) ((wr.drew.setCells blk (off + x * k) (enc dk[(x + 1)]!)).setCells blk (off + (x + 1) * k) (enc dk[x]!))) := S1.out.swapped R x (x + 1) (by omega) (by omega)
          have l44a := S1.out.ld1 R (by omega) Tryz.prog x (by omega)
          have l44b := S1.out.ld1 R (by omega) Tryz.prog (x + 1) (by omega)
          have s44a := S1.out.st1 R (by omega) Tryz.prog x (by omega) dk[(x + 1)]!
          have s44b := S1.out.st2 R (by omega) Tryz.prog x (x + 1) (by omega) (by omega) dk[(x + 1)]! dk[x]!
          have n44a : (enc dk[x]!).length = k := R.hk _
          have n44b : (enc dk[(x + 1)]!).length = k := R.hk _
          generalize enc dk[x]! = cI44 at S2 l44a s44b n44a
          generalize enc dk[(x + 1)]! = cJ44 at S2 l44b s44a s44b n44b
          clear S1
          clear HU HIP2
          go_wp2_with fail
          go_big_region_o
          clear l44a l44b s44a s44b
          generalize (wr.drew.setCells blk (off + x * k) cJ44).setCells blk (off + (x + 1) * k) cI44 = w2 at S2 ⊢
          go_wp2_with fail
          go_roundg (ip - (x + 1))
          case measure => omega
          case rel => exact ⟨x + 1, swp dk x (x + 1), by go_num, by omega, by omega, Nat.le_refl _, S2, HU2⟩
        · have hltz2 : ¬ (x : Int) < (ip : Int) := by omega
          obtain rfl : x = ip := by omega
          go_wp2_with fail
          go_end0
          have hM := HM.out
          have hI := HIP.out
          subst hM
          have := merge_up h0 HH.out hmi hjb hb I.out.1 I.out.2 (by rw [hI]; exact HU.out)
          exact ⟨rfl, dk, this.1, this.2, S1.out⟩
end
end
end Go.Proofs.YtmgalnbacenbbaaGreat

namespace Go.Proofs.YtmgalnbacenbbaaGreat
section
set_option linter.unusedSimpArgs false
set_option linter.unusedVariables false
open Go.Shelf Go.RowKit Go.Lib Go.Sort
section
variable {β : Type} [Inhabited β]
set_option maxHeartbeats 4000000 in
set_option maxRecDepth 1000000 in
theorem sym_right (lt : β → β → Bool) (h0 : SWO lt) (k : Nat) (zE : ∀ w, (Go.sizeOf 40).run Tryz.prog w = .ok k w) (enc : β × Nat → List Value) (cf : β × Nat → β × Nat → Int) (hcf : ∀ x y, decide (cf x y < 0) = l1 lt x y) (g : Nat) (cb : Array Value) (blk off cap a m b : Nat) (d0 d : Array (β × Nat)) (w0 w : World)
    (eg : ∀ args w, (callFunc g args).run Tryz.prog w = .ok (.enter g args) w) (hcmp : CmpLays Tryz.prog g cb enc k cf blk off d0.size w0) (R : RowK enc k w0 blk off d0) (hs : d0.size = d.size) (S : SWK enc k w0 blk off d w) (ham : a + 1 < m) (hmb : b = m + 1) (hb : b ≤ d.size) (hsz : d.size < 4611686018427387904) (hQ : Half lt d a m b) :
    Calls Tryz.prog 75 #[.slice (some ⟨blk, off, none⟩) d.size cap, .int .i64 a, .int .i64 m, .int .i64 b, .func (.func g) #[] cb] w (Merged lt enc k w0 blk off a b d) := by
  have aE := Tryz.isAgg40
  have mixed : Tryz.prog.follows Departure.mixedOrders = true := by kernel_rfl
  have S0 : Aside (SWK enc k w0 blk off d w) := S
  have HC : Aside _ := hcmp
  have HH : Aside (Half lt d a m b) := hQ
  have HCF : Hid (∀ x y, decide (cf x y < 0) = l1 lt x y) := Lib.hid hcf
  clear S hcmp hcf
  have rma : (IntKind.i64.wrap ((m : Int) - (a : Int)) == 1) = false := by rw [beq_eq_false_iff_ne, IntKind.wrap_i64]; omega
  have rma2 : IntKind.i64.wrap ((m : Int) - (a : Int)) = (m : Int) - (a : Int) := by rw [IntKind.wrap_i64]; omega
  rw [rma2] at rma
  have rmb : IntKind.i64.wrap ((b : Int) - (m : Int)) = 1 := by rw [IntKind.wrap_i64]; omega
  have HM : Hid (b = m + 1) := Lib.hid hmb
  have hmsz : m < d.size := by omega
  clear hmb
  go_enter Tryz.func75, Tryz.ntmps75
  go_wp2_with fail
  go_loopg [14, 15] (m - a) (fun kx s10 s11 wr => ∃ (i j : Nat), s10 = .int .i64 i ∧ s11 = .int .i64 j ∧ a ≤ i ∧ i ≤ j ∧ j ≤ m ∧ j - i ≤ kx ∧ Aside (SWK enc k w0 blk off d wr) ∧ Aside ((∀ q, a ≤ q → q < i → tl lt d[m]! d[q]! = false) ∧ (∀ q, j ≤ q → q < m → tl lt d[m]! d[q]! = true)))
  case atStart => exact ⟨a, m, rfl, rfl, Nat.le_refl _, by omega, Nat.le_refl _, Nat.le_refl _, S0, ⟨(fun q h1 h2 => by omega), (fun q h1 h2 => by omega)⟩⟩
  case round =>
    clear S0
    obtain ⟨i, j, rfl, rfl, hmi, hij, hjb, hkx, S1, I⟩ := hrel
    by_cases hlt : i < j
    · have hltz : (i : Int) < (j : Int) := by omega
      obtain ⟨h, hh⟩ : ∃ h, h = (i + j) / 2 := ⟨_, rfl⟩
      have rh : ((i : Int) + (j : Int)) / 2 = (h : Int) := by omega
      have hih : i ≤ h := by omega
      have hhj : h < j := by omega
      have rh1 : IntKind.i64.wrap ((h : Int) + 1) = ((h + 1 : Nat) : Int) := by rw [IntKind.wrap_i64]; omega
      have HM2 := HM.out
      cases hp : tl lt d[m]! d[h]! with
      | true =>
        have ea38 : ((m : Int)).toNat = m := by omega
        have pa38 : (0 : Int) ≤ (m : Int) := by omega
        have ba38 : (m : Int) < (d.size : Int) := by omega
        have ec38 : ((h : Int)).toNat = h := by omega
        have pc38 : (0 : Int) ≤ (h : Int) := by omega
        have bc38 : (h : Int) < (d.size : Int) := by omega
        obtain ⟨x38, hx38⟩ : ∃ x, x = d[m]! := ⟨_, rfl⟩
        obtain ⟨y38, hy38⟩ : ∃ x, x = d[h]! := ⟨_, rfl⟩
        have l38a := S1.out.ld R (by omega) Tryz.prog m (by omega)
        have l38b := S1.out.ld R (by omega) Tryz.prog h (by omega)
        rw [← hx38] at l38a
        rw [← hy38] at l38b
        have hc38 := S1.out.cmp HC.out (by omega) x38 y38
        have hlv : l1 lt x38 y38 = true := by rw [hx38, hy38, ← hQ.cmp (by omega) (by omega) (by omega) (by omega)]; exact hp
        rw [← HCF.out x38 y38] at hlv
        have hv38 : cf x38 y38 < 0 := of_decide_eq_true hlv
        clear hx38 hy38
        have I2 : Aside ((∀ q, a ≤ q → q < i → tl lt d[m]! d[q]! = false) ∧ (∀ q, h ≤ q → q < m → tl lt d[m]! d[q]! = true)) := And.intro I.out.1 (fun q h1 h2 => by
          by_cases hq : q = h
          · rw [hq]; exact hp
          · cases hz : tl lt d[m]! d[q]! with
            | true => rfl
            | false =>
              have := (tl_swo h0).ntrans _ _ _ hz (HH.out.left h q (by omega) (by omega) h2)
              rw [hp] at this; cases this)
        clear hp I hh HM2
        go_wp2_with fail
        go_quiet_grown (first | (go_at_fn g; refine Calls.grown_of (hc38 _ _)))
        have S2 : Aside (SWK enc k w0 blk off d (grow (wr.drewN nq) osq)) := S1.out.grown nq osq
        clear l38a l38b hc38 S1
        generalize grow (wr.drewN nq) osq = w2 at S2 ⊢
        clear nq osq
        go_wp2_with fail
        go_roundg (h - i)
        case measure => omega
        case rel => exact ⟨i, h, rfl, rfl, by omega, by omega, by omega, Nat.le_refl _, S2, I2⟩
      | false =>
        have ea38 : ((m : Int)).toNat = m := by omega
        have pa38 : (0 : Int) ≤ (m : Int) := by omega
        have ba38 : (m : Int) < (d.size : Int) := by omega
        have ec38 : ((h : Int)).toNat = h := by omega
        have pc38 : (0 : Int) ≤ (h : Int) := by omega
        have bc38 : (h : Int) < (d.size : Int) := by omega
        obtain ⟨x38, hx38⟩ : ∃ x, x = d[m]! := ⟨_, rfl⟩
        obtain ⟨y38, hy38⟩ : ∃ x, x = d[h]! := ⟨_, rfl⟩
        have l38a := S1.out.ld R (by omega) Tryz.prog m (by omega)
        have l38b := S1.out.ld R (by omega) Tryz.prog h (by omega)
        rw [← hx38] at l38a
        rw [← hy38] at l38b
        have hc38 := S1.out.cmp HC.out (by omega) x38 y38
        have hlv : l1 lt x38 y38 = false := by rw [hx38, hy38, ← hQ.cmp (by omega) (by omega) (by omega) (by omega)]; exact hp
        rw [← HCF.out x38 y38] at hlv
        have hv38 : ¬ (cf x38 y38 < 0) := of_decide_eq_false hlv
        clear hx38 hy38
        have I2 : Aside ((∀ q, a ≤ q → q < h + 1 → tl lt d[m]! d[q]! = false) ∧ (∀ q, j ≤ q → q < m → tl lt d[m]! d[q]! = true)) := And.intro (fun q h1 h2 => by
          by_cases hq : q = h
          · rw [hq]; exact hp
          · exact (tl_swo h0).ntrans _ _ _ hp (HH.out.left q h h1 (by omega) (by omega))) I.out.2
        clear hp I hh HM2
        go_wp2_with fail
        go_quiet_grown (first | (go_at_fn g; refine Calls.grown_of (hc38 _ _)))
        have S2 : Aside (SWK enc k w0 blk off d (grow (wr.drewN nq) osq)) := S1.out.grown nq osq
        clear l38a l38b hc38 S1
        generalize grow (wr.drewN nq) osq = w2 at S2 ⊢
        clear nq osq
        go_wp2_with fail
        go_roundg (j - (h + 1))
        case measure => omega
        case rel => exact ⟨h + 1, j, rfl, rfl, by omega, by omega, hjb, Nat.le_refl _, S2, I2⟩
    · have hltz : ¬ (i : Int) < (j : Int) := by omega
      obtain rfl : j = i := by omega
      go_wp2_with fail
      go_loopg [17] (m - j) (fun kx s13 wr => ∃ (x : Nat) (dk : Array (β × Nat)), s13 = .int .i64 x ∧ j ≤ x ∧ x ≤ m ∧ x - j ≤ kx ∧ Aside (SWK enc k w0 blk off dk wr) ∧ Aside (Down d dk x m))
      case atStart => exact ⟨m, d, rfl, hjb, Nat.le_refl _, Nat.le_refl _, S1, Down.start d m⟩
      case round =>
        clear S1
        obtain ⟨x, dk, rfl, hax, hxi, hkx2, S1, HU⟩ := hrel
        have hds : dk.size = d.size := HU.out.1.1
        by_cases hlt2 : j < x
        · obtain ⟨xp, rfl⟩ : ∃ xp, x = xp + 1 := ⟨x - 1, by omega⟩
          have hltz2 : (j : Int) < (xp : Int) + 1 := by omega
          have HU2 : Aside (Down d (swp dk (xp + 1) xp) xp m) := Down.step HU.out hxi hmsz
          have ea44 : (((xp : Int) + 1)).toNat = (xp + 1) := by omega
          have pa44 : (0 : Int) ≤ ((xp : Int) + 1) := by omega
          have ba44 : ((xp : Int) + 1) < (d.size : Int) := by omega
          have ra44 : IntKind.i64.wrap (((xp : Int) + 1)) = ((xp : Int) + 1) := by rw [IntKind.wrap_i64]; omega
          have ec44 : ((xp : Int)).toNat = xp := by omega
          have pc44 : (0 : Int) ≤ (xp : Int) := by omega
          have bc44 : (xp : Int) < (d.size : Int) := by omega
          have rc44 : IntKind.i64.wrap ((xp : Int)) = (xp : Int) := by rw [IntKind.wrap_i64]; omega
          have S2 : Aside (SWK enc k w0 blk off (swp dk (xp + 1) xp) ((wr.drew.setCells blk (off + (xp + 1) * k) (enc dk[xp]!)).setCells blk (off + xp * k) (enc dk[(xp + 1)]!))) := S1.out.swapped R (xp + 1) xp (by omega) (by omega)
          have l44a := S1.out.ld1 R (by omega) Tryz.prog (xp + 1) (by omega)
          have l44b := S1.out.ld1 R (by omega) Tryz.prog xp (by omega)
          have s44a := S1.out.st1 R (by omega) Tryz.prog (xp + 1) (by omega) dk[xp]!
          have s44b := S1.out.st2 R (by omega) Tryz.prog (xp + 1) xp (by omega) (by omega) dk[xp]! dk[(xp + 1)]!
          have n44a : (enc dk[(xp + 1)]!).length = k := R.hk _
          have n44b : (enc dk[xp]!).length = k := R.hk _
          generalize enc dk[(xp + 1)]! = cI44 at S2 l44a s44b n44a
          generalize enc dk[xp]! = cJ44 at S2 l44b s44a s44b n44b
          clear S1
          clear HU
          go_wp2_with fail
          go_big_region_o
          clear l44a l44b s44a s44b
          generalize (wr.drew.setCells blk (off + (xp + 1) * k) cJ44).setCells blk (off + xp * k) cI44 = w2 at S2 ⊢
          go_wp2_with fail
          go_roundg (xp - j)
          case measure => omega
          case rel => exact ⟨xp, swp dk (xp + 1) xp, by go_num, by omega, by omega, Nat.le_refl _, S2, HU2⟩
        · have hltz2 : ¬ (j : Int) < (x : Int) := by omega
          obtain rfl : x = j := by omega
          go_wp2_with fail
          go_end0
          have hM := HM.out
          subst hM
          have := merge_down h0 HH.out hmi hjb hb I.out.1 I.out.2 HU.out
          exact ⟨rfl, dk, this.1, this.2, S1.out⟩
end
end
end Go.Proofs.YtmgalnbacenbbaaGreat

namespace Go.Proofs.YtmgalnbacenbbaaGreat
section
set_option linter.unusedSimpArgs false
set_option linter.unusedVariables false
open Go.Shelf Go.RowKit Go.Lib Go.Sort
section
variable {β : Type} [Inhabited β]
theorem Rot.none (d : Array (β × Nat)) {a m b : Nat} (ham : a ≤ m) (hmb : m ≤ b) (h : a = m ∨ m = b) : Rot d d a m b := ⟨permIn_refl d a b, fun x => by
  rcases h with h | h
  · subst h
    by_cases c1 : a ≤ x ∧ x < a + (b - a)
    · rw [if_pos c1, Nat.sub_self, Nat.add_zero]
    · rw [if_neg c1, if_neg (by omega)]
  · subst h
    rw [if_neg (by omega)]
    by_cases c1 : a + (m - m) ≤ x ∧ x < m
    · rw [if_pos c1, Nat.sub_self, Nat.sub_zero]
    · rw [if_neg c1]⟩
/-- Further right in the first half, further left in the second. -/
theorem Half.up {lt : β → β → Bool} {d : Array (β × Nat)} {a m b P c c' : Nat} (h0 : SWO lt) (h : Half lt d a m b) (h1 : a ≤ c) (h2 : c ≤ c') (h3 : c' < m) (h4 : m ≤ P - c') (h5 : P - c < b) (ht : tl lt d[P - c]! d[c]! = true) : tl lt d[P - c']! d[c']! = true := by
  by_cases he : c = c'
  · rw [← he]; exact ht
  · cases hz : tl lt d[P - c']! d[c']! with
    | true => rfl
    | false =>
      have e1 := (tl_swo h0).ntrans _ _ _ hz (h.left c c' h1 (by omega) h3)
      have e2 := (tl_swo h0).ntrans _ _ _ (h.right (P - c') (P - c) h4 (by omega) h5) e1
      rw [ht] at e2; cases e2
theorem Half.dn {lt : β → β → Bool} {d : Array (β × Nat)} {a m b P c c' : Nat} (h0 : SWO lt) (h : Half lt d a m b) (h1 : a ≤ c) (h2 : c ≤ c') (h3 : c' < m) (h4 : m ≤ P - c') (h5 : P - c < b) (ht : tl lt d[P - c']! d[c']! = false) : tl lt d[P - c]! d[c]! = false := by
  cases hz : tl lt d[P - c]! d[c]! with
  | false => rfl
  | true => rw [h.up h0 h1 h2 h3 h4 h5 hz] at ht; cases ht
/-- The search's two ends. -/
def Lo (lt : β → β → Bool) (d : Array (β × Nat)) (a m b P s : Nat) : Prop := ∀ c, a ≤ c → c < s → m ≤ P - c → P - c < b → tl lt d[P - c]! d[c]! = false
def Hi (lt : β → β → Bool) (d : Array (β × Nat)) (a m b P r : Nat) : Prop := ∀ c, r ≤ c → c < m → m ≤ P - c → P - c < b → tl lt d[P - c]! d[c]! = true
set_option maxHeartbeats 16000000 in
set_option maxRecDepth 1000000 in
theorem sym_step (lt : β → β → Bool) (h0 : SWO lt) (k : Nat) (zE : ∀ w, (Go.sizeOf 40).run Tryz.prog w = .ok k w) (enc : β × Nat → List Value) (cf : β × Nat → β × Nat → Int) (hcf : ∀ x y, decide (cf x y < 0) = l1 lt x y) (g : Nat) (cb : Array Value) (blk off cap a m b : Nat) (d0 d : Array (β × Nat)) (w0 w : World)
    (eg : ∀ args w, (callFunc g args).run Tryz.prog w = .ok (.enter g args) w) (hcmp : CmpLays Tryz.prog g cb enc k cf blk off d0.size w0) (R : RowK enc k w0 blk off d0) (hs : d0.size = d.size) (S : SWK enc k w0 blk off d w) (ham : a + 1 < m) (hmb : m + 1 < b) (hb : b ≤ d.size) (hsz : d.size < 4611686018427387904) (hQ : Half lt d a m b)
    (IH : ∀ (a1 m1 b1 : Nat) (d1 : Array (β × Nat)) (w1 : World), d0.size = d1.size → SWK enc k w0 blk off d1 w1 → b1 - a1 < b - a → a1 < m1 → m1 < b1 → b1 ≤ d1.size → Half lt d1 a1 m1 b1 → Calls Tryz.prog 75 #[.slice (some ⟨blk, off, none⟩) d1.size cap, .int .i64 a1, .int .i64 m1, .int .i64 b1, .func (.func g) #[] cb] w1 (Merged lt enc k w0 blk off a1 b1 d1)) :
    Calls Tryz.prog 75 #[.slice (some ⟨blk, off, none⟩) d.size cap, .int .i64 a, .int .i64 m, .int .i64 b, .func (.func g) #[] cb] w (Merged lt enc k w0 blk off a b d) := by
  have aE := Tryz.isAgg40
  have mixed : Tryz.prog.follows Departure.mixedOrders = true := by kernel_rfl
  have S0 : Aside (SWK enc k w0 blk off d w) := S
  have HC : Aside _ := hcmp
  have HH : Aside (Half lt d a m b) := hQ
  have HCF : Hid (∀ x y, decide (cf x y < 0) = l1 lt x y) := Lib.hid hcf
  clear S hcmp hcf
  have rma : ((m : Int) - (a : Int) == 1) = false := by rw [beq_eq_false_iff_ne]; omega
  have rma2 : IntKind.i64.wrap ((m : Int) - (a : Int)) = (m : Int) - (a : Int) := by rw [IntKind.wrap_i64]; omega
  have rmb : ((b : Int) - (m : Int) == 1) = false := by rw [beq_eq_false_iff_ne]; omega
  have rmb2 : IntKind.i64.wrap ((b : Int) - (m : Int)) = (b : Int) - (m : Int) := by rw [IntKind.wrap_i64]; omega
  obtain ⟨mid, hmid⟩ : ∃ mid, mid = (a + b) / 2 := ⟨_, rfl⟩
  have rmid : ((a : Int) + (b : Int)) / 2 = (mid : Int) := by omega
  have HMID : Hid (a < mid ∧ mid < b) := Lib.hid (by omega)
  have HAM : Hid (a + 1 < m ∧ m + 1 < b ∧ a < mid ∧ mid < b ∧ mid = (a + b) / 2) := Lib.hid (by omega)
  obtain ⟨nn, hnn⟩ : ∃ nn, nn = mid + m := ⟨_, rfl⟩
  have rnn : IntKind.i64.wrap ((mid : Int) + (m : Int)) = (nn : Int) := by rw [IntKind.wrap_i64]; omega
  have HNN : Hid (mid + m = nn) := Lib.hid hnn.symm
  obtain ⟨pp, hpp⟩ : ∃ pp, pp = mid + m - 1 := ⟨_, rfl⟩
  have rpp : IntKind.i64.wrap ((nn : Int) - 1) = (pp : Int) := by rw [IntKind.wrap_i64]; omega
  have HPP : Hid (pp = mid + m - 1) := Lib.hid hpp
  go_enter Tryz.func75, Tryz.ntmps75
  by_cases hc : mid < m
  · have hcz : (mid : Int) < (m : Int) := by omega
    obtain ⟨s0, hs0⟩ : ∃ s0, s0 = mid + m - b := ⟨_, rfl⟩
    have rs0 : IntKind.i64.wrap ((nn : Int) - (b : Int)) = (s0 : Int) := by rw [IntKind.wrap_i64]; omega
    have hRng : Hid (∀ c, s0 ≤ c → c < mid → a ≤ c ∧ c < m ∧ m ≤ mid + m - 1 - c ∧ mid + m - 1 - c < b) := Lib.hid (fun c h1 h2 => by omega)
    have I0 : Hid (Lo lt d a m b (mid + m - 1) s0 ∧ Hi lt d a m b (mid + m - 1) mid) := Lib.hid ⟨(fun c h1 h2 h3 h4 => by omega), (fun c h1 h2 h3 h4 => by omega)⟩
    have hle : s0 ≤ mid := by omega
    have hx : a ≤ s0 ∧ mid ≤ m ∧ mid + m - s0 ≤ b := by omega
    clear hs0 hpp hnn hmid ham hmb
    go_wp2_with fail
    go_loopg [20, 21] (mid - s0) (fun kx s10 s11 wr => ∃ (i j : Nat), s10 = .int .i64 i ∧ s11 = .int .i64 j ∧ s0 ≤ i ∧ i ≤ j ∧ j ≤ mid ∧ j - i ≤ kx ∧ Aside (SWK enc k w0 blk off d wr) ∧ Aside (Lo lt d a m b (mid + m - 1) i ∧ Hi lt d a m b (mid + m - 1) j))
    case atStart => exact ⟨s0, mid, by first | rfl | go_num, rfl, Nat.le_refl _, hle, Nat.le_refl _, Nat.le_refl _, S0, I0.out⟩
    case round =>
      clear S0 I0
      obtain ⟨i, j, rfl, rfl, hmi, hij, hjb, hkx, S1, I⟩ := hrel
      by_cases hlt : i < j
      · have hltz : (i : Int) < (j : Int) := by omega
        obtain ⟨h, hh⟩ : ∃ h, h = (i + j) / 2 := ⟨_, rfl⟩
        have hih : i ≤ h := by omega
        have hhj : h < j := by omega
        obtain ⟨r1, r2, r3, r4⟩ := hRng.out h (by omega) (by omega)
        have rh : ((i : Int) + (j : Int)) / 2 = (h : Int) := by omega
        have rh1 : IntKind.i64.wrap ((h : Int) + 1) = ((h + 1 : Nat) : Int) := by rw [IntKind.wrap_i64]; omega
        obtain ⟨ph, hph⟩ : ∃ ph, ph = mid + m - 1 - h := ⟨_, rfl⟩
        rw [← hph] at r3 r4
        have rp : IntKind.i64.wrap ((pp : Int) - (h : Int)) = (ph : Int) := by have := HPP.out; rw [IntKind.wrap_i64]; omega
        have HPH : Hid (ph = mid + m - 1 - h) := Lib.hid hph
        cases hp : tl lt d[ph]! d[h]! with
        | true =>
          have ea38 : ((ph : Int)).toNat = ph := by omega
          have pa38 : (0 : Int) ≤ (ph : Int) := by omega
          have ba38 : (ph : Int) < (d.size : Int) := by omega
          have ec38 : ((h : Int)).toNat = h := by omega
          have pc38 : (0 : Int) ≤ (h : Int) := by omega
          have bc38 : (h : Int) < (d.size : Int) := by omega
          obtain ⟨x38, hx38⟩ : ∃ x, x = d[ph]! := ⟨_, rfl⟩
          obtain ⟨y38, hy38⟩ : ∃ x, x = d[h]! := ⟨_, rfl⟩
          have l38a := S1.out.ld R (by omega) Tryz.prog ph (by omega)
          have l38b := S1.out.ld R (by omega) Tryz.prog h (by omega)
          rw [← hx38] at l38a
          rw [← hy38] at l38b
          have hc38 := S1.out.cmp HC.out (by omega) x38 y38
          have hlv : l1 lt x38 y38 = true := by rw [hx38, hy38, ← hQ.cmp (by omega) (by omega) (by omega) (by omega)]; exact hp
          rw [← HCF.out x38 y38] at hlv
          have hv38 : cf x38 y38 < 0 := of_decide_eq_true hlv
          clear hx38 hy38
          have I2 : Aside (Lo lt d a m b (mid + m - 1) i ∧ Hi lt d a m b (mid + m - 1) h) := And.intro I.out.1 (fun c h1 h2 h3 h4 => by
            have e := HPH.out
            exact HH.out.up h0 r1 h1 h2 h3 (by omega) (by rw [← e]; exact hp))
          clear hp I hh hph
          go_wp2_with fail
          go_quiet_grown (first | (go_at_fn g; refine Calls.grown_of (hc38 _ _)))
          have S2 : Aside (SWK enc k w0 blk off d (grow (wr.drewN nq) osq)) := S1.out.grown nq osq
          clear l38a l38b hc38 S1
          generalize grow (wr.drewN nq) osq = w2 at S2 ⊢
          clear nq osq
          go_wp2_with fail
          go_roundg (h - i)
          case measure => omega
          case rel => exact ⟨i, h, rfl, rfl, by omega, by omega, by omega, Nat.le_refl _, S2, I2⟩
        | false =>
          have ea38 : ((ph : Int)).toNat = ph := by omega
          have pa38 : (0 : Int) ≤ (ph : Int) := by omega
          have ba38 : (ph : Int) < (d.size : Int) := by omega
          have ec38 : ((h : Int)).toNat = h := by omega
          have pc38 : (0 : Int) ≤ (h : Int) := by omega
          have bc38 : (h : Int) < (d.size : Int) := by omega
          obtain ⟨x38, hx38⟩ : ∃ x, x = d[ph]! := ⟨_, rfl⟩
          obtain ⟨y38, hy38⟩ : ∃ x, x = d[h]! := ⟨_, rfl⟩
          have l38a := S1.out.ld R (by omega) Tryz.prog ph (by omega)
          have l38b := S1.out.ld R (by omega) Tryz.prog h (by omega)
          rw [← hx38] at l38a
          rw [← hy38] at l38b
          have hc38 := S1.out.cmp HC.out (by omega) x38 y38
          have hlv : l1 lt x38 y38 = false := by rw [hx38, hy38, ← hQ.cmp (by omega) (by omega) (by omega) (by omega)]; exact hp
          rw [← HCF.out x38 y38] at hlv
          have hv38 : ¬ (cf x38 y38 < 0) := of_decide_eq_false hlv
          clear hx38 hy38
          have I2 : Aside (Lo lt d a m b (mid + m - 1) (h + 1) ∧ Hi lt d a m b (mid + m - 1) j) := And.intro (fun c h1 h2 h3 h4 => by
            have e := HPH.out
            exact HH.out.dn h0 h1 (by omega : c ≤ h) r2 (by omega) h4 (by rw [← e]; exact hp)) I.out.2
          clear hp I hh hph
          go_wp2_with fail
          go_quiet_grown (first | (go_at_fn g; refine Calls.grown_of (hc38 _ _)))
          have S2 : Aside (SWK enc k w0 blk off d (grow (wr.drewN nq) osq)) := S1.out.grown nq osq
          clear l38a l38b hc38 S1
          generalize grow (wr.drewN nq) osq = w2 at S2 ⊢
          clear nq osq
          go_wp2_with fail
          go_roundg (j - (h + 1))
          case measure => omega
          case rel => exact ⟨h + 1, j, rfl, rfl, by omega, by omega, hjb, Nat.le_refl _, S2, I2⟩
      · have hltz : ¬ (i : Int) < (j : Int) := by omega
        obtain rfl : j = i := by omega
        obtain ⟨s, hsj⟩ : ∃ s, s = j := ⟨_, rfl⟩
        rw [← hsj] at hmi hjb I hltz ⊢
        have hRng0 : Hid (s0 ≤ s ∧ s ≤ mid ∧ a ≤ s0 ∧ mid ≤ m ∧ mid + m - s0 ≤ b) := Lib.hid ⟨hmi, hjb, hx⟩
        clear hsj hij hkx
        -- behind the search: the cut
        have hC1 := hRng0.out
        obtain ⟨n', hn'⟩ : ∃ n', n' = mid + m - s := ⟨_, rfl⟩
        have hAm := HAM.out
        have CUT : Aside (Cut lt d a m b mid s) := by
          obtain ⟨q1, q2, q3, q4, q5⟩ := hC1
          exact ⟨by omega, by omega, by omega, by omega, by omega, I.out.1, I.out.2⟩
        have hs1 : a ≤ s := CUT.out.h1
        have hs2 : s ≤ m := CUT.out.h2
        have hs3 : m ≤ n' := by rw [hn']; exact CUT.out.h3
        have hs4 : n' ≤ b := by rw [hn']; exact CUT.out.h4
        have hs5 : s ≤ mid := CUT.out.h5
        have re : IntKind.i64.wrap (((mid + m : Nat) : Int) - (s : Int)) = (n' : Int) := by rw [IntKind.wrap_i64]; omega
        have hmn : mid + m = nn := HNN.out
        rw [hmn] at re
        have hend1 : mid ≤ n' := by omega
        have hamid : a ≤ mid := by omega
        have hmidb : mid ≤ b := by omega
        have HN' : Hid (n' = mid + m - s) := Lib.hid hn'
        clear hn' hmn hC1 I hAm
        by_cases hrot : s < m ∧ m < n'
        · have hr1 : (s : Int) < (m : Int) := by omega
          have hr2 : (m : Int) < (n' : Int) := by omega
          have HR := Lib.hid (rotate_any k zE enc g cb blk off cap s m n' d0 d w0 wr R hs S1.out hrot.1 hrot.2 (by omega) hsz)
          go_wp2_with fail
          refine HR.out.mono ?_
          rintro e w2 ⟨rfl, d2, hrot2, S2'⟩
          have HROT : Aside (Rot d d2 s m (mid + m - s)) := by have := HN'.out; rw [← this]; exact hrot2
          have S2 : Aside (SWK enc k w0 blk off d2 w2) := S2'
          have hd2 : d2.size = d.size := hrot2.1.1
          have PermOf : Aside (PermIn a b d d2) := permIn_mono _ _ s n' a b hs1 hs4 (by have := hrot2.1.1; omega) hrot2.1
          clear HR hrot2 S2' S1 hr1 hr2 hrot
          obtain ⟨hh1, hh2, hhx⟩ := halves h0 HH.out CUT.out hamid hmidb hb HROT.out
          have HX : Aside (∀ p q, a ≤ p → p < mid → mid ≤ q → q < b → tl lt d2[q]! d2[p]! = false) := hhx
          have H1 : Aside (Half lt d2 a s mid) := hh1
          have H2 : Aside (Half lt d2 mid n' b) := by have := HN'.out; rw [this]; exact hh2
          clear hh1 hh2 hhx HROT
          by_cases hl : a < s ∧ s < mid
          · have hl1 : (a : Int) < (s : Int) := by omega
            have hl2 : (s : Int) < (mid : Int) := by omega
            have HC1 := Lib.hid (IH a s mid d2 w2 (by omega) S2.out (by have := HMID.out; omega) hl.1 hl.2 (by omega) H1.out)
            rw [hd2] at HC1
            clear hl
            go_wp2_with fail
            refine HC1.out.mono ?_
            rintro e w3 ⟨rfl, d3, hp3, hs3', S3'⟩
            have P3 : Aside (PermIn a mid d2 d3) := hp3
            have O3 : Aside (SortedIn (tl lt) a mid d3) := hs3'
            have S3 : Aside (SWK enc k w0 blk off d3 w3) := S3'
            have hd3 : d3.size = d.size := hp3.1.trans hd2
            clear hp3 hs3' S3' HC1 hl1 hl2
            by_cases hm : mid < n' ∧ n' < b
            · have hm1 : (mid : Int) < (n' : Int) := by omega
              have hm2 : (n' : Int) < (b : Int) := by omega
              have hH3 : Half lt d3 mid n' b := by
                have e : ∀ x, mid ≤ x → d3[x]! = d2[x]! := fun x hx => P3.out.2.1 x (.inr hx)
                refine ⟨fun p q i1 i2 i3 => ?_, fun p q i1 i2 i3 => ?_, fun p q i1 i2 i3 i4 => ?_⟩
                · rw [e p i1, e q (by omega)]; exact H2.out.left p q i1 i2 i3
                · rw [e p (by omega), e q (by omega)]; exact H2.out.right p q i1 i2 i3
                · rw [e p i1, e q (by omega)]; exact H2.out.tags p q i1 i2 i3 i4
              have HC2 := Lib.hid (IH mid n' b d3 w3 (by omega) S3.out (by have := HMID.out; omega) hm.1 hm.2 (by omega) hH3)
              rw [hd3] at HC2
              clear hm hH3
              go_wp2_with fail
              refine HC2.out.mono ?_
              rintro e w4 ⟨rfl, d4, hp4, hs4', S4'⟩
              have P4 : Aside (PermIn mid b d3 d4) := hp4
              have O4 : Aside (SortedIn (tl lt) mid b d4) := hs4'
              have S4 : Aside (SWK enc k w0 blk off d4 w4) := S4'
              clear hp4 hs4' S4' HC2 hm1 hm2
              have hJ := join_halves (lt := lt) hamid hmidb (by omega : b ≤ d2.size) HX.out P3.out O3.out P4.out O4.out
              have HJ : Aside (PermIn a b d d4 ∧ SortedIn (tl lt) a b d4) := ⟨permIn_trans _ _ _ _ _ PermOf.out hJ.1, hJ.2⟩
              clear hJ
              go_wp2_with fail
              all_goals go_end0
              all_goals exact ⟨rfl, d4, HJ.out.1, HJ.out.2, S4.out⟩
            · have P4 : Aside (PermIn mid b d3 d3) := permIn_refl _ _ _
              have O4 : Aside (SortedIn (tl lt) mid b d3) := by
                have e : ∀ x, mid ≤ x → d3[x]! = d2[x]! := fun x hx => P3.out.2.1 x (.inr hx)
                have hr : SortedIn (tl lt) mid b d2 := by
                  rcases Nat.lt_or_ge mid n' with h1 | h1
                  · have h3 : n' = b := by omega
                    have := H2.out.left
                    rw [h3] at this; exact this
                  · have h3 : n' = mid := by omega
                    have := H2.out.right
                    rw [h3] at this; exact this
                intro p q i1 i2 i3
                rw [e p i1, e q (by omega)]; exact hr p q i1 i2 i3
              obtain ⟨d4, hdd⟩ : ∃ d4, d4 = d3 := ⟨_, rfl⟩
              obtain ⟨w4, hw4⟩ : ∃ w4, w4 = w3 := ⟨_, rfl⟩
              have S4 : Aside (SWK enc k w0 blk off d4 w4) := by rw [hdd, hw4]; exact S3
              have P4 : Aside (PermIn mid b d3 d4) := by rw [hdd]; exact P4
              have O4 : Aside (SortedIn (tl lt) mid b d4) := by rw [hdd]; exact O4
              rw [← hw4]
              clear hw4 hdd
              by_cases hm1 : (mid : Int) < (n' : Int)
              · have hm2 : ¬ ((n' : Int) < (b : Int)) := by omega
                clear hm
                have hJ := join_halves (lt := lt) hamid hmidb (by omega : b ≤ d2.size) HX.out P3.out O3.out P4.out O4.out
                have HJ : Aside (PermIn a b d d4 ∧ SortedIn (tl lt) a b d4) := ⟨permIn_trans _ _ _ _ _ PermOf.out hJ.1, hJ.2⟩
                clear hJ
                go_wp2_with fail
                all_goals go_end0
                all_goals exact ⟨rfl, d4, HJ.out.1, HJ.out.2, S4.out⟩
              · clear hm
                have hJ := join_halves (lt := lt) hamid hmidb (by omega : b ≤ d2.size) HX.out P3.out O3.out P4.out O4.out
                have HJ : Aside (PermIn a b d d4 ∧ SortedIn (tl lt) a b d4) := ⟨permIn_trans _ _ _ _ _ PermOf.out hJ.1, hJ.2⟩
                clear hJ
                go_wp2_with fail
                all_goals go_end0
                all_goals exact ⟨rfl, d4, HJ.out.1, HJ.out.2, S4.out⟩
          · have P3 : Aside (PermIn a mid d2 d2) := permIn_refl _ _ _
            have O3 : Aside (SortedIn (tl lt) a mid d2) := by
              rcases Nat.lt_or_ge a s with h1 | h1
              · have h3 : mid = s := by omega
                have := H1.out.left
                rw [← h3] at this; exact this
              · have h3 : s = a := by omega
                have := H1.out.right
                rw [h3] at this; exact this
            obtain ⟨d3, hdd⟩ : ∃ d3, d3 = d2 := ⟨_, rfl⟩
            obtain ⟨w3, hw3⟩ : ∃ w3, w3 = w2 := ⟨_, rfl⟩
            have hd3 : d3.size = d.size := by rw [hdd]; exact hd2
            have S3 : Aside (SWK enc k w0 blk off d3 w3) := by rw [hdd, hw3]; exact S2
            have P3 : Aside (PermIn a mid d2 d3) := by rw [hdd]; exact P3
            have O3 : Aside (SortedIn (tl lt) a mid d3) := by rw [hdd]; exact O3
            rw [← hw3]
            clear hw3 hdd
            by_cases hl1 : (a : Int) < (s : Int)
            · have hl2 : ¬ ((s : Int) < (mid : Int)) := by omega
              clear hl
              by_cases hm : mid < n' ∧ n' < b
              · have hm1 : (mid : Int) < (n' : Int) := by omega
                have hm2 : (n' : Int) < (b : Int) := by omega
                have hH3 : Half lt d3 mid n' b := by
                  have e : ∀ x, mid ≤ x → d3[x]! = d2[x]! := fun x hx => P3.out.2.1 x (.inr hx)
                  refine ⟨fun p q i1 i2 i3 => ?_, fun p q i1 i2 i3 => ?_, fun p q i1 i2 i3 i4 => ?_⟩
                  · rw [e p i1, e q (by omega)]; exact H2.out.left p q i1 i2 i3
                  · rw [e p (by omega), e q (by omega)]; exact H2.out.right p q i1 i2 i3
                  · rw [e p i1, e q (by omega)]; exact H2.out.tags p q i1 i2 i3 i4
                have HC2 := Lib.hid (IH mid n' b d3 w3 (by omega) S3.out (by have := HMID.out; omega) hm.1 hm.2 (by omega) hH3)
                rw [hd3] at HC2
                clear hm hH3
                go_wp2_with fail
                refine HC2.out.mono ?_
                rintro e w4 ⟨rfl, d4, hp4, hs4', S4'⟩
                have P4 : Aside (PermIn mid b d3 d4) := hp4
                have O4 : Aside (SortedIn (tl lt) mid b d4) := hs4'
                have S4 : Aside (SWK enc k w0 blk off d4 w4) := S4'
                clear hp4 hs4' S4' HC2 hm1 hm2
                have hJ := join_halves (lt := lt) hamid hmidb (by omega : b ≤ d2.size) HX.out P3.out O3.out P4.out O4.out
                have HJ : Aside (PermIn a b d d4 ∧ SortedIn (tl lt) a b d4) := ⟨permIn_trans _ _ _ _ _ PermOf.out hJ.1, hJ.2⟩
                clear hJ
                go_wp2_with fail
                all_goals go_end0
                all_goals exact ⟨rfl, d4, HJ.out.1, HJ.out.2, S4.out⟩
              · have P4 : Aside (PermIn mid b d3 d3) := permIn_refl _ _ _
                have O4 : Aside (SortedIn (tl lt) mid b d3) := by
                  have e : ∀ x, mid ≤ x → d3[x]! = d2[x]! := fun x hx => P3.out.2.1 x (.inr hx)
                  have hr : SortedIn (tl lt) mid b d2 := by
                    rcases Nat.lt_or_ge mid n' with h1 | h1
                    · have h3 : n' = b := by omega
                      have := H2.out.left
                      rw [h3] at this; exact this
                    · have h3 : n' = mid := by omega
                      have := H2.out.right
                      rw [h3] at this; exact this
                  intro p q i1 i2 i3
                  rw [e p i1, e q (by omega)]; exact hr p q i1 i2 i3
                obtain ⟨d4, hdd⟩ : ∃ d4, d4 = d3 := ⟨_, rfl⟩
                obtain ⟨w4, hw4⟩ : ∃ w4, w4 = w3 := ⟨_, rfl⟩
                have S4 : Aside (SWK enc k w0 blk off d4 w4) := by rw [hdd, hw4]; exact S3
                have P4 : Aside (PermIn mid b d3 d4) := by rw [hdd]; exact P4
                have O4 : Aside (SortedIn (tl lt) mid b d4) := by rw [hdd]; exact O4
                rw [← hw4]
                clear hw4 hdd
                by_cases hm1 : (mid : Int) < (n' : Int)
                · have hm2 : ¬ ((n' : Int) < (b : Int)) := by omega
                  clear hm
                  have hJ := join_halves (lt := lt) hamid hmidb (by omega : b ≤ d2.size) HX.out P3.out O3.out P4.out O4.out
                  have HJ : Aside (PermIn a b d d4 ∧ SortedIn (tl lt) a b d4) := ⟨permIn_trans _ _ _ _ _ PermOf.out hJ.1, hJ.2⟩
                  clear hJ
                  go_wp2_with fail
                  all_goals go_end0
                  all_goals exact ⟨rfl, d4, HJ.out.1, HJ.out.2, S4.out⟩
                · clear hm
                  have hJ := join_halves (lt := lt) hamid hmidb (by omega : b ≤ d2.size) HX.out P3.out O3.out P4.out O4.out
                  have HJ : Aside (PermIn a b d d4 ∧ SortedIn (tl lt) a b d4) := ⟨permIn_trans _ _ _ _ _ PermOf.out hJ.1, hJ.2⟩
                  clear hJ
                  go_wp2_with fail
                  all_goals go_end0
                  all_goals exact ⟨rfl, d4, HJ.out.1, HJ.out.2, S4.out⟩
            · clear hl
              by_cases hm : mid < n' ∧ n' < b
              · have hm1 : (mid : Int) < (n' : Int) := by omega
                have hm2 : (n' : Int) < (b : Int) := by omega
                have hH3 : Half lt d3 mid n' b := by
                  have e : ∀ x, mid ≤ x → d3[x]! = d2[x]! := fun x hx => P3.out.2.1 x (.inr hx)
                  refine ⟨fun p q i1 i2 i3 => ?_, fun p q i1 i2 i3 => ?_, fun p q i1 i2 i3 i4 => ?_⟩
                  · rw [e p i1, e q (by omega)]; exact H2.out.left p q i1 i2 i3
                  · rw [e p (by omega), e q (by omega)]; exact H2.out.right p q i1 i2 i3
                  · rw [e p i1, e q (by omega)]; exact H2.out.tags p q i1 i2 i3 i4
                have HC2 := Lib.hid (IH mid n' b d3 w3 (by omega) S3.out (by have := HMID.out; omega) hm.1 hm.2 (by omega) hH3)
                rw [hd3] at HC2
                clear hm hH3
                go_wp2_with fail
                refine HC2.out.mono ?_
                rintro e w4 ⟨rfl, d4, hp4, hs4', S4'⟩
                have P4 : Aside (PermIn mid b d3 d4) := hp4
                have O4 : Aside (SortedIn (tl lt) mid b d4) := hs4'
                have S4 : Aside (SWK enc k w0 blk off d4 w4) := S4'
                clear hp4 hs4' S4' HC2 hm1 hm2
                have hJ := join_halves (lt := lt) hamid hmidb (by omega : b ≤ d2.size) HX.out P3.out O3.out P4.out O4.out
                have HJ : Aside (PermIn a b d d4 ∧ SortedIn (tl lt) a b d4) := ⟨permIn_trans _ _ _ _ _ PermOf.out hJ.1, hJ.2⟩
                clear hJ
                go_wp2_with fail
                all_goals go_end0
                all_goals exact ⟨rfl, d4, HJ.out.1, HJ.out.2, S4.out⟩
              · have P4 : Aside (PermIn mid b d3 d3) := permIn_refl _ _ _
                have O4 : Aside (SortedIn (tl lt) mid b d3) := by
                  have e : ∀ x, mid ≤ x → d3[x]! = d2[x]! := fun x hx => P3.out.2.1 x (.inr hx)
                  have hr : SortedIn (tl lt) mid b d2 := by
                    rcases Nat.lt_or_ge mid n' with h1 | h1
                    · have h3 : n' = b := by omega
                      have := H2.out.left
                      rw [h3] at this; exact this
                    · have h3 : n' = mid := by omega
                      have := H2.out.right
                      rw [h3] at this; exact this
                  intro p q i1 i2 i3
                  rw [e p i1, e q (by omega)]; exact hr p q i1 i2 i3
                obtain ⟨d4, hdd⟩ : ∃ d4, d4 = d3 := ⟨_, rfl⟩
                obtain ⟨w4, hw4⟩ : ∃ w4, w4 = w3 := ⟨_, rfl⟩
                have S4 : Aside (SWK enc k w0 blk off d4 w4) := by rw [hdd, hw4]; exact S3
                have P4 : Aside (PermIn mid b d3 d4) := by rw [hdd]; exact P4
                have O4 : Aside (SortedIn (tl lt) mid b d4) := by rw [hdd]; exact O4
                rw [← hw4]
                clear hw4 hdd
                by_cases hm1 : (mid : Int) < (n' : Int)
                · have hm2 : ¬ ((n' : Int) < (b : Int)) := by omega
                  clear hm
                  have hJ := join_halves (lt := lt) hamid hmidb (by omega : b ≤ d2.size) HX.out P3.out O3.out P4.out O4.out
                  have HJ : Aside (PermIn a b d d4 ∧ SortedIn (tl lt) a b d4) := ⟨permIn_trans _ _ _ _ _ PermOf.out hJ.1, hJ.2⟩
                  clear hJ
                  go_wp2_with fail
                  all_goals go_end0
                  all_goals exact ⟨rfl, d4, HJ.out.1, HJ.out.2, S4.out⟩
                · clear hm
                  have hJ := join_halves (lt := lt) hamid hmidb (by omega : b ≤ d2.size) HX.out P3.out O3.out P4.out O4.out
                  have HJ : Aside (PermIn a b d d4 ∧ SortedIn (tl lt) a b d4) := ⟨permIn_trans _ _ _ _ _ PermOf.out hJ.1, hJ.2⟩
                  clear hJ
                  go_wp2_with fail
                  all_goals go_end0
                  all_goals exact ⟨rfl, d4, HJ.out.1, HJ.out.2, S4.out⟩
        · have HROT : Aside (Rot d d s m (mid + m - s)) := Rot.none d hs2 CUT.out.h3 (by have := HN'.out; omega)
          obtain ⟨d2, hdd⟩ : ∃ d2, d2 = d := ⟨_, rfl⟩
          obtain ⟨w2, hw2⟩ : ∃ w2, w2 = wr := ⟨_, rfl⟩
          have hd2 : d2.size = d.size := by rw [hdd]
          have S2 : Aside (SWK enc k w0 blk off d2 w2) := by rw [hdd, hw2]; exact S1
          have HROT : Aside (Rot d d2 s m (mid + m - s)) := by rw [hdd]; exact HROT
          have PermOf : Aside (PermIn a b d d2) := by rw [hdd]; exact permIn_refl _ _ _
          rw [← hw2]
          clear S1 hw2 hdd
          by_cases hr1 : (s : Int) < (m : Int)
          · have hr2 : ¬ ((m : Int) < (n' : Int)) := by omega
            clear hrot
            obtain ⟨hh1, hh2, hhx⟩ := halves h0 HH.out CUT.out hamid hmidb hb HROT.out
            have HX : Aside (∀ p q, a ≤ p → p < mid → mid ≤ q → q < b → tl lt d2[q]! d2[p]! = false) := hhx
            have H1 : Aside (Half lt d2 a s mid) := hh1
            have H2 : Aside (Half lt d2 mid n' b) := by have := HN'.out; rw [this]; exact hh2
            clear hh1 hh2 hhx HROT
            by_cases hl : a < s ∧ s < mid
            · have hl1 : (a : Int) < (s : Int) := by omega
              have hl2 : (s : Int) < (mid : Int) := by omega
              have HC1 := Lib.hid (IH a s mid d2 w2 (by omega) S2.out (by have := HMID.out; omega) hl.1 hl.2 (by omega) H1.out)
              rw [hd2] at HC1
              clear hl
              go_wp2_with fail
              refine HC1.out.mono ?_
              rintro e w3 ⟨rfl, d3, hp3, hs3', S3'⟩
              have P3 : Aside (PermIn a mid d2 d3) := hp3
              have O3 : Aside (SortedIn (tl lt) a mid d3) := hs3'
              have S3 : Aside (SWK enc k w0 blk off d3 w3) := S3'
              have hd3 : d3.size = d.size := hp3.1.trans hd2
              clear hp3 hs3' S3' HC1 hl1 hl2
              by_cases hm : mid < n' ∧ n' < b
              · have hm1 : (mid : Int) < (n' : Int) := by omega
                have hm2 : (n' : Int) < (b : Int) := by omega
                have hH3 : Half lt d3 mid n' b := by
                  have e : ∀ x, mid ≤ x → d3[x]! = d2[x]! := fun x hx => P3.out.2.1 x (.inr hx)
                  refine ⟨fun p q i1 i2 i3 => ?_, fun p q i1 i2 i3 => ?_, fun p q i1 i2 i3 i4 => ?_⟩
                  · rw [e p i1, e q (by omega)]; exact H2.out.left p q i1 i2 i3
                  · rw [e p (by omega), e q (by omega)]; exact H2.out.right p q i1 i2 i3
                  · rw [e p i1, e q (by omega)]; exact H2.out.tags p q i1 i2 i3 i4
                have HC2 := Lib.hid (IH mid n' b d3 w3 (by omega) S3.out (by have := HMID.out; omega) hm.1 hm.2 (by omega) hH3)
                rw [hd3] at HC2
                clear hm hH3
                go_wp2_with fail
                refine HC2.out.mono ?_
                rintro e w4 ⟨rfl, d4, hp4, hs4', S4'⟩
                have P4 : Aside (PermIn mid b d3 d4) := hp4
                have O4 : Aside (SortedIn (tl lt) mid b d4) := hs4'
                have S4 : Aside (SWK enc k w0 blk off d4 w4) := S4'
                clear hp4 hs4' S4' HC2 hm1 hm2
                have hJ := join_halves (lt := lt) hamid hmidb (by omega : b ≤ d2.size) HX.out P3.out O3.out P4.out O4.out
                have HJ : Aside (PermIn a b d d4 ∧ SortedIn (tl lt) a b d4) := ⟨permIn_trans _ _ _ _ _ PermOf.out hJ.1, hJ.2⟩
                clear hJ
                go_wp2_with fail
                all_goals go_end0
                all_goals exact ⟨rfl, d4, HJ.out.1, HJ.out.2, S4.out⟩
              · have P4 : Aside (PermIn mid b d3 d3) := permIn_refl _ _ _
                have O4 : Aside (SortedIn (tl lt) mid b d3) := by
                  have e : ∀ x, mid ≤ x → d3[x]! = d2[x]! := fun x hx => P3.out.2.1 x (.inr hx)
                  have hr : SortedIn (tl lt) mid b d2 := by
                    rcases Nat.lt_or_ge mid n' with h1 | h1
                    · have h3 : n' = b := by omega
                      have := H2.out.left
                      rw [h3] at this; exact this
                    · have h3 : n' = mid := by omega
                      have := H2.out.right
                      rw [h3] at this; exact this
                  intro p q i1 i2 i3
                  rw [e p i1, e q (by omega)]; exact hr p q i1 i2 i3
                obtain ⟨d4, hdd⟩ : ∃ d4, d4 = d3 := ⟨_, rfl⟩
                obtain ⟨w4, hw4⟩ : ∃ w4, w4 = w3 := ⟨_, rfl⟩
                have S4 : Aside (SWK enc k w0 blk off d4 w4) := by rw [hdd, hw4]; exact S3
                have P4 : Aside (PermIn mid b d3 d4) := by rw [hdd]; exact P4
                have O4 : Aside (SortedIn (tl lt) mid b d4) := by rw [hdd]; exact O4
                rw [← hw4]
                clear hw4 hdd
                by_cases hm1 : (mid : Int) < (n' : Int)
                · have hm2 : ¬ ((n' : Int) < (b : Int)) := by omega
                  clear hm
                  have hJ := join_halves (lt := lt) hamid hmidb (by omega : b ≤ d2.size) HX.out P3.out O3.out P4.out O4.out
                  have HJ : Aside (PermIn a b d d4 ∧ SortedIn (tl lt) a b d4) := ⟨permIn_trans _ _ _ _ _ PermOf.out hJ.1, hJ.2⟩
                  clear hJ
                  go_wp2_with fail
                  all_goals go_end0
                  all_goals exact ⟨rfl, d4, HJ.out.1, HJ.out.2, S4.out⟩
                · clear hm
                  have hJ := join_halves (lt := lt) hamid hmidb (by omega : b ≤ d2.size) HX.out P3.out O3.out P4.out O4.out
                  have HJ : Aside (PermIn a b d d4 ∧ SortedIn (tl lt) a b d4) := ⟨permIn_trans _ _ _ _ _ PermOf.out hJ.1, hJ.2⟩
                  clear hJ
                  go_wp2_with fail
                  all_goals go_end0
                  all_goals exact ⟨rfl, d4, HJ.out.1, HJ.out.2, S4.out⟩
            · have P3 : Aside (PermIn a mid d2 d2) := permIn_refl _ _ _
              have O3 : Aside (SortedIn (tl lt) a mid d2) := by
                rcases Nat.lt_or_ge a s with h1 | h1
                · have h3 : mid = s := by omega
                  have := H1.out.left
                  rw [← h3] at this; exact this
                · have h3 : s = a := by omega
                  have := H1.out.right
                  rw [h3] at this; exact this
              obtain ⟨d3, hdd⟩ : ∃ d3, d3 = d2 := ⟨_, rfl⟩
              obtain ⟨w3, hw3⟩ : ∃ w3, w3 = w2 := ⟨_, rfl⟩
              have hd3 : d3.size = d.size := by rw [hdd]; exact hd2
              have S3 : Aside (SWK enc k w0 blk off d3 w3) := by rw [hdd, hw3]; exact S2
              have P3 : Aside (PermIn a mid d2 d3) := by rw [hdd]; exact P3
              have O3 : Aside (SortedIn (tl lt) a mid d3) := by rw [hdd]; exact O3
              rw [← hw3]
              clear hw3 hdd
              by_cases hl1 : (a : Int) < (s : Int)
              · have hl2 : ¬ ((s : Int) < (mid : Int)) := by omega
                clear hl
                by_cases hm : mid < n' ∧ n' < b
                · have hm1 : (mid : Int) < (n' : Int) := by omega
                  have hm2 : (n' : Int) < (b : Int) := by omega
                  have hH3 : Half lt d3 mid n' b := by
                    have e : ∀ x, mid ≤ x → d3[x]! = d2[x]! := fun x hx => P3.out.2.1 x (.inr hx)
                    refine ⟨fun p q i1 i2 i3 => ?_, fun p q i1 i2 i3 => ?_, fun p q i1 i2 i3 i4 => ?_⟩
                    · rw [e p i1, e q (by omega)]; exact H2.out.left p q i1 i2 i3
                    · rw [e p (by omega), e q (by omega)]; exact H2.out.right p q i1 i2 i3
                    · rw [e p i1, e q (by omega)]; exact H2.out.tags p q i1 i2 i3 i4
                  have HC2 := Lib.hid (IH mid n' b d3 w3 (by omega) S3.out (by have := HMID.out; omega) hm.1 hm.2 (by omega) hH3)
                  rw [hd3] at HC2
                  clear hm hH3
                  go_wp2_with fail
                  refine HC2.out.mono ?_
                  rintro e w4 ⟨rfl, d4, hp4, hs4', S4'⟩
                  have P4 : Aside (PermIn mid b d3 d4) := hp4
                  have O4 : Aside (SortedIn (tl lt) mid b d4) := hs4'
                  have S4 : Aside (SWK enc k w0 blk off d4 w4) := S4'
                  clear hp4 hs4' S4' HC2 hm1 hm2
                  have hJ := join_halves (lt := lt) hamid hmidb (by omega : b ≤ d2.size) HX.out P3.out O3.out P4.out O4.out
                  have HJ : Aside (PermIn a b d d4 ∧ SortedIn (tl lt) a b d4) := ⟨permIn_trans _ _ _ _ _ PermOf.out hJ.1, hJ.2⟩
                  clear hJ
                  go_wp2_with fail
                  all_goals go_end0
                  all_goals exact ⟨rfl, d4, HJ.out.1, HJ.out.2, S4.out⟩
                · have P4 : Aside (PermIn mid b d3 d3) := permIn_refl _ _ _
                  have O4 : Aside (SortedIn (tl lt) mid b d3) := by
                    have e : ∀ x, mid ≤ x → d3[x]! = d2[x]! := fun x hx => P3.out.2.1 x (.inr hx)
                    have hr : SortedIn (tl lt) mid b d2 := by
                      rcases Nat.lt_or_ge mid n' with h1 | h1
                      · have h3 : n' = b := by omega
                        have := H2.out.left
                        rw [h3] at this; exact this
                      · have h3 : n' = mid := by omega
                        have := H2.out.right
                        rw [h3] at this; exact this
                    intro p q i1 i2 i3
                    rw [e p i1, e q (by omega)]; exact hr p q i1 i2 i3
                  obtain ⟨d4, hdd⟩ : ∃ d4, d4 = d3 := ⟨_, rfl⟩
                  obtain ⟨w4, hw4⟩ : ∃ w4, w4 = w3 := ⟨_, rfl⟩
                  have S4 : Aside (SWK enc k w0 blk off d4 w4) := by rw [hdd, hw4]; exact S3
                  have P4 : Aside (PermIn mid b d3 d4) := by rw [hdd]; exact P4
                  have O4 : Aside (SortedIn (tl lt) mid b d4) := by rw [hdd]; exact O4
                  rw [← hw4]
                  clear hw4 hdd
                  by_cases hm1 : (mid : Int) < (n' : Int)
                  · have hm2 : ¬ ((n' : Int) < (b : Int)) := by omega
                    clear hm
                    have hJ := join_halves (lt := lt) hamid hmidb (by omega : b ≤ d2.size) HX.out P3.out O3.out P4.out O4.out
                    have HJ : Aside (PermIn a b d d4 ∧ SortedIn (tl lt) a b d4) := ⟨permIn_trans _ _ _ _ _ PermOf.out hJ.1, hJ.2⟩
                    clear hJ
                    go_wp2_with fail
                    all_goals go_end0
                    all_goals exact ⟨rfl, d4, HJ.out.1, HJ.out.2, S4.out⟩
                  · clear hm
                    have hJ := join_halves (lt := lt) hamid hmidb (by omega : b ≤ d2.size) HX.out P3.out O3.out P4.out O4.out
                    have HJ : Aside (PermIn a b d d4 ∧ SortedIn (tl lt) a b d4) := ⟨permIn_trans _ _ _ _ _ PermOf.out hJ.1, hJ.2⟩
                    clear hJ
                    go_wp2_with fail
                    all_goals go_end0
                    all_goals exact ⟨rfl, d4, HJ.out.1, HJ.out.2, S4.out⟩
              · clear hl
                by_cases hm : mid < n' ∧ n' < b
                · have hm1 : (mid : Int) < (n' : Int) := by omega
                  have hm2 : (n' : Int) < (b : Int) := by omega
                  have hH3 : Half lt d3 mid n' b := by
                    have e : ∀ x, mid ≤ x → d3[x]! = d2[x]! := fun x hx => P3.out.2.1 x (.inr hx)
                    refine ⟨fun p q i1 i2 i3 => ?_, fun p q i1 i2 i3 => ?_, fun p q i1 i2 i3 i4 => ?_⟩
                    · rw [e p i1, e q (by omega)]; exact H2.out.left p q i1 i2 i3
                    · rw [e p (by omega), e q (by omega)]; exact H2.out.right p q i1 i2 i3
                    · rw [e p i1, e q (by omega)]; exact H2.out.tags p q i1 i2 i3 i4
                  have HC2 := Lib.hid (IH mid n' b d3 w3 (by omega) S3.out (by have := HMID.out; omega) hm.1 hm.2 (by omega) hH3)
                  rw [hd3] at HC2
                  clear hm hH3
                  go_wp2_with fail
                  refine HC2.out.mono ?_
                  rintro e w4 ⟨rfl, d4, hp4, hs4', S4'⟩
                  have P4 : Aside (PermIn mid b d3 d4) := hp4
                  have O4 : Aside (SortedIn (tl lt) mid b d4) := hs4'
                  have S4 : Aside (SWK enc k w0 blk off d4 w4) := S4'
                  clear hp4 hs4' S4' HC2 hm1 hm2
                  have hJ := join_halves (lt := lt) hamid hmidb (by omega : b ≤ d2.size) HX.out P3.out O3.out P4.out O4.out
                  have HJ : Aside (PermIn a b d d4 ∧ SortedIn (tl lt) a b d4) := ⟨permIn_trans _ _ _ _ _ PermOf.out hJ.1, hJ.2⟩
                  clear hJ
                  go_wp2_with fail
                  all_goals go_end0
                  all_goals exact ⟨rfl, d4, HJ.out.1, HJ.out.2, S4.out⟩
                · have P4 : Aside (PermIn mid b d3 d3) := permIn_refl _ _ _
                  have O4 : Aside (SortedIn (tl lt) mid b d3) := by
                    have e : ∀ x, mid ≤ x → d3[x]! = d2[x]! := fun x hx => P3.out.2.1 x (.inr hx)
                    have hr : SortedIn (tl lt) mid b d2 := by
                      rcases Nat.lt_or_ge mid n' with h1 | h1
                      · have h3 : n' = b := by omega
                        have := H2.out.left
                        rw [h3] at this; exact this
                      · have h3 : n' = mid := by omega
                        have := H2.out.right
                        rw [h3] at this; exact this
                    intro p q i1 i2 i3
                    rw [e p i1, e q (by omega)]; exact hr p q i1 i2 i3
                  obtain ⟨d4, hdd⟩ : ∃ d4, d4 = d3 := ⟨_, rfl⟩
                  obtain ⟨w4, hw4⟩ : ∃ w4, w4 = w3 := ⟨_, rfl⟩
                  have S4 : Aside (SWK enc k w0 blk off d4 w4) := by rw [hdd, hw4]; exact S3
                  have P4 : Aside (PermIn mid b d3 d4) := by rw [hdd]; exact P4
                  have O4 : Aside (SortedIn (tl lt) mid b d4) := by rw [hdd]; exact O4
                  rw [← hw4]
                  clear hw4 hdd
                  by_cases hm1 : (mid : Int) < (n' : Int)
                  · have hm2 : ¬ ((n' : Int) < (b : Int)) := by omega
                    clear hm
                    have hJ := join_halves (lt := lt) hamid hmidb (by omega : b ≤ d2.size) HX.out P3.out O3.out P4.out O4.out
                    have HJ : Aside (PermIn a b d d4 ∧ SortedIn (tl lt) a b d4) := ⟨permIn_trans _ _ _ _ _ PermOf.out hJ.1, hJ.2⟩
                    clear hJ
                    go_wp2_with fail
                    all_goals go_end0
                    all_goals exact ⟨rfl, d4, HJ.out.1, HJ.out.2, S4.out⟩
                  · clear hm
                    have hJ := join_halves (lt := lt) hamid hmidb (by omega : b ≤ d2.size) HX.out P3.out O3.out P4.out O4.out
                    have HJ : Aside (PermIn a b d d4 ∧ SortedIn (tl lt) a b d4) := ⟨permIn_trans _ _ _ _ _ PermOf.out hJ.1, hJ.2⟩
                    clear hJ
                    go_wp2_with fail
                    all_goals go_end0
                    all_goals exact ⟨rfl, d4, HJ.out.1, HJ.out.2, S4.out⟩
          · clear hrot
            obtain ⟨hh1, hh2, hhx⟩ := halves h0 HH.out CUT.out hamid hmidb hb HROT.out
            have HX : Aside (∀ p q, a ≤ p → p < mid → mid ≤ q → q < b → tl lt d2[q]! d2[p]! = false) := hhx
            have H1 : Aside (Half lt d2 a s mid) := hh1
            have H2 : Aside (Half lt d2 mid n' b) := by have := HN'.out; rw [this]; exact hh2
            clear hh1 hh2 hhx HROT
            by_cases hl : a < s ∧ s < mid
            · have hl1 : (a : Int) < (s : Int) := by omega
              have hl2 : (s : Int) < (mid : Int) := by omega
              have HC1 := Lib.hid (IH a s mid d2 w2 (by omega) S2.out (by have := HMID.out; omega) hl.1 hl.2 (by omega) H1.out)
              rw [hd2] at HC1
              clear hl
              go_wp2_with fail
              refine HC1.out.mono ?_
              rintro e w3 ⟨rfl, d3, hp3, hs3', S3'⟩
              have P3 : Aside (PermIn a mid d2 d3) := hp3
              have O3 : Aside (SortedIn (tl lt) a mid d3) := hs3'
              have S3 : Aside (SWK enc k w0 blk off d3 w3) := S3'
              have hd3 : d3.size = d.size := hp3.1.trans hd2
              clear hp3 hs3' S3' HC1 hl1 hl2
              by_cases hm : mid < n' ∧ n' < b
              · have hm1 : (mid : Int) < (n' : Int) := by omega
                have hm2 : (n' : Int) < (b : Int) := by omega
                have hH3 : Half lt d3 mid n' b := by
                  have e : ∀ x, mid ≤ x → d3[x]! = d2[x]! := fun x hx => P3.out.2.1 x (.inr hx)
                  refine ⟨fun p q i1 i2 i3 => ?_, fun p q i1 i2 i3 => ?_, fun p q i1 i2 i3 i4 => ?_⟩
                  · rw [e p i1, e q (by omega)]; exact H2.out.left p q i1 i2 i3
                  · rw [e p (by omega), e q (by omega)]; exact H2.out.right p q i1 i2 i3
                  · rw [e p i1, e q (by omega)]; exact H2.out.tags p q i1 i2 i3 i4
                have HC2 := Lib.hid (IH mid n' b d3 w3 (by omega) S3.out (by have := HMID.out; omega) hm.1 hm.2 (by omega) hH3)
                rw [hd3] at HC2
                clear hm hH3
                go_wp2_with fail
                refine HC2.out.mono ?_
                rintro e w4 ⟨rfl, d4, hp4, hs4', S4'⟩
                have P4 : Aside (PermIn mid b d3 d4) := hp4
                have O4 : Aside (SortedIn (tl lt) mid b d4) := hs4'
                have S4 : Aside (SWK enc k w0 blk off d4 w4) := S4'
                clear hp4 hs4' S4' HC2 hm1 hm2
                have hJ := join_halves (lt := lt) hamid hmidb (by omega : b ≤ d2.size) HX.out P3.out O3.out P4.out O4.out
                have HJ : Aside (PermIn a b d d4 ∧ SortedIn (tl lt) a b d4) := ⟨permIn_trans _ _ _ _ _ PermOf.out hJ.1, hJ.2⟩
                clear hJ
                go_wp2_with fail
                all_goals go_end0
                all_goals exact ⟨rfl, d4, HJ.out.1, HJ.out.2, S4.out⟩
              · have P4 : Aside (PermIn mid b d3 d3) := permIn_refl _ _ _
                have O4 : Aside (SortedIn (tl lt) mid b d3) := by
                  have e : ∀ x, mid ≤ x → d3[x]! = d2[x]! := fun x hx => P3.out.2.1 x (.inr hx)
                  have hr : SortedIn (tl lt) mid b d2 := by
                    rcases Nat.lt_or_ge mid n' with h1 | h1
                    · have h3 : n' = b := by omega
                      have := H2.out.left
                      rw [h3] at this; exact this
                    · have h3 : n' = mid := by omega
                      have := H2.out.right
                      rw [h3] at this; exact this
                  intro p q i1 i2 i3
                  rw [e p i1, e q (by omega)]; exact hr p q i1 i2 i3
                obtain ⟨d4, hdd⟩ : ∃ d4, d4 = d3 := ⟨_, rfl⟩
                obtain ⟨w4, hw4⟩ : ∃ w4, w4 = w3 := ⟨_, rfl⟩
                have S4 : Aside (SWK enc k w0 blk off d4 w4) := by rw [hdd, hw4]; exact S3
                have P4 : Aside (PermIn mid b d3 d4) := by rw [hdd]; exact P4
                have O4 : Aside (SortedIn (tl lt) mid b d4) := by rw [hdd]; exact O4
                rw [← hw4]
                clear hw4 hdd
                by_cases hm1 : (mid : Int) < (n' : Int)
                · have hm2 : ¬ ((n' : Int) < (b : Int)) := by omega
                  clear hm
                  have hJ := join_halves (lt := lt) hamid hmidb (by omega : b ≤ d2.size) HX.out P3.out O3.out P4.out O4.out
                  have HJ : Aside (PermIn a b d d4 ∧ SortedIn (tl lt) a b d4) := ⟨permIn_trans _ _ _ _ _ PermOf.out hJ.1, hJ.2⟩
                  clear hJ
                  go_wp2_with fail
                  all_goals go_end0
                  all_goals exact ⟨rfl, d4, HJ.out.1, HJ.out.2, S4.out⟩
                · clear hm
                  have hJ := join_halves (lt := lt) hamid hmidb (by omega : b ≤ d2.size) HX.out P3.out O3.out P4.out O4.out
                  have HJ : Aside (PermIn a b d d4 ∧ SortedIn (tl lt) a b d4) := ⟨permIn_trans _ _ _ _ _ PermOf.out hJ.1, hJ.2⟩
                  clear hJ
                  go_wp2_with fail
                  all_goals go_end0
                  all_goals exact ⟨rfl, d4, HJ.out.1, HJ.out.2, S4.out⟩
            · have P3 : Aside (PermIn a mid d2 d2) := permIn_refl _ _ _
              have O3 : Aside (SortedIn (tl lt) a mid d2) := by
                rcases Nat.lt_or_ge a s with h1 | h1
                · have h3 : mid = s := by omega
                  have := H1.out.left
                  rw [← h3] at this; exact this
                · have h3 : s = a := by omega
                  have := H1.out.right
                  rw [h3] at this; exact this
              obtain ⟨d3, hdd⟩ : ∃ d3, d3 = d2 := ⟨_, rfl⟩
              obtain ⟨w3, hw3⟩ : ∃ w3, w3 = w2 := ⟨_, rfl⟩
              have hd3 : d3.size = d.size := by rw [hdd]; exact hd2
              have S3 : Aside (SWK enc k w0 blk off d3 w3) := by rw [hdd, hw3]; exact S2
              have P3 : Aside (PermIn a mid d2 d3) := by rw [hdd]; exact P3
              have O3 : Aside (SortedIn (tl lt) a mid d3) := by rw [hdd]; exact O3
              rw [← hw3]
              clear hw3 hdd
              by_cases hl1 : (a : Int) < (s : Int)
              · have hl2 : ¬ ((s : Int) < (mid : Int)) := by omega
                clear hl
                by_cases hm : mid < n' ∧ n' < b
                · have hm1 : (mid : Int) < (n' : Int) := by omega
                  have hm2 : (n' : Int) < (b : Int) := by omega
                  have hH3 : Half lt d3 mid n' b := by
                    have e : ∀ x, mid ≤ x → d3[x]! = d2[x]! := fun x hx => P3.out.2.1 x (.inr hx)
                    refine ⟨fun p q i1 i2 i3 => ?_, fun p q i1 i2 i3 => ?_, fun p q i1 i2 i3 i4 => ?_⟩
                    · rw [e p i1, e q (by omega)]; exact H2.out.left p q i1 i2 i3
                    · rw [e p (by omega), e q (by omega)]; exact H2.out.right p q i1 i2 i3
                    · rw [e p i1, e q (by omega)]; exact H2.out.tags p q i1 i2 i3 i4
                  have HC2 := Lib.hid (IH mid n' b d3 w3 (by omega) S3.out (by have := HMID.out; omega) hm.1 hm.2 (by omega) hH3)
                  rw [hd3] at HC2
                  clear hm hH3
                  go_wp2_with fail
                  refine HC2.out.mono ?_
                  rintro e w4 ⟨rfl, d4, hp4, hs4', S4'⟩
                  have P4 : Aside (PermIn mid b d3 d4) := hp4
                  have O4 : Aside (SortedIn (tl lt) mid b d4) := hs4'
                  have S4 : Aside (SWK enc k w0 blk off d4 w4) := S4'
                  clear hp4 hs4' S4' HC2 hm1 hm2
                  have hJ := join_halves (lt := lt) hamid hmidb (by omega : b ≤ d2.size) HX.out P3.out O3.out P4.out O4.out
                  have HJ : Aside (PermIn a b d d4 ∧ SortedIn (tl lt) a b d4) := ⟨permIn_trans _ _ _ _ _ PermOf.out hJ.1, hJ.2⟩
                  clear hJ
                  go_wp2_with fail
                  all_goals go_end0
                  all_goals exact ⟨rfl, d4, HJ.out.1, HJ.out.2, S4.out⟩
                · have P4 : Aside (PermIn mid b d3 d3) := permIn_refl _ _ _
                  have O4 : Aside (SortedIn (tl lt) mid b d3) := by
                    have e : ∀ x, mid ≤ x → d3[x]! = d2[x]! := fun x hx => P3.out.2.1 x (.inr hx)
                    have hr : SortedIn (tl lt) mid b d2 := by
                      rcases Nat.lt_or_ge mid n' with h1 | h1
                      · have h3 : n' = b := by omega
                        have := H2.out.left
                        rw [h3] at this; exact this
                      · have h3 : n' = mid := by omega
                        have := H2.out.right
                        rw [h3] at this; exact this
                    intro p q i1 i2 i3
                    rw [e p i1, e q (by omega)]; exact hr p q i1 i2 i3
                  obtain ⟨d4, hdd⟩ : ∃ d4, d4 = d3 := ⟨_, rfl⟩
                  obtain ⟨w4, hw4⟩ : ∃ w4, w4 = w3 := ⟨_, rfl⟩
                  have S4 : Aside (SWK enc k w0 blk off d4 w4) := by rw [hdd, hw4]; exact S3
                  have P4 : Aside (PermIn mid b d3 d4) := by rw [hdd]; exact P4
                  have O4 : Aside (SortedIn (tl lt) mid b d4) := by rw [hdd]; exact O4
                  rw [← hw4]
                  clear hw4 hdd
                  by_cases hm1 : (mid : Int) < (n' : Int)
                  · have hm2 : ¬ ((n' : Int) < (b : Int)) := by omega
                    clear hm
                    have hJ := join_halves (lt := lt) hamid hmidb (by omega : b ≤ d2.size) HX.out P3.out O3.out P4.out O4.out
                    have HJ : Aside (PermIn a b d d4 ∧ SortedIn (tl lt) a b d4) := ⟨permIn_trans _ _ _ _ _ PermOf.out hJ.1, hJ.2⟩
                    clear hJ
                    go_wp2_with fail
                    all_goals go_end0
                    all_goals exact ⟨rfl, d4, HJ.out.1, HJ.out.2, S4.out⟩
                  · clear hm
                    have hJ := join_halves (lt := lt) hamid hmidb (by omega : b ≤ d2.size) HX.out P3.out O3.out P4.out O4.out
                    have HJ : Aside (PermIn a b d d4 ∧ SortedIn (tl lt) a b d4) := ⟨permIn_trans _ _ _ _ _ PermOf.out hJ.1, hJ.2⟩
                    clear hJ
                    go_wp2_with fail
                    all_goals go_end0
                    all_goals exact ⟨rfl, d4, HJ.out.1, HJ.out.2, S4.out⟩
              · clear hl
                by_cases hm : mid < n' ∧ n' < b
                · have hm1 : (mid : Int) < (n' : Int) := by omega
                  have hm2 : (n' : Int) < (b : Int) := by omega
                  have hH3 : Half lt d3 mid n' b := by
                    have e : ∀ x, mid ≤ x → d3[x]! = d2[x]! := fun x hx => P3.out.2.1 x (.inr hx)
                    refine ⟨fun p q i1 i2 i3 => ?_, fun p q i1 i2 i3 => ?_, fun p q i1 i2 i3 i4 => ?_⟩
                    · rw [e p i1, e q (by omega)]; exact H2.out.left p q i1 i2 i3
                    · rw [e p (by omega), e q (by omega)]; exact H2.out.right p q i1 i2 i3
                    · rw [e p i1, e q (by omega)]; exact H2.out.tags p q i1 i2 i3 i4
                  have HC2 := Lib.hid (IH mid n' b d3 w3 (by omega) S3.out (by have := HMID.out; omega) hm.1 hm.2 (by omega) hH3)
                  rw [hd3] at HC2
                  clear hm hH3
                  go_wp2_with fail
                  refine HC2.out.mono ?_
                  rintro e w4 ⟨rfl, d4, hp4, hs4', S4'⟩
                  have P4 : Aside (PermIn mid b d3 d4) := hp4
                  have O4 : Aside (SortedIn (tl lt) mid b d4) := hs4'
                  have S4 : Aside (SWK enc k w0 blk off d4 w4) := S4'
                  clear hp4 hs4' S4' HC2 hm1 hm2
                  have hJ := join_halves (lt := lt) hamid hmidb (by omega : b ≤ d2.size) HX.out P3.out O3.out P4.out O4.out
                  have HJ : Aside (PermIn a b d d4 ∧ SortedIn (tl lt) a b d4) := ⟨permIn_trans _ _ _ _ _ PermOf.out hJ.1, hJ.2⟩
                  clear hJ
                  go_wp2_with fail
                  all_goals go_end0
                  all_goals exact ⟨rfl, d4, HJ.out.1, HJ.out.2, S4.out⟩
                · have P4 : Aside (PermIn mid b d3 d3) := permIn_refl _ _ _
                  have O4 : Aside (SortedIn (tl lt) mid b d3) := by
                    have e : ∀ x, mid ≤ x → d3[x]! = d2[x]! := fun x hx => P3.out.2.1 x (.inr hx)
                    have hr : SortedIn (tl lt) mid b d2 := by
                      rcases Nat.lt_or_ge mid n' with h1 | h1
                      · have h3 : n' = b := by omega
                        have := H2.out.left
                        rw [h3] at this; exact this
                      · have h3 : n' = mid := by omega
                        have := H2.out.right
                        rw [h3] at this; exact this
                    intro p q i1 i2 i3
                    rw [e p i1, e q (by omega)]; exact hr p q i1 i2 i3
                  obtain ⟨d4, hdd⟩ : ∃ d4, d4 = d3 := ⟨_, rfl⟩
                  obtain ⟨w4, hw4⟩ : ∃ w4, w4 = w3 := ⟨_, rfl⟩
                  have S4 : Aside (SWK enc k w0 blk off d4 w4) := by rw [hdd, hw4]; exact S3
                  have P4 : Aside (PermIn mid b d3 d4) := by rw [hdd]; exact P4
                  have O4 : Aside (SortedIn (tl lt) mid b d4) := by rw [hdd]; exact O4
                  rw [← hw4]
                  clear hw4 hdd
                  by_cases hm1 : (mid : Int) < (n' : Int)
                  · have hm2 : ¬ ((n' : Int) < (b : Int)) := by omega
                    clear hm
                    have hJ := join_halves (lt := lt) hamid hmidb (by omega : b ≤ d2.size) HX.out P3.out O3.out P4.out O4.out
                    have HJ : Aside (PermIn a b d d4 ∧ SortedIn (tl lt) a b d4) := ⟨permIn_trans _ _ _ _ _ PermOf.out hJ.1, hJ.2⟩
                    clear hJ
                    go_wp2_with fail
                    all_goals go_end0
                    all_goals exact ⟨rfl, d4, HJ.out.1, HJ.out.2, S4.out⟩
                  · clear hm
                    have hJ := join_halves (lt := lt) hamid hmidb (by omega : b ≤ d2.size) HX.out P3.out O3.out P4.out O4.out
                    have HJ : Aside (PermIn a b d d4 ∧ SortedIn (tl lt) a b d4) := ⟨permIn_trans _ _ _ _ _ PermOf.out hJ.1, hJ.2⟩
                    clear hJ
                    go_wp2_with fail
                    all_goals go_end0
                    all_goals exact ⟨rfl, d4, HJ.out.1, HJ.out.2, S4.out⟩
  · have hcz : ¬ ((mid : Int) < (m : Int)) := by omega
    have hRng : Hid (∀ c, a ≤ c → c < m → a ≤ c ∧ c < m ∧ m ≤ mid + m - 1 - c ∧ mid + m - 1 - c < b) := Lib.hid (fun c h1 h2 => by omega)
    have I0 : Hid (Lo lt d a m b (mid + m - 1) a ∧ Hi lt d a m b (mid + m - 1) m) := Lib.hid ⟨(fun c h1 h2 h3 h4 => by omega), (fun c h1 h2 h3 h4 => by omega)⟩
    have hle : a ≤ m := by omega
    have hx : m ≤ mid ∧ a ≤ m ∧ mid + m - a ≤ b := by omega
    clear hpp hnn hmid ham hmb
    go_wp2_with fail
    go_loopg [20, 21] (m - a) (fun kx s10 s11 wr => ∃ (i j : Nat), s10 = .int .i64 i ∧ s11 = .int .i64 j ∧ a ≤ i ∧ i ≤ j ∧ j ≤ m ∧ j - i ≤ kx ∧ Aside (SWK enc k w0 blk off d wr) ∧ Aside (Lo lt d a m b (mid + m - 1) i ∧ Hi lt d a m b (mid + m - 1) j))
    case atStart => exact ⟨a, m, by first | rfl | go_num, rfl, Nat.le_refl _, hle, Nat.le_refl _, Nat.le_refl _, S0, I0.out⟩
    case round =>
      clear S0 I0
      obtain ⟨i, j, rfl, rfl, hmi, hij, hjb, hkx, S1, I⟩ := hrel
      by_cases hlt : i < j
      · have hltz : (i : Int) < (j : Int) := by omega
        obtain ⟨h, hh⟩ : ∃ h, h = (i + j) / 2 := ⟨_, rfl⟩
        have hih : i ≤ h := by omega
        have hhj : h < j := by omega
        obtain ⟨r1, r2, r3, r4⟩ := hRng.out h (by omega) (by omega)
        have rh : ((i : Int) + (j : Int)) / 2 = (h : Int) := by omega
        have rh1 : IntKind.i64.wrap ((h : Int) + 1) = ((h + 1 : Nat) : Int) := by rw [IntKind.wrap_i64]; omega
        obtain ⟨ph, hph⟩ : ∃ ph, ph = mid + m - 1 - h := ⟨_, rfl⟩
        rw [← hph] at r3 r4
        have rp : IntKind.i64.wrap ((pp : Int) - (h : Int)) = (ph : Int) := by have := HPP.out; rw [IntKind.wrap_i64]; omega
        have HPH : Hid (ph = mid + m - 1 - h) := Lib.hid hph
        cases hp : tl lt d[ph]! d[h]! with
        | true =>
          have ea38 : ((ph : Int)).toNat = ph := by omega
          have pa38 : (0 : Int) ≤ (ph : Int) := by omega
          have ba38 : (ph : Int) < (d.size : Int) := by omega
          have ec38 : ((h : Int)).toNat = h := by omega
          have pc38 : (0 : Int) ≤ (h : Int) := by omega
          have bc38 : (h : Int) < (d.size : Int) := by omega
          obtain ⟨x38, hx38⟩ : ∃ x, x = d[ph]! := ⟨_, rfl⟩
          obtain ⟨y38, hy38⟩ : ∃ x, x = d[h]! := ⟨_, rfl⟩
          have l38a := S1.out.ld R (by omega) Tryz.prog ph (by omega)
          have l38b := S1.out.ld R (by omega) Tryz.prog h (by omega)
          rw [← hx38] at l38a
          rw [← hy38] at l38b
          have hc38 := S1.out.cmp HC.out (by omega) x38 y38
          have hlv : l1 lt x38 y38 = true := by rw [hx38, hy38, ← hQ.cmp (by omega) (by omega) (by omega) (by omega)]; exact hp
          rw [← HCF.out x38 y38] at hlv
          have hv38 : cf x38 y38 < 0 := of_decide_eq_true hlv
          clear hx38 hy38
          have I2 : Aside (Lo lt d a m b (mid + m - 1) i ∧ Hi lt d a m b (mid + m - 1) h) := And.intro I.out.1 (fun c h1 h2 h3 h4 => by
            have e := HPH.out
            exact HH.out.up h0 r1 h1 h2 h3 (by omega) (by rw [← e]; exact hp))
          clear hp I hh hph
          go_wp2_with fail
          go_quiet_grown (first | (go_at_fn g; refine Calls.grown_of (hc38 _ _)))
          have S2 : Aside (SWK enc k w0 blk off d (grow (wr.drewN nq) osq)) := S1.out.grown nq osq
          clear l38a l38b hc38 S1
          generalize grow (wr.drewN nq) osq = w2 at S2 ⊢
          clear nq osq
          go_wp2_with fail
          go_roundg (h - i)
          case measure => omega
          case rel => exact ⟨i, h, rfl, rfl, by omega, by omega, by omega, Nat.le_refl _, S2, I2⟩
        | false =>
          have ea38 : ((ph : Int)).toNat = ph := by omega
          have pa38 : (0 : Int) ≤ (ph : Int) := by omega
          have ba38 : (ph : Int) < (d.size : Int) := by omega
          have ec38 : ((h : Int)).toNat = h := by omega
          have pc38 : (0 : Int) ≤ (h : Int) := by omega
          have bc38 : (h : Int) < (d.size : Int) := by omega
          obtain ⟨x38, hx38⟩ : ∃ x, x = d[ph]! := ⟨_, rfl⟩
          obtain ⟨y38, hy38⟩ : ∃ x, x = d[h]! := ⟨_, rfl⟩
          have l38a := S1.out.ld R (by omega) Tryz.prog ph (by omega)
          have l38b := S1.out.ld R (by omega) Tryz.prog h (by omega)
          rw [← hx38] at l38a
          rw [← hy38] at l38b
          have hc38 := S1.out.cmp HC.out (by omega) x38 y38
          have hlv : l1 lt x38 y38 = false := by rw [hx38, hy38, ← hQ.cmp (by omega) (by omega) (by omega) (by omega)]; exact hp
          rw [← HCF.out x38 y38] at hlv
          have hv38 : ¬ (cf x38 y38 < 0) := of_decide_eq_false hlv
          clear hx38 hy38
          have I2 : Aside (Lo lt d a m b (mid + m - 1) (h + 1) ∧ Hi lt d a m b (mid + m - 1) j) := And.intro (fun c h1 h2 h3 h4 => by
            have e := HPH.out
            exact HH.out.dn h0 h1 (by omega : c ≤ h) r2 (by omega) h4 (by rw [← e]; exact hp)) I.out.2
          clear hp I hh hph
          go_wp2_with fail
          go_quiet_grown (first | (go_at_fn g; refine Calls.grown_of (hc38 _ _)))
          have S2 : Aside (SWK enc k w0 blk off d (grow (wr.drewN nq) osq)) := S1.out.grown nq osq
          clear l38a l38b hc38 S1
          generalize grow (wr.drewN nq) osq = w2 at S2 ⊢
          clear nq osq
          go_wp2_with fail
          go_roundg (j - (h + 1))
          case measure => omega
          case rel => exact ⟨h + 1, j, rfl, rfl, by omega, by omega, hjb, Nat.le_refl _, S2, I2⟩
      · have hltz : ¬ (i : Int) < (j : Int) := by omega
        obtain rfl : j = i := by omega
        obtain ⟨s, hsj⟩ : ∃ s, s = j := ⟨_, rfl⟩
        rw [← hsj] at hmi hjb I hltz ⊢
        have hRng0 : Hid (a ≤ s ∧ s ≤ m ∧ m ≤ mid ∧ a ≤ m ∧ mid + m - a ≤ b) := Lib.hid ⟨hmi, hjb, hx⟩
        clear hsj hij hkx
        -- behind the search: the cut
        have hC1 := hRng0.out
        obtain ⟨n', hn'⟩ : ∃ n', n' = mid + m - s := ⟨_, rfl⟩
        have hAm := HAM.out
        have CUT : Aside (Cut lt d a m b mid s) := by
          obtain ⟨q1, q2, q3, q4, q5⟩ := hC1
          exact ⟨by omega, by omega, by omega, by omega, by omega, I.out.1, I.out.2⟩
        have hs1 : a ≤ s := CUT.out.h1
        have hs2 : s ≤ m := CUT.out.h2
        have hs3 : m ≤ n' := by rw [hn']; exact CUT.out.h3
        have hs4 : n' ≤ b := by rw [hn']; exact CUT.out.h4
        have hs5 : s ≤ mid := CUT.out.h5
        have re : IntKind.i64.wrap (((mid + m : Nat) : Int) - (s : Int)) = (n' : Int) := by rw [IntKind.wrap_i64]; omega
        have hmn : mid + m = nn := HNN.out
        rw [hmn] at re
        have hend1 : mid ≤ n' := by omega
        have hamid : a ≤ mid := by omega
        have hmidb : mid ≤ b := by omega
        have HN' : Hid (n' = mid + m - s) := Lib.hid hn'
        clear hn' hmn hC1 I hAm
        by_cases hrot : s < m ∧ m < n'
        · have hr1 : (s : Int) < (m : Int) := by omega
          have hr2 : (m : Int) < (n' : Int) := by omega
          have HR := Lib.hid (rotate_any k zE enc g cb blk off cap s m n' d0 d w0 wr R hs S1.out hrot.1 hrot.2 (by omega) hsz)
          go_wp2_with fail
          refine HR.out.mono ?_
          rintro e w2 ⟨rfl, d2, hrot2, S2'⟩
          have HROT : Aside (Rot d d2 s m (mid + m - s)) := by have := HN'.out; rw [← this]; exact hrot2
          have S2 : Aside (SWK enc k w0 blk off d2 w2) := S2'
          have hd2 : d2.size = d.size := hrot2.1.1
          have PermOf : Aside (PermIn a b d d2) := permIn_mono _ _ s n' a b hs1 hs4 (by have := hrot2.1.1; omega) hrot2.1
          clear HR hrot2 S2' S1 hr1 hr2 hrot
          obtain ⟨hh1, hh2, hhx⟩ := halves h0 HH.out CUT.out hamid hmidb hb HROT.out
          have HX : Aside (∀ p q, a ≤ p → p < mid → mid ≤ q → q < b → tl lt d2[q]! d2[p]! = false) := hhx
          have H1 : Aside (Half lt d2 a s mid) := hh1
          have H2 : Aside (Half lt d2 mid n' b) := by have := HN'.out; rw [this]; exact hh2
          clear hh1 hh2 hhx HROT
          by_cases hl : a < s ∧ s < mid
          · have hl1 : (a : Int) < (s : Int) := by omega
            have hl2 : (s : Int) < (mid : Int) := by omega
            have HC1 := Lib.hid (IH a s mid d2 w2 (by omega) S2.out (by have := HMID.out; omega) hl.1 hl.2 (by omega) H1.out)
            rw [hd2] at HC1
            clear hl
            go_wp2_with fail
            refine HC1.out.mono ?_
            rintro e w3 ⟨rfl, d3, hp3, hs3', S3'⟩
            have P3 : Aside (PermIn a mid d2 d3) := hp3
            have O3 : Aside (SortedIn (tl lt) a mid d3) := hs3'
            have S3 : Aside (SWK enc k w0 blk off d3 w3) := S3'
            have hd3 : d3.size = d.size := hp3.1.trans hd2
            clear hp3 hs3' S3' HC1 hl1 hl2
            by_cases hm : mid < n' ∧ n' < b
            · have hm1 : (mid : Int) < (n' : Int) := by omega
              have hm2 : (n' : Int) < (b : Int) := by omega
              have hH3 : Half lt d3 mid n' b := by
                have e : ∀ x, mid ≤ x → d3[x]! = d2[x]! := fun x hx => P3.out.2.1 x (.inr hx)
                refine ⟨fun p q i1 i2 i3 => ?_, fun p q i1 i2 i3 => ?_, fun p q i1 i2 i3 i4 => ?_⟩
                · rw [e p i1, e q (by omega)]; exact H2.out.left p q i1 i2 i3
                · rw [e p (by omega), e q (by omega)]; exact H2.out.right p q i1 i2 i3
                · rw [e p i1, e q (by omega)]; exact H2.out.tags p q i1 i2 i3 i4
              have HC2 := Lib.hid (IH mid n' b d3 w3 (by omega) S3.out (by have := HMID.out; omega) hm.1 hm.2 (by omega) hH3)
              rw [hd3] at HC2
              clear hm hH3
              go_wp2_with fail
              refine HC2.out.mono ?_
              rintro e w4 ⟨rfl, d4, hp4, hs4', S4'⟩
              have P4 : Aside (PermIn mid b d3 d4) := hp4
              have O4 : Aside (SortedIn (tl lt) mid b d4) := hs4'
              have S4 : Aside (SWK enc k w0 blk off d4 w4) := S4'
              clear hp4 hs4' S4' HC2 hm1 hm2
              have hJ := join_halves (lt := lt) hamid hmidb (by omega : b ≤ d2.size) HX.out P3.out O3.out P4.out O4.out
              have HJ : Aside (PermIn a b d d4 ∧ SortedIn (tl lt) a b d4) := ⟨permIn_trans _ _ _ _ _ PermOf.out hJ.1, hJ.2⟩
              clear hJ
              go_wp2_with fail
              all_goals go_end0
              all_goals exact ⟨rfl, d4, HJ.out.1, HJ.out.2, S4.out⟩
            · have P4 : Aside (PermIn mid b d3 d3) := permIn_refl _ _ _
              have O4 : Aside (SortedIn (tl lt) mid b d3) := by
                have e : ∀ x, mid ≤ x → d3[x]! = d2[x]! := fun x hx => P3.out.2.1 x (.inr hx)
                have hr : SortedIn (tl lt) mid b d2 := by
                  rcases Nat.lt_or_ge mid n' with h1 | h1
                  · have h3 : n' = b := by omega
                    have := H2.out.left
                    rw [h3] at this; exact this
                  · have h3 : n' = mid := by omega
                    have := H2.out.right
                    rw [h3] at this; exact this
                intro p q i1 i2 i3
                rw [e p i1, e q (by omega)]; exact hr p q i1 i2 i3
              obtain ⟨d4, hdd⟩ : ∃ d4, d4 = d3 := ⟨_, rfl⟩
              obtain ⟨w4, hw4⟩ : ∃ w4, w4 = w3 := ⟨_, rfl⟩
              have S4 : Aside (SWK enc k w0 blk off d4 w4) := by rw [hdd, hw4]; exact S3
              have P4 : Aside (PermIn mid b d3 d4) := by rw [hdd]; exact P4
              have O4 : Aside (SortedIn (tl lt) mid b d4) := by rw [hdd]; exact O4
              rw [← hw4]
              clear hw4 hdd
              by_cases hm1 : (mid : Int) < (n' : Int)
              · have hm2 : ¬ ((n' : Int) < (b : Int)) := by omega
                clear hm
                have hJ := join_halves (lt := lt) hamid hmidb (by omega : b ≤ d2.size) HX.out P3.out O3.out P4.out O4.out
                have HJ : Aside (PermIn a b d d4 ∧ SortedIn (tl lt) a b d4) := ⟨permIn_trans _ _ _ _ _ PermOf.out hJ.1, hJ.2⟩
                clear hJ
                go_wp2_with fail
                all_goals go_end0
                all_goals exact ⟨rfl, d4, HJ.out.1, HJ.out.2, S4.out⟩
              · clear hm
                have hJ := join_halves (lt := lt) hamid hmidb (by omega : b ≤ d2.size) HX.out P3.out O3.out P4.out O4.out
                have HJ : Aside (PermIn a b d d4 ∧ SortedIn (tl lt) a b d4) := ⟨permIn_trans _ _ _ _ _ PermOf.out hJ.1, hJ.2⟩
                clear hJ
                go_wp2_with fail
                all_goals go_end0
                all_goals exact ⟨rfl, d4, HJ.out.1, HJ.out.2, S4.out⟩
          · have P3 : Aside (PermIn a mid d2 d2) := permIn_refl _ _ _
            have O3 : Aside (SortedIn (tl lt) a mid d2) := by
              rcases Nat.lt_or_ge a s with h1 | h1
              · have h3 : mid = s := by omega
                have := H1.out.left
                rw [← h3] at this; exact this
              · have h3 : s = a := by omega
                have := H1.out.right
                rw [h3] at this; exact this
            obtain ⟨d3, hdd⟩ : ∃ d3, d3 = d2 := ⟨_, rfl⟩
            obtain ⟨w3, hw3⟩ : ∃ w3, w3 = w2 := ⟨_, rfl⟩
            have hd3 : d3.size = d.size := by rw [hdd]; exact hd2
            have S3 : Aside (SWK enc k w0 blk off d3 w3) := by rw [hdd, hw3]; exact S2
            have P3 : Aside (PermIn a mid d2 d3) := by rw [hdd]; exact P3
            have O3 : Aside (SortedIn (tl lt) a mid d3) := by rw [hdd]; exact O3
            rw [← hw3]
            clear hw3 hdd
            by_cases hl1 : (a : Int) < (s : Int)
            · have hl2 : ¬ ((s : Int) < (mid : Int)) := by omega
              clear hl
              by_cases hm : mid < n' ∧ n' < b
              · have hm1 : (mid : Int) < (n' : Int) := by omega
                have hm2 : (n' : Int) < (b : Int) := by omega
                have hH3 : Half lt d3 mid n' b := by
                  have e : ∀ x, mid ≤ x → d3[x]! = d2[x]! := fun x hx => P3.out.2.1 x (.inr hx)
                  refine ⟨fun p q i1 i2 i3 => ?_, fun p q i1 i2 i3 => ?_, fun p q i1 i2 i3 i4 => ?_⟩
                  · rw [e p i1, e q (by omega)]; exact H2.out.left p q i1 i2 i3
                  · rw [e p (by omega), e q (by omega)]; exact H2.out.right p q i1 i2 i3
                  · rw [e p i1, e q (by omega)]; exact H2.out.tags p q i1 i2 i3 i4
                have HC2 := Lib.hid (IH mid n' b d3 w3 (by omega) S3.out (by have := HMID.out; omega) hm.1 hm.2 (by omega) hH3)
                rw [hd3] at HC2
                clear hm hH3
                go_wp2_with fail
                refine HC2.out.mono ?_
                rintro e w4 ⟨rfl, d4, hp4, hs4', S4'⟩
                have P4 : Aside (PermIn mid b d3 d4) := hp4
                have O4 : Aside (SortedIn (tl lt) mid b d4) := hs4'
                have S4 : Aside (SWK enc k w0 blk off d4 w4) := S4'
                clear hp4 hs4' S4' HC2 hm1 hm2
                have hJ := join_halves (lt := lt) hamid hmidb (by omega : b ≤ d2.size) HX.out P3.out O3.out P4.out O4.out
                have HJ : Aside (PermIn a b d d4 ∧ SortedIn (tl lt) a b d4) := ⟨permIn_trans _ _ _ _ _ PermOf.out hJ.1, hJ.2⟩
                clear hJ
                go_wp2_with fail
                all_goals go_end0
                all_goals exact ⟨rfl, d4, HJ.out.1, HJ.out.2, S4.out⟩
              · have P4 : Aside (PermIn mid b d3 d3) := permIn_refl _ _ _
                have O4 : Aside (SortedIn (tl lt) mid b d3) := by
                  have e : ∀ x, mid ≤ x → d3[x]! = d2[x]! := fun x hx => P3.out.2.1 x (.inr hx)
                  have hr : SortedIn (tl lt) mid b d2 := by
                    rcases Nat.lt_or_ge mid n' with h1 | h1
                    · have h3 : n' = b := by omega
                      have := H2.out.left
                      rw [h3] at this; exact this
                    · have h3 : n' = mid := by omega
                      have := H2.out.right
                      rw [h3] at this; exact this
                  intro p q i1 i2 i3
                  rw [e p i1, e q (by omega)]; exact hr p q i1 i2 i3
                obtain ⟨d4, hdd⟩ : ∃ d4, d4 = d3 := ⟨_, rfl⟩
                obtain ⟨w4, hw4⟩ : ∃ w4, w4 = w3 := ⟨_, rfl⟩
                have S4 : Aside (SWK enc k w0 blk off d4 w4) := by rw [hdd, hw4]; exact S3
                have P4 : Aside (PermIn mid b d3 d4) := by rw [hdd]; exact P4
                have O4 : Aside (SortedIn (tl lt) mid b d4) := by rw [hdd]; exact O4
                rw [← hw4]
                clear hw4 hdd
                by_cases hm1 : (mid : Int) < (n' : Int)
                · have hm2 : ¬ ((n' : Int) < (b : Int)) := by omega
                  clear hm
                  have hJ := join_halves (lt := lt) hamid hmidb (by omega : b ≤ d2.size) HX.out P3.out O3.out P4.out O4.out
                  have HJ : Aside (PermIn a b d d4 ∧ SortedIn (tl lt) a b d4) := ⟨permIn_trans _ _ _ _ _ PermOf.out hJ.1, hJ.2⟩
                  clear hJ
                  go_wp2_with fail
                  all_goals go_end0
                  all_goals exact ⟨rfl, d4, HJ.out.1, HJ.out.2, S4.out⟩
                · clear hm
                  have hJ := join_halves (lt := lt) hamid hmidb (by omega : b ≤ d2.size) HX.out P3.out O3.out P4.out O4.out
                  have HJ : Aside (PermIn a b d d4 ∧ SortedIn (tl lt) a b d4) := ⟨permIn_trans _ _ _ _ _ PermOf.out hJ.1, hJ.2⟩
                  clear hJ
                  go_wp2_with fail
                  all_goals go_end0
                  all_goals exact ⟨rfl, d4, HJ.out.1, HJ.out.2, S4.out⟩
            · clear hl
              by_cases hm : mid < n' ∧ n' < b
              · have hm1 : (mid : Int) < (n' : Int) := by omega
                have hm2 : (n' : Int) < (b : Int) := by omega
                have hH3 : Half lt d3 mid n' b := by
                  have e : ∀ x, mid ≤ x → d3[x]! = d2[x]! := fun x hx => P3.out.2.1 x (.inr hx)
                  refine ⟨fun p q i1 i2 i3 => ?_, fun p q i1 i2 i3 => ?_, fun p q i1 i2 i3 i4 => ?_⟩
                  · rw [e p i1, e q (by omega)]; exact H2.out.left p q i1 i2 i3
                  · rw [e p (by omega), e q (by omega)]; exact H2.out.right p q i1 i2 i3
                  · rw [e p i1, e q (by omega)]; exact H2.out.tags p q i1 i2 i3 i4
                have HC2 := Lib.hid (IH mid n' b d3 w3 (by omega) S3.out (by have := HMID.out; omega) hm.1 hm.2 (by omega) hH3)
                rw [hd3] at HC2
                clear hm hH3
                go_wp2_with fail
                refine HC2.out.mono ?_
                rintro e w4 ⟨rfl, d4, hp4, hs4', S4'⟩
                have P4 : Aside (PermIn mid b d3 d4) := hp4
                have O4 : Aside (SortedIn (tl lt) mid b d4) := hs4'
                have S4 : Aside (SWK enc k w0 blk off d4 w4) := S4'
                clear hp4 hs4' S4' HC2 hm1 hm2
                have hJ := join_halves (lt := lt) hamid hmidb (by omega : b ≤ d2.size) HX.out P3.out O3.out P4.out O4.out
                have HJ : Aside (PermIn a b d d4 ∧ SortedIn (tl lt) a b d4) := ⟨permIn_trans _ _ _ _ _ PermOf.out hJ.1, hJ.2⟩
                clear hJ
                go_wp2_with fail
                all_goals go_end0
                all_goals exact ⟨rfl, d4, HJ.out.1, HJ.out.2, S4.out⟩
              · have P4 : Aside (PermIn mid b d3 d3) := permIn_refl _ _ _
                have O4 : Aside (SortedIn (tl lt) mid b d3) := by
                  have e : ∀ x, mid ≤ x → d3[x]! = d2[x]! := fun x hx => P3.out.2.1 x (.inr hx)
                  have hr : SortedIn (tl lt) mid b d2 := by
                    rcases Nat.lt_or_ge mid n' with h1 | h1
                    · have h3 : n' = b := by omega
                      have := H2.out.left
                      rw [h3] at this; exact this
                    · have h3 : n' = mid := by omega
                      have := H2.out.right
                      rw [h3] at this; exact this
                  intro p q i1 i2 i3
                  rw [e p i1, e q (by omega)]; exact hr p q i1 i2 i3
                obtain ⟨d4, hdd⟩ : ∃ d4, d4 = d3 := ⟨_, rfl⟩
                obtain ⟨w4, hw4⟩ : ∃ w4, w4 = w3 := ⟨_, rfl⟩
                have S4 : Aside (SWK enc k w0 blk off d4 w4) := by rw [hdd, hw4]; exact S3
                have P4 : Aside (PermIn mid b d3 d4) := by rw [hdd]; exact P4
                have O4 : Aside (SortedIn (tl lt) mid b d4) := by rw [hdd]; exact O4
                rw [← hw4]
                clear hw4 hdd
                by_cases hm1 : (mid : Int) < (n' : Int)
                · have hm2 : ¬ ((n' : Int) < (b : Int)) := by omega
                  clear hm
                  have hJ := join_halves (lt := lt) hamid hmidb (by omega : b ≤ d2.size) HX.out P3.out O3.out P4.out O4.out
                  have HJ : Aside (PermIn a b d d4 ∧ SortedIn (tl lt) a b d4) := ⟨permIn_trans _ _ _ _ _ PermOf.out hJ.1, hJ.2⟩
                  clear hJ
                  go_wp2_with fail
                  all_goals go_end0
                  all_goals exact ⟨rfl, d4, HJ.out.1, HJ.out.2, S4.out⟩
                · clear hm
                  have hJ := join_halves (lt := lt) hamid hmidb (by omega : b ≤ d2.size) HX.out P3.out O3.out P4.out O4.out
                  have HJ : Aside (PermIn a b d d4 ∧ SortedIn (tl lt) a b d4) := ⟨permIn_trans _ _ _ _ _ PermOf.out hJ.1, hJ.2⟩
                  clear hJ
                  go_wp2_with fail
                  all_goals go_end0
                  all_goals exact ⟨rfl, d4, HJ.out.1, HJ.out.2, S4.out⟩
        · have HROT : Aside (Rot d d s m (mid + m - s)) := Rot.none d hs2 CUT.out.h3 (by have := HN'.out; omega)
          obtain ⟨d2, hdd⟩ : ∃ d2, d2 = d := ⟨_, rfl⟩
          obtain ⟨w2, hw2⟩ : ∃ w2, w2 = wr := ⟨_, rfl⟩
          have hd2 : d2.size = d.size := by rw [hdd]
          have S2 : Aside (SWK enc k w0 blk off d2 w2) := by rw [hdd, hw2]; exact S1
          have HROT : Aside (Rot d d2 s m (mid + m - s)) := by rw [hdd]; exact HROT
          have PermOf : Aside (PermIn a b d d2) := by rw [hdd]; exact permIn_refl _ _ _
          rw [← hw2]
          clear S1 hw2 hdd
          by_cases hr1 : (s : Int) < (m : Int)
          · have hr2 : ¬ ((m : Int) < (n' : Int)) := by omega
            clear hrot
            obtain ⟨hh1, hh2, hhx⟩ := halves h0 HH.out CUT.out hamid hmidb hb HROT.out
            have HX : Aside (∀ p q, a ≤ p → p < mid → mid ≤ q → q < b → tl lt d2[q]! d2[p]! = false) := hhx
            have H1 : Aside (Half lt d2 a s mid) := hh1
            have H2 : Aside (Half lt d2 mid n' b) := by have := HN'.out; rw [this]; exact hh2
            clear hh1 hh2 hhx HROT
            by_cases hl : a < s ∧ s < mid
            · have hl1 : (a : Int) < (s : Int) := by omega
              have hl2 : (s : Int) < (mid : Int) := by omega
              have HC1 := Lib.hid (IH a s mid d2 w2 (by omega) S2.out (by have := HMID.out; omega) hl.1 hl.2 (by omega) H1.out)
              rw [hd2] at HC1
              clear hl
              go_wp2_with fail
              refine HC1.out.mono ?_
              rintro e w3 ⟨rfl, d3, hp3, hs3', S3'⟩
              have P3 : Aside (PermIn a mid d2 d3) := hp3
              have O3 : Aside (SortedIn (tl lt) a mid d3) := hs3'
              have S3 : Aside (SWK enc k w0 blk off d3 w3) := S3'
              have hd3 : d3.size = d.size := hp3.1.trans hd2
              clear hp3 hs3' S3' HC1 hl1 hl2
              by_cases hm : mid < n' ∧ n' < b
              · have hm1 : (mid : Int) < (n' : Int) := by omega
                have hm2 : (n' : Int) < (b : Int) := by omega
                have hH3 : Half lt d3 mid n' b := by
                  have e : ∀ x, mid ≤ x → d3[x]! = d2[x]! := fun x hx => P3.out.2.1 x (.inr hx)
                  refine ⟨fun p q i1 i2 i3 => ?_, fun p q i1 i2 i3 => ?_, fun p q i1 i2 i3 i4 => ?_⟩
                  · rw [e p i1, e q (by omega)]; exact H2.out.left p q i1 i2 i3
                  · rw [e p (by omega), e q (by omega)]; exact H2.out.right p q i1 i2 i3
                  · rw [e p i1, e q (by omega)]; exact H2.out.tags p q i1 i2 i3 i4
                have HC2 := Lib.hid (IH mid n' b d3 w3 (by omega) S3.out (by have := HMID.out; omega) hm.1 hm.2 (by omega) hH3)
                rw [hd3] at HC2
                clear hm hH3
                go_wp2_with fail
                refine HC2.out.mono ?_
                rintro e w4 ⟨rfl, d4, hp4, hs4', S4'⟩
                have P4 : Aside (PermIn mid b d3 d4) := hp4
                have O4 : Aside (SortedIn (tl lt) mid b d4) := hs4'
                have S4 : Aside (SWK enc k w0 blk off d4 w4) := S4'
                clear hp4 hs4' S4' HC2 hm1 hm2
                have hJ := join_halves (lt := lt) hamid hmidb (by omega : b ≤ d2.size) HX.out P3.out O3.out P4.out O4.out
                have HJ : Aside (PermIn a b d d4 ∧ SortedIn (tl lt) a b d4) := ⟨permIn_trans _ _ _ _ _ PermOf.out hJ.1, hJ.2⟩
                clear hJ
                go_wp2_with fail
                all_goals go_end0
                all_goals exact ⟨rfl, d4, HJ.out.1, HJ.out.2, S4.out⟩
              · have P4 : Aside (PermIn mid b d3 d3) := permIn_refl _ _ _
                have O4 : Aside (SortedIn (tl lt) mid b d3) := by
                  have e : ∀ x, mid ≤ x → d3[x]! = d2[x]! := fun x hx => P3.out.2.1 x (.inr hx)
                  have hr : SortedIn (tl lt) mid b d2 := by
                    rcases Nat.lt_or_ge mid n' with h1 | h1
                    · have h3 : n' = b := by omega
                      have := H2.out.left
                      rw [h3] at this; exact this
                    · have h3 : n' = mid := by omega
                      have := H2.out.right
                      rw [h3] at this; exact this
                  intro p q i1 i2 i3
                  rw [e p i1, e q (by omega)]; exact hr p q i1 i2 i3
                obtain ⟨d4, hdd⟩ : ∃ d4, d4 = d3 := ⟨_, rfl⟩
                obtain ⟨w4, hw4⟩ : ∃ w4, w4 = w3 := ⟨_, rfl⟩
                have S4 : Aside (SWK enc k w0 blk off d4 w4) := by rw [hdd, hw4]; exact S3
                have P4 : Aside (PermIn mid b d3 d4) := by rw [hdd]; exact P4
                have O4 : Aside (SortedIn (tl lt) mid b d4) := by rw [hdd]; exact O4
                rw [← hw4]
                clear hw4 hdd
                by_cases hm1 : (mid : Int) < (n' : Int)
                · have hm2 : ¬ ((n' : Int) < (b : Int)) := by omega
                  clear hm
                  have hJ := join_halves (lt := lt) hamid hmidb (by omega : b ≤ d2.size) HX.out P3.out O3.out P4.out O4.out
                  have HJ : Aside (PermIn a b d d4 ∧ SortedIn (tl lt) a b d4) := ⟨permIn_trans _ _ _ _ _ PermOf.out hJ.1, hJ.2⟩
                  clear hJ
                  go_wp2_with fail
                  all_goals go_end0
                  all_goals exact ⟨rfl, d4, HJ.out.1, HJ.out.2, S4.out⟩
                · clear hm
                  have hJ := join_halves (lt := lt) hamid hmidb (by omega : b ≤ d2.size) HX.out P3.out O3.out P4.out O4.out
                  have HJ : Aside (PermIn a b d d4 ∧ SortedIn (tl lt) a b d4) := ⟨permIn_trans _ _ _ _ _ PermOf.out hJ.1, hJ.2⟩
                  clear hJ
                  go_wp2_with fail
                  all_goals go_end0
                  all_goals exact ⟨rfl, d4, HJ.out.1, HJ.out.2, S4.out⟩
            · have P3 : Aside (PermIn a mid d2 d2) := permIn_refl _ _ _
              have O3 : Aside (SortedIn (tl lt) a mid d2) := by
                rcases Nat.lt_or_ge a s with h1 | h1
                · have h3 : mid = s := by omega
                  have := H1.out.left
                  rw [← h3] at this; exact this
                · have h3 : s = a := by omega
                  have := H1.out.right
                  rw [h3] at this; exact this
              obtain ⟨d3, hdd⟩ : ∃ d3, d3 = d2 := ⟨_, rfl⟩
              obtain ⟨w3, hw3⟩ : ∃ w3, w3 = w2 := ⟨_, rfl⟩
              have hd3 : d3.size = d.size := by rw [hdd]; exact hd2
              have S3 : Aside (SWK enc k w0 blk off d3 w3) := by rw [hdd, hw3]; exact S2
              have P3 : Aside (PermIn a mid d2 d3) := by rw [hdd]; exact P3
              have O3 : Aside (SortedIn (tl lt) a mid d3) := by rw [hdd]; exact O3
              rw [← hw3]
              clear hw3 hdd
              by_cases hl1 : (a : Int) < (s : Int)
              · have hl2 : ¬ ((s : Int) < (mid : Int)) := by omega
                clear hl
                by_cases hm : mid < n' ∧ n' < b
                · have hm1 : (mid : Int) < (n' : Int) := by omega
                  have hm2 : (n' : Int) < (b : Int) := by omega
                  have hH3 : Half lt d3 mid n' b := by
                    have e : ∀ x, mid ≤ x → d3[x]! = d2[x]! := fun x hx => P3.out.2.1 x (.inr hx)
                    refine ⟨fun p q i1 i2 i3 => ?_, fun p q i1 i2 i3 => ?_, fun p q i1 i2 i3 i4 => ?_⟩
                    · rw [e p i1, e q (by omega)]; exact H2.out.left p q i1 i2 i3
                    · rw [e p (by omega), e q (by omega)]; exact H2.out.right p q i1 i2 i3
                    · rw [e p i1, e q (by omega)]; exact H2.out.tags p q i1 i2 i3 i4
                  have HC2 := Lib.hid (IH mid n' b d3 w3 (by omega) S3.out (by have := HMID.out; omega) hm.1 hm.2 (by omega) hH3)
                  rw [hd3] at HC2
                  clear hm hH3
                  go_wp2_with fail
                  refine HC2.out.mono ?_
                  rintro e w4 ⟨rfl, d4, hp4, hs4', S4'⟩
                  have P4 : Aside (PermIn mid b d3 d4) := hp4
                  have O4 : Aside (SortedIn (tl lt) mid b d4) := hs4'
                  have S4 : Aside (SWK enc k w0 blk off d4 w4) := S4'
                  clear hp4 hs4' S4' HC2 hm1 hm2
                  have hJ := join_halves (lt := lt) hamid hmidb (by omega : b ≤ d2.size) HX.out P3.out O3.out P4.out O4.out
                  have HJ : Aside (PermIn a b d d4 ∧ SortedIn (tl lt) a b d4) := ⟨permIn_trans _ _ _ _ _ PermOf.out hJ.1, hJ.2⟩
                  clear hJ
                  go_wp2_with fail
                  all_goals go_end0
                  all_goals exact ⟨rfl, d4, HJ.out.1, HJ.out.2, S4.out⟩
                · have P4 : Aside (PermIn mid b d3 d3) := permIn_refl _ _ _
                  have O4 : Aside (SortedIn (tl lt) mid b d3) := by
                    have e : ∀ x, mid ≤ x → d3[x]! = d2[x]! := fun x hx => P3.out.2.1 x (.inr hx)
                    have hr : SortedIn (tl lt) mid b d2 := by
                      rcases Nat.lt_or_ge mid n' with h1 | h1
                      · have h3 : n' = b := by omega
                        have := H2.out.left
                        rw [h3] at this; exact this
                      · have h3 : n' = mid := by omega
                        have := H2.out.right
                        rw [h3] at this; exact this
                    intro p q i1 i2 i3
                    rw [e p i1, e q (by omega)]; exact hr p q i1 i2 i3
                  obtain ⟨d4, hdd⟩ : ∃ d4, d4 = d3 := ⟨_, rfl⟩
                  obtain ⟨w4, hw4⟩ : ∃ w4, w4 = w3 := ⟨_, rfl⟩
                  have S4 : Aside (SWK enc k w0 blk off d4 w4) := by rw [hdd, hw4]; exact S3
                  have P4 : Aside (PermIn mid b d3 d4) := by rw [hdd]; exact P4
                  have O4 : Aside (SortedIn (tl lt) mid b d4) := by rw [hdd]; exact O4
                  rw [← hw4]
                  clear hw4 hdd
                  by_cases hm1 : (mid : Int) < (n' : Int)
                  · have hm2 : ¬ ((n' : Int) < (b : Int)) := by omega
                    clear hm
                    have hJ := join_halves (lt := lt) hamid hmidb (by omega : b ≤ d2.size) HX.out P3.out O3.out P4.out O4.out
                    have HJ : Aside (PermIn a b d d4 ∧ SortedIn (tl lt) a b d4) := ⟨permIn_trans _ _ _ _ _ PermOf.out hJ.1, hJ.2⟩
                    clear hJ
                    go_wp2_with fail
                    all_goals go_end0
                    all_goals exact ⟨rfl, d4, HJ.out.1, HJ.out.2, S4.out⟩
                  · clear hm
                    have hJ := join_halves (lt := lt) hamid hmidb (by omega : b ≤ d2.size) HX.out P3.out O3.out P4.out O4.out
                    have HJ : Aside (PermIn a b d d4 ∧ SortedIn (tl lt) a b d4) := ⟨permIn_trans _ _ _ _ _ PermOf.out hJ.1, hJ.2⟩
                    clear hJ
                    go_wp2_with fail
                    all_goals go_end0
                    all_goals exact ⟨rfl, d4, HJ.out.1, HJ.out.2, S4.out⟩
              · clear hl
                by_cases hm : mid < n' ∧ n' < b
                · have hm1 : (mid : Int) < (n' : Int) := by omega
                  have hm2 : (n' : Int) < (b : Int) := by omega
                  have hH3 : Half lt d3 mid n' b := by
                    have e : ∀ x, mid ≤ x → d3[x]! = d2[x]! := fun x hx => P3.out.2.1 x (.inr hx)
                    refine ⟨fun p q i1 i2 i3 => ?_, fun p q i1 i2 i3 => ?_, fun p q i1 i2 i3 i4 => ?_⟩
                    · rw [e p i1, e q (by omega)]; exact H2.out.left p q i1 i2 i3
                    · rw [e p (by omega), e q (by omega)]; exact H2.out.right p q i1 i2 i3
                    · rw [e p i1, e q (by omega)]; exact H2.out.tags p q i1 i2 i3 i4
                  have HC2 := Lib.hid (IH mid n' b d3 w3 (by omega) S3.out (by have := HMID.out; omega) hm.1 hm.2 (by omega) hH3)
                  rw [hd3] at HC2
                  clear hm hH3
                  go_wp2_with fail
                  refine HC2.out.mono ?_
                  rintro e w4 ⟨rfl, d4, hp4, hs4', S4'⟩
                  have P4 : Aside (PermIn mid b d3 d4) := hp4
                  have O4 : Aside (SortedIn (tl lt) mid b d4) := hs4'
                  have S4 : Aside (SWK enc k w0 blk off d4 w4) := S4'
                  clear hp4 hs4' S4' HC2 hm1 hm2
                  have hJ := join_halves (lt := lt) hamid hmidb (by omega : b ≤ d2.size) HX.out P3.out O3.out P4.out O4.out
                  have HJ : Aside (PermIn a b d d4 ∧ SortedIn (tl lt) a b d4) := ⟨permIn_trans _ _ _ _ _ PermOf.out hJ.1, hJ.2⟩
                  clear hJ
                  go_wp2_with fail
                  all_goals go_end0
                  all_goals exact ⟨rfl, d4, HJ.out.1, HJ.out.2, S4.out⟩
                · have P4 : Aside (PermIn mid b d3 d3) := permIn_refl _ _ _
                  have O4 : Aside (SortedIn (tl lt) mid b d3) := by
                    have e : ∀ x, mid ≤ x → d3[x]! = d2[x]! := fun x hx => P3.out.2.1 x (.inr hx)
                    have hr : SortedIn (tl lt) mid b d2 := by
                      rcases Nat.lt_or_ge mid n' with h1 | h1
                      · have h3 : n' = b := by omega
                        have := H2.out.left
                        rw [h3] at this; exact this
                      · have h3 : n' = mid := by omega
                        have := H2.out.right
                        rw [h3] at this; exact this
                    intro p q i1 i2 i3
                    rw [e p i1, e q (by omega)]; exact hr p q i1 i2 i3
                  obtain ⟨d4, hdd⟩ : ∃ d4, d4 = d3 := ⟨_, rfl⟩
                  obtain ⟨w4, hw4⟩ : ∃ w4, w4 = w3 := ⟨_, rfl⟩
                  have S4 : Aside (SWK enc k w0 blk off d4 w4) := by rw [hdd, hw4]; exact S3
                  have P4 : Aside (PermIn mid b d3 d4) := by rw [hdd]; exact P4
                  have O4 : Aside (SortedIn (tl lt) mid b d4) := by rw [hdd]; exact O4
                  rw [← hw4]
                  clear hw4 hdd
                  by_cases hm1 : (mid : Int) < (n' : Int)
                  · have hm2 : ¬ ((n' : Int) < (b : Int)) := by omega
                    clear hm
                    have hJ := join_halves (lt := lt) hamid hmidb (by omega : b ≤ d2.size) HX.out P3.out O3.out P4.out O4.out
                    have HJ : Aside (PermIn a b d d4 ∧ SortedIn (tl lt) a b d4) := ⟨permIn_trans _ _ _ _ _ PermOf.out hJ.1, hJ.2⟩
                    clear hJ
                    go_wp2_with fail
                    all_goals go_end0
                    all_goals exact ⟨rfl, d4, HJ.out.1, HJ.out.2, S4.out⟩
                  · clear hm
                    have hJ := join_halves (lt := lt) hamid hmidb (by omega : b ≤ d2.size) HX.out P3.out O3.out P4.out O4.out
                    have HJ : Aside (PermIn a b d d4 ∧ SortedIn (tl lt) a b d4) := ⟨permIn_trans _ _ _ _ _ PermOf.out hJ.1, hJ.2⟩
                    clear hJ
                    go_wp2_with fail
                    all_goals go_end0
                    all_goals exact ⟨rfl, d4, HJ.out.1, HJ.out.2, S4.out⟩
          · clear hrot
            obtain ⟨hh1, hh2, hhx⟩ := halves h0 HH.out CUT.out hamid hmidb hb HROT.out
            have HX : Aside (∀ p q, a ≤ p → p < mid → mid ≤ q → q < b → tl lt d2[q]! d2[p]! = false) := hhx
            have H1 : Aside (Half lt d2 a s mid) := hh1
            have H2 : Aside (Half lt d2 mid n' b) := by have := HN'.out; rw [this]; exact hh2
            clear hh1 hh2 hhx HROT
            by_cases hl : a < s ∧ s < mid
            · have hl1 : (a : Int) < (s : Int) := by omega
              have hl2 : (s : Int) < (mid : Int) := by omega
              have HC1 := Lib.hid (IH a s mid d2 w2 (by omega) S2.out (by have := HMID.out; omega) hl.1 hl.2 (by omega) H1.out)
              rw [hd2] at HC1
              clear hl
              go_wp2_with fail
              refine HC1.out.mono ?_
              rintro e w3 ⟨rfl, d3, hp3, hs3', S3'⟩
              have P3 : Aside (PermIn a mid d2 d3) := hp3
              have O3 : Aside (SortedIn (tl lt) a mid d3) := hs3'
              have S3 : Aside (SWK enc k w0 blk off d3 w3) := S3'
              have hd3 : d3.size = d.size := hp3.1.trans hd2
              clear hp3 hs3' S3' HC1 hl1 hl2
              by_cases hm : mid < n' ∧ n' < b
              · have hm1 : (mid : Int) < (n' : Int) := by omega
                have hm2 : (n' : Int) < (b : Int) := by omega
                have hH3 : Half lt d3 mid n' b := by
                  have e : ∀ x, mid ≤ x → d3[x]! = d2[x]! := fun x hx => P3.out.2.1 x (.inr hx)
                  refine ⟨fun p q i1 i2 i3 => ?_, fun p q i1 i2 i3 => ?_, fun p q i1 i2 i3 i4 => ?_⟩
                  · rw [e p i1, e q (by omega)]; exact H2.out.left p q i1 i2 i3
                  · rw [e p (by omega), e q (by omega)]; exact H2.out.right p q i1 i2 i3
                  · rw [e p i1, e q (by omega)]; exact H2.out.tags p q i1 i2 i3 i4
                have HC2 := Lib.hid (IH mid n' b d3 w3 (by omega) S3.out (by have := HMID.out; omega) hm.1 hm.2 (by omega) hH3)
                rw [hd3] at HC2
                clear hm hH3
                go_wp2_with fail
                refine HC2.out.mono ?_
                rintro e w4 ⟨rfl, d4, hp4, hs4', S4'⟩
                have P4 : Aside (PermIn mid b d3 d4) := hp4
                have O4 : Aside (SortedIn (tl lt) mid b d4) := hs4'
                have S4 : Aside (SWK enc k w0 blk off d4 w4) := S4'
                clear hp4 hs4' S4' HC2 hm1 hm2
                have hJ := join_halves (lt := lt) hamid hmidb (by omega : b ≤ d2.size) HX.out P3.out O3.out P4.out O4.out
                have HJ : Aside (PermIn a b d d4 ∧ SortedIn (tl lt) a b d4) := ⟨permIn_trans _ _ _ _ _ PermOf.out hJ.1, hJ.2⟩
                clear hJ
                go_wp2_with fail
                all_goals go_end0
                all_goals exact ⟨rfl, d4, HJ.out.1, HJ.out.2, S4.out⟩
              · have P4 : Aside (PermIn mid b d3 d3) := permIn_refl _ _ _
                have O4 : Aside (SortedIn (tl lt) mid b d3) := by
                  have e : ∀ x, mid ≤ x → d3[x]! = d2[x]! := fun x hx => P3.out.2.1 x (.inr hx)
                  have hr : SortedIn (tl lt) mid b d2 := by
                    rcases Nat.lt_or_ge mid n' with h1 | h1
                    · have h3 : n' = b := by omega
                      have := H2.out.left
                      rw [h3] at this; exact this
                    · have h3 : n' = mid := by omega
                      have := H2.out.right
                      rw [h3] at this; exact this
                  intro p q i1 i2 i3
                  rw [e p i1, e q (by omega)]; exact hr p q i1 i2 i3
                obtain ⟨d4, hdd⟩ : ∃ d4, d4 = d3 := ⟨_, rfl⟩
                obtain ⟨w4, hw4⟩ : ∃ w4, w4 = w3 := ⟨_, rfl⟩
                have S4 : Aside (SWK enc k w0 blk off d4 w4) := by rw [hdd, hw4]; exact S3
                have P4 : Aside (PermIn mid b d3 d4) := by rw [hdd]; exact P4
                have O4 : Aside (SortedIn (tl lt) mid b d4) := by rw [hdd]; exact O4
                rw [← hw4]
                clear hw4 hdd
                by_cases hm1 : (mid : Int) < (n' : Int)
                · have hm2 : ¬ ((n' : Int) < (b : Int)) := by omega
                  clear hm
                  have hJ := join_halves (lt := lt) hamid hmidb (by omega : b ≤ d2.size) HX.out P3.out O3.out P4.out O4.out
                  have HJ : Aside (PermIn a b d d4 ∧ SortedIn (tl lt) a b d4) := ⟨permIn_trans _ _ _ _ _ PermOf.out hJ.1, hJ.2⟩
                  clear hJ
                  go_wp2_with fail
                  all_goals go_end0
                  all_goals exact ⟨rfl, d4, HJ.out.1, HJ.out.2, S4.out⟩
                · clear hm
                  have hJ := join_halves (lt := lt) hamid hmidb (by omega : b ≤ d2.size) HX.out P3.out O3.out P4.out O4.out
                  have HJ : Aside (PermIn a b d d4 ∧ SortedIn (tl lt) a b d4) := ⟨permIn_trans _ _ _ _ _ PermOf.out hJ.1, hJ.2⟩
                  clear hJ
                  go_wp2_with fail
                  all_goals go_end0
                  all_goals exact ⟨rfl, d4, HJ.out.1, HJ.out.2, S4.out⟩
            · have P3 : Aside (PermIn a mid d2 d2) := permIn_refl _ _ _
              have O3 : Aside (SortedIn (tl lt) a mid d2) := by
                rcases Nat.lt_or_ge a s with h1 | h1
                · have h3 : mid = s := by omega
                  have := H1.out.left
                  rw [← h3] at this; exact this
                · have h3 : s = a := by omega
                  have := H1.out.right
                  rw [h3] at this; exact this
              obtain ⟨d3, hdd⟩ : ∃ d3, d3 = d2 := ⟨_, rfl⟩
              obtain ⟨w3, hw3⟩ : ∃ w3, w3 = w2 := ⟨_, rfl⟩
              have hd3 : d3.size = d.size := by rw [hdd]; exact hd2
              have S3 : Aside (SWK enc k w0 blk off d3 w3) := by rw [hdd, hw3]; exact S2
              have P3 : Aside (PermIn a mid d2 d3) := by rw [hdd]; exact P3
              have O3 : Aside (SortedIn (tl lt) a mid d3) := by rw [hdd]; exact O3
              rw [← hw3]
              clear hw3 hdd
              by_cases hl1 : (a : Int) < (s : Int)
              · have hl2 : ¬ ((s : Int) < (mid : Int)) := by omega
                clear hl
                by_cases hm : mid < n' ∧ n' < b
                · have hm1 : (mid : Int) < (n' : Int) := by omega
                  have hm2 : (n' : Int) < (b : Int) := by omega
                  have hH3 : Half lt d3 mid n' b := by
                    have e : ∀ x, mid ≤ x → d3[x]! = d2[x]! := fun x hx => P3.out.2.1 x (.inr hx)
                    refine ⟨fun p q i1 i2 i3 => ?_, fun p q i1 i2 i3 => ?_, fun p q i1 i2 i3 i4 => ?_⟩
                    · rw [e p i1, e q (by omega)]; exact H2.out.left p q i1 i2 i3
                    · rw [e p (by omega), e q (by omega)]; exact H2.out.right p q i1 i2 i3
                    · rw [e p i1, e q (by omega)]; exact H2.out.tags p q i1 i2 i3 i4
                  have HC2 := Lib.hid (IH mid n' b d3 w3 (by omega) S3.out (by have := HMID.out; omega) hm.1 hm.2 (by omega) hH3)
                  rw [hd3] at HC2
                  clear hm hH3
                  go_wp2_with fail
                  refine HC2.out.mono ?_
                  rintro e w4 ⟨rfl, d4, hp4, hs4', S4'⟩
                  have P4 : Aside (PermIn mid b d3 d4) := hp4
                  have O4 : Aside (SortedIn (tl lt) mid b d4) := hs4'
                  have S4 : Aside (SWK enc k w0 blk off d4 w4) := S4'
                  clear hp4 hs4' S4' HC2 hm1 hm2
                  have hJ := join_halves (lt := lt) hamid hmidb (by omega : b ≤ d2.size) HX.out P3.out O3.out P4.out O4.out
                  have HJ : Aside (PermIn a b d d4 ∧ SortedIn (tl lt) a b d4) := ⟨permIn_trans _ _ _ _ _ PermOf.out hJ.1, hJ.2⟩
                  clear hJ
                  go_wp2_with fail
                  all_goals go_end0
                  all_goals exact ⟨rfl, d4, HJ.out.1, HJ.out.2, S4.out⟩
                · have P4 : Aside (PermIn mid b d3 d3) := permIn_refl _ _ _
                  have O4 : Aside (SortedIn (tl lt) mid b d3) := by
                    have e : ∀ x, mid ≤ x → d3[x]! = d2[x]! := fun x hx => P3.out.2.1 x (.inr hx)
                    have hr : SortedIn (tl lt) mid b d2 := by
                      rcases Nat.lt_or_ge mid n' with h1 | h1
                      · have h3 : n' = b := by omega
                        have := H2.out.left
                        rw [h3] at this; exact this
                      · have h3 : n' = mid := by omega
                        have := H2.out.right
                        rw [h3] at this; exact this
                    intro p q i1 i2 i3
                    rw [e p i1, e q (by omega)]; exact hr p q i1 i2 i3
                  obtain ⟨d4, hdd⟩ : ∃ d4, d4 = d3 := ⟨_, rfl⟩
                  obtain ⟨w4, hw4⟩ : ∃ w4, w4 = w3 := ⟨_, rfl⟩
                  have S4 : Aside (SWK enc k w0 blk off d4 w4) := by rw [hdd, hw4]; exact S3
                  have P4 : Aside (PermIn mid b d3 d4) := by rw [hdd]; exact P4
                  have O4 : Aside (SortedIn (tl lt) mid b d4) := by rw [hdd]; exact O4
                  rw [← hw4]
                  clear hw4 hdd
                  by_cases hm1 : (mid : Int) < (n' : Int)
                  · have hm2 : ¬ ((n' : Int) < (b : Int)) := by omega
                    clear hm
                    have hJ := join_halves (lt := lt) hamid hmidb (by omega : b ≤ d2.size) HX.out P3.out O3.out P4.out O4.out
                    have HJ : Aside (PermIn a b d d4 ∧ SortedIn (tl lt) a b d4) := ⟨permIn_trans _ _ _ _ _ PermOf.out hJ.1, hJ.2⟩
                    clear hJ
                    go_wp2_with fail
                    all_goals go_end0
                    all_goals exact ⟨rfl, d4, HJ.out.1, HJ.out.2, S4.out⟩
                  · clear hm
                    have hJ := join_halves (lt := lt) hamid hmidb (by omega : b ≤ d2.size) HX.out P3.out O3.out P4.out O4.out
                    have HJ : Aside (PermIn a b d d4 ∧ SortedIn (tl lt) a b d4) := ⟨permIn_trans _ _ _ _ _ PermOf.out hJ.1, hJ.2⟩
                    clear hJ
                    go_wp2_with fail
                    all_goals go_end0
                    all_goals exact ⟨rfl, d4, HJ.out.1, HJ.out.2, S4.out⟩
              · clear hl
                by_cases hm : mid < n' ∧ n' < b
                · have hm1 : (mid : Int) < (n' : Int) := by omega
                  have hm2 : (n' : Int) < (b : Int) := by omega
                  have hH3 : Half lt d3 mid n' b := by
                    have e : ∀ x, mid ≤ x → d3[x]! = d2[x]! := fun x hx => P3.out.2.1 x (.inr hx)
                    refine ⟨fun p q i1 i2 i3 => ?_, fun p q i1 i2 i3 => ?_, fun p q i1 i2 i3 i4 => ?_⟩
                    · rw [e p i1, e q (by omega)]; exact H2.out.left p q i1 i2 i3
                    · rw [e p (by omega), e q (by omega)]; exact H2.out.right p q i1 i2 i3
                    · rw [e p i1, e q (by omega)]; exact H2.out.tags p q i1 i2 i3 i4
                  have HC2 := Lib.hid (IH mid n' b d3 w3 (by omega) S3.out (by have := HMID.out; omega) hm.1 hm.2 (by omega) hH3)
                  rw [hd3] at HC2
                  clear hm hH3
                  go_wp2_with fail
                  refine HC2.out.mono ?_
                  rintro e w4 ⟨rfl, d4, hp4, hs4', S4'⟩
                  have P4 : Aside (PermIn mid b d3 d4) := hp4
                  have O4 : Aside (SortedIn (tl lt) mid b d4) := hs4'
                  have S4 : Aside (SWK enc k w0 blk off d4 w4) := S4'
                  clear hp4 hs4' S4' HC2 hm1 hm2
                  have hJ := join_halves (lt := lt) hamid hmidb (by omega : b ≤ d2.size) HX.out P3.out O3.out P4.out O4.out
                  have HJ : Aside (PermIn a b d d4 ∧ SortedIn (tl lt) a b d4) := ⟨permIn_trans _ _ _ _ _ PermOf.out hJ.1, hJ.2⟩
                  clear hJ
                  go_wp2_with fail
                  all_goals go_end0
                  all_goals exact ⟨rfl, d4, HJ.out.1, HJ.out.2, S4.out⟩
                · have P4 : Aside (PermIn mid b d3 d3) := permIn_refl _ _ _
                  have O4 : Aside (SortedIn (tl lt) mid b d3) := by
                    have e : ∀ x, mid ≤ x → d3[x]! = d2[x]! := fun x hx => P3.out.2.1 x (.inr hx)
                    have hr : SortedIn (tl lt) mid b d2 := by
                      rcases Nat.lt_or_ge mid n' with h1 | h1
                      · have h3 : n' = b := by omega
                        have := H2.out.left
                        rw [h3] at this; exact this
                      · have h3 : n' = mid := by omega
                        have := H2.out.right
                        rw [h3] at this; exact this
                    intro p q i1 i2 i3
                    rw [e p i1, e q (by omega)]; exact hr p q i1 i2 i3
                  obtain ⟨d4, hdd⟩ : ∃ d4, d4 = d3 := ⟨_, rfl⟩
                  obtain ⟨w4, hw4⟩ : ∃ w4, w4 = w3 := ⟨_, rfl⟩
                  have S4 : Aside (SWK enc k w0 blk off d4 w4) := by rw [hdd, hw4]; exact S3
                  have P4 : Aside (PermIn mid b d3 d4) := by rw [hdd]; exact P4
                  have O4 : Aside (SortedIn (tl lt) mid b d4) := by rw [hdd]; exact O4
                  rw [← hw4]
                  clear hw4 hdd
                  by_cases hm1 : (mid : Int) < (n' : Int)
                  · have hm2 : ¬ ((n' : Int) < (b : Int)) := by omega
                    clear hm
                    have hJ := join_halves (lt := lt) hamid hmidb (by omega : b ≤ d2.size) HX.out P3.out O3.out P4.out O4.out
                    have HJ : Aside (PermIn a b d d4 ∧ SortedIn (tl lt) a b d4) := ⟨permIn_trans _ _ _ _ _ PermOf.out hJ.1, hJ.2⟩
                    clear hJ
                    go_wp2_with fail
                    all_goals go_end0
                    all_goals exact ⟨rfl, d4, HJ.out.1, HJ.out.2, S4.out⟩
                  · clear hm
                    have hJ := join_halves (lt := lt) hamid hmidb (by omega : b ≤ d2.size) HX.out P3.out O3.out P4.out O4.out
                    have HJ : Aside (PermIn a b d d4 ∧ SortedIn (tl lt) a b d4) := ⟨permIn_trans _ _ _ _ _ PermOf.out hJ.1, hJ.2⟩
                    clear hJ
                    go_wp2_with fail
                    all_goals go_end0
                    all_goals exact ⟨rfl, d4, HJ.out.1, HJ.out.2, S4.out⟩
end
end
end Go.Proofs.YtmgalnbacenbbaaGreat
