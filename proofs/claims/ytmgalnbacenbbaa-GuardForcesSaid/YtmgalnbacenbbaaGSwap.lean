/- Guard: two rows of locks exchanged; rows rotated. -/
import Derived.Test.YtmgalnbacenbbaaGStab
import Derived.Test.YtmgalnbacenbbaaGMem
import Derived.Shelf.SlSortCmp.KitK
import Derived.Deep.LoopGhost
set_option linter.unusedSimpArgs false
set_option linter.unusedVariables false
namespace Go.Proofs.Ytmgalnbacenbbaa
open Go.Shelf Go.RowKit Go.Lib Go.Sort
section
variable {β : Type} [Inhabited β]
set_option maxHeartbeats 4000000 in
set_option maxRecDepth 1000000 in
theorem swapRange_any (k : Nat) (zE : ∀ w, (Go.sizeOf 47).run Try.prog w = .ok k w) (enc : β × Nat → List Value) (g : Nat) (cb : Array Value) (blk off cap a b n : Nat) (d0 d : Array (β × Nat)) (w0 w : World)
    (R : RowK enc k w0 blk off d0) (hs : d0.size = d.size) (S : SWK enc k w0 blk off d w) (hab : a + n ≤ b) (hb : b + n ≤ d.size) (hsz : d.size < 4611686018427387904) :
    Calls Try.prog 110 #[.slice (some ⟨blk, off, none⟩) d.size cap, .int .i64 a, .int .i64 b, .int .i64 n, .func (.func g) #[] cb] w fun e w' => e = .returned (.tuple #[]) ∧ ∃ d', SwapR d d' a b n ∧ SWK enc k w0 blk off d' w' := by
  have aE := Try.isAgg47
  have mixed : Try.prog.follows Departure.mixedOrders = true := by kernel_rfl
  have S0 : Aside (SWK enc k w0 blk off d w) := S
  clear S
  go_enter Try.func110, Try.ntmps110
  go_wp2_with fail
  go_loopg [10] n (fun kx s10 wr => ∃ (i : Nat) (dk : Array (β × Nat)), s10 = .int .i64 i ∧ i ≤ n ∧ n - i ≤ kx ∧ Aside (SWK enc k w0 blk off dk wr) ∧ Aside (SwapR d dk a b i))
  case atStart => exact ⟨0, d, rfl, Nat.zero_le _, Nat.le_refl _, S0, SwapR.start d a b⟩
  case round =>
    clear S0
    obtain ⟨i, dk, rfl, hin, hkx, S1, HR⟩ := hrel
    have hds : dk.size = d.size := HR.out.1.1
    by_cases hlt : i < n
    · have hltz : (i : Int) < (n : Int) := by omega
      have ra44 : IntKind.i64.wrap ((a : Int) + (i : Int)) = ((a + i : Nat) : Int) := by rw [IntKind.wrap_i64]; omega
      have rc44 : IntKind.i64.wrap ((b : Int) + (i : Int)) = ((b + i : Nat) : Int) := by rw [IntKind.wrap_i64]; omega
      have HRN := SwapR.step HR.out hlt hab hb
      obtain ⟨ai, hai⟩ : ∃ x, a + i = x := ⟨_, rfl⟩
      obtain ⟨bi, hbi⟩ : ∃ x, b + i = x := ⟨_, rfl⟩
      rw [hai, hbi] at HRN
      rw [hai] at ra44
      rw [hbi] at rc44
      have HR2 : Aside (SwapR d (swp dk ai bi) a b (i + 1)) := HRN
      have hlA : ai < d.size := by omega
      have hlB : bi < d.size := by omega
      have ea44 : ((ai : Int)).toNat = ai := by omega
      have pa44 : (0 : Int) ≤ (ai : Int) := by omega
      have ba44 : (ai : Int) < (d.size : Int) := by omega
      have ec44 : ((bi : Int)).toNat = bi := by omega
      have pc44 : (0 : Int) ≤ (bi : Int) := by omega
      have bc44 : (bi : Int) < (d.size : Int) := by omega
      have S2 : Aside (SWK enc k w0 blk off (swp dk ai bi) ((wr.drew.setCells blk (off + ai * k) (enc dk[bi]!)).setCells blk (off + bi * k) (enc dk[ai]!))) := S1.out.swapped R ai bi (by omega) (by omega)
      have l44a := S1.out.ld1 R (by omega) Try.prog ai (by omega)
      have l44b := S1.out.ld1 R (by omega) Try.prog bi (by omega)
      have s44a := S1.out.st1 R (by omega) Try.prog ai (by omega) dk[bi]!
      have s44b := S1.out.st2 R (by omega) Try.prog ai bi (by omega) (by omega) dk[bi]! dk[ai]!
      have n44a : (enc dk[ai]!).length = k := R.hk _
      have n44b : (enc dk[bi]!).length = k := R.hk _
      generalize enc dk[ai]! = cI44 at S2 l44a s44b n44a
      generalize enc dk[bi]! = cJ44 at S2 l44b s44a s44b n44b
      clear S1 HRN HR hai hbi
      go_wp2_with fail
      go_big_region_o
      clear l44a l44b s44a s44b
      generalize (wr.drew.setCells blk (off + ai * k) cJ44).setCells blk (off + bi * k) cI44 = w2 at S2 ⊢
      go_wp2_with fail
      go_roundg (n - (i + 1))
      case measure => omega
      case rel =>
        exact ⟨i + 1, swp dk ai bi, by go_num, by omega, Nat.le_refl _, S2, HR2⟩
    · have hltz : ¬ (i : Int) < (n : Int) := by omega
      obtain rfl : i = n := by omega
      go_wp2_with fail
      go_end0
      exact ⟨rfl, dk, HR.out, S1.out⟩
end
end Go.Proofs.Ytmgalnbacenbbaa
