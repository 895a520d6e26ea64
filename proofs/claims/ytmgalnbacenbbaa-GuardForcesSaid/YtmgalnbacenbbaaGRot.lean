/- Guard: rows of locks rotated. -/
import Derived.Test.YtmgalnbacenbbaaGSwap
set_option linter.unusedSimpArgs false
set_option linter.unusedVariables false
namespace Go.Proofs.Ytmgalnbacenbbaa
open Go.Shelf Go.RowKit Go.Lib Go.Sort
section
variable {β : Type} [Inhabited β]
set_option maxHeartbeats 4000000 in
set_option maxRecDepth 1000000 in
theorem rotate_any (k : Nat) (zE : ∀ w, (Go.sizeOf 47).run Try.prog w = .ok k w) (enc : β × Nat → List Value) (g : Nat) (cb : Array Value) (blk off cap a m b : Nat) (d0 d : Array (β × Nat)) (w0 w : World)
    (R : RowK enc k w0 blk off d0) (hs : d0.size = d.size) (S : SWK enc k w0 blk off d w) (ham : a < m) (hmb : m < b) (hb : b ≤ d.size) (hsz : d.size < 4611686018427387904) :
    Calls Try.prog 101 #[.slice (some ⟨blk, off, none⟩) d.size cap, .int .i64 a, .int .i64 m, .int .i64 b, .func (.func g) #[] cb] w fun e w' => e = .returned (.tuple #[]) ∧ ∃ d', Rot d d' a m b ∧ SWK enc k w0 blk off d' w' := by
  have S0 : Aside (SWK enc k w0 blk off d w) := S
  have HSW := fun (d1 : Array (β × Nat)) (h1 : d1.size = d.size) (w1 : World) (S1 : SWK enc k w0 blk off d1 w1) (x y n : Nat) (hx : x + n ≤ y) (hy : y + n ≤ d.size) => Lib.hid (swapRange_any k zE enc g cb blk off cap x y n d0 d1 w0 w1 R (hs.trans h1.symm) S1 hx (by omega) (by omega))
  clear S
  go_enter Try.func101, Try.ntmps101
  go_wp2_with fail
  go_loopg [10, 11] (m - a + (b - m)) (fun kx s10 s11 wr => ∃ (i j : Nat) (dk : Array (β × Nat)), s10 = .int .i64 i ∧ s11 = .int .i64 j ∧ i + j ≤ kx ∧ Aside (SWK enc k w0 blk off dk wr) ∧ Aside (RotS d dk a m b i j))
  case atStart => exact ⟨m - a, b - m, d, by go_num, by go_num, Nat.le_refl _, S0, RotS.start d ham hmb⟩
  case round =>
    clear S0
    obtain ⟨i, j, dk, rfl, rfl, hkx, S1, HR⟩ := hrel
    have hds : dk.size = d.size := HR.out.hp.1
    obtain ⟨hi1, hj1, hai, hjb, _, _⟩ := HR.out
    by_cases heq : i = j
    · subst heq
      have hne : ((i : Int) != (i : Int)) = false := by simp
      have rm : IntKind.i64.wrap ((m : Int) - (i : Int)) = ((m - i : Nat) : Int) := by rw [IntKind.wrap_i64]; omega
      have HC := HSW dk hds wr S1.out (m - i) m i (by omega) (by omega)
      rw [hds] at HC
      go_wp2_with fail
      refine HC.out.mono ?_
      rintro e w2 ⟨rfl, d2, h2, S2⟩
      go_wp2_with fail
      go_end0
      exact ⟨rfl, d2, RotS.fin HR.out hb h2, S2⟩
    · have hne : ((i : Int) != (j : Int)) = true := by simp; omega
      by_cases hij : j < i
      · have hijz : (j : Int) < (i : Int) := by omega
        have rm : IntKind.i64.wrap ((m : Int) - (i : Int)) = ((m - i : Nat) : Int) := by rw [IntKind.wrap_i64]; omega
        have rj : IntKind.i64.wrap ((i : Int) - (j : Int)) = ((i - j : Nat) : Int) := by rw [IntKind.wrap_i64]; omega
        have HC := HSW dk hds wr S1.out (m - i) m j (by omega) (by omega)
        rw [hds] at HC
        go_wp2_with fail
        refine HC.out.mono ?_
        rintro e w2 ⟨rfl, d2, h2, S2⟩
        have H2 : Aside (RotS d d2 a m b (i - j) j) := RotS.left HR.out hij hb h2
        have S3 : Aside (SWK enc k w0 blk off d2 w2) := S2
        clear h2 S2 HR S1 HC
        go_wp2_with fail
        go_roundg (i - j + j)
        case measure => omega
        case rel => exact ⟨i - j, j, d2, rfl, rfl, Nat.le_refl _, S3, H2⟩
      · have hijz : ¬ (j : Int) < (i : Int) := by omega
        have rm : IntKind.i64.wrap ((m : Int) - (i : Int)) = ((m - i : Nat) : Int) := by rw [IntKind.wrap_i64]; omega
        have rmj : IntKind.i64.wrap ((m : Int) + (j : Int)) = ((m + j : Nat) : Int) := by rw [IntKind.wrap_i64]; omega
        have rmji : IntKind.i64.wrap (((m + j : Nat) : Int) - (i : Int)) = ((m + j - i : Nat) : Int) := by rw [IntKind.wrap_i64]; omega
        have rj : IntKind.i64.wrap ((j : Int) - (i : Int)) = ((j - i : Nat) : Int) := by rw [IntKind.wrap_i64]; omega
        have HC := HSW dk hds wr S1.out (m - i) (m + j - i) i (by omega) (by omega)
        rw [hds] at HC
        obtain ⟨mj, hmj⟩ : ∃ x, m + j = x := ⟨_, rfl⟩
        rw [hmj] at rmj rmji HC
        go_wp2_with fail
        refine HC.out.mono ?_
        rintro e w2 ⟨rfl, d2, h2, S2⟩
        rw [← hmj] at h2
        have H2 : Aside (RotS d d2 a m b i (j - i)) := RotS.right HR.out (by omega) hb h2
        have S3 : Aside (SWK enc k w0 blk off d2 w2) := S2
        clear h2 S2 HR S1 HC
        go_wp2_with fail
        go_roundg (i + (j - i))
        case measure => omega
        case rel => exact ⟨i, j - i, d2, rfl, rfl, Nat.le_refl _, S3, H2⟩
end
end Go.Proofs.Ytmgalnbacenbbaa
