/- Guard: the examples: the plain law. -/
import Derived.Test.YtmgalnbacenbbaaGreatGConf
import Derived.Test.YtmgalnbacenbbaaGreatGSafe
set_option linter.unusedSimpArgs false
set_option linter.unusedVariables false
namespace Go.Proofs.YtmgalnbacenbbaaGreat
open Go.RowKit

def wh0 : WhR := ⟨0, 0, 0, ⟨#[]⟩, ⟨0, 0, ⟨#[]⟩⟩, ⟨0, ⟨#[]⟩, ⟨#[]⟩⟩, none, 0, 0⟩
def waterL : LLock := ⟨(⟨#[119, 97, 116, 101, 114]⟩ : ByteArray), 2, [⟨(⟨2, ⟨#[118, 97, 108, 118, 101]⟩, ⟨#[111, 112, 101, 110]⟩⟩ : LKey), (⟨1, 1, ⟨#[]⟩⟩ : LVal), 0⟩], []⟩
def gasL : LLock := ⟨(⟨#[103, 97, 115]⟩ : ByteArray), 1, [⟨(⟨2, ⟨#[118, 97, 108, 118, 101]⟩, ⟨#[111, 112, 101, 110]⟩⟩ : LKey), (⟨1, 0, ⟨#[]⟩⟩ : LVal), 0⟩], []⟩
def waterR (g : Nat) : LkR := ⟨(⟨#[119, 97, 116, 101, 114]⟩ : ByteArray), 2, wh0, false, some ⟨g, 0, none⟩, 1, 1, none, 0, 0⟩
def gasR (g : Nat) : LkR := ⟨(⟨#[103, 97, 115]⟩ : ByteArray), 1, wh0, false, some ⟨g, 0, none⟩, 1, 1, none, 0, 0⟩
def ps0 (g1 g2 : Nat) : List (LkR × LLock) := [(waterR g1, waterL), (gasR g2, gasL)]
theorem act_both1 (g1 g2 : Nat) : actP [(⟨#[103, 97, 115]⟩ : ByteArray), (⟨#[119, 97, 116, 101, 114]⟩ : ByteArray)] (waterR g1, waterL) = true := by kernel_rfl
theorem act_both2 (g1 g2 : Nat) : actP [(⟨#[103, 97, 115]⟩ : ByteArray), (⟨#[119, 97, 116, 101, 114]⟩ : ByteArray)] (gasR g2, gasL) = true := by kernel_rfl
theorem act_w1 (g1 g2 : Nat) : actP [(⟨#[119, 97, 116, 101, 114]⟩ : ByteArray)] (waterR g1, waterL) = true := by kernel_rfl
theorem act_w2 (g1 g2 : Nat) : actP [(⟨#[119, 97, 116, 101, 114]⟩ : ByteArray)] (gasR g2, gasL) = false := by kernel_rfl
theorem str_wg (g1 g2 : Nat) : strP (gasR g2, gasL) (waterR g1, waterL) = true := by kernel_rfl
theorem strg_both (g1 g2 : Nat) : strg (ps0 g1 g2) [(⟨#[103, 97, 115]⟩ : ByteArray), (⟨#[119, 97, 116, 101, 114]⟩ : ByteArray)] = [(gasR g2, gasL), (waterR g1, waterL)] := by
  unfold strg ps0
  rw [List.filter_cons, if_pos (act_both1 g1 g2), List.filter_cons, if_pos (act_both2 g1 g2), List.filter_nil]
  simp [stab, insRev, str_wg]
theorem strg_water (g1 g2 : Nat) : strg (ps0 g1 g2) [(⟨#[119, 97, 116, 101, 114]⟩ : ByteArray)] = [(waterR g1, waterL)] := by
  unfold strg ps0
  rw [List.filter_cons, if_pos (act_w1 g1 g2), List.filter_cons, if_neg (by rw [act_w2 g1 g2]; decide), List.filter_nil]
  simp [stab, insRev]
theorem keys_both (g1 g2 : Nat) (ks : List LKey) (h : ks.Pairwise (fun a b => kless a b = true)) (hm : ∀ k, k ∈ ks ↔ HasKey [(gasR g2, gasL), (waterR g1, waterL)] k) : ks = [(⟨2, ⟨#[118, 97, 108, 118, 101]⟩, ⟨#[111, 112, 101, 110]⟩⟩ : LKey)] := by
  refine sorted_ext sto_kless ks [(⟨2, ⟨#[118, 97, 108, 118, 101]⟩, ⟨#[111, 112, 101, 110]⟩⟩ : LKey)] h (List.pairwise_singleton _ _) (fun x => ?_)
  rw [hm, List.mem_singleton]
  constructor
  · rintro ⟨p, hp, it, hi, rfl⟩
    rcases List.mem_cons.1 hp with rfl | hp
    · have : it = ⟨(⟨2, ⟨#[118, 97, 108, 118, 101]⟩, ⟨#[111, 112, 101, 110]⟩⟩ : LKey), (⟨1, 0, ⟨#[]⟩⟩ : LVal), 0⟩ := by simpa [itsOf, gasL] using hi
      subst this; rfl
    · rw [List.mem_singleton] at hp
      subst hp
      have : it = ⟨(⟨2, ⟨#[118, 97, 108, 118, 101]⟩, ⟨#[111, 112, 101, 110]⟩⟩ : LKey), (⟨1, 1, ⟨#[]⟩⟩ : LVal), 0⟩ := by simpa [itsOf, waterL] using hi
      subst this; rfl
  · intro e
    subst e
    exact ⟨(gasR g2, gasL), by simp, ⟨(⟨2, ⟨#[118, 97, 108, 118, 101]⟩, ⟨#[111, 112, 101, 110]⟩⟩ : LKey), (⟨1, 0, ⟨#[]⟩⟩ : LVal), 0⟩, by simp [itsOf, gasL], rfl⟩
theorem frc_both (g1 g2 : Nat) : frc [(gasR g2, gasL), (waterR g1, waterL)] [(⟨2, ⟨#[118, 97, 108, 118, 101]⟩, ⟨#[111, 112, 101, 110]⟩⟩ : LKey)] = [⟨(⟨2, ⟨#[118, 97, 108, 118, 101]⟩, ⟨#[111, 112, 101, 110]⟩⟩ : LKey), (⟨1, 0, ⟨#[]⟩⟩ : LVal), 4, (⟨#[103, 97, 115]⟩ : ByteArray), 99, 0⟩] := by kernel_rfl
theorem con_both (g1 g2 : Nat) : con [(gasR g2, gasL), (waterR g1, waterL)] [(⟨2, ⟨#[118, 97, 108, 118, 101]⟩, ⟨#[111, 112, 101, 110]⟩⟩ : LKey)] = [(⟨2, ⟨#[118, 97, 108, 118, 101]⟩, ⟨#[111, 112, 101, 110]⟩⟩ : LKey)] := by kernel_rfl
theorem blk1 (g1 g2 : Nat) : blkAll (ps0 g1 g2) [(⟨#[103, 97, 115]⟩ : ByteArray), (⟨#[119, 97, 116, 101, 114]⟩ : ByteArray)] (⟨2, ⟨#[118, 97, 108, 118, 101]⟩, ⟨#[111, 112, 101, 110]⟩⟩ : LKey) (⟨1, 1, ⟨#[]⟩⟩ : LVal) = (⟨#[103, 97, 115]⟩ : ByteArray) := by
  unfold blkAll; rw [strg_both]; kernel_rfl
theorem blk0 (g1 g2 : Nat) : blkAll (ps0 g1 g2) [(⟨#[103, 97, 115]⟩ : ByteArray), (⟨#[119, 97, 116, 101, 114]⟩ : ByteArray)] (⟨2, ⟨#[118, 97, 108, 118, 101]⟩, ⟨#[111, 112, 101, 110]⟩⟩ : LKey) (⟨1, 0, ⟨#[]⟩⟩ : LVal) = ⟨#[]⟩ := by
  unfold blkAll; rw [strg_both]; kernel_rfl
theorem blkw (g1 g2 : Nat) : blkAll (ps0 g1 g2) [(⟨#[119, 97, 116, 101, 114]⟩ : ByteArray)] (⟨2, ⟨#[118, 97, 108, 118, 101]⟩, ⟨#[111, 112, 101, 110]⟩⟩ : LKey) (⟨1, 0, ⟨#[]⟩⟩ : LVal) = (⟨#[119, 97, 116, 101, 114]⟩ : ByteArray) := by
  unfold blkAll; rw [strg_water]; kernel_rfl
theorem few0 (g1 g2 : Nat) : FewI (ps0 g1 g2) := by
  intro p hp
  rcases List.mem_cons.1 hp with rfl | hp
  · exact ⟨by show 1 ≤ _; decide, by show 0 ≤ _; decide⟩
  · rw [List.mem_singleton] at hp; subst hp
    exact ⟨by show 1 ≤ _; decide, by show 0 ≤ _; decide⟩
theorem its0 (g1 g2 : Nat) : ∀ p ∈ ps0 g1 g2, (itsOf p).length ≤ 60 := by
  intro p hp
  rcases List.mem_cons.1 hp with rfl | hp
  · show 1 ≤ 60; decide
  · rw [List.mem_singleton] at hp; subst hp
    show 1 ≤ 60; decide
/-- Blocks as lists. -/
theorem rd_it {w : World} {g : Nat} (x : LItem) (h : Blk w g 51 (iC x).toArray) : EI.Rd w [x] (.slice (some ⟨g, 0, none⟩) 1 1) :=
  Elt.Own.rd (E := EI) (base := 0) ⟨by rw [EI.flat], .inr ⟨g, 1, (iC x).toArray, rfl, Nat.zero_le _, h, Nat.le_refl _, by decide, rfl, by simp [EI, iC, kC, vC]⟩⟩
theorem rd_n1 {w : World} {g : Nat} (a : ByteArray) (h : Blk w g 9 #[.string a]) : ES.Rd w [a] (.slice (some ⟨g, 0, none⟩) 1 1) :=
  Elt.Own.rd (E := ES) (base := 0) ⟨by rw [ES.flat], .inr ⟨g, 1, #[.string a], rfl, Nat.zero_le _, h, Nat.le_refl _, by decide, rfl, by simp [ES]⟩⟩
theorem rd_n2 {w : World} {g : Nat} (a b : ByteArray) (h : Blk w g 9 #[.string a, .string b]) : ES.Rd w [a, b] (.slice (some ⟨g, 0, none⟩) 2 2) :=
  Elt.Own.rd (E := ES) (base := 0) ⟨by rw [ES.flat], .inr ⟨g, 2, #[.string a, .string b], rfl, Nat.zero_le _, h, Nat.le_refl _, by decide, rfl, by simp [ES]⟩⟩
theorem rd_ps {w : World} {g g1 g2 : Nat} (h : Blk w g 40 (lkC (waterR g1) ++ lkC (gasR g2)).toArray) (h1 : Blk w g1 51 (iC ⟨(⟨2, ⟨#[118, 97, 108, 118, 101]⟩, ⟨#[111, 112, 101, 110]⟩⟩ : LKey), (⟨1, 1, ⟨#[]⟩⟩ : LVal), 0⟩).toArray) (h2 : Blk w g2 51 (iC ⟨(⟨2, ⟨#[118, 97, 108, 118, 101]⟩, ⟨#[111, 112, 101, 110]⟩⟩ : LKey), (⟨1, 0, ⟨#[]⟩⟩ : LVal), 0⟩).toArray) : RdL w (ps0 g1 g2) (.slice (some ⟨g, 0, none⟩) 2 2) := by
  refine ⟨Elt.Own.rd (E := EL) (base := 0) ⟨by rw [EL.flat], .inr ⟨g, 2, (lkC (waterR g1) ++ lkC (gasR g2)).toArray, rfl, Nat.zero_le _, h, Nat.le_refl _, by decide, rfl, by simp [EL, ps0, lkC, whC, kC, vC]⟩⟩, fun p hp => ?_⟩
  rcases List.mem_cons.1 hp with rfl | hp
  · exact ⟨rfl, rfl, rd_it _ h1, Elt.Rd.nil _⟩
  · rw [List.mem_singleton] at hp; subst hp
    exact ⟨rfl, rfl, rd_it _ h2, Elt.Rd.nil _⟩
end Go.Proofs.YtmgalnbacenbbaaGreat
