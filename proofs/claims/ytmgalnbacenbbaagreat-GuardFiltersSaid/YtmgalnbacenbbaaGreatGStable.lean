/- Guard: slices.SortStableFunc at fewer than 40 locks: the stable order. -/
import Derived.Test.YtmgalnbacenbbaaGreatGSyms
import Derived.Test.YtmgalnbacenbbaaGreatGShelf
set_option linter.unusedSimpArgs false
set_option linter.unusedVariables false
namespace Go.Proofs.YtmgalnbacenbbaaGreat
open Go.Shelf Go.RowKit Go.Lib Go.Sort
section
variable {β : Type} [Inhabited β]
omit [Inhabited β] in
theorem swo_l1 {lt : β → β → Bool} (h : SWO lt) : SWO (l1 lt) := ⟨fun x => h.irrefl _, fun x y z => h.trans _ _ _, fun x y z => h.ntrans _ _ _⟩
omit [Inhabited β] in
theorem ltOf_l1 {lt : β → β → Bool} {cf : β × Nat → β × Nat → Int} (hcf : ∀ x y, decide (cf x y < 0) = l1 lt x y) : ltOf cf = l1 lt := by funext x y; exact hcf x y
theorem sym_any (lt : β → β → Bool) (h0 : SWO lt) (k : Nat) (zE : ∀ w, (Go.sizeOf 40).run Tryz.prog w = .ok k w) (enc : β × Nat → List Value) (cf : β × Nat → β × Nat → Int) (hcf : ∀ x y, decide (cf x y < 0) = l1 lt x y) (g : Nat) (cb : Array Value) (blk off cap : Nat) (d0 : Array (β × Nat)) (w0 : World)
    (eg : ∀ args w, (callFunc g args).run Tryz.prog w = .ok (.enter g args) w) (hcmp : CmpLays Tryz.prog g cb enc k cf blk off d0.size w0) (R : RowK enc k w0 blk off d0) (hsz : d0.size < 4611686018427387904) :
    ∀ (N a m b : Nat) (d : Array (β × Nat)) (w : World), b - a < N → d0.size = d.size → SWK enc k w0 blk off d w → a < m → m < b → b ≤ d.size → Half lt d a m b →
    Calls Tryz.prog 75 #[.slice (some ⟨blk, off, none⟩) d.size cap, .int .i64 a, .int .i64 m, .int .i64 b, .func (.func g) #[] cb] w (Merged lt enc k w0 blk off a b d) := by
  intro N
  induction N with
  | zero => intro a m b d w h; omega
  | succ N ih =>
    intro a m b d w hN hs S ham hmb hb hQ
    by_cases h1 : m = a + 1
    · exact sym_left lt h0 k zE enc cf hcf g cb blk off cap a m b d0 d w0 w eg hcmp R hs S h1 hmb hb (by omega) hQ
    · by_cases h2 : b = m + 1
      · exact sym_right lt h0 k zE enc cf hcf g cb blk off cap a m b d0 d w0 w eg hcmp R hs S (by omega) h2 hb (by omega) hQ
      · exact sym_step lt h0 k zE enc cf hcf g cb blk off cap a m b d0 d w0 w eg hcmp R hs S (by omega) (by omega) hb (by omega) hQ
          (fun a1 m1 b1 d1 w1 e1 e2 e3 e4 e5 e6 e7 => ih a1 m1 b1 d1 w1 (by omega) e1 e2 e4 e5 e6 e7)
/-- One block sorted. -/
theorem ins_any (lt : β → β → Bool) (h0 : SWO lt) (k : Nat) (zE : ∀ w, (Go.sizeOf 40).run Tryz.prog w = .ok k w) (enc : β × Nat → List Value) (cf : β × Nat → β × Nat → Int) (hcf : ∀ x y, decide (cf x y < 0) = l1 lt x y) (g : Nat) (cb : Array Value) (blk off cap : Nat) (d0 : Array (β × Nat)) (w0 : World)
    (eg : ∀ args w, (callFunc g args).run Tryz.prog w = .ok (.enter g args) w) (hcmp : CmpLays Tryz.prog g cb enc k cf blk off d0.size w0) (R : RowK enc k w0 blk off d0) (hsz : d0.size < 4611686018427387904)
    (a b : Nat) (d : Array (β × Nat)) (w : World) (hs : d0.size = d.size) (S : SWK enc k w0 blk off d w) (hab : a ≤ b) (hb : b ≤ d.size) (hT : ∀ p q, a ≤ q → q < p → p < b → d[q]!.2 < d[p]!.2) :
    Calls Tryz.prog 74 #[.slice (some ⟨blk, off, none⟩) d.size cap, .int .i64 a, .int .i64 b, .func (.func g) #[] cb] w (Merged lt enc k w0 blk off a b d) := by
  have h := AnyQ.insertionSortCmpFunc_w insLk k Tryz.isAgg40 zE enc cf g cb blk off cap a b d0 d w0 w eg hcmp R hs S (by rw [ltOf_l1 hcf]; exact swo_l1 h0) hab hb (by omega)
  rw [ltOf_l1 hcf] at h
  have hp := ins_stable h0 d a b hab hb hT
  exact h.mono fun e w' he => ⟨he.1, _, hp.1, hp.2, he.2⟩
/-- What the sort hands back. -/
def Stabled (lt : β → β → Bool) (enc : β × Nat → List Value) (k : Nat) (w0 : World) (blk off : Nat) (d : Array (β × Nat)) (e : Ending) (w' : World) : Prop :=
  e = .returned (.tuple #[]) ∧ ∃ d', PermIn 0 d.size d d' ∧ SortedIn (tl lt) 0 d.size d' ∧ SWK enc k w0 blk off d' w'
theorem tags_perm {lt : β → β → Bool} {d d' : Array (β × Nat)} {a m b : Nat} (hb : b ≤ d.size) (hT : ∀ p q, a ≤ q → q < p → p < b → d[q]!.2 < d[p]!.2) (hp : PermIn a m d d') (ham : a ≤ m) (hmb : m ≤ b) : ∀ p q, a ≤ p → p < m → m ≤ q → q < b → d'[p]!.2 < d'[q]!.2 := by
  intro p q h1 h2 h3 h4
  rw [hp.2.1 q (.inr h3)]
  exact permIn_all d d' a m (fun x => x.2 < d[q]!.2) (by omega) hp (fun k h5 h6 => hT q k h5 (by omega) h4) p h1 h2
set_option maxHeartbeats 4000000 in
set_option maxRecDepth 1000000 in
theorem stable_any (lt : β → β → Bool) (h0 : SWO lt) (k : Nat) (zE : ∀ w, (Go.sizeOf 40).run Tryz.prog w = .ok k w) (enc : β × Nat → List Value) (cf : β × Nat → β × Nat → Int) (hcf : ∀ x y, decide (cf x y < 0) = l1 lt x y) (g : Nat) (cb : Array Value) (blk off cap : Nat) (d : Array (β × Nat)) (w0 : World)
    (eg : ∀ args w, (callFunc g args).run Tryz.prog w = .ok (.enter g args) w) (hcmp : CmpLays Tryz.prog g cb enc k cf blk off d.size w0) (R : RowK enc k w0 blk off d) (hsz : d.size < 40) (hT : ∀ p q, q < p → p < d.size → d[q]!.2 < d[p]!.2) :
    Calls Tryz.prog 54 #[.slice (some ⟨blk, off, none⟩) d.size cap, .int .i64 d.size, .func (.func g) #[] cb] w0 (Stabled lt enc k w0 blk off d) := by
  have HI := fun (d1 : Array (β × Nat)) (h1 : d1.size = d.size) (w1 : World) (S1 : SWK enc k w0 blk off d1 w1) (a b : Nat) (hab : a ≤ b) (hb : b ≤ d.size) (ht : ∀ p q, a ≤ q → q < p → p < b → d1[q]!.2 < d1[p]!.2) => Lib.hid (ins_any lt h0 k zE enc cf hcf g cb blk off cap d w0 eg hcmp R (by omega) a b d1 w1 h1.symm S1 hab (by omega) ht)
  have HS := fun (d1 : Array (β × Nat)) (h1 : d1.size = d.size) (w1 : World) (S1 : SWK enc k w0 blk off d1 w1) (a m b : Nat) (ham : a < m) (hmb : m < b) (hb : b ≤ d.size) (hq : Half lt d1 a m b) => Lib.hid (sym_any lt h0 k zE enc cf hcf g cb blk off cap d w0 eg hcmp R (by omega) (b - a + 1) a m b d1 w1 (by omega) h1.symm S1 ham hmb (by omega) hq)
  have S0 : SWK enc k w0 blk off d w0 := SWK.start R.hH
  have HT := Lib.hid hT
  clear hT hcmp hcf
  obtain ⟨n, hn⟩ : ∃ n, n = d.size := ⟨_, rfl⟩
  have HN := Lib.hid hn
  have e00 : ((0 : Nat) : Int) = 0 := rfl
  have e20 : ((20 : Nat) : Int) = 20 := rfl
  by_cases h20 : n < 20
  · have hC := HI d rfl w0 S0 0 n (by omega) (by omega) (fun p q h1 h2 h3 => HT.out p q h2 (by omega))
    rw [← hn, e00] at hC
    rw [← hn]
    have z1 : ¬ ((20 : Int) ≤ (n : Int)) := by omega
    have z2 : ¬ ((20 : Int) < (n : Int)) := by omega
    clear hn HI HS S0
    go_enter Tryz.func54, Tryz.ntmps54
    go_wp2_with fail
    refine wp_loop_rounds 1 ?_
    rw [rounds_succ]
    go_wp2_with fail
    refine hC.out.mono ?_
    rintro e w1 ⟨rfl, d1, hp1, hs1, S1⟩
    go_wp2_with fail
    refine wp_loop_rounds 1 ?_
    rw [rounds_succ]
    go_wp2_with fail
    go_end0
    have hN := HN.out
    subst hN
    exact ⟨rfl, d1, hp1, hs1, S1⟩
  · have hC := HI d rfl w0 S0 0 20 (by omega) (by omega) (fun p q h1 h2 h3 => HT.out p q h2 (by omega))
    rw [← hn, e00, e20] at hC
    rw [← hn]
    have z1 : (20 : Int) ≤ (n : Int) := by omega
    have z2 : ¬ ((40 : Int) ≤ (n : Int)) := by omega
    have z3 : ¬ ((40 : Int) < (n : Int)) := by omega
    have hnn : n < 40 := by omega
    clear hn
    go_enter Tryz.func54, Tryz.ntmps54
    go_wp2_with fail
    refine wp_loop_rounds 2 ?_
    rw [rounds_succ]
    go_wp2_with fail
    refine hC.out.mono ?_
    rintro e w1 ⟨rfl, d1, hp1, hs1, S1⟩
    have hd1 : d1.size = d.size := hp1.1
    have hN0 := HN.out
    have H1 := Lib.hid (And.intro hp1 hs1)
    have hC2 := HI d1 hd1 w1 S1 20 n (by omega) (by omega) (fun p q h1 h2 h3 => by rw [hp1.2.1 q (.inr h1), hp1.2.1 p (.inr (by omega))]; exact HT.out p q h2 (by omega))
    rw [hd1, ← hN0, e20] at hC2
    clear hC hp1 hs1 hN0
    go_wp2_with fail
    rw [rounds_succ]
    go_wp2_with fail
    refine hC2.out.mono ?_
    rintro e w2 ⟨rfl, d2, hp2, hs2, S2⟩
    have hd2 : d2.size = d.size := hp2.1.trans hd1
    have hN0 := HN.out
    have hs3 : SortedIn (tl lt) 0 20 d2 := fun p q h1 h2 h3 => by
      rw [hp2.2.1 q (.inl h3), hp2.2.1 p (.inl (by omega))]; exact H1.out.2 p q h1 h2 h3
    have hP2 : PermIn 0 n d d2 := permIn_trans _ _ _ _ _ (permIn_mono _ _ 0 20 0 n (Nat.le_refl _) (by omega) (by omega) H1.out.1) (permIn_mono _ _ 20 n 0 n (Nat.zero_le _) (Nat.le_refl _) (by omega) hp2)
    have htg : ∀ p q, 0 ≤ p → p < 20 → 20 ≤ q → q < n → d2[p]!.2 < d2[q]!.2 := by
      intro p q h1 h2 h3 h4
      have e1 := tags_perm (lt := lt) (d := d) (d' := d1) (a := 0) (m := 20) (b := n) (by omega) (fun p q _ h5 h6 => HT.out p q h5 (by omega)) H1.out.1 (by omega) (by omega)
      rw [hp2.2.1 p (.inl h2)]
      exact permIn_all d1 d2 20 n (fun x => d1[p]!.2 < x.2) (by omega) hp2 (fun k h5 h6 => e1 p k (Nat.zero_le _) h2 h5 h6) q h3 h4
    have HP2 := Lib.hid hP2
    clear H1 hC2 hP2
    by_cases h21 : 20 < n
    · have z4 : (20 : Int) < (n : Int) := by omega
      have hC3 := HS d2 hd2 w2 S2 0 20 n (by omega) h21 (by omega) ⟨hs3, hs2, htg⟩
      rw [hd2, ← HN.out, e00, e20] at hC3
      clear hN0 HI HS S0 S1 S2 hs2 hs3 htg hp2 hd1 hd2
      go_wp2_with fail
      refine wp_loop_rounds 2 ?_
      rw [rounds_succ]
      go_wp2_with fail
      refine wp_loop_rounds 1 ?_
      rw [rounds_succ]
      go_wp2_with fail
      refine hC3.out.mono ?_
      rintro e w3 ⟨rfl, d3, hp3, hs3, S3⟩
      go_wp2_with fail
      rw [rounds_succ]
      go_wp2_with fail
      go_end0
      have hN := HN.out
      have hP2 := HP2.out
      subst hN
      exact ⟨rfl, d3, permIn_trans _ _ _ _ _ hP2 hp3, hs3, S3⟩
    · have z4 : ¬ ((20 : Int) < (n : Int)) := by omega
      have hn20 : n = 20 := by omega
      clear hN0 HI HS S0 S1
      go_wp2_with fail
      refine wp_loop_rounds 1 ?_
      rw [rounds_succ]
      go_wp2_with fail
      go_end0
      have hN := HN.out
      have hP2 := HP2.out
      subst hN
      exact ⟨rfl, d2, hP2, by rw [hn20]; exact hs3, S2⟩
set_option maxHeartbeats 2000000 in
theorem sortStable_any (lt : β → β → Bool) (h0 : SWO lt) (k : Nat) (zE : ∀ w, (Go.sizeOf 40).run Tryz.prog w = .ok k w) (enc : β × Nat → List Value) (cf : β × Nat → β × Nat → Int) (hcf : ∀ x y, decide (cf x y < 0) = l1 lt x y) (g : Nat) (cb : Array Value) (blk off cap : Nat) (d : Array (β × Nat)) (w0 : World)
    (eg : ∀ args w, (callFunc g args).run Tryz.prog w = .ok (.enter g args) w) (hcmp : CmpLays Tryz.prog g cb enc k cf blk off d.size w0) (R : RowK enc k w0 blk off d) (hsz : d.size < 40) (hT : ∀ p q, q < p → p < d.size → d[q]!.2 < d[p]!.2) :
    Calls Tryz.prog 26 #[.slice (some ⟨blk, off, none⟩) d.size cap, .func (.func g) #[] cb] w0 (Stabled lt enc k w0 blk off d) := by
  have H := Lib.hid (stable_any lt h0 k zE enc cf hcf g cb blk off cap d w0 eg hcmp R hsz hT)
  clear hcf hcmp hT
  go_enter Tryz.func26, Tryz.ntmps26
  go_wp2_with fail
  refine H.out.mono ?_
  rintro e w1 ⟨rfl, h1⟩
  go_wp2_with fail
  go_end0
  exact ⟨rfl, h1⟩
end
set_option maxHeartbeats 2000000 in
theorem ins_none (p : Option Addr) (cap : Nat) (fv : Value) (w : World) : Calls Tryz.prog 74 #[.slice p 0 cap, .int .i64 0, .int .i64 0, fv] w fun e w' => e = .returned (.tuple #[]) ∧ w' = w := by
  go_enter Tryz.func74, Tryz.ntmps74
  go_wp2_with fail
  refine wp_loop_rounds 1 ?_
  rw [rounds_succ]
  go_wp2_with fail
  go_end0
  exact ⟨rfl, rfl⟩
/-- No lock: nothing is turned. -/
theorem sortStable_none (p : Option Addr) (cap : Nat) (fv : Value) (w : World) : Calls Tryz.prog 26 #[.slice p 0 cap, fv] w fun e w' => e = .returned (.tuple #[]) ∧ w' = w := by
  have hi := fun W => Lib.hid (ins_none p cap fv W)
  have hs : ∀ W, Hid (Calls Tryz.prog 54 #[.slice p 0 cap, .int .i64 0, fv] W fun e w' => e = .returned (.tuple #[]) ∧ w' = W) := fun W => Lib.hid (by
    go_enter Tryz.func54, Tryz.ntmps54
    go_wp2_with fail
    refine wp_loop_rounds 1 ?_
    rw [rounds_succ]
    go_wp2_with fail
    refine (hi _).out.mono ?_
    rintro e w1 ⟨rfl, rfl⟩
    go_wp2_with fail
    refine wp_loop_rounds 1 ?_
    rw [rounds_succ]
    go_wp2_with fail
    go_end0
    exact ⟨rfl, rfl⟩)
  clear hi
  go_enter Tryz.func26, Tryz.ntmps26
  go_wp2_with fail
  refine (hs _).out.mono ?_
  rintro e w1 ⟨rfl, rfl⟩
  go_wp2_with fail
  go_end0
  exact ⟨rfl, rfl⟩
end Go.Proofs.YtmgalnbacenbbaaGreat
