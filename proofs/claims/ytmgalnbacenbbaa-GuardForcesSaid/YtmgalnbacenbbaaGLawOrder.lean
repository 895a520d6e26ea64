/- Guard: the order of locks and of names: the law walked. -/
import Derived.Test.YtmgalnbacenbbaaGLawSafe
import Derived.Test.YtmgalnbacenbbaaGReadC
import Derived.Test.YtmgalnbacenbbaaGUnlike
import Derived.Test.YtmgalnbacenbbaaGSame
set_option linter.unusedSimpArgs false
set_option linter.unusedVariables false
namespace Go.Proofs.Ytmgalnbacenbbaa
open Go.RowKit

/-- The keys of locks, in order. -/
def KeysIn (S : List (LkR × LLock)) (ks : List LKey) : Prop := ks.Pairwise (fun a b => kless a b = true) ∧ ∀ k, k ∈ ks ↔ HasKey S k
theorem KeysIn.eq {S : List (LkR × LLock)} {ks ks' : List LKey} (h : KeysIn S ks) (h' : KeysIn S ks') : ks = ks' := sorted_ext sto_kless ks ks' h.1 h'.1 (fun x => (h.2 x).trans (h'.2 x).symm)
/-- What Forced, what Conflicts hand back. -/
def FoAt (S : List (LkR × LLock)) (v : Value) (w : World) : Prop := ∃ ks A c, v = .slice A (frc S ks).length c ∧ EW.Rd w (frc S ks) (.slice A (frc S ks).length c) ∧ KeysIn S ks ∧ (frc S ks).length ≤ 9223372036854775807
def CoAt (S : List (LkR × LLock)) (v : Value) (w : World) : Prop := ∃ ks A c, v = .slice A (con S ks).length c ∧ EK.Rd w (con S ks) (.slice A (con S ks).length c) ∧ KeysIn S ks ∧ (con S ks).length ≤ 9223372036854775807
theorem FoAt.lat {S : List (LkR × LLock)} {v : Value} {w w' : World} (hl : Lat w w') (h : FoAt S v w) : FoAt S v w' := by
  obtain ⟨ks, A, c, h1, h2, h3, h4⟩ := h; exact ⟨ks, A, c, h1, h2.lat hl, h3, h4⟩
theorem CoAt.lat {S : List (LkR × LLock)} {v : Value} {w w' : World} (hl : Lat w w') (h : CoAt S v w) : CoAt S v w' := by
  obtain ⟨ks, A, c, h1, h2, h3, h4⟩ := h; exact ⟨ks, A, c, h1, h2.lat hl, h3, h4⟩
theorem forced_at (ps : List (LkR × LLock)) (A : Option Addr) (c : Nat) (acts : List ByteArray) (B : Option Addr) (m : Nat) (w : World) (hx : RdL w ps (.slice A ps.length c)) (hy : ES.Rd w acts (.slice B acts.length m)) (hf : Fits ps acts) :
    Calls Try.prog 12 #[.slice A ps.length c, .slice B acts.length m] w fun r w' => (∃ v, r = .returned v ∧ FoAt (strg ps acts) v w') ∧ Lat w w' := by
  refine (forcedW_any ps A c acts B m w hx hy (by have := hf.locks; omega) (by have := hf.acts; omega) hf.its).mono ?_
  rintro r w' ⟨ks, v, rfl, hown, hasc, hmem, hl⟩
  obtain ⟨A1, c1, rfl⟩ := hown.slice
  exact ⟨⟨_, rfl, ks, A1, c1, rfl, hown.rd, ⟨hasc, hmem⟩, hown.small⟩, hl⟩
theorem conf_at (ps : List (LkR × LLock)) (A : Option Addr) (c : Nat) (acts : List ByteArray) (B : Option Addr) (m : Nat) (w : World) (hx : RdL w ps (.slice A ps.length c)) (hy : ES.Rd w acts (.slice B acts.length m)) (hf : Fits ps acts) :
    Calls Try.prog 15 #[.slice A ps.length c, .slice B acts.length m] w fun r w' => (∃ v, r = .returned v ∧ CoAt (strg ps acts) v w') ∧ Lat w w' := by
  refine (conflicts_any ps A c acts B m w hx hy (by have := hf.locks; omega) (by have := hf.acts; omega) hf.its).mono ?_
  rintro r w' ⟨ks, v, rfl, hown, hasc, hmem, hl⟩
  obtain ⟨A1, c1, rfl⟩ := hown.slice
  exact ⟨⟨_, rfl, ks, A1, c1, rfl, hown.rd, ⟨hasc, hmem⟩, hown.small⟩, hl⟩
theorem same_fo {S : List (LkR × LLock)} {v v' : Value} {w : World} (h : FoAt S v w) (h' : FoAt S v' w) : Calls Try.prog 11 #[v, v'] w fun r w' => r = .returned (.bool true) ∧ Lat w w' := by
  obtain ⟨ks, A, c, rfl, h2, h3, h4⟩ := h
  obtain ⟨ks', A', c', rfl, h2', h3', h4'⟩ := h'
  have e := h3.eq h3'
  subst e
  exact sameW_same _ A A' c c' w h2 h2' h4
theorem same_co {S : List (LkR × LLock)} {v v' : Value} {w : World} (h : CoAt S v w) (h' : CoAt S v' w) : Calls Try.prog 14 #[v, v'] w fun r w' => r = .returned (.bool true) ∧ Lat w w' := by
  obtain ⟨ks, A, c, rfl, h2, h3, h4⟩ := h
  obtain ⟨ks', A', c', rfl, h2', h3', h4'⟩ := h'
  have e := h3.eq h3'
  subst e
  exact sameK_same _ A A' c c' w h2 h2' h4
theorem Fits.perm {ps qs : List (LkR × LLock)} {acts bcts : List ByteArray} (h : Fits ps acts) (hp : qs.Perm ps) (hb : bcts.length = acts.length) : Fits qs bcts :=
  ⟨by rw [hp.length_eq]; exact h.locks, by rw [hb]; exact h.acts, fun p hp' => h.items p (hp.mem_iff.1 hp')⟩
set_option maxRecDepth 100000 in
set_option maxHeartbeats 8000000 in
theorem lawOrder (ps : List (LkR × LLock)) (A : Option Addr) (c : Nat) (acts : List ByteArray) (B : Option Addr) (m : Nat) (k : LKey) (v : LVal) (w : World) (hx : RdL w ps (.slice A ps.length c)) (hy : ES.Rd w acts (.slice B acts.length m)) :
    Calls Try.prog 5 #[.agg (caC A ps.length c B acts.length m k v).toArray] w fun r w' => r = .returned (.bool true) ∧ Lat w w' := by
  have HLV := fun w' => Lib.hid (lives_any w')
  have hL0 : Lat w (w.alloc (.cells (caC A ps.length c B acts.length m k v).toArray 37)) := Lat.al _ _
  have hb0 := Blk.new w 37 (caC A ps.length c B acts.length m k v).toArray
  have HG := Lib.hid (great_any ps A c acts B m (w.alloc (.cells (caC A ps.length c B acts.length m k v).toArray 37)) (hx.lat hL0))
  have HUN := fun (hf : Fits ps acts) (w' : World) (hl : Lat w w') => Lib.hid (unlike_any ps A c w' (hx.lat hl) (by have := hf.locks; omega))
  obtain ⟨k1, k2, k3⟩ := k
  obtain ⟨v1, v2, v3⟩ := v
  simp only [caC] at hL0 hb0 HG ⊢
  have hc0 := hb0.cell
  go_enter Try.func5, Try.ntmps5
  go_wp2_with fail
  refine HG.out.mono ?_
  rintro r w1 ⟨⟨b, rfl, hb⟩, hl1⟩
  have hL1 := hL0.trans hl1
  have hb1 := hb0.lat hl1
  have hc1 := hb1.cell
  clear HG hc0 hb0 hL0
  cases b
  · have hf := hb rfl
    have HU2 := HUN hf
    clear hb HUN
    have HF := Lib.hid hf
    clear hf
    go_wp2_with fail
    refine (HU2 _ hL1).out.mono ?_
    rintro r w2 ⟨⟨b, rfl, hu⟩, hl2⟩
    have hL2 := hL1.trans hl2
    have hb2 := hb1.lat hl2
    have hc2 := hb2.cell
    clear HU2 hc1 hb1
    cases b
    · clear hu
      go_wp2_with fail
      refine (HLV _).out.mono ?_
      rintro r w4 ⟨rfl, hl4⟩
      have hL4 := hL2.trans hl4
      go_wp2_with fail
      go_ret
      exact ⟨rfl, hL4⟩
    · have HUL := Lib.hid (hu rfl)
      have hpl := HF.out.locks
      have hal := HF.out.acts
      have hw1 : IntKind.i64.wrap ((ps.length : Int) - 1) = (ps.length : Int) - 1 := by rw [IntKind.wrap_i64]; omega
      clear hu
      go_wp2_with fail
      clear hw1
      have H2 := Lib.hid hL2
      go_loopw [3, 5] (fun v i wr => ∃ j : Nat, j ≤ ps.length ∧ i = .int .i64 ((j : Int) - 1) ∧ EL.Own wr w2.heap.size ((ps.drop j).reverse.map Prod.fst) v ∧ Lat w2 wr) (fun _ i _ => (intOf i + 1).toNat)
      case atStart => exact ⟨ps.length, Nat.le_refl _, rfl, by rw [List.drop_of_length_le (Nat.le_refl _)]; exact Elt.Own.nil _ _, Lat.refl _⟩
      case round =>
        clear hL2 hc2
        obtain ⟨j, hjl, rfl, hown, hLW⟩ := hrel
        have hcb := (hb2.lat hLW).cell
        cases j with
        | zero =>
          have hi : ((0 : Nat) : Int) - 1 = -1 := rfl
          have hw2 : IntKind.i64.wrap ((acts.length : Int) - 1) = (acts.length : Int) - 1 := by rw [IntKind.wrap_i64]; omega
          rw [hi]
          have hrq : RdL wr ps.reverse u3 := ⟨hown.rd, fun p hp => (hx.2 p (List.mem_reverse.1 hp)).lat (H2.out.trans hLW)⟩
          obtain ⟨A', c', hA'⟩ := hrq.slice
          rw [List.length_reverse] at hA'
          subst hA'
          have hL3 := H2.out.trans hLW
          have hb3 := hb2.lat hLW
          clear hown hLW hb2 H2
          go_wp2_with fail
          clear hw2 hcb
          generalize wr = w3 at *
          have H3 := Lib.hid hL3
          go_loopw [4, 6] (fun v i wr => ∃ j : Nat, j ≤ acts.length ∧ i = .int .i64 ((j : Int) - 1) ∧ ES.Own wr w3.heap.size (acts.drop j).reverse v ∧ Lat w3 wr) (fun _ i _ => (intOf i + 1).toNat)
          case atStart => exact ⟨acts.length, Nat.le_refl _, rfl, by rw [List.drop_of_length_le (Nat.le_refl _)]; exact Elt.Own.nil _ _, Lat.refl _⟩
          case round =>
            clear hL3
            obtain ⟨j, hjl, rfl, hown, hLW⟩ := hrel
            have hcb := (hb3.lat hLW).cell
            cases j with
            | zero =>
              have hi : ((0 : Nat) : Int) - 1 = -1 := rfl
              rw [hi]
              have hry : ES.Rd wr acts.reverse u4 := hown.rd
              obtain ⟨B', m', hB'⟩ := hown.slice
              rw [show ((acts.drop 0).reverse).length = acts.length from by rw [List.length_reverse]; rfl] at hB'
              subst hB'
              have hL4 := H3.out.trans hLW
              have hb4 := hb3.lat hLW
              have hrq4 := hrq.lat hLW
              have hS : strg ps.reverse acts.reverse = strg ps acts := strg_perm HUL.out (List.reverse_perm ps) (fun x => List.mem_reverse)
              have hFr : Fits ps.reverse acts.reverse := HF.out.perm (List.reverse_perm ps) List.length_reverse
              have HB2 := fun (w' : World) (hl : Lat wr w') => Lib.hid (blocked_any ps A c acts B m ⟨k1, k2, k3⟩ ⟨v1, v2, v3⟩ w' (hx.lat (hL4.trans hl)) (hy.lat (hL4.trans hl)) (by omega) (by omega) HF.out.few)
              have HB1 := fun (w' : World) (hl : Lat wr w') => Lib.hid (show Calls Try.prog 18 #[.slice A' ps.length c', .slice B' acts.length m', .agg (kC ⟨k1, k2, k3⟩).toArray, .agg (vC ⟨v1, v2, v3⟩).toArray] w' (fun r w'' => r = .returned (.string (blkAll ps acts ⟨k1, k2, k3⟩ ⟨v1, v2, v3⟩)) ∧ Lat w' w'') from by
                have h := blocked_any ps.reverse A' c' acts.reverse B' m' ⟨k1, k2, k3⟩ ⟨v1, v2, v3⟩ w' (by rw [List.length_reverse]; exact hrq4.lat hl) (by rw [List.length_reverse]; exact hry.lat hl) (by rw [List.length_reverse]; omega) (by rw [List.length_reverse]; omega) hFr.few
                rw [List.length_reverse, List.length_reverse, show blkAll ps.reverse acts.reverse ⟨k1, k2, k3⟩ ⟨v1, v2, v3⟩ = blkAll ps acts ⟨k1, k2, k3⟩ ⟨v1, v2, v3⟩ from by unfold blkAll; rw [hS]] at h
                exact h)
              have HF2 := fun (w' : World) (hl : Lat wr w') => Lib.hid (forced_at ps A c acts B m w' (hx.lat (hL4.trans hl)) (hy.lat (hL4.trans hl)) HF.out)
              have HC2 := fun (w' : World) (hl : Lat wr w') => Lib.hid (conf_at ps A c acts B m w' (hx.lat (hL4.trans hl)) (hy.lat (hL4.trans hl)) HF.out)
              have HF1 := fun (w' : World) (hl : Lat wr w') => Lib.hid (show Calls Try.prog 12 #[.slice A' ps.length c', .slice B' acts.length m'] w' (fun r w'' => (∃ v, r = .returned v ∧ FoAt (strg ps acts) v w'') ∧ Lat w' w'') from by
                have h := forced_at ps.reverse A' c' acts.reverse B' m' w' (by rw [List.length_reverse]; exact hrq4.lat hl) (by rw [List.length_reverse]; exact hry.lat hl) hFr
                rw [List.length_reverse, List.length_reverse, hS] at h
                exact h)
              have HC1 := fun (w' : World) (hl : Lat wr w') => Lib.hid (show Calls Try.prog 15 #[.slice A' ps.length c', .slice B' acts.length m'] w' (fun r w'' => (∃ v, r = .returned v ∧ CoAt (strg ps acts) v w'') ∧ Lat w' w'') from by
                have h := conf_at ps.reverse A' c' acts.reverse B' m' w' (by rw [List.length_reverse]; exact hrq4.lat hl) (by rw [List.length_reverse]; exact hry.lat hl) hFr
                rw [List.length_reverse, List.length_reverse, hS] at h
                exact h)
              generalize blkAll ps acts ⟨k1, k2, k3⟩ ⟨v1, v2, v3⟩ = R at *
              generalize strg ps acts = S at *
              simp only [kC, vC] at HB1 HB2
              clear hrq4 hry hown hrq hS hFr HUL HF hb3 H3 hLW
              have hrall := hb4.row
              have hbb := hb4.lt
              have hrk : RowAt wr w.heap.size 2 [.int .i64 k1, .string k2, .string k3] := fun q v hq => by
                have hq3 : q < 3 := (List.getElem?_eq_some_iff.1 hq).1
                rw [Nat.add_comm 2 q]
                have := hrall (q + 2) v (by
                  match q, hq3 with
                  | 0, _ => exact hq
                  | 1, _ => exact hq
                  | 2, _ => exact hq)
                rwa [Nat.zero_add] at this
              have hrv : RowAt wr w.heap.size 5 [.int .i64 v1, .int .i64 v2, .string v3] := fun q v hq => by
                have hq3 : q < 3 := (List.getElem?_eq_some_iff.1 hq).1
                rw [Nat.add_comm 5 q]
                have := hrall (q + 5) v (by
                  match q, hq3 with
                  | 0, _ => exact hq
                  | 1, _ => exact hq
                  | 2, _ => exact hq)
                rwa [Nat.zero_add] at this
              clear hrall
              go_wp2_with fail
              clear hcb
              refine wp_rely (by kernel_rfl) (by kernel_rfl) ?_
              apply RelyL.val
              · intro ν w' hL hF K hK'
                go_simp
                exact hK'.out _ _ rfl (Lat.refl _)
              simp only [Act.put, List.setIfInBounds_toArray, List.set_cons_zero, List.set_cons_succ, Nat.reduceAdd]
              apply RelyL.val
              · intro ν w' hL hF K hK'
                go_simp
                exact hK'.out _ _ rfl (Lat.refl _)
              simp only [Act.put, List.setIfInBounds_toArray, List.set_cons_zero, List.set_cons_succ, Nat.reduceAdd]
              apply RelyL.val
              · intro ν w' hL hF K hK'
                go_simp
                exact hK'.out _ _ rfl (Lat.refl _)
              simp only [Act.put, List.setIfInBounds_toArray, List.set_cons_zero, List.set_cons_succ, Nat.reduceAdd]
              apply RelyL.val
              · intro ν w' hL hF K hK'
                refine take_op rfl ?_
                refine wp_load_at 33 _ rfl w.heap.size (2) rfl _ _ (hrk.below hL hbb) Try.underlying33 rfl (by kernel_rfl) ?_
                exact hK'.out _ _ rfl (Lat.refl _)
              simp only [Act.put, List.setIfInBounds_toArray, List.set_cons_zero, List.set_cons_succ, Nat.reduceAdd]
              apply RelyL.val
              · intro ν w' hL hF K hK'
                go_simp
                exact hK'.out _ _ rfl (Lat.refl _)
              simp only [Act.put, List.setIfInBounds_toArray, List.set_cons_zero, List.set_cons_succ, Nat.reduceAdd]
              apply RelyL.val
              · intro ν w' hL hF K hK'
                refine take_op rfl ?_
                refine wp_load_at 35 _ rfl w.heap.size (5) rfl _ _ (hrv.below hL hbb) Try.underlying35 rfl (by kernel_rfl) ?_
                exact hK'.out _ _ rfl (Lat.refl _)
              simp only [Act.put, List.setIfInBounds_toArray, List.set_cons_zero, List.set_cons_succ, Nat.reduceAdd]
              apply RelyL.val
              · intro ν w' hL hF K hK'
                have H := Lib.hid ((HB1 w' hL).out)
                go_simp
                go_at_call 18
                refine H.out.mono ?_
                rintro r w'' ⟨rfl, hbp⟩
                exact hK'.out _ _ rfl hbp
              simp only [Act.put, List.setIfInBounds_toArray, List.set_cons_zero, List.set_cons_succ, Nat.reduceAdd]
              apply RelyL.val
              · intro ν w' hL hF K hK'
                go_simp
                exact hK'.out _ _ rfl (Lat.refl _)
              simp only [Act.put, List.setIfInBounds_toArray, List.set_cons_zero, List.set_cons_succ, Nat.reduceAdd]
              apply RelyL.val
              · intro ν w' hL hF K hK'
                have cx := (hb4.lat hL).cell
                go_simp
                exact hK'.out _ _ rfl (Lat.refl _)
              simp only [Act.put, List.setIfInBounds_toArray, List.set_cons_zero, List.set_cons_succ, Nat.reduceAdd]
              apply RelyL.val
              · intro ν w' hL hF K hK'
                go_simp
                exact hK'.out _ _ rfl (Lat.refl _)
              simp only [Act.put, List.setIfInBounds_toArray, List.set_cons_zero, List.set_cons_succ, Nat.reduceAdd]
              apply RelyL.val
              · intro ν w' hL hF K hK'
                have cx := (hb4.lat hL).cell
                go_simp
                exact hK'.out _ _ rfl (Lat.refl _)
              simp only [Act.put, List.setIfInBounds_toArray, List.set_cons_zero, List.set_cons_succ, Nat.reduceAdd]
              apply RelyL.val
              · intro ν w' hL hF K hK'
                go_simp
                exact hK'.out _ _ rfl (Lat.refl _)
              simp only [Act.put, List.setIfInBounds_toArray, List.set_cons_zero, List.set_cons_succ, Nat.reduceAdd]
              apply RelyL.val
              · intro ν w' hL hF K hK'
                refine take_op rfl ?_
                refine wp_load_at 33 _ rfl w.heap.size (2) rfl _ _ (hrk.below hL hbb) Try.underlying33 rfl (by kernel_rfl) ?_
                exact hK'.out _ _ rfl (Lat.refl _)
              simp only [Act.put, List.setIfInBounds_toArray, List.set_cons_zero, List.set_cons_succ, Nat.reduceAdd]
              apply RelyL.val
              · intro ν w' hL hF K hK'
                go_simp
                exact hK'.out _ _ rfl (Lat.refl _)
              simp only [Act.put, List.setIfInBounds_toArray, List.set_cons_zero, List.set_cons_succ, Nat.reduceAdd]
              apply RelyL.val
              · intro ν w' hL hF K hK'
                refine take_op rfl ?_
                refine wp_load_at 35 _ rfl w.heap.size (5) rfl _ _ (hrv.below hL hbb) Try.underlying35 rfl (by kernel_rfl) ?_
                exact hK'.out _ _ rfl (Lat.refl _)
              simp only [Act.put, List.setIfInBounds_toArray, List.set_cons_zero, List.set_cons_succ, Nat.reduceAdd]
              apply RelyL.val
              · intro ν w' hL hF K hK'
                have H := Lib.hid ((HB2 w' hL).out)
                go_simp
                go_at_call 18
                refine H.out.mono ?_
                rintro r w'' ⟨rfl, hbp⟩
                exact hK'.out _ _ rfl hbp
              simp only [Act.put, List.setIfInBounds_toArray, List.set_cons_zero, List.set_cons_succ, Nat.reduceAdd]
              apply RelyL.val
              · intro ν w' hL hF K hK'
                go_simp
                exact hK'.out _ _ rfl (Lat.refl _)
              simp only [Act.put, List.setIfInBounds_toArray, List.set_cons_zero, List.set_cons_succ, Nat.reduceAdd]
              apply RelyL.val
              · intro ν w' hL hF K hK'
                go_simp
                exact hK'.out _ _ rfl (Lat.refl _)
              simp only [Act.put, List.setIfInBounds_toArray, List.set_cons_zero, List.set_cons_succ, Nat.reduceAdd]
              apply RelyL.val
              · intro ν w' hL hF K hK'
                go_simp
                exact hK'.out _ _ rfl (Lat.refl _)
              simp only [Act.put, List.setIfInBounds_toArray, List.set_cons_zero, List.set_cons_succ, Nat.reduceAdd]
              apply RelyL.val
              · intro ν w' hL hF K hK'
                go_simp
                exact hK'.out _ _ rfl (Lat.refl _)
              simp only [Act.put, List.setIfInBounds_toArray, List.set_cons_zero, List.set_cons_succ, Nat.reduceAdd]
              refine RelyL.law (FoAt S) (fun v w1 w2 hl h => FoAt.lat hl h) (fun ν w' hL hF K hK => ?_) ?_
              · have H := HF1 w' hL
                clear hF
                go_simp
                go_at_call 12
                refine H.out.mono ?_
                rintro r w'' ⟨⟨u, rfl, hu⟩, hl⟩
                exact hK.out _ _ _ rfl hu hl
              simp only [Act.put, List.setIfInBounds_toArray, List.set_cons_zero, List.set_cons_succ, Nat.reduceAdd]
              apply RelyL.val
              · intro ν w' hL hF K hK'
                go_simp
                exact hK'.out _ _ rfl (Lat.refl _)
              simp only [Act.put, List.setIfInBounds_toArray, List.set_cons_zero, List.set_cons_succ, Nat.reduceAdd]
              apply RelyL.val
              · intro ν w' hL hF K hK'
                have cx := (hb4.lat hL).cell
                go_simp
                exact hK'.out _ _ rfl (Lat.refl _)
              simp only [Act.put, List.setIfInBounds_toArray, List.set_cons_zero, List.set_cons_succ, Nat.reduceAdd]
              apply RelyL.val
              · intro ν w' hL hF K hK'
                go_simp
                exact hK'.out _ _ rfl (Lat.refl _)
              simp only [Act.put, List.setIfInBounds_toArray, List.set_cons_zero, List.set_cons_succ, Nat.reduceAdd]
              apply RelyL.val
              · intro ν w' hL hF K hK'
                have cx := (hb4.lat hL).cell
                go_simp
                exact hK'.out _ _ rfl (Lat.refl _)
              simp only [Act.put, List.setIfInBounds_toArray, List.set_cons_zero, List.set_cons_succ, Nat.reduceAdd]
              refine RelyL.law (FoAt S) (fun v w1 w2 hl h => FoAt.lat hl h) (fun ν w' hL hF K hK => ?_) ?_
              · have H := HF2 w' hL
                clear hF
                go_simp
                go_at_call 12
                refine H.out.mono ?_
                rintro r w'' ⟨⟨u, rfl, hu⟩, hl⟩
                exact hK.out _ _ _ rfl hu hl
              simp only [Act.put, List.setIfInBounds_toArray, List.set_cons_zero, List.set_cons_succ, Nat.reduceAdd]
              apply RelyL.val
              · intro ν w' hL hF K hK'
                have f1 := hF.get 0 rfl (by kernel_rfl)
                have f0 := hF.get 1 rfl (by kernel_rfl)
                dsimp only at f0 f1
                have H := Lib.hid (same_fo f0 f1)
                clear hF f0 f1
                generalize ν 20 = y0 at *
                generalize ν 25 = y1 at *
                go_simp
                go_at_call 11
                refine H.out.mono ?_
                rintro r w'' ⟨rfl, hbp⟩
                exact hK'.out _ _ rfl hbp
              simp only [Act.put, List.setIfInBounds_toArray, List.set_cons_zero, List.set_cons_succ, Nat.reduceAdd]
              apply RelyL.val
              · intro ν w' hL hF K hK'
                go_simp
                exact hK'.out _ _ rfl (Lat.refl _)
              simp only [Act.put, List.setIfInBounds_toArray, List.set_cons_zero, List.set_cons_succ, Nat.reduceAdd]
              apply RelyL.val
              · intro ν w' hL hF K hK'
                go_simp
                exact hK'.out _ _ rfl (Lat.refl _)
              simp only [Act.put, List.setIfInBounds_toArray, List.set_cons_zero, List.set_cons_succ, Nat.reduceAdd]
              apply RelyL.val
              · intro ν w' hL hF K hK'
                go_simp
                exact hK'.out _ _ rfl (Lat.refl _)
              simp only [Act.put, List.setIfInBounds_toArray, List.set_cons_zero, List.set_cons_succ, Nat.reduceAdd]
              apply RelyL.val
              · intro ν w' hL hF K hK'
                go_simp
                exact hK'.out _ _ rfl (Lat.refl _)
              simp only [Act.put, List.setIfInBounds_toArray, List.set_cons_zero, List.set_cons_succ, Nat.reduceAdd]
              refine RelyL.law (CoAt S) (fun v w1 w2 hl h => CoAt.lat hl h) (fun ν w' hL hF K hK => ?_) ?_
              · have H := HC1 w' hL
                clear hF
                go_simp
                go_at_call 15
                refine H.out.mono ?_
                rintro r w'' ⟨⟨u, rfl, hu⟩, hl⟩
                exact hK.out _ _ _ rfl hu hl
              simp only [Act.put, List.setIfInBounds_toArray, List.set_cons_zero, List.set_cons_succ, Nat.reduceAdd]
              apply RelyL.val
              · intro ν w' hL hF K hK'
                go_simp
                exact hK'.out _ _ rfl (Lat.refl _)
              simp only [Act.put, List.setIfInBounds_toArray, List.set_cons_zero, List.set_cons_succ, Nat.reduceAdd]
              apply RelyL.val
              · intro ν w' hL hF K hK'
                have cx := (hb4.lat hL).cell
                go_simp
                exact hK'.out _ _ rfl (Lat.refl _)
              simp only [Act.put, List.setIfInBounds_toArray, List.set_cons_zero, List.set_cons_succ, Nat.reduceAdd]
              apply RelyL.val
              · intro ν w' hL hF K hK'
                go_simp
                exact hK'.out _ _ rfl (Lat.refl _)
              simp only [Act.put, List.setIfInBounds_toArray, List.set_cons_zero, List.set_cons_succ, Nat.reduceAdd]
              apply RelyL.val
              · intro ν w' hL hF K hK'
                have cx := (hb4.lat hL).cell
                go_simp
                exact hK'.out _ _ rfl (Lat.refl _)
              simp only [Act.put, List.setIfInBounds_toArray, List.set_cons_zero, List.set_cons_succ, Nat.reduceAdd]
              refine RelyL.law (CoAt S) (fun v w1 w2 hl h => CoAt.lat hl h) (fun ν w' hL hF K hK => ?_) ?_
              · have H := HC2 w' hL
                clear hF
                go_simp
                go_at_call 15
                refine H.out.mono ?_
                rintro r w'' ⟨⟨u, rfl, hu⟩, hl⟩
                exact hK.out _ _ _ rfl hu hl
              simp only [Act.put, List.setIfInBounds_toArray, List.set_cons_zero, List.set_cons_succ, Nat.reduceAdd]
              apply RelyL.val
              · intro ν w' hL hF K hK'
                have f1 := hF.get 0 rfl (by kernel_rfl)
                have f0 := hF.get 1 rfl (by kernel_rfl)
                dsimp only at f0 f1
                have H := Lib.hid (same_co f0 f1)
                clear hF f0 f1
                generalize ν 31 = y0 at *
                generalize ν 36 = y1 at *
                go_simp
                go_at_call 14
                refine H.out.mono ?_
                rintro r w'' ⟨rfl, hbp⟩
                exact hK'.out _ _ rfl hbp
              simp only [Act.put, List.setIfInBounds_toArray, List.set_cons_zero, List.set_cons_succ, Nat.reduceAdd]
              apply RelyL.val
              · intro ν w' hL hF K hK'
                go_simp
                exact hK'.out _ _ rfl (Lat.refl _)
              simp only [Act.put, List.setIfInBounds_toArray, List.set_cons_zero, List.set_cons_succ, Nat.reduceAdd]
              apply RelyL.val
              · intro ν w' hL hF K hK'
                go_simp
                exact hK'.out _ _ rfl (Lat.refl _)
              simp only [Act.put, List.setIfInBounds_toArray, List.set_cons_zero, List.set_cons_succ, Nat.reduceAdd]
              apply RelyL.val
              · intro ν w' hL hF K hK'
                have H := Lib.hid ((HLV w').out)
                go_simp
                go_at_call 10
                refine H.out.mono ?_
                rintro r w'' ⟨rfl, hbp⟩
                exact hK'.out _ _ rfl hbp
              simp only [Act.put, List.setIfInBounds_toArray, List.set_cons_zero, List.set_cons_succ, Nat.reduceAdd]
              apply RelyL.val
              · intro ν w' hL hF K hK'
                go_simp
                exact hK'.out _ _ rfl (Lat.refl _)
              simp only [Act.put, List.setIfInBounds_toArray, List.set_cons_zero, List.set_cons_succ, Nat.reduceAdd]
              apply RelyL.val
              · intro ν w' hL hF K hK'
                go_simp
                exact hK'.out _ _ rfl (Lat.refl _)
              simp only [Act.put, List.setIfInBounds_toArray, List.set_cons_zero, List.set_cons_succ, Nat.reduceAdd]
              refine RelyL.done fun ν w9 hL9 hF => ?_
              clear hF
              generalize ν 20 = y20 at *
              generalize ν 25 = y25 at *
              generalize ν 31 = y31 at *
              generalize ν 36 = y36 at *
              have hL10 := hL4.trans hL9
              go_wp2_with fail
              go_ret
              exact ⟨rfl, hL10⟩
            | succ j =>
              have hi : ((j + 1 : Nat) : Int) - 1 = (j : Int) := by omega
              rw [hi]
              have hlt : j < acts.length := by omega
              obtain ⟨b, off, hA, hbb, hr1'⟩ := (hy.lat (H3.out.trans hLW)).row j hlt
              subst hA
              have hr1 : RowAt wr b (off + j * 1) [.string acts[j]] := hr1'
              have cx := hr1 0 _ rfl
              rw [Nat.mul_one, Nat.add_zero] at cx
              have htk : (acts.drop j).reverse = (acts.drop (j + 1)).reverse ++ [acts[j]] := by
                rw [List.drop_eq_getElem_cons hlt, List.reverse_cons]
              have hlen : (acts.drop (j + 1)).reverse.length ≤ 60 := by
                rw [List.length_reverse, List.length_drop]; omega
              clear hr1 hr1'
              generalize acts[j] = X at *
              generalize (acts.drop (j + 1)).reverse = Y at *
              have HTK := Lib.hid htk
              have hw3 : IntKind.i64.wrap ((j : Int) - 1) = (j : Int) - 1 := by rw [IntKind.wrap_i64]; omega
              clear htk
              have hown3 := hown.al (.cells #[.string X] 9)
              have hnew := Blk.new wr 9 #[.string X]
              have hL3 : Lat w3 (wr.alloc (.cells #[.string X] 9)) := hLW.trans (Lat.al _ _)
              have hbse := hL3.size
              have hmax : Y.length + 1 ≤ maxLen := by unfold maxLen; omega
              have hby : (Y.length + 1) * ES.bytes ≤ 140737488355328 := Nat.le_trans (Nat.mul_le_mul_right ES.bytes (by omega : Y.length + 1 ≤ 1000000)) (by decide)
              have HT := Lib.hid (fun k (hk : u4.ownBlock = some k) => (hown.lt k hk).1)
              have HL := Lib.hid hL3
              clear hown hL3 hLW
              go_wp2_with (at_builtin; refine ES.append rfl _ _ rfl w3.heap.size Y _ rfl hown3 wr.heap.size 1 X rfl 9 hnew hmax hby hbse ?_; intro v6 w6 hown6 hg6 hw6; go_must (have hLW7 : Lat w3 w6 := HL.out.grown hg6 hbse HT.out; clear hnew hg6 hw6 hcb cx))
              go_roundw
              case rel => exact ⟨j, by omega, rfl, by rw [HTK.out]; exact hown6, hLW7⟩
              case measure => (simp [intOf]) <;> omega
        | succ j =>
          have hi : ((j + 1 : Nat) : Int) - 1 = (j : Int) := by omega
          rw [hi]
          have hlt : j < ps.length := by omega
          obtain ⟨b, off, hA, hbb, hr1, _⟩ := (hx.lat (H2.out.trans hLW)).row j hlt
          subst hA
          have htk : (ps.drop j).reverse.map Prod.fst = (ps.drop (j + 1)).reverse.map Prod.fst ++ [ps[j].1] := by
            rw [List.drop_eq_getElem_cons hlt, List.reverse_cons, List.map_append]; rfl
          have hlen : ((ps.drop (j + 1)).reverse.map Prod.fst).length ≤ 30 := by
            rw [List.length_map, List.length_reverse, List.length_drop]; omega
          generalize ps[j].1 = X at *
          generalize (ps.drop (j + 1)).reverse.map Prod.fst = Y at *
          have HTK := Lib.hid htk
          have hw3 : IntKind.i64.wrap ((j : Int) - 1) = (j : Int) - 1 := by rw [IntKind.wrap_i64]; omega
          clear htk
          obtain ⟨a1, a2, ⟨b1, b2, b3, b4, ⟨b5, b6, b7⟩, ⟨b8, b9, b10⟩, b11, b12, b13⟩, a3, a4, a5, a6, a7, a8, a9⟩ := X
          simp only [lkC, whC, kC, vC, List.cons_append, List.nil_append] at hr1 HTK
          have hown3 := hown.al (.cells #[.string a1, .int .i64 a2, .int .i64 b1, .int .i64 b2, .int .i64 b3, .string b4, .int .i64 b5, .int .i64 b6, .string b7, .int .i64 b8, .string b9, .string b10, .slice b11 b12 b13, .bool a3, .slice a4 a5 a6, .slice a7 a8 a9] 47)
          have hnew := Blk.new wr 47 #[.string a1, .int .i64 a2, .int .i64 b1, .int .i64 b2, .int .i64 b3, .string b4, .int .i64 b5, .int .i64 b6, .string b7, .int .i64 b8, .string b9, .string b10, .slice b11 b12 b13, .bool a3, .slice a4 a5 a6, .slice a7 a8 a9]
          have hL3 : Lat w2 (wr.alloc (.cells #[.string a1, .int .i64 a2, .int .i64 b1, .int .i64 b2, .int .i64 b3, .string b4, .int .i64 b5, .int .i64 b6, .string b7, .int .i64 b8, .string b9, .string b10, .slice b11 b12 b13, .bool a3, .slice a4 a5 a6, .slice a7 a8 a9] 47)) := hLW.trans (Lat.al _ _)
          have hbse := hL3.size
          have hmax : Y.length + 1 ≤ maxLen := by unfold maxLen; omega
          have hby : (Y.length + 1) * EL.bytes ≤ 140737488355328 := Nat.le_trans (Nat.mul_le_mul_right EL.bytes (by omega : Y.length + 1 ≤ 1000000)) (by decide)
          have HT := Lib.hid (fun k (hk : u3.ownBlock = some k) => (hown.lt k hk).1)
          have HL := Lib.hid hL3
          clear hown hL3 hLW
          go_wp2_with (first | (with_reducible refine wpList_load_at rfl 47 _ rfl b (off + j * 16) rfl _ _ hr1 Try.underlying47 rfl (by kernel_rfl) ?_) | (at_builtin; refine EL.append rfl _ _ rfl w2.heap.size Y _ rfl hown3 wr.heap.size 1 (⟨a1, a2, ⟨b1, b2, b3, b4, ⟨b5, b6, b7⟩, ⟨b8, b9, b10⟩, b11, b12, b13⟩, a3, a4, a5, a6, a7, a8, a9⟩ : LkR) rfl 47 hnew hmax hby hbse ?_; intro v6 w6 hown6 hg6 hw6; go_must (have hLW7 : Lat w2 w6 := HL.out.grown hg6 hbse HT.out; clear hnew hg6 hw6 hr1 hcb)))
          go_roundw
          case rel => exact ⟨j, by omega, rfl, by rw [HTK.out]; exact hown6, hLW7⟩
          case measure => (simp [intOf]) <;> omega
  · clear HUN hb
    go_wp2_with fail
    refine (HLV _).out.mono ?_
    rintro r w4 ⟨rfl, hl4⟩
    have hL4 := hL1.trans hl4
    go_wp2_with fail
    go_ret
    exact ⟨rfl, hL4⟩
end Go.Proofs.Ytmgalnbacenbbaa
