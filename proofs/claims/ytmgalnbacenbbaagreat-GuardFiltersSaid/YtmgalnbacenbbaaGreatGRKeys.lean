/- Guard: the reference's keys: the forced keys, each once, in order; Clamp. -/
import Derived.Test.YtmgalnbacenbbaaGreatGPutW
import Derived.Test.YtmgalnbacenbbaaGreatGForced
set_option linter.unusedSimpArgs false
set_option linter.unusedVariables false
namespace Go.Proofs.YtmgalnbacenbbaaGreat
open Go.RowKit

def HasF (ps : List (LkR × LLock)) (k : LKey) : Prop := ∃ p ∈ ps, ∃ it ∈ p.2.force, it.key = k
/-- The forced keys so far. -/
structure RKs (ps : List (LkR × LLock)) (fs : List LItem) (acc : List LKey) (n : Nat) : Prop where
  asc : acc.Pairwise (fun a b => kless a b = true)
  mem : ∀ k, k ∈ acc ↔ (HasF ps k ∨ ∃ it ∈ fs, it.key = k)
  len : acc.length ≤ n
theorem RKs.put {ps : List (LkR × LLock)} {fs : List LItem} {acc : List LKey} {n : Nat} (h : RKs ps fs acc n) (x : LItem) : RKs ps (fs ++ [x]) (putS x.key false acc) (n + 1) := by
  refine ⟨putS_asc _ _ h.asc, fun k => ?_, ?_⟩
  · rw [putS_mem, h.mem]
    constructor
    · rintro (rfl | h | ⟨it, hi, e⟩)
      · exact .inr ⟨x, by simp, rfl⟩
      · exact .inl h
      · exact .inr ⟨it, by simp [hi], e⟩
    · rintro (h | ⟨it, hi, e⟩)
      · exact .inr (.inl h)
      · rcases List.mem_append.1 hi with hi | hi
        · exact .inr (.inr ⟨it, hi, e⟩)
        · rw [List.mem_singleton] at hi; subst hi; exact .inl e.symm
  · have h1 := putS_len x.key false acc
    have h2 := h.len
    simp at h1
    omega
theorem RKs.next {ps : List (LkR × LLock)} {p : LkR × LLock} {acc : List LKey} {n m : Nat} (h : RKs ps p.2.force acc n) (hm : n ≤ m) : RKs (ps ++ [p]) [] acc m := by
  refine ⟨h.asc, fun k => ?_, Nat.le_trans h.len hm⟩
  rw [h.mem]
  constructor
  · rintro (⟨q, hq, h⟩ | ⟨it, hi, e⟩)
    · exact .inl ⟨q, by simp [hq], h⟩
    · exact .inl ⟨p, by simp, it, hi, e⟩
  · rintro (⟨q, hq, it, hi, e⟩ | ⟨it, hi, e⟩)
    · rcases List.mem_append.1 hq with hq | hq
      · exact .inl ⟨q, hq, it, hi, e⟩
      · rw [List.mem_singleton] at hq; subst hq; exact .inr ⟨it, hi, e⟩
    · simp at hi
set_option maxRecDepth 100000 in
set_option maxHeartbeats 4000000 in
theorem rkeys_any (ps : List (LkR × LLock)) (A : Option Addr) (c : Nat) (w : World) (hx : RdL w ps (.slice A ps.length c)) (hl : ps.length < 40) (hi : ∀ p ∈ ps, p.2.force.length ≤ 30) :
    Calls Tryz.prog 44 #[.slice A ps.length c] w fun r w' => ∃ ks v, r = .returned v ∧ EK.Own w' w.heap.size ks v ∧ ks.length ≤ 1200 ∧ ks.Pairwise (fun a b => kless a b = true) ∧ (∀ k, k ∈ ks ↔ HasF ps k) ∧ Lat w w' := by
  have HI := Lib.hid hi
  clear hi
  go_enter Tryz.func44, Tryz.ntmps44
  go_wp2_with fail
  go_loopw [3, 4] (fun v i wr => ∃ (j : Nat) (acc : List LKey), j ≤ ps.length ∧ i = .int .i64 j ∧ Hid (RKs (ps.take j) [] acc (j * 30)) ∧ EK.Own wr w.heap.size acc v ∧ Lat w wr) (fun _ i _ => ps.length - (intOf i).toNat)
  case atStart => exact ⟨0, [], Nat.zero_le _, rfl, Lib.hid ⟨List.Pairwise.nil, fun k => by simp [HasF], Nat.le_refl _⟩, Elt.Own.nil _ _, Lat.refl _⟩
  case round =>
    obtain ⟨j, acc, hjl, rfl, HK, hown, hLW⟩ := hrel
    by_cases hlt : j < ps.length
    · have hfl := HI.out _ (List.getElem_mem hlt)
      have HNX := Lib.hid (show ∀ (acc : List LKey) (n m : Nat), RKs (ps.take j) ps[j].2.force acc n → n ≤ m → RKs (ps.take (j + 1)) [] acc m from fun acc n m h hm => by
        rw [List.take_succ_eq_append_getElem hlt]; exact h.next hm)
      go_wp2_with fail
      have H2 := Lib.hid hLW
      go_loopw [3, 5] (fun v i wr => ∃ (q : Nat) (acc : List LKey), q ≤ ps[j].2.force.length ∧ i = .int .i64 q ∧ Hid (RKs (ps.take j) (ps[j].2.force.take q) acc (j * 30 + q)) ∧ EK.Own wr w.heap.size acc v ∧ Lat w wr) (fun _ i _ => ps[j].2.force.length - (intOf i).toNat)
      case atStart => exact ⟨0, acc, Nat.zero_le _, rfl, HK, hown, hLW⟩
      case round =>
        clear hLW hown HK H2
        obtain ⟨q, acc, hql, rfl, HK, hown, hLW⟩ := hrel
        obtain ⟨b, off, hA, hbb, hr1, hsy⟩ := (hx.lat hLW).row j hlt
        subst hA
        have hfn := Says.fn hsy
        have hfo := hsy.force
        rw [hfn] at hfo
        have cf : wr.cell? ⟨b, off + j * 16 + 14, none⟩ = some (.slice ps[j].1.FA ps[j].1.Fn ps[j].1.Fc) := hr1 14 _ rfl
        rw [hfn] at cf
        clear hr1 hsy hfn
        generalize ps[j].1.FA = FA at *
        generalize ps[j].1.Fc = Fc at *
        by_cases hq : q < ps[j].2.force.length
        · obtain ⟨b2, off2, hB, hbb2, hr2'⟩ := hfo.row q hq
          subst hB
          have hr2 : RowAt wr b2 (off2 + q * 7) (iC (ps[j].2.force[q])) := hr2'
          have hrk := iC_key hr2
          have HK2 := Lib.hid (HK.out.put (ps[j].2.force[q]))
          rw [← List.take_succ_eq_append_getElem hq] at HK2
          have hal := HK.out.len
          generalize ps[j].2.force[q] = X at *
          clear hr2 hr2' HK hfo
          obtain ⟨A3, c3, rfl⟩ := hown.slice
          have HP := Lib.hid (put_any acc A3 c3 X.key wr hown.rd (by omega))
          generalize X.key = XK at *
          obtain ⟨x1, x2, x3⟩ := XK
          have hrk2 : RowAt wr b2 (off2 + q * 7) [.int .i64 x1, .string x2, .string x3] := hrk
          simp only [kC] at HP
          go_wp2_with (with_reducible refine wpList_load_at rfl 34 _ rfl b2 (off2 + q * 7) rfl _ _ hrk2 Tryz.underlying34 rfl (by kernel_rfl) ?_)
          refine HP.out.mono ?_
          rintro r w3 ⟨v3, rfl, hown3, hl3⟩
          have hL3 := hLW.trans hl3
          have hown4 := hown3.mono hLW.size
          clear HP hown hown3 hl3 hrk hrk2 cf
          go_wp2_with fail
          go_roundw
          case rel => exact ⟨q + 1, _, by omega, by go_num, HK2, hown4, hL3⟩
          case measure => simp [intOf]; omega
        · have hqe : q = ps[j].2.force.length := by omega
          have HK2 : Hid (RKs (ps.take j) ps[j].2.force acc (j * 30 + q)) := Lib.hid (by
            have h := HK.out
            rwa [show ps[j].2.force.take q = ps[j].2.force from List.take_of_length_le (by omega)] at h)
          have HK3 := Lib.hid (HNX.out acc (j * 30 + q) ((j + 1) * 30) HK2.out (by omega))
          clear HK HK2 hfo
          go_wp2_with fail
          go_roundw
          case rel => exact ⟨j + 1, acc, by omega, by go_num, HK3, hown, hLW⟩
          case measure => simp [intOf]; omega
    · have hj : j = ps.length := by omega
      subst hj
      have HF : Hid (acc.length ≤ 1200 ∧ acc.Pairwise (fun a b => kless a b = true) ∧ ∀ k, k ∈ acc ↔ HasF ps k) := Lib.hid (by
        have h := HK.out
        rw [List.take_length] at h
        refine ⟨?_, h.asc, fun k => ?_⟩
        · have := h.len; omega
        · rw [h.mem]; simp)
      clear HK
      go_wp2_with fail
      go_ret
      exact ⟨acc, _, rfl, hown, HF.out.1, HF.out.2.1, HF.out.2.2, hLW⟩
end Go.Proofs.YtmgalnbacenbbaaGreat
