/- Guard: the first of a list: names, items. -/
import Derived.Test.YtmgalnbacenbbaaGreatGOps
import Derived.Shelf.Abstract
set_option linter.unusedSimpArgs false
set_option linter.unusedVariables false
namespace Go.Proofs.YtmgalnbacenbbaaGreat
open Go.RowKit

/-- The first place of what is asked for, or -1. -/
def IdxAt {α : Type} (p : α → Bool) (l : List α) (z : Int) : Prop := (z = -1 ∧ ∀ x ∈ l, p x = false) ∨ ∃ (j : Nat) (h : j < l.length), z = (j : Int) ∧ p l[j] = true ∧ ∀ (q : Nat) (hq : q < j), p (l[q]'(Nat.lt_trans hq h)) = false
/-- None so far. -/
def NoneTo {α : Type} (p : α → Bool) (l : List α) (j : Nat) : Prop := ∀ (q : Nat) (hq : q < l.length), q < j → p l[q] = false
theorem NoneTo.zero {α : Type} (p : α → Bool) (l : List α) : NoneTo p l 0 := fun q hq h => by omega
theorem NoneTo.step {α : Type} {p : α → Bool} {l : List α} {j : Nat} (h : NoneTo p l j) (hj : j < l.length) (hp : p l[j] = false) : NoneTo p l (j + 1) := fun q hq hlt => by
  by_cases e : q = j
  · subst e; exact hp
  · exact h q hq (by omega)
theorem NoneTo.found {α : Type} {p : α → Bool} {l : List α} {j : Nat} (h : NoneTo p l j) (hj : j < l.length) (hp : p l[j] = true) : IdxAt p l (j : Int) := .inr ⟨j, hj, rfl, hp, fun q hq => h q _ hq⟩
theorem NoneTo.none {α : Type} {p : α → Bool} {l : List α} {j : Nat} (h : NoneTo p l j) (hj : l.length ≤ j) : IdxAt p l (-1) := .inl ⟨rfl, fun x hx => by
  obtain ⟨q, hq, rfl⟩ := List.getElem_of_mem hx
  exact h q hq (by omega)⟩
theorem IdxAt.any {α : Type} {p : α → Bool} {l : List α} {z : Int} (h : IdxAt p l z) : decide (0 ≤ z) = l.any p := by
  rcases h with ⟨rfl, h⟩ | ⟨j, hj, rfl, hp, h⟩
  · rw [decide_eq_false (by omega)]
    symm
    rw [List.any_eq_false]
    intro x hx; simp [h x hx]
  · rw [decide_eq_true (by omega)]
    symm
    rw [List.any_eq_true]
    exact ⟨l[j], List.getElem_mem hj, hp⟩
theorem IdxAt.find {α : Type} {p : α → Bool} {l : List α} {z : Int} (h : IdxAt p l z) : (z = -1 ∧ l.find? p = none) ∨ ∃ (j : Nat) (h : j < l.length), z = (j : Int) ∧ l.find? p = some l[j] := by
  rcases h with ⟨rfl, h⟩ | ⟨j, hj, rfl, hp, h⟩
  · exact .inl ⟨rfl, List.find?_eq_none.2 fun x hx => by simp [h x hx]⟩
  · exact .inr ⟨j, hj, rfl, by rw [List.find?_eq_some_iff_getElem]; exact ⟨hp, j, hj, rfl, fun q hq => by simp [h q hq]⟩⟩
set_option maxRecDepth 100000 in
set_option maxHeartbeats 1000000 in
theorem index_any (l : List ByteArray) (A : Option Addr) (c : Nat) (s : ByteArray) (w : World) (hx : ES.Rd w l (.slice A l.length c)) (hbig : l.length ≤ 1000000) :
    Calls Tryz.prog 53 #[.slice A l.length c, .string s] w fun r w' => (∃ z, r = .returned (.int .i64 z) ∧ IdxAt (fun x => decide (x = s)) l z) ∧ Lat w w' := by
  have H0 := Lib.hid (NoneTo.zero (fun x => decide (x = s)) l)
  go_enter Tryz.func53, Tryz.ntmps53
  go_wp2_with fail
  go_loopw [5, 8] (fun _ i wr => ∃ j : Nat, j ≤ l.length ∧ i = .int .i64 j ∧ Hid (NoneTo (fun x => decide (x = s)) l j) ∧ Lat w wr) (fun _ i _ => l.length - (intOf i).toNat)
  case atStart => exact ⟨0, Nat.zero_le _, rfl, H0, Lat.refl _⟩
  case round =>
    obtain ⟨j, hjl, rfl, HN, hLW⟩ := hrel
    by_cases hlt : j < l.length
    · obtain ⟨b, off, hA, hb1, hr1'⟩ := (hx.lat hLW).row j hlt
      subst hA
      have hr1 : RowAt wr b (off + j * 1) [.string l[j]] := hr1'
      have cx := hr1 0 _ rfl
      rw [Nat.mul_one, Nat.add_zero] at cx
      by_cases he : l[j] = s
      · have e1 : (s.toList == l[j].toList) = true := by rw [he]; simp
        have e2 : (l[j].toList == s.toList) = true := by rw [he]; simp
        have HF := Lib.hid (HN.out.found hlt (decide_eq_true he))
        clear he hr1 hr1' HN
        go_wp2_with fail
        go_ret
        exact ⟨⟨_, rfl, HF.out⟩, hLW⟩
      · have e1 : (s.toList == l[j].toList) = false := by rw [toList_beq]; simp; exact fun h => he h.symm
        have e2 : (l[j].toList == s.toList) = false := by rw [toList_beq]; simp [he]
        have HF := Lib.hid (HN.out.step hlt (decide_eq_false he))
        clear he hr1 hr1' HN
        go_wp2_with fail
        go_roundw
        case rel => exact ⟨j + 1, by omega, by go_num, HF, hLW⟩
        case measure => simp [intOf]; omega
    · have HF := Lib.hid (HN.out.none (by omega : l.length ≤ j))
      clear HN
      go_wp2_with fail
      go_ret
      exact ⟨⟨_, rfl, HF.out⟩, hLW⟩
set_option maxRecDepth 100000 in
set_option maxHeartbeats 1000000 in
theorem rindex_any (l : List ByteArray) (A : Option Addr) (c : Nat) (s : ByteArray) (w : World) (hx : ES.Rd w l (.slice A l.length c)) (hbig : l.length ≤ 1000000) :
    Calls Tryz.prog 66 #[.slice A l.length c, .string s] w fun r w' => (∃ z, r = .returned (.int .i64 z) ∧ IdxAt (fun x => decide (x = s)) l z) ∧ Lat w w' := by
  have H0 := Lib.hid (NoneTo.zero (fun x => decide (x = s)) l)
  go_enter Tryz.func66, Tryz.ntmps66
  go_wp2_with fail
  go_loopw [5] (fun i wr => ∃ j : Nat, j ≤ l.length ∧ i = .int .i64 j ∧ Hid (NoneTo (fun x => decide (x = s)) l j) ∧ Lat w wr) (fun i _ => l.length - (intOf i).toNat)
  case atStart => exact ⟨0, Nat.zero_le _, rfl, H0, Lat.refl _⟩
  case round =>
    obtain ⟨j, hjl, rfl, HN, hLW⟩ := hrel
    by_cases hlt : j < l.length
    · obtain ⟨b, off, hA, hb1, hr1'⟩ := (hx.lat hLW).row j hlt
      subst hA
      have hr1 : RowAt wr b (off + j * 1) [.string l[j]] := hr1'
      have cx := hr1 0 _ rfl
      rw [Nat.mul_one, Nat.add_zero] at cx
      by_cases he : l[j] = s
      · have e1 : (s.toList == l[j].toList) = true := by rw [he]; simp
        have e2 : (l[j].toList == s.toList) = true := by rw [he]; simp
        have HF := Lib.hid (HN.out.found hlt (decide_eq_true he))
        clear he hr1 hr1' HN
        go_wp2_with fail
        go_ret
        exact ⟨⟨_, rfl, HF.out⟩, hLW⟩
      · have e1 : (s.toList == l[j].toList) = false := by rw [toList_beq]; simp; exact fun h => he h.symm
        have e2 : (l[j].toList == s.toList) = false := by rw [toList_beq]; simp [he]
        have HF := Lib.hid (HN.out.step hlt (decide_eq_false he))
        clear he hr1 hr1' HN
        go_wp2_with fail
        go_roundw
        case rel => exact ⟨j + 1, by omega, by go_num, HF, hLW⟩
        case measure => simp [intOf]; omega
    · have HF := Lib.hid (HN.out.none (by omega : l.length ≤ j))
      clear HN
      go_wp2_with fail
      go_ret
      exact ⟨⟨_, rfl, HF.out⟩, hLW⟩
theorem contains_any (l : List ByteArray) (A : Option Addr) (c : Nat) (s : ByteArray) (w : World) (hx : ES.Rd w l (.slice A l.length c)) (hbig : l.length ≤ 1000000) :
    Calls Tryz.prog 25 #[.slice A l.length c, .string s] w fun r w' => r = .returned (.bool (l.any (fun x => decide (x = s)))) ∧ Lat w w' := by
  have H := Lib.hid (index_any l A c s w hx hbig)
  generalize hB : l.any (fun x => decide (x = s)) = B at *
  have HB := Lib.hid hB
  clear hB
  go_enter Tryz.func25, Tryz.ntmps25
  go_wp2_with fail
  refine H.out.mono ?_
  rintro r w1 ⟨⟨z, rfl, hz⟩, hl1⟩
  have e := Lib.hid (hz.any)
  clear hz
  go_wp2_with fail
  go_ret
  rw [← HB.out, ← e.out]
  exact ⟨ret_bool (by simp), hl1⟩
/-- An item of a key. -/
def isK (k : LKey) (x : LItem) : Bool := decide (x.key = k)
def i0 : LItem := ⟨⟨0, noStr, noStr⟩, ⟨0, 0, noStr⟩, 0⟩
def getI (l : List LItem) (k : LKey) : LItem := (l.find? (isK k)).getD i0
def hasI (l : List LItem) (k : LKey) : Bool := (l.find? (isK k)).isSome
set_option maxRecDepth 100000 in
set_option maxHeartbeats 1000000 in
theorem closure_ik (k : LKey) (x : LItem) (g : Nat) (w : World) (hb : Blk w g 34 (kC k).toArray) : Calls Tryz.prog 97 #[.agg (iC x).toArray, .pointer (some ⟨g, 0, none⟩)] w fun r w' => r = .returned (.bool (isK k x)) ∧ Lat w w' := by
  have HE := Lib.hid (show decide (x.key = k) = isK k x from rfl)
  generalize isK k x = E at *
  obtain ⟨⟨x1, x2, x3⟩, ⟨x4, x5, x6⟩, x7⟩ := x
  obtain ⟨k1, k2, k3⟩ := k
  simp only [iC, kC, vC, List.cons_append, List.nil_append] at *
  have hL := Lat.al w (.cells #[.int .i64 x1, .string x2, .string x3, .int .i64 x4, .int .i64 x5, .string x6, .int .i64 x7] 51)
  have hb2 := (hb.alloc (.cells #[.int .i64 x1, .string x2, .string x3, .int .i64 x4, .int .i64 x5, .string x6, .int .i64 x7] 51)).cell
  go_enter Tryz.func97, Tryz.ntmps97
  go_wp2_with (refine wpl_eql_k rfl _ _ _ rfl ⟨x1, x2, x3⟩ ⟨k1, k2, k3⟩ rfl rfl HE.out ?_)
  go_ret
  exact ⟨rfl, hL⟩
set_option maxRecDepth 100000 in
set_option maxHeartbeats 1000000 in
/-- slices.IndexFunc at items, by what its closure tells. -/
theorem indexFunc_any (l : List LItem) (A : Option Addr) (c : Nat) (g : Nat) (cb : Array Value) (p : LItem → Bool) (w : World) (hx : EI.Rd w l (.slice A l.length c)) (hbig : l.length ≤ 1000000)
    (eg : ∀ args w, (callFunc g args).run Tryz.prog w = .ok (.enter g args) w) (HP : ∀ x w', Lat w w' → Calls Tryz.prog g (#[.agg (iC x).toArray] ++ cb) w' fun r w'' => r = .returned (.bool (p x)) ∧ Lat w' w'') :
    Calls Tryz.prog 63 #[.slice A l.length c, .func (.func g) #[] cb] w fun r w' => (∃ z, r = .returned (.int .i64 z) ∧ IdxAt p l z) ∧ Lat w w' := by
  have H0 := Lib.hid (NoneTo.zero p l)
  have HP0 := Lib.hid HP
  clear HP
  go_enter Tryz.func63, Tryz.ntmps63
  go_wp2_with fail
  go_loopw [5, 8] (fun _ i wr => ∃ j : Nat, j ≤ l.length ∧ i = .int .i64 j ∧ Hid (NoneTo p l j) ∧ Lat w wr) (fun _ i _ => l.length - (intOf i).toNat)
  case atStart => exact ⟨0, Nat.zero_le _, rfl, H0, Lat.refl _⟩
  case round =>
    clear H0
    obtain ⟨j, hjl, rfl, HN, hLW⟩ := hrel
    by_cases hlt : j < l.length
    · obtain ⟨b, off, hA, hb1, hr1'⟩ := (hx.lat hLW).row j hlt
      subst hA
      have hr1 : RowAt wr b (off + j * 7) (iC l[j]) := hr1'
      have HC := HP0.out l[j] wr hLW
      generalize hP : p l[j] = P at *
      have HPP := Lib.hid hP
      clear hr1' hP
      generalize hX : l[j] = X at *
      have HX := Lib.hid hX
      clear hX
      obtain ⟨⟨x1, x2, x3⟩, ⟨x4, x5, x6⟩, x7⟩ := X
      simp only [iC, kC, vC, List.cons_append, List.nil_append] at hr1 HC
      have HCC := Lib.hid HC
      clear HC
      go_wp2_with (with_reducible refine wpList_load_at rfl 51 _ rfl b (off + j * 7) rfl _ _ hr1 Tryz.underlying51 rfl (by kernel_rfl) ?_)
      refine HCC.out.mono ?_
      rintro r w1 ⟨rfl, hl1⟩
      have hL1 := hLW.trans hl1
      cases P
      · have HF := Lib.hid (HN.out.step hlt (by rw [HX.out]; exact HPP.out))
        clear HN HPP hr1
        go_wp2_with fail
        go_roundw
        case rel => exact ⟨j + 1, by omega, by go_num, HF, hL1⟩
        case measure => simp [intOf]; omega
      · have HF := Lib.hid (HN.out.found hlt (by rw [HX.out]; exact HPP.out))
        clear HN HPP hr1
        go_wp2_with fail
        go_ret
        exact ⟨⟨_, rfl, HF.out⟩, hL1⟩
    · have HF := Lib.hid (HN.out.none (by omega : l.length ≤ j))
      clear HN
      go_wp2_with fail
      go_ret
      exact ⟨⟨_, rfl, HF.out⟩, hLW⟩
set_option maxRecDepth 100000 in
set_option maxHeartbeats 1000000 in
theorem dindex_any (l : List LItem) (A : Option Addr) (c : Nat) (k : LKey) (w : World) (hx : EI.Rd w l (.slice A l.length c)) (hbig : l.length ≤ 1000000) :
    Calls Tryz.prog 73 #[.slice A l.length c, .agg (kC k).toArray] w fun r w' => (∃ z, r = .returned (.int .i64 z) ∧ IdxAt (isK k) l z) ∧ Lat w w' := by
  have eg : ∀ args w, (callFunc 97 args).run Tryz.prog w = .ok (.enter 97 args) w := Go.Proofs.enters_of Tryz.func97 (by kernel_rfl) rfl
  have hL0 : Lat w (w.alloc (.cells (kC k).toArray 34)) := Lat.al _ _
  have hb := Blk.new w 34 (kC k).toArray
  have H := Lib.hid (indexFunc_any l A c 97 #[.pointer (some ⟨w.heap.size, 0, none⟩)] (isK k) (w.alloc (.cells (kC k).toArray 34)) (hx.lat hL0) hbig eg (fun x w' hl => closure_ik k x w.heap.size w' (hb.below hl)))
  clear eg hb
  generalize isK k = p at *
  obtain ⟨k1, k2, k3⟩ := k
  simp only [kC] at *
  go_enter Tryz.func73, Tryz.ntmps73
  go_wp2_with fail
  refine H.out.mono ?_
  rintro r w1 ⟨⟨z, rfl, hz⟩, hl1⟩
  have HZ := Lib.hid hz
  clear hz
  go_wp2_with fail
  go_ret
  exact ⟨⟨_, rfl, HZ.out⟩, hL0.trans hl1⟩
set_option maxRecDepth 100000 in
set_option maxHeartbeats 1000000 in
theorem rindexI_any (l : List LItem) (A : Option Addr) (c : Nat) (k : LKey) (w : World) (hx : EI.Rd w l (.slice A l.length c)) (hbig : l.length ≤ 1000000) :
    Calls Tryz.prog 88 #[.slice A l.length c, .agg (kC k).toArray] w fun r w' => (∃ z, r = .returned (.int .i64 z) ∧ IdxAt (isK k) l z) ∧ Lat w w' := by
  obtain ⟨k1, k2, k3⟩ := k
  have hL0 : Lat w (w.alloc (.cells (kC ⟨k1, k2, k3⟩).toArray 34)) := Lat.al _ _
  have hb := Blk.new w 34 (kC ⟨k1, k2, k3⟩).toArray
  have H0 := Lib.hid (NoneTo.zero (isK ⟨k1, k2, k3⟩) l)
  simp only [kC] at *
  go_enter Tryz.func88, Tryz.ntmps88
  go_wp2_with fail
  generalize w.alloc (.cells #[.int .i64 k1, .string k2, .string k3] 34) = w1 at *
  generalize hgg : w.heap.size = g at *
  clear hgg
  go_loopw [5] (fun i wr => ∃ j : Nat, j ≤ l.length ∧ i = .int .i64 j ∧ Hid (NoneTo (isK ⟨k1, k2, k3⟩) l j) ∧ Lat w1 wr) (fun i _ => l.length - (intOf i).toNat)
  case atStart => exact ⟨0, Nat.zero_le _, rfl, H0, Lat.refl _⟩
  case round =>
    clear H0
    obtain ⟨j, hjl, rfl, HN, hLW⟩ := hrel
    have hLL := hL0.trans hLW
    by_cases hlt : j < l.length
    · obtain ⟨b, off, hA, hb1, hr1'⟩ := (hx.lat hLL).row j hlt
      subst hA
      have hr1 : RowAt wr b (off + j * 7) (iC l[j]) := hr1'
      have hrk : RowAt wr b (off + j * 7) (kC l[j].key) := by
        intro i v hi
        exact hr1 i v (by rw [iC, List.append_assoc, List.getElem?_append_left (by exact (List.getElem?_eq_some_iff.1 hi).1)]; exact hi)
      have hrb : RowAt wr g 0 [.int .i64 k1, .string k2, .string k3] := (hb.lat hLW).row
      have hgl := (hb.lat hLW).lt
      clear hr1' hr1
      go_wp2_with fail
      by_cases he : l[j].key = ⟨k1, k2, k3⟩
      · have HE := Lib.hid (decide_eq_true he)
        have HF := Lib.hid (HN.out.found hlt (show isK ⟨k1, k2, k3⟩ l[j] = true from decide_eq_true he))
        clear he HN
        refine wp_rely (by kernel_rfl) (by kernel_rfl) ?_
        apply RelyL.val
        · intro ν w' hL hF K hK'
          go_simp
          exact hK'.out _ _ rfl (Lat.refl _)
        simp only [Act.put, List.setIfInBounds_toArray, List.set_cons_zero, List.set_cons_succ, Nat.reduceAdd]
        apply RelyL.val
        · intro ν w' hL hF K hK'
          go_simp
          exact hK'.out _ _ rfl (Lat.refl _)
        simp only [Act.put, List.setIfInBounds_toArray, List.set_cons_zero, List.set_cons_succ, Nat.reduceAdd]
        apply RelyL.val
        · intro ν w' hL hF K hK'
          go_simp
          exact hK'.out _ _ rfl (Lat.refl _)
        simp only [Act.put, List.setIfInBounds_toArray, List.set_cons_zero, List.set_cons_succ, Nat.reduceAdd]
        apply RelyL.val
        · intro ν w' hL hF K hK'
          go_simp
          exact hK'.out _ _ rfl (Lat.refl _)
        simp only [Act.put, List.setIfInBounds_toArray, List.set_cons_zero, List.set_cons_succ, Nat.reduceAdd]
        apply RelyL.val
        · intro ν w' hL hF K hK'
          refine take_op rfl ?_
          refine wp_load_at 34 _ rfl b ((off + j * 7)) rfl _ _ (hrk.below hL hb1) Tryz.underlying34 rfl (by kernel_rfl) ?_
          exact hK'.out _ _ rfl (Lat.refl _)
        simp only [Act.put, List.setIfInBounds_toArray, List.set_cons_zero, List.set_cons_succ, Nat.reduceAdd]
        apply RelyL.val
        · intro ν w' hL hF K hK'
          refine take_op rfl ?_
          refine wp_load_at 34 _ rfl g (0) rfl _ _ (hrb.below hL hgl) Tryz.underlying34 rfl (by kernel_rfl) ?_
          exact hK'.out _ _ rfl (Lat.refl _)
        simp only [Act.put, List.setIfInBounds_toArray, List.set_cons_zero, List.set_cons_succ, Nat.reduceAdd]
        apply RelyL.val
        · intro ν w' hL hF K hK'
          refine take_op rfl ?_
          refine wp_eql_k _ _ _ rfl l[j].key ⟨k1, k2, k3⟩ rfl rfl HE.out ?_
          exact hK'.out _ _ rfl (Lat.refl _)
        simp only [Act.put, List.setIfInBounds_toArray, List.set_cons_zero, List.set_cons_succ, Nat.reduceAdd]
        refine RelyL.done fun ν w4 hL hF => ?_
        clear hF
        have hLW2 := hLW.trans hL
        go_wp2_with fail
        go_ret
        exact ⟨⟨_, rfl, HF.out⟩, hL0.trans hLW2⟩
      · have HE := Lib.hid (decide_eq_false he)
        have HF := Lib.hid (HN.out.step hlt (show isK ⟨k1, k2, k3⟩ l[j] = false from decide_eq_false he))
        clear he HN
        refine wp_rely (by kernel_rfl) (by kernel_rfl) ?_
        apply RelyL.val
        · intro ν w' hL hF K hK'
          go_simp
          exact hK'.out _ _ rfl (Lat.refl _)
        simp only [Act.put, List.setIfInBounds_toArray, List.set_cons_zero, List.set_cons_succ, Nat.reduceAdd]
        apply RelyL.val
        · intro ν w' hL hF K hK'
          go_simp
          exact hK'.out _ _ rfl (Lat.refl _)
        simp only [Act.put, List.setIfInBounds_toArray, List.set_cons_zero, List.set_cons_succ, Nat.reduceAdd]
        apply RelyL.val
        · intro ν w' hL hF K hK'
          go_simp
          exact hK'.out _ _ rfl (Lat.refl _)
        simp only [Act.put, List.setIfInBounds_toArray, List.set_cons_zero, List.set_cons_succ, Nat.reduceAdd]
        apply RelyL.val
        · intro ν w' hL hF K hK'
          go_simp
          exact hK'.out _ _ rfl (Lat.refl _)
        simp only [Act.put, List.setIfInBounds_toArray, List.set_cons_zero, List.set_cons_succ, Nat.reduceAdd]
        apply RelyL.val
        · intro ν w' hL hF K hK'
          refine take_op rfl ?_
          refine wp_load_at 34 _ rfl b ((off + j * 7)) rfl _ _ (hrk.below hL hb1) Tryz.underlying34 rfl (by kernel_rfl) ?_
          exact hK'.out _ _ rfl (Lat.refl _)
        simp only [Act.put, List.setIfInBounds_toArray, List.set_cons_zero, List.set_cons_succ, Nat.reduceAdd]
        apply RelyL.val
        · intro ν w' hL hF K hK'
          refine take_op rfl ?_
          refine wp_load_at 34 _ rfl g (0) rfl _ _ (hrb.below hL hgl) Tryz.underlying34 rfl (by kernel_rfl) ?_
          exact hK'.out _ _ rfl (Lat.refl _)
        simp only [Act.put, List.setIfInBounds_toArray, List.set_cons_zero, List.set_cons_succ, Nat.reduceAdd]
        apply RelyL.val
        · intro ν w' hL hF K hK'
          refine take_op rfl ?_
          refine wp_eql_k _ _ _ rfl l[j].key ⟨k1, k2, k3⟩ rfl rfl HE.out ?_
          exact hK'.out _ _ rfl (Lat.refl _)
        simp only [Act.put, List.setIfInBounds_toArray, List.set_cons_zero, List.set_cons_succ, Nat.reduceAdd]
        refine RelyL.done fun ν w4 hL hF => ?_
        clear hF
        have hLW2 := hLW.trans hL
        go_wp2_with fail
        go_roundw
        case rel => exact ⟨j + 1, by omega, by go_num, HF, hLW2⟩
        case measure => simp [intOf]; omega
    · have HF := Lib.hid (HN.out.none (by omega : l.length ≤ j))
      clear HN
      go_wp2_with fail
      go_ret
      exact ⟨⟨_, rfl, HF.out⟩, hLL⟩
end Go.Proofs.YtmgalnbacenbbaaGreat
