/- Resolve: what the reference's Decide does; it gives the decisions about the writes. Guard: the reference's Before. Resolve: the reference's insert. Resolve: the reference's place. -/
import Derived.Test.YtmgalnbacenbbaaGreatGBase
import Derived.Test.YtmgalnbacenbbaaGreatVRanks
import Derived.Test.YtmgalnbacenbbaaGreatVDecs
namespace Go.Proofs.YtmgalnbacenbbaaGreat
section
set_option linter.unusedSimpArgs false
set_option linter.unusedVariables false
section
variable {α : Type} [DecidableEq α]
def insB (f : α → α → Bool) : List α → α → List α
  | [], x => [x]
  | y :: l, x => if f y x then y :: insB f l x else if y = x then y :: l else x :: y :: l
theorem insB_mem (f : α → α → Bool) (x z : α) : ∀ l : List α, z ∈ insB f l x ↔ z ∈ l ∨ z = x
  | [] => by simp [insB]
  | y :: l => by
    rw [insB]
    split
    · rw [List.mem_cons, insB_mem f x z l, List.mem_cons, or_assoc]
    · split
      · rename_i h; subst h
        simp only [List.mem_cons]
        exact ⟨fun h => .inl h, fun h => h.elim id .inl⟩
      · simp only [List.mem_cons]
        exact ⟨fun h => h.elim .inr .inl, fun h => h.elim .inr .inl⟩
theorem insB_sorted {f : α → α → Bool} (h : STO f) (x : α) : ∀ l : List α, l.Pairwise (fun a b => f a b = true) → (insB f l x).Pairwise (fun a b => f a b = true)
  | [], _ => by simp [insB]
  | y :: l, hs => by
    rw [insB]
    have hs' := List.pairwise_cons.1 hs
    split
    · rename_i hy
      refine List.pairwise_cons.2 ⟨fun z hz => ?_, insB_sorted h x l hs'.2⟩
      rcases (insB_mem f x z l).1 hz with hz | rfl
      · exact hs'.1 z hz
      · exact hy
    · rename_i hy
      split
      · exact hs
      · rename_i hne
        have hxy : f x y = true := h.tri _ _ (by simpa using hy) hne
        refine List.pairwise_cons.2 ⟨fun z hz => ?_, hs⟩
        rcases List.mem_cons.1 hz with rfl | hz
        · exact hxy
        · exact h.trans _ _ _ hxy (hs'.1 z hz)
theorem insAll_mem (f : α → α → Bool) (z : α) : ∀ (l acc : List α), z ∈ l.foldl (insB f) acc ↔ z ∈ acc ∨ z ∈ l
  | [], acc => by simp
  | x :: l, acc => by
    rw [List.foldl_cons, insAll_mem f z l, insB_mem, List.mem_cons, or_assoc]
theorem insAll_sorted {f : α → α → Bool} (h : STO f) : ∀ (l acc : List α), acc.Pairwise (fun a b => f a b = true) → (l.foldl (insB f) acc).Pairwise (fun a b => f a b = true)
  | [], acc, hs => hs
  | x :: l, acc, hs => insAll_sorted h l _ (insB_sorted h x acc hs)
end
def keysR (l : List LW) : List LKey := (l.map LW.key).foldl (insB kless) []
def allR (l : List LW) (k : LKey) : List LW := (l.filter (fun x => x.key = k)).foldl (insB bef) []
def decK (l : List LW) (k : LKey) : LD := match allR l k with
  | [] => ⟨k, ⟨k, ⟨0, 0, noStr⟩, 0, noStr, 0, 0⟩, [], 0⟩
  | x :: r => ⟨k, x, r, 0⟩
def decR (l : List LW) : List LD := (keysR l).map (decK l)
theorem mem_allR {l : List LW} {k : LKey} {x : LW} : x ∈ allR l k ↔ x ∈ l ∧ x.key = k := by
  rw [allR, insAll_mem]; simp
theorem mem_keysR {l : List LW} {k : LKey} : k ∈ keysR l ↔ ∃ x ∈ l, x.key = k := by
  rw [keysR, insAll_mem]; simp
theorem decK_all {l : List LW} {k : LKey} (h : k ∈ keysR l) : (decK l k).all = allR l k ∧ (decK l k).key = k ∧ (decK l k).err = 0 := by
  obtain ⟨x, hx, hk⟩ := mem_keysR.1 h
  have hm : x ∈ allR l k := mem_allR.2 ⟨hx, hk⟩
  unfold decK
  cases ha : allR l k with
  | nil => rw [ha] at hm; cases hm
  | cons y r => exact ⟨rfl, rfl, rfl⟩
theorem decR_good (l : List LW) : Good (fun x => x ∈ l) (decR l) where
  keys := by
    have := insAll_sorted sto_kless (l.map LW.key) [] List.Pairwise.nil
    have hk : ∀ ks : List LKey, (∀ k ∈ ks, k ∈ keysR l) → ks.Pairwise (fun a b => kless a b = true) → (ks.map (decK l)).Pairwise (fun a b => kless a.key b.key = true) := by
      intro ks hm hs
      rw [List.pairwise_map]
      refine hs.imp_of_mem fun {a b} ha hb h => ?_
      rw [(decK_all (hm a ha)).2.1, (decK_all (hm b hb)).2.1]; exact h
    exact hk _ (fun k h => h) this
  err := by
    intro d hd
    obtain ⟨k, hk, rfl⟩ := List.mem_map.1 hd
    exact (decK_all hk).2.2
  ord := by
    intro d hd
    obtain ⟨k, hk, rfl⟩ := List.mem_map.1 hd
    rw [(decK_all hk).1]
    exact insAll_sorted sto_bef _ [] List.Pairwise.nil
  key := by
    intro d hd x hx
    obtain ⟨k, hk, rfl⟩ := List.mem_map.1 hd
    rw [(decK_all hk).1] at hx
    rw [(decK_all hk).2.1]
    exact (mem_allR.1 hx).2
  sound := by
    intro d hd x hx
    obtain ⟨k, hk, rfl⟩ := List.mem_map.1 hd
    rw [(decK_all hk).1] at hx
    exact (mem_allR.1 hx).1
  full := by
    intro x hx
    have hk : x.key ∈ keysR l := mem_keysR.2 ⟨x, hx, rfl⟩
    exact ⟨decK l x.key, List.mem_map.2 ⟨_, hk, rfl⟩, by rw [(decK_all hk).1]; exact mem_allR.2 ⟨hx, rfl⟩⟩
end
end Go.Proofs.YtmgalnbacenbbaaGreat

namespace Go.Proofs.YtmgalnbacenbbaaGreat
section
set_option linter.unusedSimpArgs false
set_option linter.unusedVariables false
open Go.RowKit
namespace Dr

set_option maxHeartbeats 1000000 in
theorem rvless_any (a b : LVal) (w : World) : Calls Tryz.prog 87 #[.agg (vC a).toArray, .agg (vC b).toArray] w fun r w' => r = .returned (.bool (vless a b)) ∧ Lat w w' := by
  obtain ⟨a1, a2, a3⟩ := a
  obtain ⟨b1, b2, b3⟩ := b
  unfold vC
  go_enter Tryz.func87, Tryz.ntmps87
  by_cases e1 : a1 = b1
  · subst e1
    by_cases e2 : a2 = b2
    · subst e2
      have hk : vless ⟨a1, a2, a3⟩ ⟨a1, a2, b3⟩ = Op.bytesLess a3.toList b3.toList := by simp [vless, ltB]
      rw [hk]
      clear hk
      go_wp2_with fail
      go_ret
      exact ⟨rfl, ((Lat.al _ _).trans (Lat.al _ _))⟩
    · have e2' : (a2 != b2) = true := by simp [e2]
      have hk : vless ⟨a1, a2, a3⟩ ⟨a1, b2, b3⟩ = decide (a2 < b2) := by simp [vless, e2, ltI]
      rw [hk]
      clear hk
      go_wp2_with fail
      go_ret
      exact ⟨rfl, ((Lat.al _ _).trans (Lat.al _ _))⟩
  · have hk : vless ⟨a1, a2, a3⟩ ⟨b1, b2, b3⟩ = decide (a1 < b1) := by simp [vless, e1, ltI]
    rw [hk]
    have e1' : (a1 != b1) = true := by simp [e1]
    clear hk
    go_wp2_with fail
    go_ret
    exact ⟨rfl, ((Lat.al _ _).trans (Lat.al _ _))⟩
set_option maxRecDepth 100000 in
set_option maxHeartbeats 4000000 in
theorem rbefore_any (a b : LW) (w : World) : Calls Tryz.prog 65 #[.agg (wC a).toArray, .agg (wC b).toArray] w fun r w' => r = .returned (.bool (bef a b)) ∧ Lat w w' := by
  have HV := fun w => Lib.hid (rvless_any a.val b.val w)
  have HK := fun w => Lib.hid (rless_any a.key b.key w)
  have hbf : bef a b = if a.ck ≠ b.ck then gtI a.ck b.ck else if a.cp ≠ b.cp then gtI a.cp b.cp else if a.cn ≠ b.cn then ltB a.cn b.cn else if a.ord ≠ b.ord then gtI a.ord b.ord else if a.val ≠ b.val then vless a.val b.val else kless a.key b.key := rfl
  generalize bef a b = E at *
  generalize vless a.val b.val = s1 at *
  generalize kless a.key b.key = s2 at *
  obtain ⟨⟨a1, a2, a3⟩, ⟨a4, a5, a6⟩, a7, a8, a9, a10⟩ := a
  obtain ⟨⟨b1, b2, b3⟩, ⟨b4, b5, b6⟩, b7, b8, b9, b10⟩ := b
  simp only [wC, kC, vC] at *
  have hl0 : Lat w ((w.alloc (.cells #[.int .i64 a1, .string a2, .string a3, .int .i64 a4, .int .i64 a5, .string a6, .int .i64 a7, .string a8, .int .i64 a9, .int .i64 a10] 44)).alloc (.cells #[.int .i64 b1, .string b2, .string b3, .int .i64 b4, .int .i64 b5, .string b6, .int .i64 b7, .string b8, .int .i64 b9, .int .i64 b10] 44)) := (Lat.al _ _).trans (Lat.al _ _)
  go_enter Tryz.func65, Tryz.ntmps65
  by_cases e1 : a7 = b7
  · subst e1
    by_cases e2 : a9 = b9
    · subst e2
      by_cases e3 : a8 = b8
      · subst e3
        by_cases e4 : a10 = b10
        · subst e4
          by_cases e5 : (⟨a4, a5, a6⟩ : LVal) = ⟨b4, b5, b6⟩
          · simp only [ne_eq, not_true_eq_false, if_false, e5] at hbf
            have hd := decide_eq_true e5
            subst hbf
            clear HV e5
            go_wp2_with (refine wpl_neq_v rfl _ _ _ rfl ⟨a4, a5, a6⟩ ⟨b4, b5, b6⟩ rfl rfl hd ?_)
            refine (HK _).out.mono ?_
            rintro r w2 ⟨rfl, hl2⟩
            have hl := hl0.trans hl2
            clear HK hl0 hl2
            go_wp2_with fail
            go_ret
            exact ⟨rfl, hl⟩
          · simp only [ne_eq, not_true_eq_false, if_false, e5, not_false_eq_true, if_true] at hbf
            have hd := decide_eq_false e5
            subst hbf
            clear HK e5
            go_wp2_with (refine wpl_neq_v rfl _ _ _ rfl ⟨a4, a5, a6⟩ ⟨b4, b5, b6⟩ rfl rfl hd ?_)
            refine (HV _).out.mono ?_
            rintro r w2 ⟨rfl, hl2⟩
            have hl := hl0.trans hl2
            clear HV hl0 hl2
            go_wp2_with fail
            go_ret
            exact ⟨rfl, hl⟩
        · simp only [ne_eq, not_true_eq_false, if_false, e4, not_false_eq_true, if_true, gtI] at hbf
          have q : (a10 != b10) = true := by simpa using e4
          subst hbf
          clear HV HK e4
          go_wp2_with fail
          go_ret
          exact ⟨rfl, hl0⟩
      · have q : (a8.toList == b8.toList) = false := by rw [toList_beq]; simpa using e3
        simp only [ne_eq, not_true_eq_false, if_false, e3, not_false_eq_true, if_true, ltB] at hbf
        subst hbf
        clear HV HK e3
        go_wp2_with fail
        go_ret
        exact ⟨rfl, hl0⟩
    · simp only [ne_eq, not_true_eq_false, if_false, e2, not_false_eq_true, if_true, gtI] at hbf
      have q : (a9 != b9) = true := by simpa using e2
      subst hbf
      clear HV HK e2
      go_wp2_with fail
      go_ret
      exact ⟨rfl, hl0⟩
  · simp only [ne_eq, e1, not_false_eq_true, if_true, gtI] at hbf
    have q : (a7 != b7) = true := by simpa using e1
    subst hbf
    clear HV HK e1
    go_wp2_with fail
    go_ret
    exact ⟨rfl, hl0⟩

end Dr
end
end Go.Proofs.YtmgalnbacenbbaaGreat

namespace Go.Proofs.YtmgalnbacenbbaaGreat
section
set_option linter.unusedSimpArgs false
set_option linter.unusedVariables false
open Go.RowKit


theorem drLat' {w w' : World} (h : Dr.Lat w w') : Lat w w' := ⟨h.os, h.tape, h.output, h.size, h.block⟩
theorem rbefore_c (x y : LW) (w : World) {e : Bool} (h : bef x y = e) : Calls Tryz.prog 65 #[.agg (wC x).toArray, .agg (wC y).toArray] w fun r w' => r = .returned (.bool e) ∧ Lat w w' := by
  subst h; exact (Dr.rbefore_any x y w).mono (fun r w' h => ⟨h.1, drLat' h.2⟩)
theorem foldW (x : LW) : List.foldl (fun cs x => Array.setIfInBounds cs x.snd x.fst) #[Value.int IntKind.i64 0, Value.string { data := #[] }, Value.string { data := #[] }, Value.int IntKind.i64 0, Value.int IntKind.i64 0, Value.string { data := #[] }, Value.int IntKind.i64 0, Value.string { data := #[] }, Value.int IntKind.i64 0, Value.int IntKind.i64 0] (wC x).zipIdx = (wC x).toArray := by
  obtain ⟨⟨x1, x2, x3⟩, ⟨x4, x5, x6⟩, x7, x8, x9, x10⟩ := x
  simp [wC, kC, vC]
set_option maxRecDepth 100000 in
set_option maxHeartbeats 4000000 in
theorem insert_any (l : List LW) (x : LW) (v : Value) (base : Nat) (w : World) (hin : EW.Own w base l v) (hbase : base ≤ w.heap.size) (hl : l.length ≤ 100000) :
    Calls Tryz.prog 42 #[v, .agg (wC x).toArray] w fun r w' => (∃ v', r = .returned v' ∧ EW.Own w' base (insB bef l x) v') ∧ Lat w w' := by
  obtain ⟨A, c, rfl⟩ := hin.slice
  have hx := hin.rd
  have HR : Hid (insB bef l x = l.take 0 ++ insB bef (l.drop 0) x) := Lib.hid (by simp)
  generalize insB bef l x = R at *
  have hL0 : Lat w (w.alloc (.cells (wC x).toArray 44)) := Lat.al _ _
  have hbox := Blk.new w 44 (wC x).toArray
  go_enter Tryz.func42, Tryz.ntmps42
  go_wp2_with fail
  go_loopw [5, 6] (fun v i wr => ∃ j : Nat, j ≤ l.length ∧ i = .int .i64 j ∧ EW.Own wr (w.heap.size + 1) (l.take j) v ∧ Hid (R = l.take j ++ insB bef (l.drop j) x) ∧ Lat (w.alloc (.cells (wC x).toArray 44)) wr) (fun _ i _ => l.length - (intOf i).toNat)
  case atStart => exact ⟨0, Nat.zero_le _, rfl, Elt.Own.nil _ _, HR, Lat.refl _⟩
  case round =>
    clear HR
    obtain ⟨j, hjl, rfl, hown, HR, hLW⟩ := hrel
    have hxr := hbox.lat hLW
    have hrx : RowAt wr w.heap.size 0 (wC x) := hxr.row
    have hbx := hxr.lt
    by_cases hlt : j < l.length
    · obtain ⟨b, off, hA, hb1, hr1'⟩ := (hx.lat (hL0.trans hLW)).row j hlt
      subst hA
      have hr1 : RowAt wr b (off + j * 10) (wC l[j]) := hr1'
      clear hr1'
      have hdj : l.drop j = l[j] :: l.drop (j + 1) := List.drop_eq_getElem_cons hlt
      cases hbe : bef l[j] x
      · have HE := Lib.hid hbe
        rw [hdj, insB, hbe, if_neg (by simp), ← hdj] at HR
        go_wp2_with fail
        refine wp_rely (by kernel_rfl) (by kernel_rfl) ?_
        apply RelyL.val
        · intro ν w' hL hF K hK'
          go_simp
          exact hK'.out _ _ rfl (Lat.refl _)
        simp only [Act.put, List.setIfInBounds_toArray, List.set_cons_zero, List.set_cons_succ, Nat.reduceAdd]
        apply RelyL.val
        · intro ν w' hL hF K hK'
          go_simp
          exact hK'.out _ _ rfl (Lat.refl _)
        simp only [Act.put, List.setIfInBounds_toArray, List.set_cons_zero, List.set_cons_succ, Nat.reduceAdd]
        apply RelyL.val
        · intro ν w' hL hF K hK'
          go_simp
          exact hK'.out _ _ rfl (Lat.refl _)
        simp only [Act.put, List.setIfInBounds_toArray, List.set_cons_zero, List.set_cons_succ, Nat.reduceAdd]
        apply RelyL.val
        · intro ν w' hL hF K hK'
          go_simp
          exact hK'.out _ _ rfl (Lat.refl _)
        simp only [Act.put, List.setIfInBounds_toArray, List.set_cons_zero, List.set_cons_succ, Nat.reduceAdd]
        apply RelyL.val
        · intro ν w' hL hF K hK'
          go_simp
          exact hK'.out _ _ rfl (Lat.refl _)
        simp only [Act.put, List.setIfInBounds_toArray, List.set_cons_zero, List.set_cons_succ, Nat.reduceAdd]
        apply RelyL.val
        · intro ν w' hL hF K hK'
          go_simp
          exact hK'.out _ _ rfl (Lat.refl _)
        simp only [Act.put, List.setIfInBounds_toArray, List.set_cons_zero, List.set_cons_succ, Nat.reduceAdd]
        apply RelyL.val
        · intro ν w' hL hF K hK'
          go_simp
          exact hK'.out _ _ rfl (Lat.refl _)
        simp only [Act.put, List.setIfInBounds_toArray, List.set_cons_zero, List.set_cons_succ, Nat.reduceAdd]
        apply RelyL.val
        · intro ν w' hL hF K hK'
          go_simp
          exact hK'.out _ _ rfl (Lat.refl _)
        simp only [Act.put, List.setIfInBounds_toArray, List.set_cons_zero, List.set_cons_succ, Nat.reduceAdd]
        apply RelyL.val
        · intro ν w' hL hF K hK'
          refine take_op rfl ?_
          refine wp_load_at 44 _ rfl b ((off + j * 10)) rfl _ _ (hr1.below hL hb1) Tryz.underlying44 rfl (by kernel_rfl) ?_
          exact hK'.out _ _ rfl (Lat.refl _)
        simp only [Act.put, List.setIfInBounds_toArray, List.set_cons_zero, List.set_cons_succ, Nat.reduceAdd]
        apply RelyL.val
        · intro ν w' hL hF K hK'
          refine take_op rfl ?_
          refine wp_load_at 44 _ rfl w.heap.size (0) rfl _ _ (hrx.below hL hbx) Tryz.underlying44 rfl (by kernel_rfl) ?_
          exact hK'.out _ _ rfl (Lat.refl _)
        simp only [Act.put, List.setIfInBounds_toArray, List.set_cons_zero, List.set_cons_succ, Nat.reduceAdd]
        apply RelyL.val
        · intro ν w' hL hF K hK'
          have H := Lib.hid (rbefore_c l[j] x w' HE.out)
          go_simp
          go_at_call 65
          refine H.out.mono ?_
          rintro r w'' ⟨rfl, hbp⟩
          exact hK'.out _ _ rfl hbp
        simp only [Act.put, List.setIfInBounds_toArray, List.set_cons_zero, List.set_cons_succ, Nat.reduceAdd]
        apply RelyL.val
        · intro ν w' hL hF K hK'
          go_simp
          exact hK'.out _ _ rfl (Lat.refl _)
        simp only [Act.put, List.setIfInBounds_toArray, List.set_cons_zero, List.set_cons_succ, Nat.reduceAdd]
        refine RelyL.done fun ν w4 hL hF => ?_
        clear hF
        have hr1 := hr1.below hL hb1
        have hrx := hrx.below hL hbx
        have hb1 := Nat.lt_of_lt_of_le hb1 hL.size
        have hbx := Nat.lt_of_lt_of_le hbx hL.size
        have hown4 := hown.lat hL
        have hLW4 := hLW.trans hL
        clear HE hown hLW hxr hbe hdj hL
        by_cases he : l[j] = x
        · have HE := Lib.hid (decide_eq_true he)
          have HEQ := Lib.hid he
          clear he
          go_wp2_with fail
          refine wp_rely (by kernel_rfl) (by kernel_rfl) ?_
          apply RelyL.val
          · intro ν w' hL hF K hK'
            go_simp
            exact hK'.out _ _ rfl (Lat.refl _)
          simp only [Act.put, List.setIfInBounds_toArray, List.set_cons_zero, List.set_cons_succ, Nat.reduceAdd]
          apply RelyL.val
          · intro ν w' hL hF K hK'
            go_simp
            exact hK'.out _ _ rfl (Lat.refl _)
          simp only [Act.put, List.setIfInBounds_toArray, List.set_cons_zero, List.set_cons_succ, Nat.reduceAdd]
          apply RelyL.val
          · intro ν w' hL hF K hK'
            go_simp
            exact hK'.out _ _ rfl (Lat.refl _)
          simp only [Act.put, List.setIfInBounds_toArray, List.set_cons_zero, List.set_cons_succ, Nat.reduceAdd]
          apply RelyL.val
          · intro ν w' hL hF K hK'
            go_simp
            exact hK'.out _ _ rfl (Lat.refl _)
          simp only [Act.put, List.setIfInBounds_toArray, List.set_cons_zero, List.set_cons_succ, Nat.reduceAdd]
          apply RelyL.val
          · intro ν w' hL hF K hK'
            go_simp
            exact hK'.out _ _ rfl (Lat.refl _)
          simp only [Act.put, List.setIfInBounds_toArray, List.set_cons_zero, List.set_cons_succ, Nat.reduceAdd]
          apply RelyL.val
          · intro ν w' hL hF K hK'
            go_simp
            exact hK'.out _ _ rfl (Lat.refl _)
          simp only [Act.put, List.setIfInBounds_toArray, List.set_cons_zero, List.set_cons_succ, Nat.reduceAdd]
          apply RelyL.val
          · intro ν w' hL hF K hK'
            go_simp
            exact hK'.out _ _ rfl (Lat.refl _)
          simp only [Act.put, List.setIfInBounds_toArray, List.set_cons_zero, List.set_cons_succ, Nat.reduceAdd]
          apply RelyL.val
          · intro ν w' hL hF K hK'
            go_simp
            exact hK'.out _ _ rfl (Lat.refl _)
          simp only [Act.put, List.setIfInBounds_toArray, List.set_cons_zero, List.set_cons_succ, Nat.reduceAdd]
          apply RelyL.val
          · intro ν w' hL hF K hK'
            refine take_op rfl ?_
            refine wp_load_at 44 _ rfl b ((off + j * 10)) rfl _ _ (hr1.below hL hb1) Tryz.underlying44 rfl (by kernel_rfl) ?_
            exact hK'.out _ _ rfl (Lat.refl _)
          simp only [Act.put, List.setIfInBounds_toArray, List.set_cons_zero, List.set_cons_succ, Nat.reduceAdd]
          apply RelyL.val
          · intro ν w' hL hF K hK'
            refine take_op rfl ?_
            refine wp_load_at 44 _ rfl w.heap.size (0) rfl _ _ (hrx.below hL hbx) Tryz.underlying44 rfl (by kernel_rfl) ?_
            exact hK'.out _ _ rfl (Lat.refl _)
          simp only [Act.put, List.setIfInBounds_toArray, List.set_cons_zero, List.set_cons_succ, Nat.reduceAdd]
          apply RelyL.val
          · intro ν w' hL hF K hK'
            refine take_op rfl ?_
            refine wp_eql_w _ _ _ rfl l[j] x rfl rfl HE.out ?_
            exact hK'.out _ _ rfl (Lat.refl _)
          simp only [Act.put, List.setIfInBounds_toArray, List.set_cons_zero, List.set_cons_succ, Nat.reduceAdd]
          apply RelyL.val
          · intro ν w' hL hF K hK'
            go_simp
            exact hK'.out _ _ rfl (Lat.refl _)
          simp only [Act.put, List.setIfInBounds_toArray, List.set_cons_zero, List.set_cons_succ, Nat.reduceAdd]
          refine RelyL.done fun ν w5 hL5 hF => ?_
          clear hF
          have hown5 := hin.lat (hL0.trans (hLW4.trans hL5))
          have hLW5 := hL0.trans (hLW4.trans hL5)
          clear HE hr1 hrx hb1 hbx hown4 hLW4 hL5 hL0 hx hbox
          go_wp2_with fail
          go_ret
          refine ⟨⟨_, rfl, ?_⟩, hLW5⟩
          rw [HR.out, if_pos HEQ.out, List.take_append_drop]
          exact hown5
        · have HE := Lib.hid (decide_eq_false he)
          have HEQ := Lib.hid he
          clear he
          go_wp2_with fail
          refine wp_rely (by kernel_rfl) (by kernel_rfl) ?_
          apply RelyL.val
          · intro ν w' hL hF K hK'
            go_simp
            exact hK'.out _ _ rfl (Lat.refl _)
          simp only [Act.put, List.setIfInBounds_toArray, List.set_cons_zero, List.set_cons_succ, Nat.reduceAdd]
          apply RelyL.val
          · intro ν w' hL hF K hK'
            go_simp
            exact hK'.out _ _ rfl (Lat.refl _)
          simp only [Act.put, List.setIfInBounds_toArray, List.set_cons_zero, List.set_cons_succ, Nat.reduceAdd]
          apply RelyL.val
          · intro ν w' hL hF K hK'
            go_simp
            exact hK'.out _ _ rfl (Lat.refl _)
          simp only [Act.put, List.setIfInBounds_toArray, List.set_cons_zero, List.set_cons_succ, Nat.reduceAdd]
          apply RelyL.val
          · intro ν w' hL hF K hK'
            go_simp
            exact hK'.out _ _ rfl (Lat.refl _)
          simp only [Act.put, List.setIfInBounds_toArray, List.set_cons_zero, List.set_cons_succ, Nat.reduceAdd]
          apply RelyL.val
          · intro ν w' hL hF K hK'
            go_simp
            exact hK'.out _ _ rfl (Lat.refl _)
          simp only [Act.put, List.setIfInBounds_toArray, List.set_cons_zero, List.set_cons_succ, Nat.reduceAdd]
          apply RelyL.val
          · intro ν w' hL hF K hK'
            go_simp
            exact hK'.out _ _ rfl (Lat.refl _)
          simp only [Act.put, List.setIfInBounds_toArray, List.set_cons_zero, List.set_cons_succ, Nat.reduceAdd]
          apply RelyL.val
          · intro ν w' hL hF K hK'
            go_simp
            exact hK'.out _ _ rfl (Lat.refl _)
          simp only [Act.put, List.setIfInBounds_toArray, List.set_cons_zero, List.set_cons_succ, Nat.reduceAdd]
          apply RelyL.val
          · intro ν w' hL hF K hK'
            go_simp
            exact hK'.out _ _ rfl (Lat.refl _)
          simp only [Act.put, List.setIfInBounds_toArray, List.set_cons_zero, List.set_cons_succ, Nat.reduceAdd]
          apply RelyL.val
          · intro ν w' hL hF K hK'
            refine take_op rfl ?_
            refine wp_load_at 44 _ rfl b ((off + j * 10)) rfl _ _ (hr1.below hL hb1) Tryz.underlying44 rfl (by kernel_rfl) ?_
            exact hK'.out _ _ rfl (Lat.refl _)
          simp only [Act.put, List.setIfInBounds_toArray, List.set_cons_zero, List.set_cons_succ, Nat.reduceAdd]
          apply RelyL.val
          · intro ν w' hL hF K hK'
            refine take_op rfl ?_
            refine wp_load_at 44 _ rfl w.heap.size (0) rfl _ _ (hrx.below hL hbx) Tryz.underlying44 rfl (by kernel_rfl) ?_
            exact hK'.out _ _ rfl (Lat.refl _)
          simp only [Act.put, List.setIfInBounds_toArray, List.set_cons_zero, List.set_cons_succ, Nat.reduceAdd]
          apply RelyL.val
          · intro ν w' hL hF K hK'
            refine take_op rfl ?_
            refine wp_eql_w _ _ _ rfl l[j] x rfl rfl HE.out ?_
            exact hK'.out _ _ rfl (Lat.refl _)
          simp only [Act.put, List.setIfInBounds_toArray, List.set_cons_zero, List.set_cons_succ, Nat.reduceAdd]
          apply RelyL.val
          · intro ν w' hL hF K hK'
            go_simp
            exact hK'.out _ _ rfl (Lat.refl _)
          simp only [Act.put, List.setIfInBounds_toArray, List.set_cons_zero, List.set_cons_succ, Nat.reduceAdd]
          refine RelyL.done fun ν w5 hL5 hF => ?_
          clear hF
          have hownT := hown4.lat hL5
          have hLT := hLW4.trans hL5
          have hxT := hrx.below hL5 hbx
          clear HE hown4 hLW4 hr1 hrx hb1 hbx hL5 hbox hx
          have HR2 : Hid (R = l.take j ++ [x] ++ l.drop j) := Lib.hid (by rw [HR.out, if_neg HEQ.out]; simp)
          clear HR
          have hfw := foldW x
          have hwl : (wC x).length = 10 := rfl
          have hownT6 := hownT.al (.cells (wC x).toArray 44)
          have hLW6 : Lat (w.alloc (.cells (wC x).toArray 44)) (w5.alloc (.cells (wC x).toArray 44)) := hLT.trans (Lat.al _ _)
          have hnew := Blk.new w5 44 (wC x).toArray
          have hlen : (l.take j).length = j := by rw [List.length_take]; omega
          have hdl : (l.drop j).length = l.length - j := List.length_drop
          have hmax : (l.take j).length + 1 ≤ maxLen := by unfold maxLen; omega
          have hby : ((l.take j).length + 1) * EW.bytes ≤ 140737488355328 := Nat.le_trans (Nat.mul_le_mul_right EW.bytes (by omega : (l.take j).length + 1 ≤ 1000000)) (by decide)
          have hbse : w.heap.size + 1 ≤ (w5.alloc (.cells (wC x).toArray 44)).heap.size := by have := hLW6.size; rw [World.size_alloc] at this; exact this
          have hmax2 : (l.take j ++ [x]).length + (l.drop j).length ≤ maxLen := by rw [List.length_append, List.length_singleton]; unfold maxLen; omega
          have hby2 : ((l.take j ++ [x]).length + (l.drop j).length) * EW.bytes ≤ 140737488355328 := Nat.le_trans (Nat.mul_le_mul_right EW.bytes (by rw [List.length_append, List.length_singleton]; omega : (l.take j ++ [x]).length + (l.drop j).length ≤ 1000000)) (by decide)
          have HT := Lib.hid (fun k (hk : u5.ownBlock = some k) => (hownT.lt k hk).1)
          have HF := EW.run_from hin.rd hin.cap j hjl
          obtain ⟨AD, cd, hsl0, hrdd⟩ := HF
          have hsl : ∀ w, (Instr.slice 45 (.slice (some ⟨b, off, none⟩) l.length c) (some (.int .i64 (j : Int))) none none).run Tryz.prog w = .ok (.slice AD (l.length - j) cd) w := hsl0
          have HX := Lib.hid hrdd
          clear hsl0 hrdd
          have HLW6 := Lib.hid hLW6
          have HM1 := Lib.hid hmax
          have HM2 := Lib.hid hby
          have HM3 := Lib.hid hmax2
          have HM4 := Lib.hid hby2
          have HB := Lib.hid hbse
          have HHL := Lib.hid hl
          have HIN := Lib.hid hin
          clear hownT hLT hlen hdl hLW6 hmax hby hmax2 hby2 hbse hl hin
          go_wp2_with (first | (with_reducible refine wpList_load_at rfl 44 _ rfl w.heap.size 0 rfl _ _ hxT Tryz.underlying44 rfl (by kernel_rfl) ?_) | (at_builtin; refine EW.append rfl _ _ rfl (w.heap.size + 1) (l.take j) _ rfl hownT6 w5.heap.size 1 x rfl 44 hnew HM1.out HM2.out HB.out ?_; intro v6 w6 hown6 hg6 hw6; go_must (have hLW7 : Lat (w.alloc (.cells (wC x).toArray 44)) w6 := HLW6.out.grown hg6 (Nat.le_trans (Nat.le_of_eq (World.size_alloc _ _)) HB.out) (fun k hk => Nat.le_trans (Nat.le_of_eq (World.size_alloc _ _)) (HT.out k hk)); have hbse7 : w.heap.size + 1 ≤ w6.heap.size := Nat.le_trans (Nat.le_of_eq (World.size_alloc _ _).symm) hLW7.size; obtain ⟨A8, m8, ev, hr8, hn8⟩ := HX.out.lat (hL0.trans hLW7); injection ev with f1 f2 f3; subst f1 f3; clear f2 hnew hg6 hw6 hownT6 hxT)) | (at_builtin; refine EW.appends rfl _ _ rfl (w.heap.size + 1) (l.take j ++ [x]) _ rfl hown6 AD (l.length - j) cd (l.drop j) rfl List.length_drop.symm (fun e => by have := hn8 e; rw [List.length_drop] at this; exact this) hr8 HM3.out HM4.out hbse7 ?_; intro v8 w8 hown8 hg8; go_must (have hLW9 : Lat (w.alloc (.cells (wC x).toArray 44)) w8 := hLW7.grown hg8 hLW7.size (fun k hk => Nat.le_trans (Nat.le_of_eq (World.size_alloc _ _)) (hown6.lt k hk).1); clear hg8 hr8 hown6)))
          go_ret
          exact ⟨⟨_, rfl, by rw [HR2.out]; exact hown8.mono (by omega)⟩, hL0.trans hLW9⟩
      · have HE := Lib.hid hbe
        rw [List.drop_eq_getElem_cons hlt, insB, if_pos hbe] at HR
        clear hbe
        go_wp2_with fail
        refine wp_rely (by kernel_rfl) (by kernel_rfl) ?_
        apply RelyL.val
        · intro ν w' hL hF K hK'
          go_simp
          exact hK'.out _ _ rfl (Lat.refl _)
        simp only [Act.put, List.setIfInBounds_toArray, List.set_cons_zero, List.set_cons_succ, Nat.reduceAdd]
        apply RelyL.val
        · intro ν w' hL hF K hK'
          go_simp
          exact hK'.out _ _ rfl (Lat.refl _)
        simp only [Act.put, List.setIfInBounds_toArray, List.set_cons_zero, List.set_cons_succ, Nat.reduceAdd]
        apply RelyL.val
        · intro ν w' hL hF K hK'
          go_simp
          exact hK'.out _ _ rfl (Lat.refl _)
        simp only [Act.put, List.setIfInBounds_toArray, List.set_cons_zero, List.set_cons_succ, Nat.reduceAdd]
        apply RelyL.val
        · intro ν w' hL hF K hK'
          go_simp
          exact hK'.out _ _ rfl (Lat.refl _)
        simp only [Act.put, List.setIfInBounds_toArray, List.set_cons_zero, List.set_cons_succ, Nat.reduceAdd]
        apply RelyL.val
        · intro ν w' hL hF K hK'
          go_simp
          exact hK'.out _ _ rfl (Lat.refl _)
        simp only [Act.put, List.setIfInBounds_toArray, List.set_cons_zero, List.set_cons_succ, Nat.reduceAdd]
        apply RelyL.val
        · intro ν w' hL hF K hK'
          go_simp
          exact hK'.out _ _ rfl (Lat.refl _)
        simp only [Act.put, List.setIfInBounds_toArray, List.set_cons_zero, List.set_cons_succ, Nat.reduceAdd]
        apply RelyL.val
        · intro ν w' hL hF K hK'
          go_simp
          exact hK'.out _ _ rfl (Lat.refl _)
        simp only [Act.put, List.setIfInBounds_toArray, List.set_cons_zero, List.set_cons_succ, Nat.reduceAdd]
        apply RelyL.val
        · intro ν w' hL hF K hK'
          go_simp
          exact hK'.out _ _ rfl (Lat.refl _)
        simp only [Act.put, List.setIfInBounds_toArray, List.set_cons_zero, List.set_cons_succ, Nat.reduceAdd]
        apply RelyL.val
        · intro ν w' hL hF K hK'
          refine take_op rfl ?_
          refine wp_load_at 44 _ rfl b ((off + j * 10)) rfl _ _ (hr1.below hL hb1) Tryz.underlying44 rfl (by kernel_rfl) ?_
          exact hK'.out _ _ rfl (Lat.refl _)
        simp only [Act.put, List.setIfInBounds_toArray, List.set_cons_zero, List.set_cons_succ, Nat.reduceAdd]
        apply RelyL.val
        · intro ν w' hL hF K hK'
          refine take_op rfl ?_
          refine wp_load_at 44 _ rfl w.heap.size (0) rfl _ _ (hrx.below hL hbx) Tryz.underlying44 rfl (by kernel_rfl) ?_
          exact hK'.out _ _ rfl (Lat.refl _)
        simp only [Act.put, List.setIfInBounds_toArray, List.set_cons_zero, List.set_cons_succ, Nat.reduceAdd]
        apply RelyL.val
        · intro ν w' hL hF K hK'
          have H := Lib.hid (rbefore_c l[j] x w' HE.out)
          go_simp
          go_at_call 65
          refine H.out.mono ?_
          rintro r w'' ⟨rfl, hbp⟩
          exact hK'.out _ _ rfl hbp
        simp only [Act.put, List.setIfInBounds_toArray, List.set_cons_zero, List.set_cons_succ, Nat.reduceAdd]
        apply RelyL.val
        · intro ν w' hL hF K hK'
          go_simp
          exact hK'.out _ _ rfl (Lat.refl _)
        simp only [Act.put, List.setIfInBounds_toArray, List.set_cons_zero, List.set_cons_succ, Nat.reduceAdd]
        refine RelyL.done fun ν w4 hL hF => ?_
        clear hF
        have hr2 := hr1.below hL hb1
        have hown4 := (hown.lat hL).al (.cells (wC l[j]).toArray 44)
        have hLW4 := hLW.trans hL
        have hLW5 : Lat (w.alloc (.cells (wC x).toArray 44)) (w4.alloc (.cells (wC l[j]).toArray 44)) := hLW4.trans (Lat.al _ _)
        have hnew := Blk.new w4 44 (wC l[j]).toArray
        have hlen : (l.take j).length = j := by rw [List.length_take]; omega
        have hmax : (l.take j).length + 1 ≤ maxLen := by unfold maxLen; omega
        have hby : ((l.take j).length + 1) * EW.bytes ≤ 140737488355328 := Nat.le_trans (Nat.mul_le_mul_right EW.bytes (by omega : (l.take j).length + 1 ≤ 1000000)) (by decide)
        have hbse : w.heap.size + 1 ≤ (w4.alloc (.cells (wC l[j]).toArray 44)).heap.size := by have := hLW5.size; rw [World.size_alloc] at this; exact this
        have HT := Lib.hid (fun k (hk : u5.ownBlock = some k) => (hown.lt k hk).1)
        have hfw := foldW l[j]
        have hwl : (wC l[j]).length = 10 := rfl
        have HM1 := Lib.hid hmax
        have HM2 := Lib.hid hby
        have HB := Lib.hid hbse
        clear hown hr1 hLW hLW4 hL hxr hrx hbx HE hmax hby hbse
        go_wp2_with (first | (with_reducible refine wpList_load_at rfl 44 _ rfl b (off + j * 10) rfl _ _ hr2 Tryz.underlying44 rfl (by kernel_rfl) ?_) | (at_builtin; refine EW.append rfl _ _ rfl (w.heap.size + 1) (l.take j) _ rfl hown4 w4.heap.size 1 l[j] rfl 44 hnew HM1.out HM2.out HB.out ?_; intro v6 w6 hown6 hg6 hw6; go_must (have hLW7 : Lat (w.alloc (.cells (wC x).toArray 44)) w6 := hLW5.grown hg6 (Nat.le_trans (Nat.le_of_eq (World.size_alloc _ _)) HB.out) (fun k hk => Nat.le_trans (Nat.le_of_eq (World.size_alloc _ _)) (HT.out k hk)); clear hnew hg6 hw6)))
        go_roundw
        case rel => exact ⟨j + 1, by omega, by go_num, by rw [List.take_succ_eq_append_getElem hlt]; exact hown6, Lib.hid (HR.out.trans (by rw [List.take_succ_eq_append_getElem hlt]; simp only [List.append_assoc, List.cons_append, List.nil_append])), hLW7⟩
        case measure => simp [intOf]; omega
    · have hdj : l.drop j = [] := List.drop_of_length_le (by omega)
      have HR2 : Hid (R = l.take j ++ [x] ++ l.drop j) := Lib.hid (by rw [HR.out, hdj]; simp [insB])
      clear HR hdj
      go_wp2_with fail
      refine wp_rely (by kernel_rfl) (by kernel_rfl) ?_
      apply RelyL.val
      · intro ν w' hL hF K hK'
        go_simp
        exact hK'.out _ _ rfl (Lat.refl _)
      simp only [Act.put, List.setIfInBounds_toArray, List.set_cons_zero, List.set_cons_succ, Nat.reduceAdd]
      apply RelyL.val
      · intro ν w' hL hF K hK'
        go_simp
        exact hK'.out _ _ rfl (Lat.refl _)
      simp only [Act.put, List.setIfInBounds_toArray, List.set_cons_zero, List.set_cons_succ, Nat.reduceAdd]
      apply RelyL.val
      · intro ν w' hL hF K hK'
        go_simp
        exact hK'.out _ _ rfl (Lat.refl _)
      simp only [Act.put, List.setIfInBounds_toArray, List.set_cons_zero, List.set_cons_succ, Nat.reduceAdd]
      apply RelyL.val
      · intro ν w' hL hF K hK'
        go_simp
        exact hK'.out _ _ rfl (Lat.refl _)
      simp only [Act.put, List.setIfInBounds_toArray, List.set_cons_zero, List.set_cons_succ, Nat.reduceAdd]
      apply RelyL.val
      · intro ν w' hL hF K hK'
        go_simp
        exact hK'.out _ _ rfl (Lat.refl _)
      simp only [Act.put, List.setIfInBounds_toArray, List.set_cons_zero, List.set_cons_succ, Nat.reduceAdd]
      apply RelyL.val
      · intro ν w' hL hF K hK'
        refine skip_op rfl ?_
        exact hK'.out _ _ rfl (Lat.refl _)
      simp only [Act.put, List.setIfInBounds_toArray, List.set_cons_zero, List.set_cons_succ, Nat.reduceAdd]
      apply RelyL.val
      · intro ν w' hL hF K hK'
        refine skip_op rfl ?_
        exact hK'.out _ _ rfl (Lat.refl _)
      simp only [Act.put, List.setIfInBounds_toArray, List.set_cons_zero, List.set_cons_succ, Nat.reduceAdd]
      apply RelyL.val
      · intro ν w' hL hF K hK'
        refine skip_op rfl ?_
        exact hK'.out _ _ rfl (Lat.refl _)
      simp only [Act.put, List.setIfInBounds_toArray, List.set_cons_zero, List.set_cons_succ, Nat.reduceAdd]
      apply RelyL.val
      · intro ν w' hL hF K hK'
        refine skip_op rfl ?_
        exact hK'.out _ _ rfl (Lat.refl _)
      simp only [Act.put, List.setIfInBounds_toArray, List.set_cons_zero, List.set_cons_succ, Nat.reduceAdd]
      apply RelyL.val
      · intro ν w' hL hF K hK'
        refine skip_op rfl ?_
        exact hK'.out _ _ rfl (Lat.refl _)
      simp only [Act.put, List.setIfInBounds_toArray, List.set_cons_zero, List.set_cons_succ, Nat.reduceAdd]
      apply RelyL.val
      · intro ν w' hL hF K hK'
        refine skip_op rfl ?_
        exact hK'.out _ _ rfl (Lat.refl _)
      simp only [Act.put, List.setIfInBounds_toArray, List.set_cons_zero, List.set_cons_succ, Nat.reduceAdd]
      apply RelyL.val
      · intro ν w' hL hF K hK'
        go_simp
        exact hK'.out _ _ rfl (Lat.refl _)
      simp only [Act.put, List.setIfInBounds_toArray, List.set_cons_zero, List.set_cons_succ, Nat.reduceAdd]
      refine RelyL.done fun ν w4 hL hF => ?_
      clear hF
      have hown4 := hown.lat hL
      have hLW4 := hLW.trans hL
      have hrx := hrx.below hL hbx
      have hbx := Nat.lt_of_lt_of_le hbx hL.size
      clear hown hLW hxr hL
      go_wp2_with fail
      refine wp_rely (by kernel_rfl) (by kernel_rfl) ?_
      apply RelyL.val
      · intro ν w' hL hF K hK'
        go_simp
        exact hK'.out _ _ rfl (Lat.refl _)
      simp only [Act.put, List.setIfInBounds_toArray, List.set_cons_zero, List.set_cons_succ, Nat.reduceAdd]
      apply RelyL.val
      · intro ν w' hL hF K hK'
        go_simp
        exact hK'.out _ _ rfl (Lat.refl _)
      simp only [Act.put, List.setIfInBounds_toArray, List.set_cons_zero, List.set_cons_succ, Nat.reduceAdd]
      apply RelyL.val
      · intro ν w' hL hF K hK'
        go_simp
        exact hK'.out _ _ rfl (Lat.refl _)
      simp only [Act.put, List.setIfInBounds_toArray, List.set_cons_zero, List.set_cons_succ, Nat.reduceAdd]
      apply RelyL.val
      · intro ν w' hL hF K hK'
        go_simp
        exact hK'.out _ _ rfl (Lat.refl _)
      simp only [Act.put, List.setIfInBounds_toArray, List.set_cons_zero, List.set_cons_succ, Nat.reduceAdd]
      apply RelyL.val
      · intro ν w' hL hF K hK'
        go_simp
        exact hK'.out _ _ rfl (Lat.refl _)
      simp only [Act.put, List.setIfInBounds_toArray, List.set_cons_zero, List.set_cons_succ, Nat.reduceAdd]
      apply RelyL.val
      · intro ν w' hL hF K hK'
        refine skip_op rfl ?_
        exact hK'.out _ _ rfl (Lat.refl _)
      simp only [Act.put, List.setIfInBounds_toArray, List.set_cons_zero, List.set_cons_succ, Nat.reduceAdd]
      apply RelyL.val
      · intro ν w' hL hF K hK'
        refine skip_op rfl ?_
        exact hK'.out _ _ rfl (Lat.refl _)
      simp only [Act.put, List.setIfInBounds_toArray, List.set_cons_zero, List.set_cons_succ, Nat.reduceAdd]
      apply RelyL.val
      · intro ν w' hL hF K hK'
        refine skip_op rfl ?_
        exact hK'.out _ _ rfl (Lat.refl _)
      simp only [Act.put, List.setIfInBounds_toArray, List.set_cons_zero, List.set_cons_succ, Nat.reduceAdd]
      apply RelyL.val
      · intro ν w' hL hF K hK'
        refine skip_op rfl ?_
        exact hK'.out _ _ rfl (Lat.refl _)
      simp only [Act.put, List.setIfInBounds_toArray, List.set_cons_zero, List.set_cons_succ, Nat.reduceAdd]
      apply RelyL.val
      · intro ν w' hL hF K hK'
        refine skip_op rfl ?_
        exact hK'.out _ _ rfl (Lat.refl _)
      simp only [Act.put, List.setIfInBounds_toArray, List.set_cons_zero, List.set_cons_succ, Nat.reduceAdd]
      apply RelyL.val
      · intro ν w' hL hF K hK'
        refine skip_op rfl ?_
        exact hK'.out _ _ rfl (Lat.refl _)
      simp only [Act.put, List.setIfInBounds_toArray, List.set_cons_zero, List.set_cons_succ, Nat.reduceAdd]
      apply RelyL.val
      · intro ν w' hL hF K hK'
        go_simp
        exact hK'.out _ _ rfl (Lat.refl _)
      simp only [Act.put, List.setIfInBounds_toArray, List.set_cons_zero, List.set_cons_succ, Nat.reduceAdd]
      refine RelyL.done fun ν w4 hL hF => ?_
      clear hF
      have hownT := hown4.lat hL
      have hLT := hLW4.trans hL
      have hxT := hrx.below hL hbx
      clear hown4 hLW4 hrx hbx hL hbox hx
      have hfw := foldW x
      have hwl : (wC x).length = 10 := rfl
      have hownT6 := hownT.al (.cells (wC x).toArray 44)
      have hLW6 : Lat (w.alloc (.cells (wC x).toArray 44)) (w4.alloc (.cells (wC x).toArray 44)) := hLT.trans (Lat.al _ _)
      have hnew := Blk.new w4 44 (wC x).toArray
      have hlen : (l.take j).length = j := by rw [List.length_take]; omega
      have hdl : (l.drop j).length = l.length - j := List.length_drop
      have hmax : (l.take j).length + 1 ≤ maxLen := by unfold maxLen; omega
      have hby : ((l.take j).length + 1) * EW.bytes ≤ 140737488355328 := Nat.le_trans (Nat.mul_le_mul_right EW.bytes (by omega : (l.take j).length + 1 ≤ 1000000)) (by decide)
      have hbse : w.heap.size + 1 ≤ (w4.alloc (.cells (wC x).toArray 44)).heap.size := by have := hLW6.size; rw [World.size_alloc] at this; exact this
      have hmax2 : (l.take j ++ [x]).length + (l.drop j).length ≤ maxLen := by rw [List.length_append, List.length_singleton]; unfold maxLen; omega
      have hby2 : ((l.take j ++ [x]).length + (l.drop j).length) * EW.bytes ≤ 140737488355328 := Nat.le_trans (Nat.mul_le_mul_right EW.bytes (by rw [List.length_append, List.length_singleton]; omega : (l.take j ++ [x]).length + (l.drop j).length ≤ 1000000)) (by decide)
      have HT := Lib.hid (fun k (hk : u5.ownBlock = some k) => (hownT.lt k hk).1)
      have HF := EW.run_from hin.rd hin.cap j hjl
      obtain ⟨AD, cd, hsl0, hrdd⟩ := HF
      have hsl : ∀ w, (Instr.slice 45 (.slice A l.length c) (some (.int .i64 (j : Int))) none none).run Tryz.prog w = .ok (.slice AD (l.length - j) cd) w := hsl0
      have HX := Lib.hid hrdd
      clear hsl0 hrdd
      have HLW6 := Lib.hid hLW6
      have HM1 := Lib.hid hmax
      have HM2 := Lib.hid hby
      have HM3 := Lib.hid hmax2
      have HM4 := Lib.hid hby2
      have HB := Lib.hid hbse
      have HHL := Lib.hid hl
      have HIN := Lib.hid hin
      clear hownT hLT hlen hdl hLW6 hmax hby hmax2 hby2 hbse hl hin
      go_wp2_with (first | (with_reducible refine wpList_load_at rfl 44 _ rfl w.heap.size 0 rfl _ _ hxT Tryz.underlying44 rfl (by kernel_rfl) ?_) | (at_builtin; refine EW.append rfl _ _ rfl (w.heap.size + 1) (l.take j) _ rfl hownT6 w4.heap.size 1 x rfl 44 hnew HM1.out HM2.out HB.out ?_; intro v6 w6 hown6 hg6 hw6; go_must (have hLW7 : Lat (w.alloc (.cells (wC x).toArray 44)) w6 := HLW6.out.grown hg6 (Nat.le_trans (Nat.le_of_eq (World.size_alloc _ _)) HB.out) (fun k hk => Nat.le_trans (Nat.le_of_eq (World.size_alloc _ _)) (HT.out k hk)); have hbse7 : w.heap.size + 1 ≤ w6.heap.size := Nat.le_trans (Nat.le_of_eq (World.size_alloc _ _).symm) hLW7.size; obtain ⟨A8, m8, ev, hr8, hn8⟩ := HX.out.lat (hL0.trans hLW7); injection ev with f1 f2 f3; subst f1 f3; clear f2 hnew hg6 hw6 hownT6 hxT)) | (at_builtin; refine EW.appends rfl _ _ rfl (w.heap.size + 1) (l.take j ++ [x]) _ rfl hown6 AD (l.length - j) cd (l.drop j) rfl List.length_drop.symm (fun e => by have := hn8 e; rw [List.length_drop] at this; exact this) hr8 HM3.out HM4.out hbse7 ?_; intro v8 w8 hown8 hg8; go_must (have hLW9 : Lat (w.alloc (.cells (wC x).toArray 44)) w8 := hLW7.grown hg8 hLW7.size (fun k hk => Nat.le_trans (Nat.le_of_eq (World.size_alloc _ _)) (hown6.lt k hk).1); clear hg8 hr8 hown6)))
      go_ret
      exact ⟨⟨_, rfl, by rw [HR2.out]; exact hown8.mono (by omega)⟩, hL0.trans hLW9⟩
end
end Go.Proofs.YtmgalnbacenbbaaGreat

namespace Go.Proofs.YtmgalnbacenbbaaGreat
section
set_option linter.unusedSimpArgs false
set_option linter.unusedVariables false
open Go.RowKit

/-- A decision of which only the key is laid in. -/
def zC (k : LKey) : List Value := [.int .i64 k.dev, .string k.cl, .string k.at_, .int .i64 0, .string { data := #[] }, .string { data := #[] }, .int .i64 0, .int .i64 0, .string { data := #[] }, .int .i64 0, .string { data := #[] }, .int .i64 0, .int .i64 0, .slice none 0 0, .int .i64 0]
theorem zC_is (k : LKey) : zC k = DR.cells ⟨k, ⟨⟨0, noStr, noStr⟩, ⟨0, 0, noStr⟩, 0, noStr, 0, 0⟩, none, 0, 0, 0⟩ := rfl
noncomputable def EZ : Elt LKey := { ED with
  f := zC
  len := fun x => rfl
  one := fun x u hu => by rw [zC_is] at hu; exact ED.one _ u hu }
theorem foldZ (x : LKey) : List.foldl (fun cs x => Array.setIfInBounds cs x.snd x.fst) #[Value.int .i64 0, .string { data := #[] }, .string { data := #[] }, .int .i64 0, .string { data := #[] }, .string { data := #[] }, .int .i64 0, .int .i64 0, .string { data := #[] }, .int .i64 0, .string { data := #[] }, .int .i64 0, .int .i64 0, .slice none 0 0, .int .i64 0] (zC x).zipIdx = (zC x).toArray := by
  obtain ⟨x1, x2, x3⟩ := x
  simp [zC]
theorem foldK (x : LKey) : List.foldl (fun cs x => Array.setIfInBounds cs x.snd x.fst) #[Value.int .i64 0, .string { data := #[] }, .string { data := #[] }, .int .i64 0, .string { data := #[] }, .string { data := #[] }, .int .i64 0, .int .i64 0, .string { data := #[] }, .int .i64 0, .string { data := #[] }, .int .i64 0, .int .i64 0, .slice none 0 0, .int .i64 0] (kC x).zipIdx = (zC x).toArray := by
  obtain ⟨x1, x2, x3⟩ := x
  simp [zC, kC]
theorem zC_key {w : World} {b off : Nat} {k : LKey} (h : RowAt w b off (zC k)) : RowAt w b off (kC k) := fun q v hq => h q v (by
  match q, hq with
  | 0, hq => exact hq
  | 1, hq => exact hq
  | 2, hq => exact hq
  | q + 3, hq => simp [kC] at hq)
theorem rless_c (x y : LKey) (w : World) {e : Bool} (h : kless x y = e) : Calls Tryz.prog 64 #[.agg (kC x).toArray, .agg (kC y).toArray] w fun r w' => r = .returned (.bool e) ∧ Lat w w' := by
  subst h; exact (Dr.rless_any x y w).mono (fun r w' h => ⟨h.1, drLat h.2⟩)

set_option maxRecDepth 100000 in
set_option maxHeartbeats 4000000 in
theorem place_any (l : List LKey) (x : LKey) (v : Value) (base : Nat) (w : World) (hin : EZ.Own w base l v) (hbase : base ≤ w.heap.size) (hl : l.length ≤ 100000) :
    Calls Tryz.prog 41 #[v, .agg (kC x).toArray] w fun r w' => (∃ v', r = .returned v' ∧ EZ.Own w' base (insB kless l x) v') ∧ Lat w w' := by
  obtain ⟨A, c, rfl⟩ := hin.slice
  have hx := hin.rd
  have HR : Hid (insB kless l x = l.take 0 ++ insB kless (l.drop 0) x) := Lib.hid (by simp)
  generalize insB kless l x = R at *
  have hL0 : Lat w (w.alloc (.cells (kC x).toArray 34)) := Lat.al _ _
  have hbox := Blk.new w 34 (kC x).toArray
  go_enter Tryz.func41, Tryz.ntmps41
  go_wp2_with fail
  go_loopw [5, 6] (fun v i wr => ∃ j : Nat, j ≤ l.length ∧ i = .int .i64 j ∧ EZ.Own wr (w.heap.size + 1) (l.take j) v ∧ Hid (R = l.take j ++ insB kless (l.drop j) x) ∧ Lat (w.alloc (.cells (kC x).toArray 34)) wr) (fun _ i _ => l.length - (intOf i).toNat)
  case atStart => exact ⟨0, Nat.zero_le _, rfl, Elt.Own.nil _ _, HR, Lat.refl _⟩
  case round =>
    clear HR
    obtain ⟨j, hjl, rfl, hown, HR, hLW⟩ := hrel
    have hxr := hbox.lat hLW
    have hrx : RowAt wr w.heap.size 0 (kC x) := hxr.row
    have hbx := hxr.lt
    by_cases hlt : j < l.length
    · obtain ⟨b, off, hA, hb1, hr1'⟩ := (hx.lat (hL0.trans hLW)).row j hlt
      subst hA
      have hr1 : RowAt wr b (off + j * 15) (zC l[j]) := hr1'
      have hk1 := zC_key hr1
      clear hr1'
      have hdj : l.drop j = l[j] :: l.drop (j + 1) := List.drop_eq_getElem_cons hlt
      cases hbe : kless l[j] x
      · have HE := Lib.hid hbe
        rw [hdj, insB, hbe, if_neg (by simp), ← hdj] at HR
        go_wp2_with fail
        refine wp_rely (by kernel_rfl) (by kernel_rfl) ?_
        apply RelyL.val
        · intro ν w' hL hF K hK'
          go_simp
          exact hK'.out _ _ rfl (Lat.refl _)
        simp only [Act.put, List.setIfInBounds_toArray, List.set_cons_zero, List.set_cons_succ, Nat.reduceAdd]
        apply RelyL.val
        · intro ν w' hL hF K hK'
          go_simp
          exact hK'.out _ _ rfl (Lat.refl _)
        simp only [Act.put, List.setIfInBounds_toArray, List.set_cons_zero, List.set_cons_succ, Nat.reduceAdd]
        apply RelyL.val
        · intro ν w' hL hF K hK'
          go_simp
          exact hK'.out _ _ rfl (Lat.refl _)
        simp only [Act.put, List.setIfInBounds_toArray, List.set_cons_zero, List.set_cons_succ, Nat.reduceAdd]
        apply RelyL.val
        · intro ν w' hL hF K hK'
          go_simp
          exact hK'.out _ _ rfl (Lat.refl _)
        simp only [Act.put, List.setIfInBounds_toArray, List.set_cons_zero, List.set_cons_succ, Nat.reduceAdd]
        apply RelyL.val
        · intro ν w' hL hF K hK'
          go_simp
          exact hK'.out _ _ rfl (Lat.refl _)
        simp only [Act.put, List.setIfInBounds_toArray, List.set_cons_zero, List.set_cons_succ, Nat.reduceAdd]
        apply RelyL.val
        · intro ν w' hL hF K hK'
          go_simp
          exact hK'.out _ _ rfl (Lat.refl _)
        simp only [Act.put, List.setIfInBounds_toArray, List.set_cons_zero, List.set_cons_succ, Nat.reduceAdd]
        apply RelyL.val
        · intro ν w' hL hF K hK'
          go_simp
          exact hK'.out _ _ rfl (Lat.refl _)
        simp only [Act.put, List.setIfInBounds_toArray, List.set_cons_zero, List.set_cons_succ, Nat.reduceAdd]
        apply RelyL.val
        · intro ν w' hL hF K hK'
          go_simp
          exact hK'.out _ _ rfl (Lat.refl _)
        simp only [Act.put, List.setIfInBounds_toArray, List.set_cons_zero, List.set_cons_succ, Nat.reduceAdd]
        apply RelyL.val
        · intro ν w' hL hF K hK'
          go_simp
          exact hK'.out _ _ rfl (Lat.refl _)
        simp only [Act.put, List.setIfInBounds_toArray, List.set_cons_zero, List.set_cons_succ, Nat.reduceAdd]
        apply RelyL.val
        · intro ν w' hL hF K hK'
          refine take_op rfl ?_
          refine wp_load_at 34 _ rfl b ((off + j * 15)) rfl _ _ (hk1.below hL hb1) Tryz.underlying34 rfl (by kernel_rfl) ?_
          exact hK'.out _ _ rfl (Lat.refl _)
        simp only [Act.put, List.setIfInBounds_toArray, List.set_cons_zero, List.set_cons_succ, Nat.reduceAdd]
        apply RelyL.val
        · intro ν w' hL hF K hK'
          refine take_op rfl ?_
          refine wp_load_at 34 _ rfl w.heap.size (0) rfl _ _ (hrx.below hL hbx) Tryz.underlying34 rfl (by kernel_rfl) ?_
          exact hK'.out _ _ rfl (Lat.refl _)
        simp only [Act.put, List.setIfInBounds_toArray, List.set_cons_zero, List.set_cons_succ, Nat.reduceAdd]
        apply RelyL.val
        · intro ν w' hL hF K hK'
          have H := Lib.hid (rless_c l[j] x w' HE.out)
          go_simp
          go_at_call 64
          refine H.out.mono ?_
          rintro r w'' ⟨rfl, hbp⟩
          exact hK'.out _ _ rfl hbp
        simp only [Act.put, List.setIfInBounds_toArray, List.set_cons_zero, List.set_cons_succ, Nat.reduceAdd]
        apply RelyL.val
        · intro ν w' hL hF K hK'
          go_simp
          exact hK'.out _ _ rfl (Lat.refl _)
        simp only [Act.put, List.setIfInBounds_toArray, List.set_cons_zero, List.set_cons_succ, Nat.reduceAdd]
        refine RelyL.done fun ν w4 hL hF => ?_
        clear hF
        have hk1 := hk1.below hL hb1
        have hrx := hrx.below hL hbx
        have hb1 := Nat.lt_of_lt_of_le hb1 hL.size
        have hbx := Nat.lt_of_lt_of_le hbx hL.size
        have hown4 := hown.lat hL
        have hLW4 := hLW.trans hL
        clear HE hown hLW hxr hbe hdj hL
        by_cases he : l[j] = x
        · have HE := Lib.hid (decide_eq_true he)
          have HEQ := Lib.hid he
          clear he
          go_wp2_with fail
          refine wp_rely (by kernel_rfl) (by kernel_rfl) ?_
          apply RelyL.val
          · intro ν w' hL hF K hK'
            go_simp
            exact hK'.out _ _ rfl (Lat.refl _)
          simp only [Act.put, List.setIfInBounds_toArray, List.set_cons_zero, List.set_cons_succ, Nat.reduceAdd]
          apply RelyL.val
          · intro ν w' hL hF K hK'
            go_simp
            exact hK'.out _ _ rfl (Lat.refl _)
          simp only [Act.put, List.setIfInBounds_toArray, List.set_cons_zero, List.set_cons_succ, Nat.reduceAdd]
          apply RelyL.val
          · intro ν w' hL hF K hK'
            go_simp
            exact hK'.out _ _ rfl (Lat.refl _)
          simp only [Act.put, List.setIfInBounds_toArray, List.set_cons_zero, List.set_cons_succ, Nat.reduceAdd]
          apply RelyL.val
          · intro ν w' hL hF K hK'
            go_simp
            exact hK'.out _ _ rfl (Lat.refl _)
          simp only [Act.put, List.setIfInBounds_toArray, List.set_cons_zero, List.set_cons_succ, Nat.reduceAdd]
          apply RelyL.val
          · intro ν w' hL hF K hK'
            go_simp
            exact hK'.out _ _ rfl (Lat.refl _)
          simp only [Act.put, List.setIfInBounds_toArray, List.set_cons_zero, List.set_cons_succ, Nat.reduceAdd]
          apply RelyL.val
          · intro ν w' hL hF K hK'
            go_simp
            exact hK'.out _ _ rfl (Lat.refl _)
          simp only [Act.put, List.setIfInBounds_toArray, List.set_cons_zero, List.set_cons_succ, Nat.reduceAdd]
          apply RelyL.val
          · intro ν w' hL hF K hK'
            go_simp
            exact hK'.out _ _ rfl (Lat.refl _)
          simp only [Act.put, List.setIfInBounds_toArray, List.set_cons_zero, List.set_cons_succ, Nat.reduceAdd]
          apply RelyL.val
          · intro ν w' hL hF K hK'
            go_simp
            exact hK'.out _ _ rfl (Lat.refl _)
          simp only [Act.put, List.setIfInBounds_toArray, List.set_cons_zero, List.set_cons_succ, Nat.reduceAdd]
          apply RelyL.val
          · intro ν w' hL hF K hK'
            go_simp
            exact hK'.out _ _ rfl (Lat.refl _)
          simp only [Act.put, List.setIfInBounds_toArray, List.set_cons_zero, List.set_cons_succ, Nat.reduceAdd]
          apply RelyL.val
          · intro ν w' hL hF K hK'
            refine take_op rfl ?_
            refine wp_load_at 34 _ rfl b ((off + j * 15)) rfl _ _ (hk1.below hL hb1) Tryz.underlying34 rfl (by kernel_rfl) ?_
            exact hK'.out _ _ rfl (Lat.refl _)
          simp only [Act.put, List.setIfInBounds_toArray, List.set_cons_zero, List.set_cons_succ, Nat.reduceAdd]
          apply RelyL.val
          · intro ν w' hL hF K hK'
            refine take_op rfl ?_
            refine wp_load_at 34 _ rfl w.heap.size (0) rfl _ _ (hrx.below hL hbx) Tryz.underlying34 rfl (by kernel_rfl) ?_
            exact hK'.out _ _ rfl (Lat.refl _)
          simp only [Act.put, List.setIfInBounds_toArray, List.set_cons_zero, List.set_cons_succ, Nat.reduceAdd]
          apply RelyL.val
          · intro ν w' hL hF K hK'
            refine take_op rfl ?_
            refine wp_eql_k _ _ _ rfl l[j] x rfl rfl HE.out ?_
            exact hK'.out _ _ rfl (Lat.refl _)
          simp only [Act.put, List.setIfInBounds_toArray, List.set_cons_zero, List.set_cons_succ, Nat.reduceAdd]
          apply RelyL.val
          · intro ν w' hL hF K hK'
            go_simp
            exact hK'.out _ _ rfl (Lat.refl _)
          simp only [Act.put, List.setIfInBounds_toArray, List.set_cons_zero, List.set_cons_succ, Nat.reduceAdd]
          refine RelyL.done fun ν w5 hL5 hF => ?_
          clear hF
          have hown5 := hin.lat (hL0.trans (hLW4.trans hL5))
          have hLW5 := hL0.trans (hLW4.trans hL5)
          clear HE hk1 hr1 hrx hb1 hbx hown4 hLW4 hL5 hL0 hx hbox
          go_wp2_with fail
          go_ret
          refine ⟨⟨_, rfl, ?_⟩, hLW5⟩
          rw [HR.out, if_pos HEQ.out, List.take_append_drop]
          exact hown5
        · have HE := Lib.hid (decide_eq_false he)
          have HEQ := Lib.hid he
          clear he
          go_wp2_with fail
          refine wp_rely (by kernel_rfl) (by kernel_rfl) ?_
          apply RelyL.val
          · intro ν w' hL hF K hK'
            go_simp
            exact hK'.out _ _ rfl (Lat.refl _)
          simp only [Act.put, List.setIfInBounds_toArray, List.set_cons_zero, List.set_cons_succ, Nat.reduceAdd]
          apply RelyL.val
          · intro ν w' hL hF K hK'
            go_simp
            exact hK'.out _ _ rfl (Lat.refl _)
          simp only [Act.put, List.setIfInBounds_toArray, List.set_cons_zero, List.set_cons_succ, Nat.reduceAdd]
          apply RelyL.val
          · intro ν w' hL hF K hK'
            go_simp
            exact hK'.out _ _ rfl (Lat.refl _)
          simp only [Act.put, List.setIfInBounds_toArray, List.set_cons_zero, List.set_cons_succ, Nat.reduceAdd]
          apply RelyL.val
          · intro ν w' hL hF K hK'
            go_simp
            exact hK'.out _ _ rfl (Lat.refl _)
          simp only [Act.put, List.setIfInBounds_toArray, List.set_cons_zero, List.set_cons_succ, Nat.reduceAdd]
          apply RelyL.val
          · intro ν w' hL hF K hK'
            go_simp
            exact hK'.out _ _ rfl (Lat.refl _)
          simp only [Act.put, List.setIfInBounds_toArray, List.set_cons_zero, List.set_cons_succ, Nat.reduceAdd]
          apply RelyL.val
          · intro ν w' hL hF K hK'
            go_simp
            exact hK'.out _ _ rfl (Lat.refl _)
          simp only [Act.put, List.setIfInBounds_toArray, List.set_cons_zero, List.set_cons_succ, Nat.reduceAdd]
          apply RelyL.val
          · intro ν w' hL hF K hK'
            go_simp
            exact hK'.out _ _ rfl (Lat.refl _)
          simp only [Act.put, List.setIfInBounds_toArray, List.set_cons_zero, List.set_cons_succ, Nat.reduceAdd]
          apply RelyL.val
          · intro ν w' hL hF K hK'
            go_simp
            exact hK'.out _ _ rfl (Lat.refl _)
          simp only [Act.put, List.setIfInBounds_toArray, List.set_cons_zero, List.set_cons_succ, Nat.reduceAdd]
          apply RelyL.val
          · intro ν w' hL hF K hK'
            go_simp
            exact hK'.out _ _ rfl (Lat.refl _)
          simp only [Act.put, List.setIfInBounds_toArray, List.set_cons_zero, List.set_cons_succ, Nat.reduceAdd]
          apply RelyL.val
          · intro ν w' hL hF K hK'
            refine take_op rfl ?_
            refine wp_load_at 34 _ rfl b ((off + j * 15)) rfl _ _ (hk1.below hL hb1) Tryz.underlying34 rfl (by kernel_rfl) ?_
            exact hK'.out _ _ rfl (Lat.refl _)
          simp only [Act.put, List.setIfInBounds_toArray, List.set_cons_zero, List.set_cons_succ, Nat.reduceAdd]
          apply RelyL.val
          · intro ν w' hL hF K hK'
            refine take_op rfl ?_
            refine wp_load_at 34 _ rfl w.heap.size (0) rfl _ _ (hrx.below hL hbx) Tryz.underlying34 rfl (by kernel_rfl) ?_
            exact hK'.out _ _ rfl (Lat.refl _)
          simp only [Act.put, List.setIfInBounds_toArray, List.set_cons_zero, List.set_cons_succ, Nat.reduceAdd]
          apply RelyL.val
          · intro ν w' hL hF K hK'
            refine take_op rfl ?_
            refine wp_eql_k _ _ _ rfl l[j] x rfl rfl HE.out ?_
            exact hK'.out _ _ rfl (Lat.refl _)
          simp only [Act.put, List.setIfInBounds_toArray, List.set_cons_zero, List.set_cons_succ, Nat.reduceAdd]
          apply RelyL.val
          · intro ν w' hL hF K hK'
            go_simp
            exact hK'.out _ _ rfl (Lat.refl _)
          simp only [Act.put, List.setIfInBounds_toArray, List.set_cons_zero, List.set_cons_succ, Nat.reduceAdd]
          refine RelyL.done fun ν w5 hL5 hF => ?_
          clear hF
          have hownT := hown4.lat hL5
          have hLT := hLW4.trans hL5
          have hxT := hrx.below hL5 hbx
          clear HE hown4 hLW4 hk1 hr1 hrx hb1 hbx hL5 hbox hx
          have HR2 : Hid (R = l.take j ++ [x] ++ l.drop j) := Lib.hid (by rw [HR.out, if_neg HEQ.out]; simp)
          clear HR
          have hfw := foldZ x
          have hfk := foldK x
          have hwl : (zC x).length = 15 := rfl
          have hkl : (kC x).length = 3 := rfl
          have hownT6 := hownT.al (.cells (zC x).toArray 48)
          have hLW6 : Lat (w.alloc (.cells (kC x).toArray 34)) (w5.alloc (.cells (zC x).toArray 48)) := hLT.trans (Lat.al _ _)
          have hnew := Blk.new w5 48 (zC x).toArray
          have hlen : (l.take j).length = j := by rw [List.length_take]; omega
          have hdl : (l.drop j).length = l.length - j := List.length_drop
          have hmax : (l.take j).length + 1 ≤ maxLen := by unfold maxLen; omega
          have hby : ((l.take j).length + 1) * EZ.bytes ≤ 140737488355328 := Nat.le_trans (Nat.mul_le_mul_right EZ.bytes (by omega : (l.take j).length + 1 ≤ 1000000)) (by decide)
          have hbse : w.heap.size + 1 ≤ (w5.alloc (.cells (zC x).toArray 48)).heap.size := by have := hLW6.size; rw [World.size_alloc] at this; exact this
          have hmax2 : (l.take j ++ [x]).length + (l.drop j).length ≤ maxLen := by rw [List.length_append, List.length_singleton]; unfold maxLen; omega
          have hby2 : ((l.take j ++ [x]).length + (l.drop j).length) * EZ.bytes ≤ 140737488355328 := Nat.le_trans (Nat.mul_le_mul_right EZ.bytes (by rw [List.length_append, List.length_singleton]; omega : (l.take j ++ [x]).length + (l.drop j).length ≤ 1000000)) (by decide)
          have HT := Lib.hid (fun k (hk : u5.ownBlock = some k) => (hownT.lt k hk).1)
          have HF := EZ.run_from hin.rd hin.cap j hjl
          obtain ⟨AD, cd, hsl0, hrdd⟩ := HF
          have hsl : ∀ w, (Instr.slice 24 (.slice (some ⟨b, off, none⟩) l.length c) (some (.int .i64 (j : Int))) none none).run Tryz.prog w = .ok (.slice AD (l.length - j) cd) w := hsl0
          have HX := Lib.hid hrdd
          clear hsl0 hrdd
          have HLW6 := Lib.hid hLW6
          have HM1 := Lib.hid hmax
          have HM2 := Lib.hid hby
          have HM3 := Lib.hid hmax2
          have HM4 := Lib.hid hby2
          have HB := Lib.hid hbse
          have HHL := Lib.hid hl
          have HIN := Lib.hid hin
          clear hownT hLT hlen hdl hLW6 hmax hby hmax2 hby2 hbse hl hin
          go_wp2_with (first | (with_reducible refine wpList_load_at rfl 34 _ rfl w.heap.size 0 rfl _ _ hxT Tryz.underlying34 rfl (by kernel_rfl) ?_) | (at_builtin; refine EZ.append rfl _ _ rfl (w.heap.size + 1) (l.take j) _ rfl hownT6 w5.heap.size 1 x rfl 48 hnew HM1.out HM2.out HB.out ?_; intro v6 w6 hown6 hg6 hw6; go_must (have hLW7 : Lat (w.alloc (.cells (kC x).toArray 34)) w6 := HLW6.out.grown hg6 (Nat.le_trans (Nat.le_of_eq (World.size_alloc _ _)) HB.out) (fun k hk => Nat.le_trans (Nat.le_of_eq (World.size_alloc _ _)) (HT.out k hk)); have hbse7 : w.heap.size + 1 ≤ w6.heap.size := Nat.le_trans (Nat.le_of_eq (World.size_alloc _ _).symm) hLW7.size; obtain ⟨A8, m8, ev, hr8, hn8⟩ := HX.out.lat (hL0.trans hLW7); injection ev with f1 f2 f3; subst f1 f3; clear f2 hnew hg6 hw6 hownT6 hxT)) | (at_builtin; refine EZ.appends rfl _ _ rfl (w.heap.size + 1) (l.take j ++ [x]) _ rfl hown6 AD (l.length - j) cd (l.drop j) rfl List.length_drop.symm (fun e => by have := hn8 e; rw [List.length_drop] at this; exact this) hr8 HM3.out HM4.out hbse7 ?_; intro v8 w8 hown8 hg8; go_must (have hLW9 : Lat (w.alloc (.cells (kC x).toArray 34)) w8 := hLW7.grown hg8 hLW7.size (fun k hk => Nat.le_trans (Nat.le_of_eq (World.size_alloc _ _)) (hown6.lt k hk).1); clear hg8 hr8 hown6)))
          go_ret
          exact ⟨⟨_, rfl, by rw [HR2.out]; exact hown8.mono (by omega)⟩, hL0.trans hLW9⟩
      · have HE := Lib.hid hbe
        rw [List.drop_eq_getElem_cons hlt, insB, if_pos hbe] at HR
        clear hbe
        go_wp2_with fail
        refine wp_rely (by kernel_rfl) (by kernel_rfl) ?_
        apply RelyL.val
        · intro ν w' hL hF K hK'
          go_simp
          exact hK'.out _ _ rfl (Lat.refl _)
        simp only [Act.put, List.setIfInBounds_toArray, List.set_cons_zero, List.set_cons_succ, Nat.reduceAdd]
        apply RelyL.val
        · intro ν w' hL hF K hK'
          go_simp
          exact hK'.out _ _ rfl (Lat.refl _)
        simp only [Act.put, List.setIfInBounds_toArray, List.set_cons_zero, List.set_cons_succ, Nat.reduceAdd]
        apply RelyL.val
        · intro ν w' hL hF K hK'
          go_simp
          exact hK'.out _ _ rfl (Lat.refl _)
        simp only [Act.put, List.setIfInBounds_toArray, List.set_cons_zero, List.set_cons_succ, Nat.reduceAdd]
        apply RelyL.val
        · intro ν w' hL hF K hK'
          go_simp
          exact hK'.out _ _ rfl (Lat.refl _)
        simp only [Act.put, List.setIfInBounds_toArray, List.set_cons_zero, List.set_cons_succ, Nat.reduceAdd]
        apply RelyL.val
        · intro ν w' hL hF K hK'
          go_simp
          exact hK'.out _ _ rfl (Lat.refl _)
        simp only [Act.put, List.setIfInBounds_toArray, List.set_cons_zero, List.set_cons_succ, Nat.reduceAdd]
        apply RelyL.val
        · intro ν w' hL hF K hK'
          go_simp
          exact hK'.out _ _ rfl (Lat.refl _)
        simp only [Act.put, List.setIfInBounds_toArray, List.set_cons_zero, List.set_cons_succ, Nat.reduceAdd]
        apply RelyL.val
        · intro ν w' hL hF K hK'
          go_simp
          exact hK'.out _ _ rfl (Lat.refl _)
        simp only [Act.put, List.setIfInBounds_toArray, List.set_cons_zero, List.set_cons_succ, Nat.reduceAdd]
        apply RelyL.val
        · intro ν w' hL hF K hK'
          go_simp
          exact hK'.out _ _ rfl (Lat.refl _)
        simp only [Act.put, List.setIfInBounds_toArray, List.set_cons_zero, List.set_cons_succ, Nat.reduceAdd]
        apply RelyL.val
        · intro ν w' hL hF K hK'
          go_simp
          exact hK'.out _ _ rfl (Lat.refl _)
        simp only [Act.put, List.setIfInBounds_toArray, List.set_cons_zero, List.set_cons_succ, Nat.reduceAdd]
        apply RelyL.val
        · intro ν w' hL hF K hK'
          refine take_op rfl ?_
          refine wp_load_at 34 _ rfl b ((off + j * 15)) rfl _ _ (hk1.below hL hb1) Tryz.underlying34 rfl (by kernel_rfl) ?_
          exact hK'.out _ _ rfl (Lat.refl _)
        simp only [Act.put, List.setIfInBounds_toArray, List.set_cons_zero, List.set_cons_succ, Nat.reduceAdd]
        apply RelyL.val
        · intro ν w' hL hF K hK'
          refine take_op rfl ?_
          refine wp_load_at 34 _ rfl w.heap.size (0) rfl _ _ (hrx.below hL hbx) Tryz.underlying34 rfl (by kernel_rfl) ?_
          exact hK'.out _ _ rfl (Lat.refl _)
        simp only [Act.put, List.setIfInBounds_toArray, List.set_cons_zero, List.set_cons_succ, Nat.reduceAdd]
        apply RelyL.val
        · intro ν w' hL hF K hK'
          have H := Lib.hid (rless_c l[j] x w' HE.out)
          go_simp
          go_at_call 64
          refine H.out.mono ?_
          rintro r w'' ⟨rfl, hbp⟩
          exact hK'.out _ _ rfl hbp
        simp only [Act.put, List.setIfInBounds_toArray, List.set_cons_zero, List.set_cons_succ, Nat.reduceAdd]
        apply RelyL.val
        · intro ν w' hL hF K hK'
          go_simp
          exact hK'.out _ _ rfl (Lat.refl _)
        simp only [Act.put, List.setIfInBounds_toArray, List.set_cons_zero, List.set_cons_succ, Nat.reduceAdd]
        refine RelyL.done fun ν w4 hL hF => ?_
        clear hF
        have hr2 := hr1.below hL hb1
        have hown4 := (hown.lat hL).al (.cells (zC l[j]).toArray 48)
        have hLW4 := hLW.trans hL
        have hLW5 : Lat (w.alloc (.cells (kC x).toArray 34)) (w4.alloc (.cells (zC l[j]).toArray 48)) := hLW4.trans (Lat.al _ _)
        have hnew := Blk.new w4 48 (zC l[j]).toArray
        have hlen : (l.take j).length = j := by rw [List.length_take]; omega
        have hmax : (l.take j).length + 1 ≤ maxLen := by unfold maxLen; omega
        have hby : ((l.take j).length + 1) * EZ.bytes ≤ 140737488355328 := Nat.le_trans (Nat.mul_le_mul_right EZ.bytes (by omega : (l.take j).length + 1 ≤ 1000000)) (by decide)
        have hbse : w.heap.size + 1 ≤ (w4.alloc (.cells (zC l[j]).toArray 48)).heap.size := by have := hLW5.size; rw [World.size_alloc] at this; exact this
        have HT := Lib.hid (fun k (hk : u5.ownBlock = some k) => (hown.lt k hk).1)
        have hfw := foldZ l[j]
        have hwl : (zC l[j]).length = 15 := rfl
        have HM1 := Lib.hid hmax
        have HM2 := Lib.hid hby
        have HB := Lib.hid hbse
        clear hown hk1 hr1 hLW hLW4 hL hxr hrx hbx HE hmax hby hbse
        go_wp2_with (first | (with_reducible refine wpList_load_at rfl 48 _ rfl b (off + j * 15) rfl _ _ hr2 Tryz.underlying48 rfl (by kernel_rfl) ?_) | (at_builtin; refine EZ.append rfl _ _ rfl (w.heap.size + 1) (l.take j) _ rfl hown4 w4.heap.size 1 l[j] rfl 48 hnew HM1.out HM2.out HB.out ?_; intro v6 w6 hown6 hg6 hw6; go_must (have hLW7 : Lat (w.alloc (.cells (kC x).toArray 34)) w6 := hLW5.grown hg6 (Nat.le_trans (Nat.le_of_eq (World.size_alloc _ _)) HB.out) (fun k hk => Nat.le_trans (Nat.le_of_eq (World.size_alloc _ _)) (HT.out k hk)); clear hnew hg6 hw6)))
        go_roundw
        case rel => exact ⟨j + 1, by omega, by go_num, by rw [List.take_succ_eq_append_getElem hlt]; exact hown6, Lib.hid (HR.out.trans (by rw [List.take_succ_eq_append_getElem hlt]; simp only [List.append_assoc, List.cons_append, List.nil_append])), hLW7⟩
        case measure => simp [intOf]; omega
    · have hdj : l.drop j = [] := List.drop_of_length_le (by omega)
      have HR2 : Hid (R = l.take j ++ [x] ++ l.drop j) := Lib.hid (by rw [HR.out, hdj]; simp [insB])
      clear HR hdj
      go_wp2_with fail
      refine wp_rely (by kernel_rfl) (by kernel_rfl) ?_
      apply RelyL.val
      · intro ν w' hL hF K hK'
        go_simp
        exact hK'.out _ _ rfl (Lat.refl _)
      simp only [Act.put, List.setIfInBounds_toArray, List.set_cons_zero, List.set_cons_succ, Nat.reduceAdd]
      apply RelyL.val
      · intro ν w' hL hF K hK'
        go_simp
        exact hK'.out _ _ rfl (Lat.refl _)
      simp only [Act.put, List.setIfInBounds_toArray, List.set_cons_zero, List.set_cons_succ, Nat.reduceAdd]
      apply RelyL.val
      · intro ν w' hL hF K hK'
        go_simp
        exact hK'.out _ _ rfl (Lat.refl _)
      simp only [Act.put, List.setIfInBounds_toArray, List.set_cons_zero, List.set_cons_succ, Nat.reduceAdd]
      apply RelyL.val
      · intro ν w' hL hF K hK'
        go_simp
        exact hK'.out _ _ rfl (Lat.refl _)
      simp only [Act.put, List.setIfInBounds_toArray, List.set_cons_zero, List.set_cons_succ, Nat.reduceAdd]
      apply RelyL.val
      · intro ν w' hL hF K hK'
        go_simp
        exact hK'.out _ _ rfl (Lat.refl _)
      simp only [Act.put, List.setIfInBounds_toArray, List.set_cons_zero, List.set_cons_succ, Nat.reduceAdd]
      apply RelyL.val
      · intro ν w' hL hF K hK'
        refine skip_op rfl ?_
        exact hK'.out _ _ rfl (Lat.refl _)
      simp only [Act.put, List.setIfInBounds_toArray, List.set_cons_zero, List.set_cons_succ, Nat.reduceAdd]
      apply RelyL.val
      · intro ν w' hL hF K hK'
        refine skip_op rfl ?_
        exact hK'.out _ _ rfl (Lat.refl _)
      simp only [Act.put, List.setIfInBounds_toArray, List.set_cons_zero, List.set_cons_succ, Nat.reduceAdd]
      apply RelyL.val
      · intro ν w' hL hF K hK'
        refine skip_op rfl ?_
        exact hK'.out _ _ rfl (Lat.refl _)
      simp only [Act.put, List.setIfInBounds_toArray, List.set_cons_zero, List.set_cons_succ, Nat.reduceAdd]
      apply RelyL.val
      · intro ν w' hL hF K hK'
        refine skip_op rfl ?_
        exact hK'.out _ _ rfl (Lat.refl _)
      simp only [Act.put, List.setIfInBounds_toArray, List.set_cons_zero, List.set_cons_succ, Nat.reduceAdd]
      apply RelyL.val
      · intro ν w' hL hF K hK'
        refine skip_op rfl ?_
        exact hK'.out _ _ rfl (Lat.refl _)
      simp only [Act.put, List.setIfInBounds_toArray, List.set_cons_zero, List.set_cons_succ, Nat.reduceAdd]
      apply RelyL.val
      · intro ν w' hL hF K hK'
        refine skip_op rfl ?_
        exact hK'.out _ _ rfl (Lat.refl _)
      simp only [Act.put, List.setIfInBounds_toArray, List.set_cons_zero, List.set_cons_succ, Nat.reduceAdd]
      apply RelyL.val
      · intro ν w' hL hF K hK'
        refine skip_op rfl ?_
        exact hK'.out _ _ rfl (Lat.refl _)
      simp only [Act.put, List.setIfInBounds_toArray, List.set_cons_zero, List.set_cons_succ, Nat.reduceAdd]
      apply RelyL.val
      · intro ν w' hL hF K hK'
        go_simp
        exact hK'.out _ _ rfl (Lat.refl _)
      simp only [Act.put, List.setIfInBounds_toArray, List.set_cons_zero, List.set_cons_succ, Nat.reduceAdd]
      refine RelyL.done fun ν w4 hL hF => ?_
      clear hF
      have hown4 := hown.lat hL
      have hLW4 := hLW.trans hL
      have hrx := hrx.below hL hbx
      have hbx := Nat.lt_of_lt_of_le hbx hL.size
      clear hown hLW hxr hL
      go_wp2_with fail
      refine wp_rely (by kernel_rfl) (by kernel_rfl) ?_
      apply RelyL.val
      · intro ν w' hL hF K hK'
        go_simp
        exact hK'.out _ _ rfl (Lat.refl _)
      simp only [Act.put, List.setIfInBounds_toArray, List.set_cons_zero, List.set_cons_succ, Nat.reduceAdd]
      apply RelyL.val
      · intro ν w' hL hF K hK'
        go_simp
        exact hK'.out _ _ rfl (Lat.refl _)
      simp only [Act.put, List.setIfInBounds_toArray, List.set_cons_zero, List.set_cons_succ, Nat.reduceAdd]
      apply RelyL.val
      · intro ν w' hL hF K hK'
        go_simp
        exact hK'.out _ _ rfl (Lat.refl _)
      simp only [Act.put, List.setIfInBounds_toArray, List.set_cons_zero, List.set_cons_succ, Nat.reduceAdd]
      apply RelyL.val
      · intro ν w' hL hF K hK'
        go_simp
        exact hK'.out _ _ rfl (Lat.refl _)
      simp only [Act.put, List.setIfInBounds_toArray, List.set_cons_zero, List.set_cons_succ, Nat.reduceAdd]
      apply RelyL.val
      · intro ν w' hL hF K hK'
        go_simp
        exact hK'.out _ _ rfl (Lat.refl _)
      simp only [Act.put, List.setIfInBounds_toArray, List.set_cons_zero, List.set_cons_succ, Nat.reduceAdd]
      apply RelyL.val
      · intro ν w' hL hF K hK'
        refine skip_op rfl ?_
        exact hK'.out _ _ rfl (Lat.refl _)
      simp only [Act.put, List.setIfInBounds_toArray, List.set_cons_zero, List.set_cons_succ, Nat.reduceAdd]
      apply RelyL.val
      · intro ν w' hL hF K hK'
        refine skip_op rfl ?_
        exact hK'.out _ _ rfl (Lat.refl _)
      simp only [Act.put, List.setIfInBounds_toArray, List.set_cons_zero, List.set_cons_succ, Nat.reduceAdd]
      apply RelyL.val
      · intro ν w' hL hF K hK'
        refine skip_op rfl ?_
        exact hK'.out _ _ rfl (Lat.refl _)
      simp only [Act.put, List.setIfInBounds_toArray, List.set_cons_zero, List.set_cons_succ, Nat.reduceAdd]
      apply RelyL.val
      · intro ν w' hL hF K hK'
        refine skip_op rfl ?_
        exact hK'.out _ _ rfl (Lat.refl _)
      simp only [Act.put, List.setIfInBounds_toArray, List.set_cons_zero, List.set_cons_succ, Nat.reduceAdd]
      apply RelyL.val
      · intro ν w' hL hF K hK'
        refine skip_op rfl ?_
        exact hK'.out _ _ rfl (Lat.refl _)
      simp only [Act.put, List.setIfInBounds_toArray, List.set_cons_zero, List.set_cons_succ, Nat.reduceAdd]
      apply RelyL.val
      · intro ν w' hL hF K hK'
        refine skip_op rfl ?_
        exact hK'.out _ _ rfl (Lat.refl _)
      simp only [Act.put, List.setIfInBounds_toArray, List.set_cons_zero, List.set_cons_succ, Nat.reduceAdd]
      apply RelyL.val
      · intro ν w' hL hF K hK'
        refine skip_op rfl ?_
        exact hK'.out _ _ rfl (Lat.refl _)
      simp only [Act.put, List.setIfInBounds_toArray, List.set_cons_zero, List.set_cons_succ, Nat.reduceAdd]
      apply RelyL.val
      · intro ν w' hL hF K hK'
        go_simp
        exact hK'.out _ _ rfl (Lat.refl _)
      simp only [Act.put, List.setIfInBounds_toArray, List.set_cons_zero, List.set_cons_succ, Nat.reduceAdd]
      refine RelyL.done fun ν w4 hL hF => ?_
      clear hF
      have hownT := hown4.lat hL
      have hLT := hLW4.trans hL
      have hxT := hrx.below hL hbx
      clear hown4 hLW4 hrx hbx hL hbox hx
      have hfw := foldZ x
      have hfk := foldK x
      have hwl : (zC x).length = 15 := rfl
      have hkl : (kC x).length = 3 := rfl
      have hownT6 := hownT.al (.cells (zC x).toArray 48)
      have hLW6 : Lat (w.alloc (.cells (kC x).toArray 34)) (w4.alloc (.cells (zC x).toArray 48)) := hLT.trans (Lat.al _ _)
      have hnew := Blk.new w4 48 (zC x).toArray
      have hlen : (l.take j).length = j := by rw [List.length_take]; omega
      have hdl : (l.drop j).length = l.length - j := List.length_drop
      have hmax : (l.take j).length + 1 ≤ maxLen := by unfold maxLen; omega
      have hby : ((l.take j).length + 1) * EZ.bytes ≤ 140737488355328 := Nat.le_trans (Nat.mul_le_mul_right EZ.bytes (by omega : (l.take j).length + 1 ≤ 1000000)) (by decide)
      have hbse : w.heap.size + 1 ≤ (w4.alloc (.cells (zC x).toArray 48)).heap.size := by have := hLW6.size; rw [World.size_alloc] at this; exact this
      have hmax2 : (l.take j ++ [x]).length + (l.drop j).length ≤ maxLen := by rw [List.length_append, List.length_singleton]; unfold maxLen; omega
      have hby2 : ((l.take j ++ [x]).length + (l.drop j).length) * EZ.bytes ≤ 140737488355328 := Nat.le_trans (Nat.mul_le_mul_right EZ.bytes (by rw [List.length_append, List.length_singleton]; omega : (l.take j ++ [x]).length + (l.drop j).length ≤ 1000000)) (by decide)
      have HT := Lib.hid (fun k (hk : u5.ownBlock = some k) => (hownT.lt k hk).1)
      have HF := EZ.run_from hin.rd hin.cap j hjl
      obtain ⟨AD, cd, hsl0, hrdd⟩ := HF
      have hsl : ∀ w, (Instr.slice 24 (.slice A l.length c) (some (.int .i64 (j : Int))) none none).run Tryz.prog w = .ok (.slice AD (l.length - j) cd) w := hsl0
      have HX := Lib.hid hrdd
      clear hsl0 hrdd
      have HLW6 := Lib.hid hLW6
      have HM1 := Lib.hid hmax
      have HM2 := Lib.hid hby
      have HM3 := Lib.hid hmax2
      have HM4 := Lib.hid hby2
      have HB := Lib.hid hbse
      have HHL := Lib.hid hl
      have HIN := Lib.hid hin
      clear hownT hLT hlen hdl hLW6 hmax hby hmax2 hby2 hbse hl hin
      go_wp2_with (first | (with_reducible refine wpList_load_at rfl 34 _ rfl w.heap.size 0 rfl _ _ hxT Tryz.underlying34 rfl (by kernel_rfl) ?_) | (at_builtin; refine EZ.append rfl _ _ rfl (w.heap.size + 1) (l.take j) _ rfl hownT6 w4.heap.size 1 x rfl 48 hnew HM1.out HM2.out HB.out ?_; intro v6 w6 hown6 hg6 hw6; go_must (have hLW7 : Lat (w.alloc (.cells (kC x).toArray 34)) w6 := HLW6.out.grown hg6 (Nat.le_trans (Nat.le_of_eq (World.size_alloc _ _)) HB.out) (fun k hk => Nat.le_trans (Nat.le_of_eq (World.size_alloc _ _)) (HT.out k hk)); have hbse7 : w.heap.size + 1 ≤ w6.heap.size := Nat.le_trans (Nat.le_of_eq (World.size_alloc _ _).symm) hLW7.size; obtain ⟨A8, m8, ev, hr8, hn8⟩ := HX.out.lat (hL0.trans hLW7); injection ev with f1 f2 f3; subst f1 f3; clear f2 hnew hg6 hw6 hownT6 hxT)) | (at_builtin; refine EZ.appends rfl _ _ rfl (w.heap.size + 1) (l.take j ++ [x]) _ rfl hown6 AD (l.length - j) cd (l.drop j) rfl List.length_drop.symm (fun e => by have := hn8 e; rw [List.length_drop] at this; exact this) hr8 HM3.out HM4.out hbse7 ?_; intro v8 w8 hown8 hg8; go_must (have hLW9 : Lat (w.alloc (.cells (kC x).toArray 34)) w8 := hLW7.grown hg8 hLW7.size (fun k hk => Nat.le_trans (Nat.le_of_eq (World.size_alloc _ _)) (hown6.lt k hk).1); clear hg8 hr8 hown6)))
      go_ret
      exact ⟨⟨_, rfl, by rw [HR2.out]; exact hown8.mono (by omega)⟩, hL0.trans hLW9⟩
end
end Go.Proofs.YtmgalnbacenbbaaGreat
