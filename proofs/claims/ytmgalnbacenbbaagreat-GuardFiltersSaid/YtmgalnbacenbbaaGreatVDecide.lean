/- Resolve: Decide. -/
import Derived.Test.YtmgalnbacenbbaaGreatVDecs
import Derived.Test.YtmgalnbacenbbaaGreatVSort
import Derived.Test.YtmgalnbacenbbaaGreatVGo
set_option linter.unusedSimpArgs false
set_option linter.unusedVariables false
namespace Go.Proofs.YtmgalnbacenbbaaGreat
open Go.RowKit

def Sm (j : Nat) (ds : List LD) : Prop := ∀ x ∈ ds, x.los.length ≤ j
theorem Sm.up {j : Nat} {ds : List LD} (h : Sm j ds) : Sm (j + 1) ds := fun x hx => Nat.le_succ_of_le (h x hx)
theorem Sm.add {j : Nat} {ds : List LD} (h : Sm j ds) (x : LD) (hx : x.los = []) : Sm (j + 1) (ds ++ [x]) := fun y hy => by
  rcases List.mem_append.1 hy with hy | hy
  · exact h.up y hy
  · rw [List.mem_singleton] at hy; subst hy; rw [hx]; exact Nat.zero_le _
theorem Sm.lose {j : Nat} {ds : List LD} {d : LD} (h : Sm j (ds ++ [d])) (k : LKey) (w x : LW) (e : Int) : Sm (j + 1) (ds ++ [⟨k, w, d.los ++ [x], e⟩]) := fun y hy => by
  rcases List.mem_append.1 hy with hy | hy
  · exact h.up y (List.mem_append_left _ hy)
  · rw [List.mem_singleton] at hy; subst hy
    have := h d (by simp)
    simp; omega
set_option maxRecDepth 100000 in
set_option maxHeartbeats 1000000 in
theorem clone_any (xs : List LW) (A : Option Addr) (c : Nat) (w : World) (h : EW.Rd w xs (.slice A xs.length c)) (hl : xs.length ≤ 1000000) :
    Calls Tryz.prog 31 #[.slice A xs.length c] w fun r w' => ∃ v, r = .returned v ∧ EW.Own w' w.heap.size xs v ∧ Lat w w' := by
  obtain ⟨A', c', hv, hr, hn⟩ := h
  injection hv with e1 e2 e3
  subst e1 e3
  have q33 : ∀ (w : World) (a : Option Addr) (n c n' c' : Nat), (binOp .eql 45 (.slice a n c) (.slice none n' c')).run Tryz.prog w = .ok (.bool a.isNone) w := fun w a n c n' c' => Lib.run_eql_slice_nil w _ _ a n c n' c' Tryz.underlying45
  go_enter Tryz.func31, Tryz.ntmps31
  cases A with
  | none =>
    obtain ⟨rfl, h0⟩ := hn rfl
    obtain rfl := List.eq_nil_of_length_eq_zero h0
    go_wp2_with fail
    go_ret
    exact ⟨_, rfl, Elt.Own.nil _ _, Lat.refl _⟩
  | some ad =>
    have hown0 : EW.Own (w.alloc (.cells #[] 44)) w.heap.size [] (.slice (some ⟨w.heap.size, 0, none⟩) 0 0) := World.ownsRow_made (e := 44) w #[] 0 (Nat.le_refl _) (by unfold maxLen; omega) rfl (size := 10)
    have hr1 : IsRows (w.alloc (.cells #[] 44)).heap.size (w.alloc (.cells #[] 44)) EW.n (xs.map EW.f) (some ad) := (hr.carry (Lat.al _ _)).mono (Lat.al _ _).size
    have hmax : ([] : List LW).length + xs.length ≤ maxLen := by unfold maxLen; simp; omega
    have hby : (([] : List LW).length + xs.length) * EW.bytes ≤ 140737488355328 := Nat.le_trans (Nat.mul_le_mul_right EW.bytes (by simp; omega : ([] : List LW).length + xs.length ≤ 1000000)) (by decide)
    go_wp2_with (at_builtin; refine EW.appends rfl _ _ rfl w.heap.size [] _ rfl hown0 (some ad) xs.length c xs rfl rfl (fun e => by cases e) hr1 hmax hby (by rw [World.size_alloc]; omega) ?_; intro v3 w3 hown3 hg3)
    go_ret
    refine ⟨_, rfl, by simpa using hown3, hg3.os, hg3.tape, hg3.output, Nat.le_trans (Lat.al w (.cells #[] 44)).size hg3.size, fun k hk => ?_⟩
    refine (hg3.block k (by rw [World.size_alloc]; omega) (fun e => ?_)).trans (Below.heap_alloc w _ k hk)
    injection e with e
    have e' : k = w.heap.size := e
    omega

set_option maxRecDepth 100000 in
set_option maxHeartbeats 8000000 in
theorem decideO_any (l : List LW) (A : Option Addr) (c : Nat) (w : World) (h : EW.Rd w l (.slice A l.length c)) (hl : l.length ≤ 100000) :
    Calls Tryz.prog 17 #[.slice A l.length c] w fun r w' => (∃ ds v base, r = .returned v ∧ Good (fun x => x ∈ l) ds ∧ w.heap.size ≤ base ∧ OwnD w' base ds v) ∧ Lat w w' := by
  have HC := Lib.hid (clone_any l A c w h (by omega))
  clear h
  go_enter Tryz.func17, Tryz.ntmps17
  go_wp2_with fail
  refine HC.out.mono ?_
  rintro r w1 ⟨v1, rfl, hown1, hl1⟩
  obtain ⟨A1, c1, rfl⟩ := hown1.slice
  have HS := Lib.hid (sort_any l _ _ _ hown1 (by omega))
  clear HC hown1
  go_wp2_with fail
  refine HS.out.mono ?_
  rintro r w2 ⟨rfl, ⟨d, hperm, hsort, hown2⟩, hsz2, hbel⟩
  have hl2 : Lat w w2 := Below.trans hl1 (hbel _ (Nat.le_refl _) hl1.size)
  have hgood := Lib.hid (decide_good hperm hsort)
  have hdl : d.length = l.length := hperm.length_eq
  obtain ⟨A2, c2, hv2⟩ := hown2.slice
  injection hv2 with e1 e2 e3
  subst e1 e3
  rw [← hdl] at hown2 hl ⊢
  have hrd := hown2.rd
  clear HS hown2 hperm hsort hsz2 hbel hl1 e2 hdl
  generalize hG : goD none [] d = R at *
  have HG : Hid (R = goD none [] (d.drop 0)) := Lib.hid (by rw [List.drop_zero]; exact hG.symm)
  clear hG
  go_wp2_with fail
  go_loopw [4, 14] (fun v i wr => ∃ (j : Nat) (ds : List LD), j ≤ d.length ∧ i = .int .i64 j ∧ OwnD wr w2.heap.size ds v ∧ ds.length ≤ j ∧ Sm j ds ∧ Hid (R = goD (if j = 0 then none else d[j - 1]?) ds (d.drop j)) ∧ Lat w2 wr) (fun _ i _ => d.length - (intOf i).toNat)
  case atStart => exact ⟨0, [], Nat.zero_le _, rfl, OwnD.nil _ _, Nat.le_refl _, (fun x hx => by cases hx), HG, Lat.refl _⟩
  case round =>
    clear HG
    obtain ⟨j, ds, hjl, rfl, hown, hdsl, hsm, HG, hLW⟩ := hrel
    by_cases hlt : j < d.length
    · obtain ⟨b, off, hA, hb, hrow0⟩ := (hrd.lat hLW).row j hlt
      subst hA
      have hrow : RowAt wr b (off + j * 10) (wC d[j]) := hrow0
      clear hrow0
      have hdrop : d.drop j = d[j] :: d.drop (j + 1) := by rw [List.drop_eq_getElem_cons hlt]
      have hgj : d[j]? = some d[j] := List.getElem?_eq_getElem hlt
      rw [hdrop, goD] at HG
      have hprev : ∀ h : 0 < j, RowAt wr b (off + (j - 1) * 10) (wC d[j - 1]) := fun h => by
        obtain ⟨b', off', hA', hb', hrow'⟩ := (hrd.lat hLW).row (j - 1) (by omega)
        injection hA' with e
        injection e with e1 e2
        subst e1 e2
        exact hrow'
      generalize hX : d[j] = X at *
      obtain ⟨⟨x1, x2, x3⟩, ⟨x4, x5, x6⟩, x7, x8, x9, x10⟩ := X
      simp only [wC, kC, vC, List.cons_append, List.nil_append] at hrow
      go_wp2_with (with_reducible refine wpList_load_at rfl 44 _ rfl b (off + j * 10) rfl _ _ hrow Tryz.underlying44 rfl (by kernel_rfl) ?_)
      have hL0 : Lat wr (wr.alloc (.cells #[.int .i64 x1, .string x2, .string x3, .int .i64 x4, .int .i64 x5, .string x6, .int .i64 x7, .string x8, .int .i64 x9, .int .i64 x10] 44)) := Lat.al _ _
      have hx := Blk.new wr 44 #[.int .i64 x1, .string x2, .string x3, .int .i64 x4, .int .i64 x5, .string x6, .int .i64 x7, .string x8, .int .i64 x9, .int .i64 x10]
      have hown1 := hown.lat hL0
      have hLW1 := hLW.trans hL0
      have hgw : w2.heap.size ≤ wr.heap.size := hLW.size
      have hprev1 : ∀ h : 0 < j, RowAt (wr.alloc (.cells #[.int .i64 x1, .string x2, .string x3, .int .i64 x4, .int .i64 x5, .string x6, .int .i64 x7, .string x8, .int .i64 x9, .int .i64 x10] 44)) b (off + (j - 1) * 10) (wC d[j - 1]) := fun h => (hprev h).below hL0 hb
      have hb1 : b < (wr.alloc (.cells #[.int .i64 x1, .string x2, .string x3, .int .i64 x4, .int .i64 x5, .string x6, .int .i64 x7, .string x8, .int .i64 x9, .int .i64 x10] 44)).heap.size := by rw [World.size_alloc]; omega
      clear hprev hown hLW hb hrow hL0
      generalize (wr.alloc (.cells #[.int .i64 x1, .string x2, .string x3, .int .i64 x4, .int .i64 x5, .string x6, .int .i64 x7, .string x8, .int .i64 x9, .int .i64 x10] 44)) = w3 at *
      generalize wr.heap.size = g at *
      by_cases hj0 : j = 0
      · subst hj0
        clear hprev1
        refine wp_rely (by kernel_rfl) (by kernel_rfl) ?_
        apply RelyL.val
        · intro ν w' hL hF K hK'
          go_simp
          exact hK'.out _ _ rfl (Lat.refl _)
        simp only [Act.put, List.setIfInBounds_toArray, List.set_cons_zero, List.set_cons_succ, Nat.reduceAdd]
        apply RelyL.val
        · intro ν w' hL hF K hK'
          go_simp
          exact hK'.out _ _ rfl (Lat.refl _)
        simp only [Act.put, List.setIfInBounds_toArray, List.set_cons_zero, List.set_cons_succ, Nat.reduceAdd]
        apply RelyL.val
        · intro ν w' hL hF K hK'
          go_simp
          exact hK'.out _ _ rfl (Lat.refl _)
        simp only [Act.put, List.setIfInBounds_toArray, List.set_cons_zero, List.set_cons_succ, Nat.reduceAdd]
        apply RelyL.val
        · intro ν w' hL hF K hK'
          refine skip_op rfl ?_
          exact hK'.out _ _ rfl (Lat.refl _)
        simp only [Act.put, List.setIfInBounds_toArray, List.set_cons_zero, List.set_cons_succ, Nat.reduceAdd]
        apply RelyL.val
        · intro ν w' hL hF K hK'
          refine skip_op rfl ?_
          exact hK'.out _ _ rfl (Lat.refl _)
        simp only [Act.put, List.setIfInBounds_toArray, List.set_cons_zero, List.set_cons_succ, Nat.reduceAdd]
        apply RelyL.val
        · intro ν w' hL hF K hK'
          refine skip_op rfl ?_
          exact hK'.out _ _ rfl (Lat.refl _)
        simp only [Act.put, List.setIfInBounds_toArray, List.set_cons_zero, List.set_cons_succ, Nat.reduceAdd]
        apply RelyL.val
        · intro ν w' hL hF K hK'
          refine skip_op rfl ?_
          exact hK'.out _ _ rfl (Lat.refl _)
        simp only [Act.put, List.setIfInBounds_toArray, List.set_cons_zero, List.set_cons_succ, Nat.reduceAdd]
        apply RelyL.val
        · intro ν w' hL hF K hK'
          refine skip_op rfl ?_
          exact hK'.out _ _ rfl (Lat.refl _)
        simp only [Act.put, List.setIfInBounds_toArray, List.set_cons_zero, List.set_cons_succ, Nat.reduceAdd]
        apply RelyL.val
        · intro ν w' hL hF K hK'
          refine skip_op rfl ?_
          exact hK'.out _ _ rfl (Lat.refl _)
        simp only [Act.put, List.setIfInBounds_toArray, List.set_cons_zero, List.set_cons_succ, Nat.reduceAdd]
        apply RelyL.val
        · intro ν w' hL hF K hK'
          refine skip_op rfl ?_
          exact hK'.out _ _ rfl (Lat.refl _)
        simp only [Act.put, List.setIfInBounds_toArray, List.set_cons_zero, List.set_cons_succ, Nat.reduceAdd]
        apply RelyL.val
        · intro ν w' hL hF K hK'
          go_simp
          exact hK'.out _ _ rfl (Lat.refl _)
        simp only [Act.put, List.setIfInBounds_toArray, List.set_cons_zero, List.set_cons_succ, Nat.reduceAdd]
        refine RelyL.done fun ν w4 hL hF => ?_
        have hown2 := hown1.lat hL
        have hx2 := hx.lat hL
        have hLW2 := hLW1.trans hL
        clear hown1 hx hLW1 hL hF
        simp only [reduceIte, reduceCtorEq, if_false] at HG
        have HG1 := HG
        clear HG
        obtain ⟨A4, c4, rfl⟩ := hown2.slice
        obtain rfl := List.eq_nil_of_length_eq_zero (Nat.le_zero.1 hdsl)
        go_wp2_with fail
        refine wp_rely (by kernel_rfl) (by kernel_rfl) ?_
        apply RelyL.val
        · intro ν w' hL hF K hK'
          go_simp
          exact hK'.out _ _ rfl (Lat.refl _)
        simp only [Act.put, List.setIfInBounds_toArray, List.set_cons_zero, List.set_cons_succ, Nat.reduceAdd]
        apply RelyL.val
        · intro ν w' hL hF K hK'
          go_simp
          exact hK'.out _ _ rfl (Lat.refl _)
        simp only [Act.put, List.setIfInBounds_toArray, List.set_cons_zero, List.set_cons_succ, Nat.reduceAdd]
        apply RelyL.val
        · intro ν w' hL hF K hK'
          go_simp
          exact hK'.out _ _ rfl (Lat.refl _)
        simp only [Act.put, List.setIfInBounds_toArray, List.set_cons_zero, List.set_cons_succ, Nat.reduceAdd]
        apply RelyL.val
        · intro ν w' hL hF K hK'
          refine skip_op rfl ?_
          exact hK'.out _ _ rfl (Lat.refl _)
        simp only [Act.put, List.setIfInBounds_toArray, List.set_cons_zero, List.set_cons_succ, Nat.reduceAdd]
        apply RelyL.val
        · intro ν w' hL hF K hK'
          refine skip_op rfl ?_
          exact hK'.out _ _ rfl (Lat.refl _)
        simp only [Act.put, List.setIfInBounds_toArray, List.set_cons_zero, List.set_cons_succ, Nat.reduceAdd]
        apply RelyL.val
        · intro ν w' hL hF K hK'
          refine skip_op rfl ?_
          exact hK'.out _ _ rfl (Lat.refl _)
        simp only [Act.put, List.setIfInBounds_toArray, List.set_cons_zero, List.set_cons_succ, Nat.reduceAdd]
        apply RelyL.val
        · intro ν w' hL hF K hK'
          refine skip_op rfl ?_
          exact hK'.out _ _ rfl (Lat.refl _)
        simp only [Act.put, List.setIfInBounds_toArray, List.set_cons_zero, List.set_cons_succ, Nat.reduceAdd]
        apply RelyL.val
        · intro ν w' hL hF K hK'
          refine skip_op rfl ?_
          exact hK'.out _ _ rfl (Lat.refl _)
        simp only [Act.put, List.setIfInBounds_toArray, List.set_cons_zero, List.set_cons_succ, Nat.reduceAdd]
        apply RelyL.val
        · intro ν w' hL hF K hK'
          refine skip_op rfl ?_
          exact hK'.out _ _ rfl (Lat.refl _)
        simp only [Act.put, List.setIfInBounds_toArray, List.set_cons_zero, List.set_cons_succ, Nat.reduceAdd]
        apply RelyL.val
        · intro ν w' hL hF K hK'
          refine skip_op rfl ?_
          exact hK'.out _ _ rfl (Lat.refl _)
        simp only [Act.put, List.setIfInBounds_toArray, List.set_cons_zero, List.set_cons_succ, Nat.reduceAdd]
        apply RelyL.val
        · intro ν w' hL hF K hK'
          refine skip_op rfl ?_
          exact hK'.out _ _ rfl (Lat.refl _)
        simp only [Act.put, List.setIfInBounds_toArray, List.set_cons_zero, List.set_cons_succ, Nat.reduceAdd]
        apply RelyL.val
        · intro ν w' hL hF K hK'
          refine skip_op rfl ?_
          exact hK'.out _ _ rfl (Lat.refl _)
        simp only [Act.put, List.setIfInBounds_toArray, List.set_cons_zero, List.set_cons_succ, Nat.reduceAdd]
        apply RelyL.val
        · intro ν w' hL hF K hK'
          go_simp
          exact hK'.out _ _ rfl (Lat.refl _)
        simp only [Act.put, List.setIfInBounds_toArray, List.set_cons_zero, List.set_cons_succ, Nat.reduceAdd]
        refine RelyL.done fun ν w5 hL hF => ?_
        clear hF
        have hown5 := hown2.lat hL
        have hx5 := hx2.lat hL
        have hLW5 := hLW2.trans hL
        clear hown2 hx2 hLW2 hL
        have hrW : RowAt w5 g 0 (#[.int .i64 x1, .string x2, .string x3, .int .i64 x4, .int .i64 x5, .string x6, .int .i64 x7, .string x8, .int .i64 x9, .int .i64 x10]).toList := hx5.row
        have hrK : RowAt w5 g 0 [.int .i64 x1, .string x2, .string x3] := row_of_blk hx5 0 _ (fun j v hj => by
          match j, hj with
          | 0, hj => simpa using hj
          | 1, hj => simpa using hj
          | 2, hj => simpa using hj
          | j + 3, hj => simp at hj)
        obtain ⟨ps, p1, p2, p3, p4, p5⟩ := hown5
        have hL6 : Lat w5 (w5.alloc (.cells #[.int .i64 x1, .string x2, .string x3, .int .i64 x1, .string x2, .string x3, .int .i64 x4, .int .i64 x5, .string x6, .int .i64 x7, .string x8, .int .i64 x9, .int .i64 x10, .slice none 0 0, .int .i64 0] 48)) := Lat.al _ _
        have p2' := p2.lat hL6
        have p3' : ∀ p ∈ ps, Rep (w5.alloc (.cells #[.int .i64 x1, .string x2, .string x3, .int .i64 x1, .string x2, .string x3, .int .i64 x4, .int .i64 x5, .string x6, .int .i64 x7, .string x8, .int .i64 x9, .int .i64 x10, .slice none 0 0, .int .i64 0] 48)) w2.heap.size p := fun p hp => ⟨(p3 p hp).key, (p3 p hp).win, (p3 p hp).err, (p3 p hp).los.lat hL6⟩
        have hplt := fun k (hk : (Value.slice A4 [].length c4).ownBlock = some k) => p2.lt k hk
        have hpl : (ps.map Prod.snd).length ≤ 100000 := by rw [List.length_map, ← List.length_map (f := Prod.fst), p1]; first | omega | (simp; omega)
        have hmax : (ps.map Prod.snd).length + 1 ≤ maxLen := by unfold maxLen; omega
        have hby : ((ps.map Prod.snd).length + 1) * ED.bytes ≤ 140737488355328 := Nat.le_trans (Nat.mul_le_mul_right ED.bytes (by omega : _ ≤ 1000000)) (by decide)
        have hLW6 := hLW5.trans hL6
        have hbse : w2.heap.size ≤ (w5.alloc (.cells #[.int .i64 x1, .string x2, .string x3, .int .i64 x1, .string x2, .string x3, .int .i64 x4, .int .i64 x5, .string x6, .int .i64 x7, .string x8, .int .i64 x9, .int .i64 x10, .slice none 0 0, .int .i64 0] 48)).heap.size := hLW6.size
        have hnew : Blk (w5.alloc (.cells #[.int .i64 x1, .string x2, .string x3, .int .i64 x1, .string x2, .string x3, .int .i64 x4, .int .i64 x5, .string x6, .int .i64 x7, .string x8, .int .i64 x9, .int .i64 x10, .slice none 0 0, .int .i64 0] 48)) w5.heap.size 48 (#[.int .i64 x1, .string x2, .string x3, .int .i64 x1, .string x2, .string x3, .int .i64 x4, .int .i64 x5, .string x6, .int .i64 x7, .string x8, .int .i64 x9, .int .i64 x10, .slice none 0 0, .int .i64 0]) := Blk.new _ _ _
        have HL := Lib.hid hLW6
        have HP := Lib.hid p3'
        have HT := Lib.hid hplt
        clear hL6 p3 p2 hplt hpl hLW6 p3' hx5 hLW5
        go_wp2_with (first | (with_reducible refine wpList_load_at rfl 34 _ rfl g 0 rfl _ _ hrK Tryz.underlying34 rfl (by kernel_rfl) ?_) | (with_reducible refine wpList_load_at rfl 44 _ rfl g 0 rfl _ _ hrW Tryz.underlying44 rfl (by kernel_rfl) ?_) | (at_builtin; refine ED.append rfl _ _ rfl w2.heap.size (ps.map Prod.snd) _ rfl p2' w5.heap.size 1 ⟨⟨x1, x2, x3⟩, (⟨⟨x1, x2, x3⟩, ⟨x4, x5, x6⟩, x7, x8, x9, x10⟩ : LW), none, 0, 0, 0⟩ rfl 48 hnew hmax hby hbse ?_; intro v6 w6 hown6 hg6 hw6; go_must (have hmore := OwnD.more (⟨⟨x1, x2, x3⟩, ⟨x4, x5, x6⟩, x7, x8, x9, x10⟩ : LW) ps p1 HP.out p4 p5 hown6 hg6 hw6; have hLW7 : Lat w2 w6 := HL.out.grown hg6 hbse (fun k hk => (HT.out k hk).1); clear hown6 p2' p4 p5 hnew hg6 hw6)))
        go_roundw
        case rel =>
          refine ⟨0 + 1, _, by omega, by go_num, hmore, by first | omega | (simp; done) | (simp; omega), hsm.add _ rfl, ?_, hLW7⟩
          have e1 : ¬ (0 + 1 = 0) := by omega
          rw [HG1.out, if_neg e1, Nat.add_sub_cancel, hgj]
          exact Lib.hid rfl
        case measure => simp [intOf]; omega
      · obtain ⟨q, rfl⟩ : ∃ q, j = q + 1 := ⟨j - 1, by omega⟩
        have hprev2 := hprev1 (by omega)
        clear hprev1
        simp only [Nat.add_sub_cancel, Nat.add_eq_zero_iff, Nat.one_ne_zero, and_false, if_false] at hprev2 HG
        have ec : ((q + 1 : Nat) : Int) = (q : Int) + 1 := Int.natCast_add q 1
        simp only [ec]
        clear ec
        have wq : IntKind.i64.wrap (q : Int) = q := by rw [IntKind.wrap_i64]; omega
        have hqd : q < d.length := by omega
        have hgq : d[q]? = some d[q] := List.getElem?_eq_getElem (by omega)
        by_cases he : d[q] = (⟨⟨x1, x2, x3⟩, ⟨x4, x5, x6⟩, x7, x8, x9, x10⟩ : LW)
        · have HE := Lib.hid (decide_eq_true he.symm)
          rw [hgq, if_pos (by rw [he])] at HG
          clear he hgq
          refine wp_rely (by kernel_rfl) (by kernel_rfl) ?_
          apply RelyL.val
          · intro ν w' hL hF K hK'
            go_simp
            exact hK'.out _ _ rfl (Lat.refl _)
          simp only [Act.put, List.setIfInBounds_toArray, List.set_cons_zero, List.set_cons_succ, Nat.reduceAdd]
          apply RelyL.val
          · intro ν w' hL hF K hK'
            go_simp
            exact hK'.out _ _ rfl (Lat.refl _)
          simp only [Act.put, List.setIfInBounds_toArray, List.set_cons_zero, List.set_cons_succ, Nat.reduceAdd]
          apply RelyL.val
          · intro ν w' hL hF K hK'
            go_simp
            exact hK'.out _ _ rfl (Lat.refl _)
          simp only [Act.put, List.setIfInBounds_toArray, List.set_cons_zero, List.set_cons_succ, Nat.reduceAdd]
          apply RelyL.val
          · intro ν w' hL hF K hK'
            refine take_op rfl ?_
            refine wp_load_blk rfl rfl (hx.lat hL) Tryz.underlying44 rfl (by kernel_rfl : (Tryz.prog.info? 44).map (·.size) = some 10) rfl ?_
            exact hK'.out _ _ rfl (Lat.refl _)
          simp only [Act.put, List.setIfInBounds_toArray, List.set_cons_zero, List.set_cons_succ, Nat.reduceAdd]
          apply RelyL.val
          · intro ν w' hL hF K hK'
            go_simp
            exact hK'.out _ _ rfl (Lat.refl _)
          simp only [Act.put, List.setIfInBounds_toArray, List.set_cons_zero, List.set_cons_succ, Nat.reduceAdd]
          apply RelyL.val
          · intro ν w' hL hF K hK'
            go_simp
            exact hK'.out _ _ rfl (Lat.refl _)
          simp only [Act.put, List.setIfInBounds_toArray, List.set_cons_zero, List.set_cons_succ, Nat.reduceAdd]
          apply RelyL.val
          · intro ν w' hL hF K hK'
            go_simp
            exact hK'.out _ _ rfl (Lat.refl _)
          simp only [Act.put, List.setIfInBounds_toArray, List.set_cons_zero, List.set_cons_succ, Nat.reduceAdd]
          apply RelyL.val
          · intro ν w' hL hF K hK'
            go_simp
            exact hK'.out _ _ rfl (Lat.refl _)
          simp only [Act.put, List.setIfInBounds_toArray, List.set_cons_zero, List.set_cons_succ, Nat.reduceAdd]
          apply RelyL.val
          · intro ν w' hL hF K hK'
            refine take_op rfl ?_
            refine wp_load_at 44 _ rfl b ((off + q * 10)) rfl _ _ (hprev2.below hL hb1) Tryz.underlying44 rfl (by kernel_rfl) ?_
            exact hK'.out _ _ rfl (Lat.refl _)
          simp only [Act.put, List.setIfInBounds_toArray, List.set_cons_zero, List.set_cons_succ, Nat.reduceAdd]
          apply RelyL.val
          · intro ν w' hL hF K hK'
            refine take_op rfl ?_
            refine wp_eql_w _ _ _ rfl (⟨⟨x1, x2, x3⟩, ⟨x4, x5, x6⟩, x7, x8, x9, x10⟩ : LW) d[q] rfl rfl HE.out ?_
            exact hK'.out _ _ rfl (Lat.refl _)
          simp only [Act.put, List.setIfInBounds_toArray, List.set_cons_zero, List.set_cons_succ, Nat.reduceAdd]
          apply RelyL.val
          · intro ν w' hL hF K hK'
            go_simp
            exact hK'.out _ _ rfl (Lat.refl _)
          simp only [Act.put, List.setIfInBounds_toArray, List.set_cons_zero, List.set_cons_succ, Nat.reduceAdd]
          refine RelyL.done fun ν w4 hL hF => ?_
          have hown2 := hown1.lat hL
          have hx2 := hx.lat hL
          have hLW2 := hLW1.trans hL
          clear hown1 hx hLW1 hL hF
          go_wp2_with fail
          have hLW7 := hLW2
          have HG1 := HG
          go_roundw
          case rel =>
            refine ⟨(q + 1) + 1, _, by omega, by go_num, hown2, by first | omega | (simp; done) | (simp; omega), hsm.up, ?_, hLW7⟩
            have e1 : ¬ ((q + 1) + 1 = 0) := by omega
            rw [HG1.out, if_neg e1, Nat.add_sub_cancel, hgj]
            exact Lib.hid rfl
          case measure => simp [intOf]; omega
        · have HE := Lib.hid (decide_eq_false (p := (⟨⟨x1, x2, x3⟩, ⟨x4, x5, x6⟩, x7, x8, x9, x10⟩ : LW) = d[q]) (fun e => he e.symm))
          rw [hgq, if_neg (fun e => he (Option.some.inj e))] at HG
          refine wp_rely (by kernel_rfl) (by kernel_rfl) ?_
          apply RelyL.val
          · intro ν w' hL hF K hK'
            go_simp
            exact hK'.out _ _ rfl (Lat.refl _)
          simp only [Act.put, List.setIfInBounds_toArray, List.set_cons_zero, List.set_cons_succ, Nat.reduceAdd]
          apply RelyL.val
          · intro ν w' hL hF K hK'
            go_simp
            exact hK'.out _ _ rfl (Lat.refl _)
          simp only [Act.put, List.setIfInBounds_toArray, List.set_cons_zero, List.set_cons_succ, Nat.reduceAdd]
          apply RelyL.val
          · intro ν w' hL hF K hK'
            go_simp
            exact hK'.out _ _ rfl (Lat.refl _)
          simp only [Act.put, List.setIfInBounds_toArray, List.set_cons_zero, List.set_cons_succ, Nat.reduceAdd]
          apply RelyL.val
          · intro ν w' hL hF K hK'
            refine take_op rfl ?_
            refine wp_load_blk rfl rfl (hx.lat hL) Tryz.underlying44 rfl (by kernel_rfl : (Tryz.prog.info? 44).map (·.size) = some 10) rfl ?_
            exact hK'.out _ _ rfl (Lat.refl _)
          simp only [Act.put, List.setIfInBounds_toArray, List.set_cons_zero, List.set_cons_succ, Nat.reduceAdd]
          apply RelyL.val
          · intro ν w' hL hF K hK'
            go_simp
            exact hK'.out _ _ rfl (Lat.refl _)
          simp only [Act.put, List.setIfInBounds_toArray, List.set_cons_zero, List.set_cons_succ, Nat.reduceAdd]
          apply RelyL.val
          · intro ν w' hL hF K hK'
            go_simp
            exact hK'.out _ _ rfl (Lat.refl _)
          simp only [Act.put, List.setIfInBounds_toArray, List.set_cons_zero, List.set_cons_succ, Nat.reduceAdd]
          apply RelyL.val
          · intro ν w' hL hF K hK'
            go_simp
            exact hK'.out _ _ rfl (Lat.refl _)
          simp only [Act.put, List.setIfInBounds_toArray, List.set_cons_zero, List.set_cons_succ, Nat.reduceAdd]
          apply RelyL.val
          · intro ν w' hL hF K hK'
            go_simp
            exact hK'.out _ _ rfl (Lat.refl _)
          simp only [Act.put, List.setIfInBounds_toArray, List.set_cons_zero, List.set_cons_succ, Nat.reduceAdd]
          apply RelyL.val
          · intro ν w' hL hF K hK'
            refine take_op rfl ?_
            refine wp_load_at 44 _ rfl b ((off + q * 10)) rfl _ _ (hprev2.below hL hb1) Tryz.underlying44 rfl (by kernel_rfl) ?_
            exact hK'.out _ _ rfl (Lat.refl _)
          simp only [Act.put, List.setIfInBounds_toArray, List.set_cons_zero, List.set_cons_succ, Nat.reduceAdd]
          apply RelyL.val
          · intro ν w' hL hF K hK'
            refine take_op rfl ?_
            refine wp_eql_w _ _ _ rfl (⟨⟨x1, x2, x3⟩, ⟨x4, x5, x6⟩, x7, x8, x9, x10⟩ : LW) d[q] rfl rfl HE.out ?_
            exact hK'.out _ _ rfl (Lat.refl _)
          simp only [Act.put, List.setIfInBounds_toArray, List.set_cons_zero, List.set_cons_succ, Nat.reduceAdd]
          apply RelyL.val
          · intro ν w' hL hF K hK'
            go_simp
            exact hK'.out _ _ rfl (Lat.refl _)
          simp only [Act.put, List.setIfInBounds_toArray, List.set_cons_zero, List.set_cons_succ, Nat.reduceAdd]
          refine RelyL.done fun ν w4 hL hF => ?_
          have hown2 := hown1.lat hL
          have hx2 := hx.lat hL
          have hLW2 := hLW1.trans hL
          clear hown1 hx hLW1 hL hF
          have HG1 := HG
          clear HG HE hprev2 he hgq wq hqd
          obtain ⟨A4, c4, rfl⟩ := hown2.slice
          rcases List.eq_nil_or_concat ds with rfl | ⟨pre, dl, hds⟩
          · go_wp2_with fail
            refine wp_rely (by kernel_rfl) (by kernel_rfl) ?_
            apply RelyL.val
            · intro ν w' hL hF K hK'
              go_simp
              exact hK'.out _ _ rfl (Lat.refl _)
            simp only [Act.put, List.setIfInBounds_toArray, List.set_cons_zero, List.set_cons_succ, Nat.reduceAdd]
            apply RelyL.val
            · intro ν w' hL hF K hK'
              go_simp
              exact hK'.out _ _ rfl (Lat.refl _)
            simp only [Act.put, List.setIfInBounds_toArray, List.set_cons_zero, List.set_cons_succ, Nat.reduceAdd]
            apply RelyL.val
            · intro ν w' hL hF K hK'
              go_simp
              exact hK'.out _ _ rfl (Lat.refl _)
            simp only [Act.put, List.setIfInBounds_toArray, List.set_cons_zero, List.set_cons_succ, Nat.reduceAdd]
            apply RelyL.val
            · intro ν w' hL hF K hK'
              refine skip_op rfl ?_
              exact hK'.out _ _ rfl (Lat.refl _)
            simp only [Act.put, List.setIfInBounds_toArray, List.set_cons_zero, List.set_cons_succ, Nat.reduceAdd]
            apply RelyL.val
            · intro ν w' hL hF K hK'
              refine skip_op rfl ?_
              exact hK'.out _ _ rfl (Lat.refl _)
            simp only [Act.put, List.setIfInBounds_toArray, List.set_cons_zero, List.set_cons_succ, Nat.reduceAdd]
            apply RelyL.val
            · intro ν w' hL hF K hK'
              refine skip_op rfl ?_
              exact hK'.out _ _ rfl (Lat.refl _)
            simp only [Act.put, List.setIfInBounds_toArray, List.set_cons_zero, List.set_cons_succ, Nat.reduceAdd]
            apply RelyL.val
            · intro ν w' hL hF K hK'
              refine skip_op rfl ?_
              exact hK'.out _ _ rfl (Lat.refl _)
            simp only [Act.put, List.setIfInBounds_toArray, List.set_cons_zero, List.set_cons_succ, Nat.reduceAdd]
            apply RelyL.val
            · intro ν w' hL hF K hK'
              refine skip_op rfl ?_
              exact hK'.out _ _ rfl (Lat.refl _)
            simp only [Act.put, List.setIfInBounds_toArray, List.set_cons_zero, List.set_cons_succ, Nat.reduceAdd]
            apply RelyL.val
            · intro ν w' hL hF K hK'
              refine skip_op rfl ?_
              exact hK'.out _ _ rfl (Lat.refl _)
            simp only [Act.put, List.setIfInBounds_toArray, List.set_cons_zero, List.set_cons_succ, Nat.reduceAdd]
            apply RelyL.val
            · intro ν w' hL hF K hK'
              refine skip_op rfl ?_
              exact hK'.out _ _ rfl (Lat.refl _)
            simp only [Act.put, List.setIfInBounds_toArray, List.set_cons_zero, List.set_cons_succ, Nat.reduceAdd]
            apply RelyL.val
            · intro ν w' hL hF K hK'
              refine skip_op rfl ?_
              exact hK'.out _ _ rfl (Lat.refl _)
            simp only [Act.put, List.setIfInBounds_toArray, List.set_cons_zero, List.set_cons_succ, Nat.reduceAdd]
            apply RelyL.val
            · intro ν w' hL hF K hK'
              refine skip_op rfl ?_
              exact hK'.out _ _ rfl (Lat.refl _)
            simp only [Act.put, List.setIfInBounds_toArray, List.set_cons_zero, List.set_cons_succ, Nat.reduceAdd]
            apply RelyL.val
            · intro ν w' hL hF K hK'
              go_simp
              exact hK'.out _ _ rfl (Lat.refl _)
            simp only [Act.put, List.setIfInBounds_toArray, List.set_cons_zero, List.set_cons_succ, Nat.reduceAdd]
            refine RelyL.done fun ν w5 hL hF => ?_
            clear hF
            have hown5 := hown2.lat hL
            have hx5 := hx2.lat hL
            have hLW5 := hLW2.trans hL
            clear hown2 hx2 hLW2 hL
            have hrW : RowAt w5 g 0 (#[.int .i64 x1, .string x2, .string x3, .int .i64 x4, .int .i64 x5, .string x6, .int .i64 x7, .string x8, .int .i64 x9, .int .i64 x10]).toList := hx5.row
            have hrK : RowAt w5 g 0 [.int .i64 x1, .string x2, .string x3] := row_of_blk hx5 0 _ (fun j v hj => by
              match j, hj with
              | 0, hj => simpa using hj
              | 1, hj => simpa using hj
              | 2, hj => simpa using hj
              | j + 3, hj => simp at hj)
            obtain ⟨ps, p1, p2, p3, p4, p5⟩ := hown5
            have hL6 : Lat w5 (w5.alloc (.cells #[.int .i64 x1, .string x2, .string x3, .int .i64 x1, .string x2, .string x3, .int .i64 x4, .int .i64 x5, .string x6, .int .i64 x7, .string x8, .int .i64 x9, .int .i64 x10, .slice none 0 0, .int .i64 0] 48)) := Lat.al _ _
            have p2' := p2.lat hL6
            have p3' : ∀ p ∈ ps, Rep (w5.alloc (.cells #[.int .i64 x1, .string x2, .string x3, .int .i64 x1, .string x2, .string x3, .int .i64 x4, .int .i64 x5, .string x6, .int .i64 x7, .string x8, .int .i64 x9, .int .i64 x10, .slice none 0 0, .int .i64 0] 48)) w2.heap.size p := fun p hp => ⟨(p3 p hp).key, (p3 p hp).win, (p3 p hp).err, (p3 p hp).los.lat hL6⟩
            have hplt := fun k (hk : (Value.slice A4 [].length c4).ownBlock = some k) => p2.lt k hk
            have hpl : (ps.map Prod.snd).length ≤ 100000 := by rw [List.length_map, ← List.length_map (f := Prod.fst), p1]; first | omega | (simp; omega)
            have hmax : (ps.map Prod.snd).length + 1 ≤ maxLen := by unfold maxLen; omega
            have hby : ((ps.map Prod.snd).length + 1) * ED.bytes ≤ 140737488355328 := Nat.le_trans (Nat.mul_le_mul_right ED.bytes (by omega : _ ≤ 1000000)) (by decide)
            have hLW6 := hLW5.trans hL6
            have hbse : w2.heap.size ≤ (w5.alloc (.cells #[.int .i64 x1, .string x2, .string x3, .int .i64 x1, .string x2, .string x3, .int .i64 x4, .int .i64 x5, .string x6, .int .i64 x7, .string x8, .int .i64 x9, .int .i64 x10, .slice none 0 0, .int .i64 0] 48)).heap.size := hLW6.size
            have hnew : Blk (w5.alloc (.cells #[.int .i64 x1, .string x2, .string x3, .int .i64 x1, .string x2, .string x3, .int .i64 x4, .int .i64 x5, .string x6, .int .i64 x7, .string x8, .int .i64 x9, .int .i64 x10, .slice none 0 0, .int .i64 0] 48)) w5.heap.size 48 (#[.int .i64 x1, .string x2, .string x3, .int .i64 x1, .string x2, .string x3, .int .i64 x4, .int .i64 x5, .string x6, .int .i64 x7, .string x8, .int .i64 x9, .int .i64 x10, .slice none 0 0, .int .i64 0]) := Blk.new _ _ _
            have HL := Lib.hid hLW6
            have HP := Lib.hid p3'
            have HT := Lib.hid hplt
            clear hL6 p3 p2 hplt hpl hLW6 p3' hx5 hLW5
            go_wp2_with (first | (with_reducible refine wpList_load_at rfl 34 _ rfl g 0 rfl _ _ hrK Tryz.underlying34 rfl (by kernel_rfl) ?_) | (with_reducible refine wpList_load_at rfl 44 _ rfl g 0 rfl _ _ hrW Tryz.underlying44 rfl (by kernel_rfl) ?_) | (at_builtin; refine ED.append rfl _ _ rfl w2.heap.size (ps.map Prod.snd) _ rfl p2' w5.heap.size 1 ⟨⟨x1, x2, x3⟩, (⟨⟨x1, x2, x3⟩, ⟨x4, x5, x6⟩, x7, x8, x9, x10⟩ : LW), none, 0, 0, 0⟩ rfl 48 hnew hmax hby hbse ?_; intro v6 w6 hown6 hg6 hw6; go_must (have hmore := OwnD.more (⟨⟨x1, x2, x3⟩, ⟨x4, x5, x6⟩, x7, x8, x9, x10⟩ : LW) ps p1 HP.out p4 p5 hown6 hg6 hw6; have hLW7 : Lat w2 w6 := HL.out.grown hg6 hbse (fun k hk => (HT.out k hk).1); clear hown6 p2' p4 p5 hnew hg6 hw6)))
            go_roundw
            case rel =>
              refine ⟨(q + 1) + 1, _, by omega, by go_num, hmore, by first | omega | (simp; done) | (simp; omega), hsm.add _ rfl, ?_, hLW7⟩
              have e1 : ¬ ((q + 1) + 1 = 0) := by omega
              rw [HG1.out, if_neg e1, Nat.add_sub_cancel, hgj]
              exact Lib.hid rfl
            case measure => simp [intOf]; omega
          · rw [List.concat_eq_append] at hds
            subst hds
            obtain ⟨gd, cap, r, hv4, hbg, hgl, hrep, hcell, hne, hlast⟩ := hown2.last (⟨⟨x1, x2, x3⟩, ⟨x4, x5, x6⟩, x7, x8, x9, x10⟩ : LW)
            injection hv4 with e1 e2 e3
            subst e1 e3
            have hkrow : RowAt w4 gd (pre.length * 15) (kC dl.key) := by have := DR.keyRow (hcell w4 rfl).1; rw [hrep.key] at this; exact this
            have hrK2 : RowAt w4 g 0 [.int .i64 x1, .string x2, .string x3] := row_of_blk hx2 0 _ (fun j v hj => by
              match j, hj with
              | 0, hj => simpa using hj
              | 1, hj => simpa using hj
              | 2, hj => simpa using hj
              | j + 3, hj => simp at hj)
            rw [List.length_append, List.length_singleton] at hdsl hown2 ⊢
            have wq : IntKind.i64.wrap (pre.length : Int) = pre.length := by rw [IntKind.wrap_i64]; omega
            have hpd : (pre.length : Int) < (pre.length : Int) + 1 := by omega
            clear e2 hcell hlast hrep hne
            by_cases hk : dl.key = ⟨x1, x2, x3⟩
            · have HE := Lib.hid (decide_eq_true hk)
              have HK := Lib.hid hk
              clear hk
              go_wp2_with fail
              refine wp_rely (by kernel_rfl) (by kernel_rfl) ?_
              apply RelyL.val
              · intro ν w' hL hF K hK'
                go_simp
                exact hK'.out _ _ rfl (Lat.refl _)
              simp only [Act.put, List.setIfInBounds_toArray, List.set_cons_zero, List.set_cons_succ, Nat.reduceAdd]
              apply RelyL.val
              · intro ν w' hL hF K hK'
                go_simp
                exact hK'.out _ _ rfl (Lat.refl _)
              simp only [Act.put, List.setIfInBounds_toArray, List.set_cons_zero, List.set_cons_succ, Nat.reduceAdd]
              apply RelyL.val
              · intro ν w' hL hF K hK'
                go_simp
                exact hK'.out _ _ rfl (Lat.refl _)
              simp only [Act.put, List.setIfInBounds_toArray, List.set_cons_zero, List.set_cons_succ, Nat.reduceAdd]
              apply RelyL.val
              · intro ν w' hL hF K hK'
                go_simp
                exact hK'.out _ _ rfl (Lat.refl _)
              simp only [Act.put, List.setIfInBounds_toArray, List.set_cons_zero, List.set_cons_succ, Nat.reduceAdd]
              apply RelyL.val
              · intro ν w' hL hF K hK'
                go_simp
                exact hK'.out _ _ rfl (Lat.refl _)
              simp only [Act.put, List.setIfInBounds_toArray, List.set_cons_zero, List.set_cons_succ, Nat.reduceAdd]
              apply RelyL.val
              · intro ν w' hL hF K hK'
                go_simp
                exact hK'.out _ _ rfl (Lat.refl _)
              simp only [Act.put, List.setIfInBounds_toArray, List.set_cons_zero, List.set_cons_succ, Nat.reduceAdd]
              apply RelyL.val
              · intro ν w' hL hF K hK'
                go_simp
                exact hK'.out _ _ rfl (Lat.refl _)
              simp only [Act.put, List.setIfInBounds_toArray, List.set_cons_zero, List.set_cons_succ, Nat.reduceAdd]
              apply RelyL.val
              · intro ν w' hL hF K hK'
                go_simp
                exact hK'.out _ _ rfl (Lat.refl _)
              simp only [Act.put, List.setIfInBounds_toArray, List.set_cons_zero, List.set_cons_succ, Nat.reduceAdd]
              apply RelyL.val
              · intro ν w' hL hF K hK'
                refine take_op rfl ?_
                refine wp_load_at 34 _ rfl gd (pre.length * 15) rfl _ _ (hkrow.below hL hgl) Tryz.underlying34 rfl (by kernel_rfl) ?_
                exact hK'.out _ _ rfl (Lat.refl _)
              simp only [Act.put, List.setIfInBounds_toArray, List.set_cons_zero, List.set_cons_succ, Nat.reduceAdd]
              apply RelyL.val
              · intro ν w' hL hF K hK'
                go_simp
                exact hK'.out _ _ rfl (Lat.refl _)
              simp only [Act.put, List.setIfInBounds_toArray, List.set_cons_zero, List.set_cons_succ, Nat.reduceAdd]
              apply RelyL.val
              · intro ν w' hL hF K hK'
                refine take_op rfl ?_
                refine wp_load_at 34 _ rfl g (0) rfl _ _ (hrK2.below hL hx2.lt) Tryz.underlying34 rfl (by kernel_rfl) ?_
                exact hK'.out _ _ rfl (Lat.refl _)
              simp only [Act.put, List.setIfInBounds_toArray, List.set_cons_zero, List.set_cons_succ, Nat.reduceAdd]
              apply RelyL.val
              · intro ν w' hL hF K hK'
                refine take_op rfl ?_
                refine wp_eql_k _ _ _ rfl dl.key ⟨x1, x2, x3⟩ rfl rfl HE.out ?_
                exact hK'.out _ _ rfl (Lat.refl _)
              simp only [Act.put, List.setIfInBounds_toArray, List.set_cons_zero, List.set_cons_succ, Nat.reduceAdd]
              apply RelyL.val
              · intro ν w' hL hF K hK'
                go_simp
                exact hK'.out _ _ rfl (Lat.refl _)
              simp only [Act.put, List.setIfInBounds_toArray, List.set_cons_zero, List.set_cons_succ, Nat.reduceAdd]
              refine RelyL.done fun ν w5 hL hF => ?_
              clear hF
              have hx5 := hx2.lat hL
              have hLW5 := hLW2.trans hL
              have hown5 := hown2.lat hL
              clear hown2 hx2 hLW2 hL hkrow hrK2 HE hgl hbg
              obtain ⟨gd', cap', r, hv4, hbg, hgl, hrep, hcell, hne, hlast⟩ := hown5.last (⟨⟨x1, x2, x3⟩, ⟨x4, x5, x6⟩, x7, x8, x9, x10⟩ : LW)
              injection hv4 with e1 e2 e3
              injection e1 with e1
              injection e1 with e1
              subst e1 e3
              clear e2 hne hlast hrep
              go_wp2_with fail
              have hL6 : Lat w5 (w5.alloc (.cells #[.int .i64 x1, .string x2, .string x3, .int .i64 x4, .int .i64 x5, .string x6, .int .i64 x7, .string x8, .int .i64 x9, .int .i64 x10] 44)).drew := (Lat.al _ _).trans (Lat.drew _)
              have c13a : w5.cell? ⟨gd, pre.length * 15 + 13, none⟩ = some (.slice r.A r.n r.c) := DR.losCell (hcell w5 rfl).1
              have k1 := DR.losCell (hcell (w5.alloc (.cells #[.int .i64 x1, .string x2, .string x3, .int .i64 x4, .int .i64 x5, .string x6, .int .i64 x7, .string x8, .int .i64 x9, .int .i64 x10] 44)).drew (hL6.block gd hgl)).1
              have cx5 := hx5.cell
              have cx6 := (hx5.alloc (.cells #[.int .i64 x1, .string x2, .string x3, .int .i64 x4, .int .i64 x5, .string x6, .int .i64 x7, .string x8, .int .i64 x9, .int .i64 x10] 44)).cell
              have c13b : (w5.alloc (.cells #[.int .i64 x1, .string x2, .string x3, .int .i64 x4, .int .i64 x5, .string x6, .int .i64 x7, .string x8, .int .i64 x9, .int .i64 x10] 44)).cell? ⟨gd, pre.length * 15 + 13, none⟩ = some (.slice r.A r.n r.c) := k1
              have hgx : g < w5.heap.size := hx5.lt
              have hgd : gd < w5.heap.size := hgl
              have hown6 := hown5.lat hL6
              have hLW6 := hLW5.trans hL6
              have hb1' : Blk (w5.alloc (.cells #[.int .i64 x1, .string x2, .string x3, .int .i64 x4, .int .i64 x5, .string x6, .int .i64 x7, .string x8, .int .i64 x9, .int .i64 x10] 44)).drew w5.heap.size 44 #[.int .i64 x1, .string x2, .string x3, .int .i64 x4, .int .i64 x5, .string x6, .int .i64 x7, .string x8, .int .i64 x9, .int .i64 x10] := Blk.new _ _ _
              clear hcell hgl hbg hown5 hx5 hLW5 hL6
              obtain ⟨gd', cap', r2, hv4, hbg, hgl, hrep, hcell, hne, hlast⟩ := hown6.last (⟨⟨x1, x2, x3⟩, ⟨x4, x5, x6⟩, x7, x8, x9, x10⟩ : LW)
              injection hv4 with e1 e2 e3
              injection e1 with e1
              injection e1 with e1
              subst e1 e3
              clear e2
              have k2 := DR.losCell (hcell _ rfl).1
              rw [k1] at k2
              have hsl : r2.sl = .slice r.A r.n r.c := (Option.some.inj k2).symm
              rw [hsl] at hne hlast
              have hlos : EW.Own (w5.alloc (.cells #[.int .i64 x1, .string x2, .string x3, .int .i64 x4, .int .i64 x5, .string x6, .int .i64 x7, .string x8, .int .i64 x9, .int .i64 x10] 44)).drew w2.heap.size dl.los (.slice r.A r.n r.c) := by
                have := hrep.los
                dsimp only at this
                rw [hsl] at this
                exact this
              have hdll := hsm dl (by simp)
              have hmax : dl.los.length + 1 ≤ maxLen := by unfold maxLen; omega
              have hby : (dl.los.length + 1) * EW.bytes ≤ 140737488355328 := Nat.le_trans (Nat.mul_le_mul_right EW.bytes (by omega : dl.los.length + 1 ≤ 1000000)) (by decide)
              have hbse : w2.heap.size ≤ (w5.alloc (.cells #[.int .i64 x1, .string x2, .string x3, .int .i64 x4, .int .i64 x5, .string x6, .int .i64 x7, .string x8, .int .i64 x9, .int .i64 x10] 44)).drew.heap.size := hLW6.size
              have HC := Lib.hid hcell
              have HN := Lib.hid hne
              have HL := Lib.hid hLW6
              have HO := Lib.hid hlast
              have HGL := Lib.hid hgl
              have HK2 := Lib.hid k2
              clear hcell hne hLW6 hlast hrep hown6 hsl k2
              go_region_law (refine Elt.step EW rfl _ _ rfl w2.heap.size dl.los (.slice r.A r.n r.c) rfl hlos w5.heap.size 1 (⟨⟨x1, x2, x3⟩, ⟨x4, x5, x6⟩, x7, x8, x9, x10⟩ : LW) rfl 44 hb1' hmax hby hbse ?_; intro v7 w7 hown7 hg7 hw7; obtain ⟨A7, e7, rfl⟩ := hown7.slice; rw [List.length_append, List.length_singleton] at hown7 hw7; have hc7 := HC.out w7 (hg7.block gd HGL.out (fun e => HN.out e.symm)); have c7 : w7.cell? ⟨gd, pre.length * 15 + 13, none⟩ = some (.slice r.A r.n r.c) := (DR.losCell hc7.1).trans (by rw [HK2.out]); have f7 := hc7.2; have hmore := HO.out w7 _ hown7 hg7 hw7; have hLW7 : Lat w2 (w7.setCell ⟨gd, pre.length * 15 + 13, none⟩ (.slice A7 (dl.los.length + 1) e7)) := (HL.out.grown hg7 hbse (fun k hk => (hlos.lt k hk).1)).setCell (p := ⟨gd, pre.length * 15 + 13, none⟩) hbg _; clear hc7 hown7 hg7 hw7)
              all_goals go_wp2_with fail
              all_goals (
                go_roundw
                case rel =>
                  refine ⟨(q + 1) + 1, _, by omega, by go_num, hmore, by first | omega | (simp; done) | (simp; omega), hsm.lose _ _ _ _, ?_, hLW7⟩
                  have e1 : ¬ ((q + 1) + 1 = 0) := by omega
                  rw [HG1.out, if_neg e1, Nat.add_sub_cancel, hgj]
                  exact Lib.hid (by rw [addD_snoc, if_pos HK.out])
                case measure => simp [intOf]; omega
                )
            · have HE := Lib.hid (decide_eq_false hk)
              go_wp2_with fail
              refine wp_rely (by kernel_rfl) (by kernel_rfl) ?_
              apply RelyL.val
              · intro ν w' hL hF K hK'
                go_simp
                exact hK'.out _ _ rfl (Lat.refl _)
              simp only [Act.put, List.setIfInBounds_toArray, List.set_cons_zero, List.set_cons_succ, Nat.reduceAdd]
              apply RelyL.val
              · intro ν w' hL hF K hK'
                go_simp
                exact hK'.out _ _ rfl (Lat.refl _)
              simp only [Act.put, List.setIfInBounds_toArray, List.set_cons_zero, List.set_cons_succ, Nat.reduceAdd]
              apply RelyL.val
              · intro ν w' hL hF K hK'
                go_simp
                exact hK'.out _ _ rfl (Lat.refl _)
              simp only [Act.put, List.setIfInBounds_toArray, List.set_cons_zero, List.set_cons_succ, Nat.reduceAdd]
              apply RelyL.val
              · intro ν w' hL hF K hK'
                go_simp
                exact hK'.out _ _ rfl (Lat.refl _)
              simp only [Act.put, List.setIfInBounds_toArray, List.set_cons_zero, List.set_cons_succ, Nat.reduceAdd]
              apply RelyL.val
              · intro ν w' hL hF K hK'
                go_simp
                exact hK'.out _ _ rfl (Lat.refl _)
              simp only [Act.put, List.setIfInBounds_toArray, List.set_cons_zero, List.set_cons_succ, Nat.reduceAdd]
              apply RelyL.val
              · intro ν w' hL hF K hK'
                go_simp
                exact hK'.out _ _ rfl (Lat.refl _)
              simp only [Act.put, List.setIfInBounds_toArray, List.set_cons_zero, List.set_cons_succ, Nat.reduceAdd]
              apply RelyL.val
              · intro ν w' hL hF K hK'
                go_simp
                exact hK'.out _ _ rfl (Lat.refl _)
              simp only [Act.put, List.setIfInBounds_toArray, List.set_cons_zero, List.set_cons_succ, Nat.reduceAdd]
              apply RelyL.val
              · intro ν w' hL hF K hK'
                go_simp
                exact hK'.out _ _ rfl (Lat.refl _)
              simp only [Act.put, List.setIfInBounds_toArray, List.set_cons_zero, List.set_cons_succ, Nat.reduceAdd]
              apply RelyL.val
              · intro ν w' hL hF K hK'
                refine take_op rfl ?_
                refine wp_load_at 34 _ rfl gd (pre.length * 15) rfl _ _ (hkrow.below hL hgl) Tryz.underlying34 rfl (by kernel_rfl) ?_
                exact hK'.out _ _ rfl (Lat.refl _)
              simp only [Act.put, List.setIfInBounds_toArray, List.set_cons_zero, List.set_cons_succ, Nat.reduceAdd]
              apply RelyL.val
              · intro ν w' hL hF K hK'
                go_simp
                exact hK'.out _ _ rfl (Lat.refl _)
              simp only [Act.put, List.setIfInBounds_toArray, List.set_cons_zero, List.set_cons_succ, Nat.reduceAdd]
              apply RelyL.val
              · intro ν w' hL hF K hK'
                refine take_op rfl ?_
                refine wp_load_at 34 _ rfl g (0) rfl _ _ (hrK2.below hL hx2.lt) Tryz.underlying34 rfl (by kernel_rfl) ?_
                exact hK'.out _ _ rfl (Lat.refl _)
              simp only [Act.put, List.setIfInBounds_toArray, List.set_cons_zero, List.set_cons_succ, Nat.reduceAdd]
              apply RelyL.val
              · intro ν w' hL hF K hK'
                refine take_op rfl ?_
                refine wp_eql_k _ _ _ rfl dl.key ⟨x1, x2, x3⟩ rfl rfl HE.out ?_
                exact hK'.out _ _ rfl (Lat.refl _)
              simp only [Act.put, List.setIfInBounds_toArray, List.set_cons_zero, List.set_cons_succ, Nat.reduceAdd]
              apply RelyL.val
              · intro ν w' hL hF K hK'
                go_simp
                exact hK'.out _ _ rfl (Lat.refl _)
              simp only [Act.put, List.setIfInBounds_toArray, List.set_cons_zero, List.set_cons_succ, Nat.reduceAdd]
              refine RelyL.done fun ν w5 hL hF => ?_
              clear hF
              have hx5 := hx2.lat hL
              have hLW5 := hLW2.trans hL
              have hown5 := hown2.lat hL
              clear hown2 hx2 hLW2 hL hkrow hrK2 HE hgl hbg
              have hrW : RowAt w5 g 0 (#[.int .i64 x1, .string x2, .string x3, .int .i64 x4, .int .i64 x5, .string x6, .int .i64 x7, .string x8, .int .i64 x9, .int .i64 x10]).toList := hx5.row
              have hrK : RowAt w5 g 0 [.int .i64 x1, .string x2, .string x3] := row_of_blk hx5 0 _ (fun j v hj => by
                match j, hj with
                | 0, hj => simpa using hj
                | 1, hj => simpa using hj
                | 2, hj => simpa using hj
                | j + 3, hj => simp at hj)
              obtain ⟨ps, p1, p2, p3, p4, p5⟩ := hown5
              have hL6 : Lat w5 (w5.alloc (.cells #[.int .i64 x1, .string x2, .string x3, .int .i64 x1, .string x2, .string x3, .int .i64 x4, .int .i64 x5, .string x6, .int .i64 x7, .string x8, .int .i64 x9, .int .i64 x10, .slice none 0 0, .int .i64 0] 48)) := Lat.al _ _
              have p2' := p2.lat hL6
              have p3' : ∀ p ∈ ps, Rep (w5.alloc (.cells #[.int .i64 x1, .string x2, .string x3, .int .i64 x1, .string x2, .string x3, .int .i64 x4, .int .i64 x5, .string x6, .int .i64 x7, .string x8, .int .i64 x9, .int .i64 x10, .slice none 0 0, .int .i64 0] 48)) w2.heap.size p := fun p hp => ⟨(p3 p hp).key, (p3 p hp).win, (p3 p hp).err, (p3 p hp).los.lat hL6⟩
              have hplt := fun k (hk : (Value.slice (some ⟨gd, 0, none⟩) (pre.length + 1) c4).ownBlock = some k) => p2.lt k hk
              have hpl : (ps.map Prod.snd).length ≤ 100000 := by rw [List.length_map, ← List.length_map (f := Prod.fst), p1]; first | omega | (simp; omega)
              have hmax : (ps.map Prod.snd).length + 1 ≤ maxLen := by unfold maxLen; omega
              have hby : ((ps.map Prod.snd).length + 1) * ED.bytes ≤ 140737488355328 := Nat.le_trans (Nat.mul_le_mul_right ED.bytes (by omega : _ ≤ 1000000)) (by decide)
              have hLW6 := hLW5.trans hL6
              have hbse : w2.heap.size ≤ (w5.alloc (.cells #[.int .i64 x1, .string x2, .string x3, .int .i64 x1, .string x2, .string x3, .int .i64 x4, .int .i64 x5, .string x6, .int .i64 x7, .string x8, .int .i64 x9, .int .i64 x10, .slice none 0 0, .int .i64 0] 48)).heap.size := hLW6.size
              have hnew : Blk (w5.alloc (.cells #[.int .i64 x1, .string x2, .string x3, .int .i64 x1, .string x2, .string x3, .int .i64 x4, .int .i64 x5, .string x6, .int .i64 x7, .string x8, .int .i64 x9, .int .i64 x10, .slice none 0 0, .int .i64 0] 48)) w5.heap.size 48 (#[.int .i64 x1, .string x2, .string x3, .int .i64 x1, .string x2, .string x3, .int .i64 x4, .int .i64 x5, .string x6, .int .i64 x7, .string x8, .int .i64 x9, .int .i64 x10, .slice none 0 0, .int .i64 0]) := Blk.new _ _ _
              have HL := Lib.hid hLW6
              have HP := Lib.hid p3'
              have HT := Lib.hid hplt
              clear hL6 p3 p2 hplt hpl hLW6 p3' hx5 hLW5
              go_wp2_with (first | (with_reducible refine wpList_load_at rfl 34 _ rfl g 0 rfl _ _ hrK Tryz.underlying34 rfl (by kernel_rfl) ?_) | (with_reducible refine wpList_load_at rfl 44 _ rfl g 0 rfl _ _ hrW Tryz.underlying44 rfl (by kernel_rfl) ?_) | (at_builtin; refine ED.append rfl _ _ rfl w2.heap.size (ps.map Prod.snd) _ rfl p2' w5.heap.size 1 ⟨⟨x1, x2, x3⟩, (⟨⟨x1, x2, x3⟩, ⟨x4, x5, x6⟩, x7, x8, x9, x10⟩ : LW), none, 0, 0, 0⟩ rfl 48 hnew hmax hby hbse ?_; intro v6 w6 hown6 hg6 hw6; go_must (have hmore := OwnD.more (⟨⟨x1, x2, x3⟩, ⟨x4, x5, x6⟩, x7, x8, x9, x10⟩ : LW) ps p1 HP.out p4 p5 hown6 hg6 hw6; have hLW7 : Lat w2 w6 := HL.out.grown hg6 hbse (fun k hk => (HT.out k hk).1); clear hown6 p2' p4 p5 hnew hg6 hw6)))
              go_roundw
              case rel =>
                refine ⟨(q + 1) + 1, _, by omega, by go_num, hmore, by first | omega | (simp; done) | (simp; omega), hsm.add _ rfl, ?_, hLW7⟩
                have e1 : ¬ ((q + 1) + 1 = 0) := by omega
                rw [HG1.out, if_neg e1, Nat.add_sub_cancel, hgj]
                exact Lib.hid (by rw [addD_snoc, if_neg hk]; rfl)
              case measure => simp [intOf]; omega
    · have hj : j = d.length := by omega
      subst hj
      rw [List.drop_length] at HG
      go_wp2_with fail
      go_ret
      have hRd : R = ds := HG.out
      subst hRd
      exact ⟨⟨_, _, w2.heap.size, rfl, hgood.out, hl2.size, hown⟩, hl2.trans hLW⟩
theorem decide_any (l : List LW) (A : Option Addr) (c : Nat) (w : World) (h : EW.Rd w l (.slice A l.length c)) (hl : l.length ≤ 100000) :
    Calls Tryz.prog 17 #[.slice A l.length c] w fun r w' => (∃ ds v, r = .returned v ∧ Good (fun x => x ∈ l) ds ∧ RdD w' ds v) ∧ Lat w w' :=
  (decideO_any l A c w h hl).mono fun r w' ⟨⟨ds, v, b, e, hg, _, ho⟩, hl⟩ => ⟨⟨ds, v, e, hg, ho.rd⟩, hl⟩
end Go.Proofs.YtmgalnbacenbbaaGreat
