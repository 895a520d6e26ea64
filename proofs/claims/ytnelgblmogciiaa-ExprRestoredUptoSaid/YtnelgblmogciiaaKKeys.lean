/- Keys in order: the program's Keys. -/
import Derived.Test.YtnelgblmogciiaaKInsert
import Derived.Test.YtnelgblmogciiaaKLess
import Derived.Test.YtnelgblmogciiaaKRead
import Derived.Test.YtnelgblmogciiaaKeysA
set_option linter.unusedSimpArgs false
set_option linter.unusedVariables false
namespace Go.Proofs.Ytnelgblmogciiaa
open Go.RowKit

def visKS (e : LExpr) (_ : Int) (s : List LKey) : List LKey × Bool := (if e.hd.kind = 2 then insK s e.hd.key else s, true)
/-- The list that the visitor fills, in its box. -/
def RKS (b : Nat) (s : List LKey) (w : World) : Prop := ∃ v, Var w b 48 v ∧ OwnK w (b + 1) s v ∧ KSorted s
theorem Fr.grownK {B base : Nat} {a w w' : World} {ks : List LKey} {v : Value} (h : Fr B a w) (hO : OwnK w base ks v) (hg : w.grownBy w' v.ownBlock) (hB : B ≤ base) (hBw : B ≤ w.heap.size) : Fr B a w' :=
  ⟨h.low.grown hg hBw (fun k hk => Nat.le_trans hB (hO.lt k hk).1), fun k cs t fr ht hk => by
    have h1 := h.row k cs t fr ht hk
    refine (hg.block k (Array.getElem?_eq_some_iff.1 h1).1 (fun e => ?_)).trans h1
    obtain ⟨hl, ⟨hv, h0⟩ | ⟨g, cap, cur, hv, hbg, hgg, r⟩⟩ := hO
    · rw [hv] at e; cases e
    · rw [hv] at e
      injection e with e
      subst e
      rw [show w.heap[k]? = _ from hgg] at h1
      injection h1 with h1
      injection h1 with _ h2 _
      subst h2
      revert ht
      decide⟩
theorem blk_sub {w : World} {g off : Nat} {t : TypeId} {cs : Array Value} {sub : List Value} (h : Blk w g t cs) (hs : ∀ j v, sub[j]? = some v → cs[off + j]? = some v) : RowAt w g off sub := fun j v hj => (h.cell (off + j)).trans (hs j v hj)
theorem OwnK.row {w : World} {base : Nat} {ks : List LKey} {A : Option Addr} {n c : Nat} (h : OwnK w base ks (.slice A n c)) (j : Nat) (hj : j < ks.length) : ∃ b0, A = some ⟨b0, 0, none⟩ ∧ b0 < w.heap.size ∧ RowAt w b0 (j * 3) (kcells ks[j]) := by
  obtain ⟨hl, ⟨hv, h0⟩ | ⟨g, cap, cur, hv, hbg, hgg, h1, h2, h3, h4⟩⟩ := h
  · omega
  · injection hv with e1 e2 e3
    refine ⟨g, e1, (Array.getElem?_eq_some_iff.1 hgg).1, ?_⟩
    have hrow : RowAt w g 0 (ks.map kcells).flatten := fun i u hi => by
      rw [Nat.zero_add, cell_of_row w g i cur 29 (0, 0) hgg, ← Array.getElem?_toList]
      rw [← h4, List.getElem?_take] at hi
      split at hi
      · exact hi
      · cases hi
    have := (flat_iff (ks.map kcells) 0 (kcells_len ks)).1 hrow j (by simpa using hj)
    simpa using this

theorem insK_at (s : List LKey) (k : LKey) (h : s[posK s k]? ≠ some k) : s.take (posK s k) ++ k :: s.drop (posK s k) = insK s k := by rw [insK_pos, if_neg h]
theorem insK_in (s : List LKey) (k : LKey) (h : s[posK s k]? = some k) : insK s k = s := by rw [insK_pos, if_pos h]

set_option maxRecDepth 100000 in
set_option maxHeartbeats 4000000 in
theorem keysV_any (B b : Nat) (hb : B ≤ b) (e : LExpr) (cs : List Value) (lv : Int) (w : World) (s : List LKey) (hB : B ≤ w.heap.size) (he : IsExpr B w e cs) (hR : RKS b s w) (hs : s.length + cstK e.hd ≤ 1000000) :
    Calls Try.prog 55 #[.agg cs.toArray, .int .i64 lv, .pointer (some ⟨b, 0, none⟩)] w fun r w' => r = .returned (.bool (visKS e lv s).2) ∧ RKS b (visKS e lv s).1 w' ∧ Fr B w w' := by
  obtain ⟨hd, ks, A, c, rfl, rfl, hlen⟩ := he.form
  obtain ⟨v0, hc0, hown0, hso⟩ := hR
  clear he
  by_cases hk : hd.kind = 2
  · have hv : visKS (.mk hd ks) lv s = (insK s hd.key, true) := by simp [visKS, LExpr.hd, hk]
    rw [hv]
    dsimp only
    have HSO := Lib.hid (sorted_insK s hd.key hso)
    obtain ⟨kd, n, m, nm, vk, vn, vs, dv, cl, at_⟩ := hd
    dsimp only at hk
    subst hk
    change Hid (KSorted (insK s ⟨dv, cl, at_⟩)) at HSO
    change Calls _ _ _ _ fun r w' => r = .returned (.bool true) ∧ RKS b (insK s ⟨dv, cl, at_⟩) w' ∧ Fr B w w'
    have HLK : Hid ((s.length + 1) * 40 ≤ 140737488355328) := Lib.hid <| Nat.le_trans (Nat.mul_le_mul_right 40 (by omega : s.length + 1 ≤ 1000001)) (by decide)
    obtain ⟨Av, cv, rfl⟩ := hown0.slice
    have hxb1 := Blk.new w 32 #[.int .i64 2, .int .i64 n, .int .i64 m, .string nm, .int .i64 vk, .int .i64 vn, .string vs, .int .i64 dv, .string cl, .string at_, .slice A ks.length c]
    have hc1 := Var.alloc hc0 (.cells #[.int .i64 2, .int .i64 n, .int .i64 m, .string nm, .int .i64 vk, .int .i64 vn, .string vs, .int .i64 dv, .string cl, .string at_, .slice A ks.length c] 32)
    have hown1 := hown0.al (.cells #[.int .i64 2, .int .i64 n, .int .i64 m, .string nm, .int .i64 vk, .int .i64 vn, .string vs, .int .i64 dv, .string cl, .string at_, .slice A ks.length c] 32)
    have hF1 := (Fr.refl B w).alloc hB (.cells #[.int .i64 2, .int .i64 n, .int .i64 m, .string nm, .int .i64 vk, .int .i64 vn, .string vs, .int .i64 dv, .string cl, .string at_, .slice A ks.length c] 32)
    have hB1 : B ≤ (w.alloc (.cells #[.int .i64 2, .int .i64 n, .int .i64 m, .string nm, .int .i64 vk, .int .i64 vn, .string vs, .int .i64 dv, .string cl, .string at_, .slice A ks.length c] 32)).heap.size := by rw [World.size_alloc]; omega
    have hx1 : w.heap.size < (w.alloc (.cells #[.int .i64 2, .int .i64 n, .int .i64 m, .string nm, .int .i64 vk, .int .i64 vn, .string vs, .int .i64 dv, .string cl, .string at_, .slice A ks.length c] 32)).heap.size := by rw [World.size_alloc]; omega
    have hsl : s.length ≤ 1000000 := by omega
    clear hs hlen hso hown0 hc0 hv
    go_enter Try.func55, Try.ntmps55
    unfold Hd.cells
    go_upto_region 1 with fail
    generalize w.alloc (.cells #[.int .i64 2, .int .i64 n, .int .i64 m, .string nm, .int .i64 vk, .int .i64 vn, .string vs, .int .i64 dv, .string cl, .string at_, .slice A ks.length c] 32) = W1 at *
    have cx := hxb1.cell
    go_wp2_with fail
    clear cx
    go_loopw [6] (fun i wr => ∃ j : Nat, j ≤ posK s ⟨dv, cl, at_⟩ ∧ i = .int .i64 j ∧ Lat W1 wr) (fun i _ => s.length - (intOf i).toNat)
    case atStart => exact ⟨0, Nat.zero_le _, rfl, Lat.refl _⟩
    case round =>
      obtain ⟨j, hjp, rfl, hLr⟩ := hrel
      have hps := posK_le s ⟨dv, cl, at_⟩
      have hjs : j ≤ s.length := Nat.le_trans hjp hps
      have hc2 := Var.below hc1 hLr
      have hxb := hxb1.lat hLr
      have hown2 := hown1.lat hLr
      have hx0 := Nat.lt_of_lt_of_le hx1 hLr.size
      have hxr : RowAt wr w.heap.size 7 [.int .i64 dv, .string cl, .string at_] := blk_sub hxb (fun i v hi => by
        match i, hi with
        | 0, hi => exact hi
        | 1, hi => exact hi
        | 2, hi => exact hi
        | i + 3, hi => simp at hi)
      clear hc1 hxb1 hown1 hx1
      by_cases hlj : j < s.length
      · obtain ⟨b0, rfl, hb0, g⟩ := hown2.row j hlj
        have hlt := posK_lt s ⟨dv, cl, at_⟩ j hlj
        have hat : j = posK s ⟨dv, cl, at_⟩ → kless s[j] ⟨dv, cl, at_⟩ = false := fun e => by subst e; exact posK_at s _ hlj
        have hget : s[j]? = some s[j] := List.getElem?_eq_getElem hlj
        have HRL := Lib.hid (less_any s[j] ⟨dv, cl, at_⟩)
        generalize s[j] = x at *
        obtain ⟨L, hL0⟩ : ∃ L, kless x ⟨dv, cl, at_⟩ = L := ⟨_, rfl⟩
        rw [hL0] at hlt hat HRL
        obtain ⟨x1, x2, x3⟩ := x
        change RowAt wr b0 (j * 3) [.int .i64 x1, .string x2, .string x3] at g
        change Hid (∀ w, Calls Try.prog 56 #[.agg #[.int .i64 x1, .string x2, .string x3], .agg #[.int .i64 dv, .string cl, .string at_]] w fun r w' => r = .returned (.bool L) ∧ Below w.heap.size w w') at HRL
        clear hL0
        have HLT := Lib.hid hlt
        have HAT := Lib.hid hat
        have HGET := Lib.hid hget
        clear hlt hat hget
        have hji : decide ((j : Int) < (s.length : Int)) = true := by simp; omega
        go_upto_region 3 with fail
        refine wp_rely (by kernel_rfl) (by kernel_rfl) ?_
        apply RelyL.val
        · intro ν w' hL hF K hK'
          go_simp
          exact hK'.out _ _ rfl (Lat.refl _)
        simp only [Act.put, List.setIfInBounds_toArray, List.set_cons_zero, List.set_cons_succ, Nat.reduceAdd]
        apply RelyL.val
        · intro ν w' hL hF K hK'
          have cz := Var.cell (Var.below hc2 hL)
          go_simp
          exact hK'.out _ _ rfl (Lat.refl _)
        simp only [Act.put, List.setIfInBounds_toArray, List.set_cons_zero, List.set_cons_succ, Nat.reduceAdd]
        apply RelyL.val
        · intro ν w' hL hF K hK'
          go_simp
          exact hK'.out _ _ rfl (Lat.refl _)
        simp only [Act.put, List.setIfInBounds_toArray, List.set_cons_zero, List.set_cons_succ, Nat.reduceAdd]
        apply RelyL.val
        · intro ν w' hL hF K hK'
          go_simp
          exact hK'.out _ _ rfl (Lat.refl _)
        simp only [Act.put, List.setIfInBounds_toArray, List.set_cons_zero, List.set_cons_succ, Nat.reduceAdd]
        apply RelyL.val
        · intro ν w' hL hF K hK'
          go_simp
          exact hK'.out _ _ rfl (Lat.refl _)
        simp only [Act.put, List.setIfInBounds_toArray, List.set_cons_zero, List.set_cons_succ, Nat.reduceAdd]
        apply RelyL.val
        · intro ν w' hL hF K hK'
          have cz := Var.cell (Var.below hc2 hL)
          go_simp
          exact hK'.out _ _ rfl (Lat.refl _)
        simp only [Act.put, List.setIfInBounds_toArray, List.set_cons_zero, List.set_cons_succ, Nat.reduceAdd]
        apply RelyL.val
        · intro ν w' hL hF K hK'
          go_simp
          exact hK'.out _ _ rfl (Lat.refl _)
        simp only [Act.put, List.setIfInBounds_toArray, List.set_cons_zero, List.set_cons_succ, Nat.reduceAdd]
        apply RelyL.val
        · intro ν w' hL hF K hK'
          go_simp
          exact hK'.out _ _ rfl (Lat.refl _)
        simp only [Act.put, List.setIfInBounds_toArray, List.set_cons_zero, List.set_cons_succ, Nat.reduceAdd]
        apply RelyL.val
        · intro ν w' hL hF K hK'
          refine take_op rfl ?_
          refine wp_load_at 29 _ rfl b0 (j * 3) rfl _ _ (g.below hL hb0) Try.underlying29 rfl (by kernel_rfl) ?_
          exact hK'.out _ _ rfl (Lat.refl _)
        simp only [Act.put, List.setIfInBounds_toArray, List.set_cons_zero, List.set_cons_succ, Nat.reduceAdd]
        apply RelyL.val
        · intro ν w' hL hF K hK'
          go_simp
          exact hK'.out _ _ rfl (Lat.refl _)
        simp only [Act.put, List.setIfInBounds_toArray, List.set_cons_zero, List.set_cons_succ, Nat.reduceAdd]
        apply RelyL.val
        · intro ν w' hL hF K hK'
          refine take_op rfl ?_
          refine wp_load_at 29 _ rfl w.heap.size 7 rfl _ _ (hxr.below hL hx0) Try.underlying29 rfl (by kernel_rfl) ?_
          exact hK'.out _ _ rfl (Lat.refl _)
        simp only [Act.put, List.setIfInBounds_toArray, List.set_cons_zero, List.set_cons_succ, Nat.reduceAdd]
        apply RelyL.val
        · intro ν w' hL hF K hK'
          have H := HRL.out w'
          go_simp
          go_at_call 56
          refine H.mono ?_
          rintro r w'' ⟨rfl, hbp⟩
          exact hK'.out _ _ rfl hbp
        simp only [Act.put, List.setIfInBounds_toArray, List.set_cons_zero, List.set_cons_succ, Nat.reduceAdd]
        apply RelyL.val
        · intro ν w' hL hF K hK'
          go_simp
          exact hK'.out _ _ rfl (Lat.refl _)
        simp only [Act.put, List.setIfInBounds_toArray, List.set_cons_zero, List.set_cons_succ, Nat.reduceAdd]
        refine RelyL.done fun ν w3 hL hF => ?_
        replace hc2 := Var.below hc2 hL
        replace hown2 := hown2.lat hL
        replace hxb := hxb.lat hL
        replace hxr := hxr.below hL hx0
        replace hx0 := Nat.lt_of_lt_of_le hx0 hL.size
        replace hLr := hLr.trans hL
        replace g := g.below hL hb0
        replace hb0 := Nat.lt_of_lt_of_le hb0 hL.size
        clear hL hF HRL
        cases L with
        | true =>
          go_wp2_with fail
          go_roundw
          case rel => exact ⟨j + 1, by rcases Nat.lt_or_eq_of_le hjp with h | h; exact h; exact absurd (HAT.out h) (by simp), by go_num, hLr⟩
          case measure => simp [intOf]; omega
        | false =>
          have hje : j = posK s ⟨dv, cl, at_⟩ := by
            rcases Nat.lt_or_eq_of_le hjp with h | h
            · exact absurd (HLT.out h) (by simp)
            · exact h
          obtain ⟨E, hE⟩ : ∃ E, decide ((⟨x1, x2, x3⟩ : LKey) = ⟨dv, cl, at_⟩) = E := ⟨_, rfl⟩
          have HINS : Hid (E = false → s.take j ++ (⟨dv, cl, at_⟩ : LKey) :: s.drop j = insK s ⟨dv, cl, at_⟩) := Lib.hid (fun h => by
            rw [h, decide_eq_false_iff_not] at hE
            rw [hje]; exact insK_at s _ (by rw [← hje, HGET.out]; simpa using hE))
          have HIN : Hid (E = true → insK s ⟨dv, cl, at_⟩ = s) := Lib.hid (fun h => by
            rw [h, decide_eq_true_eq] at hE
            exact insK_in s _ (by rw [← hje, HGET.out, hE]))
          have HE := Lib.hid hE
          clear hE HAT HLT HGET hje hps hjp
          have hji2 : ((j : Int) == (s.length : Int)) = false := by simp; omega
          go_upto_region 5 with fail
          refine wp_rely (by kernel_rfl) (by kernel_rfl) ?_
          apply RelyL.val
          · intro ν w' hL hF K hK'
            go_simp
            exact hK'.out _ _ rfl (Lat.refl _)
          simp only [Act.put, List.setIfInBounds_toArray, List.set_cons_zero, List.set_cons_succ, Nat.reduceAdd]
          apply RelyL.val
          · intro ν w' hL hF K hK'
            have cz := Var.cell (Var.below hc2 hL)
            go_simp
            exact hK'.out _ _ rfl (Lat.refl _)
          simp only [Act.put, List.setIfInBounds_toArray, List.set_cons_zero, List.set_cons_succ, Nat.reduceAdd]
          apply RelyL.val
          · intro ν w' hL hF K hK'
            go_simp
            exact hK'.out _ _ rfl (Lat.refl _)
          simp only [Act.put, List.setIfInBounds_toArray, List.set_cons_zero, List.set_cons_succ, Nat.reduceAdd]
          apply RelyL.val
          · intro ν w' hL hF K hK'
            go_simp
            exact hK'.out _ _ rfl (Lat.refl _)
          simp only [Act.put, List.setIfInBounds_toArray, List.set_cons_zero, List.set_cons_succ, Nat.reduceAdd]
          apply RelyL.val
          · intro ν w' hL hF K hK'
            go_simp
            exact hK'.out _ _ rfl (Lat.refl _)
          simp only [Act.put, List.setIfInBounds_toArray, List.set_cons_zero, List.set_cons_succ, Nat.reduceAdd]
          apply RelyL.val
          · intro ν w' hL hF K hK'
            have cz := Var.cell (Var.below hc2 hL)
            go_simp
            exact hK'.out _ _ rfl (Lat.refl _)
          simp only [Act.put, List.setIfInBounds_toArray, List.set_cons_zero, List.set_cons_succ, Nat.reduceAdd]
          apply RelyL.val
          · intro ν w' hL hF K hK'
            go_simp
            exact hK'.out _ _ rfl (Lat.refl _)
          simp only [Act.put, List.setIfInBounds_toArray, List.set_cons_zero, List.set_cons_succ, Nat.reduceAdd]
          apply RelyL.val
          · intro ν w' hL hF K hK'
            go_simp
            exact hK'.out _ _ rfl (Lat.refl _)
          simp only [Act.put, List.setIfInBounds_toArray, List.set_cons_zero, List.set_cons_succ, Nat.reduceAdd]
          apply RelyL.val
          · intro ν w' hL hF K hK'
            refine take_op rfl ?_
            refine wp_load_at 29 _ rfl b0 (j * 3) rfl _ _ (g.below hL hb0) Try.underlying29 rfl (by kernel_rfl) ?_
            exact hK'.out _ _ rfl (Lat.refl _)
          simp only [Act.put, List.setIfInBounds_toArray, List.set_cons_zero, List.set_cons_succ, Nat.reduceAdd]
          apply RelyL.val
          · intro ν w' hL hF K hK'
            go_simp
            exact hK'.out _ _ rfl (Lat.refl _)
          simp only [Act.put, List.setIfInBounds_toArray, List.set_cons_zero, List.set_cons_succ, Nat.reduceAdd]
          apply RelyL.val
          · intro ν w' hL hF K hK'
            refine take_op rfl ?_
            refine wp_load_at 29 _ rfl w.heap.size 7 rfl _ _ (hxr.below hL hx0) Try.underlying29 rfl (by kernel_rfl) ?_
            exact hK'.out _ _ rfl (Lat.refl _)
          simp only [Act.put, List.setIfInBounds_toArray, List.set_cons_zero, List.set_cons_succ, Nat.reduceAdd]
          apply RelyL.val
          · intro ν w' hL hF K hK'
            refine take_op rfl ?_
            refine wp_neq_key _ _ _ rfl ⟨x1, x2, x3⟩ ⟨dv, cl, at_⟩ rfl rfl HE.out ?_
            exact hK'.out _ _ rfl (Lat.refl _)
          simp only [Act.put, List.setIfInBounds_toArray, List.set_cons_zero, List.set_cons_succ, Nat.reduceAdd]
          apply RelyL.val
          · intro ν w' hL hF K hK'
            go_simp
            exact hK'.out _ _ rfl (Lat.refl _)
          simp only [Act.put, List.setIfInBounds_toArray, List.set_cons_zero, List.set_cons_succ, Nat.reduceAdd]
          refine RelyL.done fun ν w4 hL hF => ?_
          replace hc2 := Var.below hc2 hL
          replace hown2 := hown2.lat hL
          replace hxb := hxb.lat hL
          replace hxr := hxr.below hL hx0
          replace hx0 := Nat.lt_of_lt_of_le hx0 hL.size
          replace hLr := hLr.trans hL
          clear hL hF g hb0 HE
          cases E with
          | true =>
            have hin := HIN.out rfl
            rw [hin] at HSO
            clear HIN HINS
            have HIN := Lib.hid hin
            clear hin
            go_wp2_with fail
            go_ret
            rw [HIN.out]
            exact ⟨rfl, ⟨_, hc2, hown2, HSO.out⟩, hF1.trans (Fr.of_below hLr hB1)⟩
          | false =>
            replace HINS := Lib.hid (HINS.out rfl)
            clear HIN
            have cx := hxb.cell
            have cz := Var.cell hc2
            have hownA := hown2.al (.cells #[.int .i64 dv, .string cl, .string at_] 29)
            have hlt6 := Var.lt hc2
            have hneA : some w4.heap.size ≠ (Value.slice (some ⟨b0, 0, none⟩) s.length cv).ownBlock := fun e => absurd (hown2.lt _ e.symm).2 (Nat.lt_irrefl _)
            have HI := Lib.hid (insert_any (w4.alloc (.cells #[.int .i64 dv, .string cl, .string at_] 29)) (b + 1) s (.slice (some ⟨b0, 0, none⟩) s.length cv) ⟨dv, cl, at_⟩ w4.heap.size (j) hjs hownA (Blk.new _ _ _) hneA HLK.out (by rw [World.size_alloc]; omega))
            have hF6 := (hF1.trans (Fr.of_below hLr hB1)).alloc (Nat.le_trans hB1 hLr.size) (.cells #[.int .i64 dv, .string cl, .string at_] 29)
            have hc6 := Var.alloc hc2 (.cells #[.int .i64 dv, .string cl, .string at_] 29)
            have hB6 : B ≤ (w4.alloc (.cells #[.int .i64 dv, .string cl, .string at_] 29)).heap.size := by rw [World.size_alloc]; omega
            have hbn : some b ≠ (Value.slice (some ⟨b0, 0, none⟩) s.length cv).ownBlock := fun e => by have := (hown2.lt _ e.symm).1; omega
            clear hLr hF1 hown2 hc2
            go_wp2_with fail
            refine HI.out.mono ?_
            rintro r w7 ⟨v7, rfl, hown7, hg7⟩
            obtain ⟨A7, n7, c7, rfl⟩ : ∃ A n c, v7 = .slice A n c := by obtain ⟨A, c, h⟩ := hown7.slice; exact ⟨_, _, _, h⟩
            have hc7 : Var w7 b 48 (.slice (some ⟨b0, 0, none⟩) s.length cv) := (hg7.block b (Var.lt hc6) hbn).trans hc6
            have hF7 := hF6.grownK hownA hg7 (Nat.le_succ_of_le hb) hB6
            have cz7 := Var.cell hc7
            have fz7 := Var.free hc7
            clear HI cx cz hxb hxr
            go_wp2_with fail
            go_ret
            rw [HINS.out] at hown7
            exact ⟨rfl, ⟨_, Var.set hc7 _, hown7.carry (fun k hk _ => heap_setCell_other _ _ _ _ (by dsimp only; omega)), HSO.out⟩, hF7.set hc7 (by decide) hb _⟩
      · have hje : j = s.length := by omega
        have hjp2 : j = posK s ⟨dv, cl, at_⟩ := by omega
        have HINS : Hid (s.take j ++ (⟨dv, cl, at_⟩ : LKey) :: s.drop j = insK s ⟨dv, cl, at_⟩) := Lib.hid (by
          rw [hjp2]; exact insK_at s _ (by rw [← hjp2, hje]; simp))
        clear hjp hps hjp2 hlj
        subst hje
        go_upto_region 3 with fail
        refine wp_rely (by kernel_rfl) (by kernel_rfl) ?_
        apply RelyL.val
        · intro ν w' hL hF K hK'
          go_simp
          exact hK'.out _ _ rfl (Lat.refl _)
        simp only [Act.put, List.setIfInBounds_toArray, List.set_cons_zero, List.set_cons_succ, Nat.reduceAdd]
        apply RelyL.val
        · intro ν w' hL hF K hK'
          have cz := Var.cell (Var.below hc2 hL)
          go_simp
          exact hK'.out _ _ rfl (Lat.refl _)
        simp only [Act.put, List.setIfInBounds_toArray, List.set_cons_zero, List.set_cons_succ, Nat.reduceAdd]
        apply RelyL.val
        · intro ν w' hL hF K hK'
          go_simp
          exact hK'.out _ _ rfl (Lat.refl _)
        simp only [Act.put, List.setIfInBounds_toArray, List.set_cons_zero, List.set_cons_succ, Nat.reduceAdd]
        apply RelyL.val
        · intro ν w' hL hF K hK'
          go_simp
          exact hK'.out _ _ rfl (Lat.refl _)
        simp only [Act.put, List.setIfInBounds_toArray, List.set_cons_zero, List.set_cons_succ, Nat.reduceAdd]
        apply RelyL.val
        · intro ν w' hL hF K hK'
          go_simp
          exact hK'.out _ _ rfl (Lat.refl _)
        simp only [Act.put, List.setIfInBounds_toArray, List.set_cons_zero, List.set_cons_succ, Nat.reduceAdd]
        apply RelyL.val
        · intro ν w' hL hF K hK'
          refine skip_op rfl ?_
          exact hK'.out _ _ rfl (Lat.refl _)
        simp only [Act.put, List.setIfInBounds_toArray, List.set_cons_zero, List.set_cons_succ, Nat.reduceAdd]
        apply RelyL.val
        · intro ν w' hL hF K hK'
          refine skip_op rfl ?_
          exact hK'.out _ _ rfl (Lat.refl _)
        simp only [Act.put, List.setIfInBounds_toArray, List.set_cons_zero, List.set_cons_succ, Nat.reduceAdd]
        apply RelyL.val
        · intro ν w' hL hF K hK'
          refine skip_op rfl ?_
          exact hK'.out _ _ rfl (Lat.refl _)
        simp only [Act.put, List.setIfInBounds_toArray, List.set_cons_zero, List.set_cons_succ, Nat.reduceAdd]
        apply RelyL.val
        · intro ν w' hL hF K hK'
          refine skip_op rfl ?_
          exact hK'.out _ _ rfl (Lat.refl _)
        simp only [Act.put, List.setIfInBounds_toArray, List.set_cons_zero, List.set_cons_succ, Nat.reduceAdd]
        apply RelyL.val
        · intro ν w' hL hF K hK'
          refine skip_op rfl ?_
          exact hK'.out _ _ rfl (Lat.refl _)
        simp only [Act.put, List.setIfInBounds_toArray, List.set_cons_zero, List.set_cons_succ, Nat.reduceAdd]
        apply RelyL.val
        · intro ν w' hL hF K hK'
          refine skip_op rfl ?_
          exact hK'.out _ _ rfl (Lat.refl _)
        simp only [Act.put, List.setIfInBounds_toArray, List.set_cons_zero, List.set_cons_succ, Nat.reduceAdd]
        apply RelyL.val
        · intro ν w' hL hF K hK'
          refine skip_op rfl ?_
          exact hK'.out _ _ rfl (Lat.refl _)
        simp only [Act.put, List.setIfInBounds_toArray, List.set_cons_zero, List.set_cons_succ, Nat.reduceAdd]
        apply RelyL.val
        · intro ν w' hL hF K hK'
          go_simp
          exact hK'.out _ _ rfl (Lat.refl _)
        simp only [Act.put, List.setIfInBounds_toArray, List.set_cons_zero, List.set_cons_succ, Nat.reduceAdd]
        refine RelyL.done fun ν w3 hL hF => ?_
        replace hc2 := Var.below hc2 hL
        replace hown2 := hown2.lat hL
        replace hxb := hxb.lat hL
        replace hxr := hxr.below hL hx0
        replace hx0 := Nat.lt_of_lt_of_le hx0 hL.size
        replace hLr := hLr.trans hL
        clear hL hF
        go_upto_region 5 with fail
        refine wp_rely (by kernel_rfl) (by kernel_rfl) ?_
        apply RelyL.val
        · intro ν w' hL hF K hK'
          go_simp
          exact hK'.out _ _ rfl (Lat.refl _)
        simp only [Act.put, List.setIfInBounds_toArray, List.set_cons_zero, List.set_cons_succ, Nat.reduceAdd]
        apply RelyL.val
        · intro ν w' hL hF K hK'
          have cz := Var.cell (Var.below hc2 hL)
          go_simp
          exact hK'.out _ _ rfl (Lat.refl _)
        simp only [Act.put, List.setIfInBounds_toArray, List.set_cons_zero, List.set_cons_succ, Nat.reduceAdd]
        apply RelyL.val
        · intro ν w' hL hF K hK'
          go_simp
          exact hK'.out _ _ rfl (Lat.refl _)
        simp only [Act.put, List.setIfInBounds_toArray, List.set_cons_zero, List.set_cons_succ, Nat.reduceAdd]
        apply RelyL.val
        · intro ν w' hL hF K hK'
          go_simp
          exact hK'.out _ _ rfl (Lat.refl _)
        simp only [Act.put, List.setIfInBounds_toArray, List.set_cons_zero, List.set_cons_succ, Nat.reduceAdd]
        apply RelyL.val
        · intro ν w' hL hF K hK'
          go_simp
          exact hK'.out _ _ rfl (Lat.refl _)
        simp only [Act.put, List.setIfInBounds_toArray, List.set_cons_zero, List.set_cons_succ, Nat.reduceAdd]
        apply RelyL.val
        · intro ν w' hL hF K hK'
          refine skip_op rfl ?_
          exact hK'.out _ _ rfl (Lat.refl _)
        simp only [Act.put, List.setIfInBounds_toArray, List.set_cons_zero, List.set_cons_succ, Nat.reduceAdd]
        apply RelyL.val
        · intro ν w' hL hF K hK'
          refine skip_op rfl ?_
          exact hK'.out _ _ rfl (Lat.refl _)
        simp only [Act.put, List.setIfInBounds_toArray, List.set_cons_zero, List.set_cons_succ, Nat.reduceAdd]
        apply RelyL.val
        · intro ν w' hL hF K hK'
          refine skip_op rfl ?_
          exact hK'.out _ _ rfl (Lat.refl _)
        simp only [Act.put, List.setIfInBounds_toArray, List.set_cons_zero, List.set_cons_succ, Nat.reduceAdd]
        apply RelyL.val
        · intro ν w' hL hF K hK'
          refine skip_op rfl ?_
          exact hK'.out _ _ rfl (Lat.refl _)
        simp only [Act.put, List.setIfInBounds_toArray, List.set_cons_zero, List.set_cons_succ, Nat.reduceAdd]
        apply RelyL.val
        · intro ν w' hL hF K hK'
          refine skip_op rfl ?_
          exact hK'.out _ _ rfl (Lat.refl _)
        simp only [Act.put, List.setIfInBounds_toArray, List.set_cons_zero, List.set_cons_succ, Nat.reduceAdd]
        apply RelyL.val
        · intro ν w' hL hF K hK'
          refine skip_op rfl ?_
          exact hK'.out _ _ rfl (Lat.refl _)
        simp only [Act.put, List.setIfInBounds_toArray, List.set_cons_zero, List.set_cons_succ, Nat.reduceAdd]
        apply RelyL.val
        · intro ν w' hL hF K hK'
          refine skip_op rfl ?_
          exact hK'.out _ _ rfl (Lat.refl _)
        simp only [Act.put, List.setIfInBounds_toArray, List.set_cons_zero, List.set_cons_succ, Nat.reduceAdd]
        apply RelyL.val
        · intro ν w' hL hF K hK'
          go_simp
          exact hK'.out _ _ rfl (Lat.refl _)
        simp only [Act.put, List.setIfInBounds_toArray, List.set_cons_zero, List.set_cons_succ, Nat.reduceAdd]
        refine RelyL.done fun ν w4 hL hF => ?_
        replace hc2 := Var.below hc2 hL
        replace hown2 := hown2.lat hL
        replace hxb := hxb.lat hL
        replace hxr := hxr.below hL hx0
        replace hx0 := Nat.lt_of_lt_of_le hx0 hL.size
        replace hLr := hLr.trans hL
        clear hL hF
        have cx := hxb.cell
        have cz := Var.cell hc2
        have hownA := hown2.al (.cells #[.int .i64 dv, .string cl, .string at_] 29)
        have hlt6 := Var.lt hc2
        have hneA : some w4.heap.size ≠ (Value.slice (Av) s.length cv).ownBlock := fun e => absurd (hown2.lt _ e.symm).2 (Nat.lt_irrefl _)
        have HI := Lib.hid (insert_any (w4.alloc (.cells #[.int .i64 dv, .string cl, .string at_] 29)) (b + 1) s (.slice (Av) s.length cv) ⟨dv, cl, at_⟩ w4.heap.size (s.length) hjs hownA (Blk.new _ _ _) hneA HLK.out (by rw [World.size_alloc]; omega))
        have hF6 := (hF1.trans (Fr.of_below hLr hB1)).alloc (Nat.le_trans hB1 hLr.size) (.cells #[.int .i64 dv, .string cl, .string at_] 29)
        have hc6 := Var.alloc hc2 (.cells #[.int .i64 dv, .string cl, .string at_] 29)
        have hB6 : B ≤ (w4.alloc (.cells #[.int .i64 dv, .string cl, .string at_] 29)).heap.size := by rw [World.size_alloc]; omega
        have hbn : some b ≠ (Value.slice (Av) s.length cv).ownBlock := fun e => by have := (hown2.lt _ e.symm).1; omega
        clear hLr hF1 hown2 hc2
        go_wp2_with fail
        refine HI.out.mono ?_
        rintro r w7 ⟨v7, rfl, hown7, hg7⟩
        obtain ⟨A7, n7, c7, rfl⟩ : ∃ A n c, v7 = .slice A n c := by obtain ⟨A, c, h⟩ := hown7.slice; exact ⟨_, _, _, h⟩
        have hc7 : Var w7 b 48 (.slice (Av) s.length cv) := (hg7.block b (Var.lt hc6) hbn).trans hc6
        have hF7 := hF6.grownK hownA hg7 (Nat.le_succ_of_le hb) hB6
        have cz7 := Var.cell hc7
        have fz7 := Var.free hc7
        clear HI cx cz hxb hxr
        go_wp2_with fail
        go_ret
        rw [HINS.out] at hown7
        exact ⟨rfl, ⟨_, Var.set hc7 _, hown7.carry (fun k hk _ => heap_setCell_other _ _ _ _ (by dsimp only; omega)), HSO.out⟩, hF7.set hc7 (by decide) hb _⟩
  · have hv : visKS (.mk hd ks) lv s = (s, true) := by simp [visKS, LExpr.hd, hk]
    rw [hv]
    go_enter Try.func55, Try.ntmps55
    unfold Hd.cells
    have hk2 : (hd.kind == 2) = false := by simpa using hk
    go_wp2_with fail
    go_ret
    exact ⟨rfl, ⟨v0, Var.alloc hc0 _, hown0.al _, hso⟩, (Fr.refl B w).alloc hB _⟩

theorem walk_keys (e : LExpr) : ∀ (lv : Int) (s : List LKey), walkS visKS e lv s = ((readsE e).foldl insK s, true) := by
  induction e using LExpr.ind with | _ hd ks ih => ?_
  have hL : ∀ (l : List LExpr), (∀ (i : Nat) (hi : i < l.length), ∀ (lv : Int) (s : List LKey), walkS visKS l[i] lv s = ((readsE l[i]).foldl insK s, true)) → ∀ (lv : Int) (s : List LKey), walkL visKS l lv s = ((readsL l).foldl insK s, true) := by
    intro l
    induction l with
    | nil => intro _ lv s; simp [walkL, readsL]
    | cons k l ihl =>
      intro h lv s
      have h0 := h 0 (by simp) lv s
      simp only [List.getElem_cons_zero] at h0
      rw [walkL, h0]
      simp only [if_true]
      rw [ihl (fun i hi => by have := h (i + 1) (by simpa using hi); simpa using this), readsL, List.foldl_append]
  intro lv s
  rw [walkS]
  have hv : visKS (.mk hd ks) lv s = ((headK hd).foldl insK s, true) := by
    rw [visKS, headK]
    change (if hd.kind = 2 then insK s hd.key else s, true) = _
    split <;> rfl
  rw [hv]
  simp only [if_true]
  rw [hL ks ih, readsE, List.foldl_append]

mutual
theorem costK_len : ∀ (e : LExpr), costE cstK e = (readsE e).length
  | .mk h ks => by rw [costE, readsE, List.length_append, costL_len ks, cstK, headK]; split <;> rfl
theorem costL_len : ∀ (l : List LExpr), costL cstK l = (readsL l).length
  | [] => by rw [costL, readsL]; rfl
  | k :: l => by rw [costL, readsL, List.length_append, costK_len k, costL_len l]
end

set_option maxHeartbeats 1000000 in
/-- The keys of an expression. -/
theorem keys_any (e : LExpr) (cs : List Value) (B : Nat) (w : World) (hB : B ≤ w.heap.size) (he : IsExpr B w e cs) (hm : (readsE e).length ≤ 1000000) :
    Calls Try.prog 34 #[.agg cs.toArray] w fun r w' => (∃ v, r = .returned v ∧ KRows w' (keysE e) v) ∧ Below w.heap.size w w' := by
  obtain ⟨hd, ks, A, c, hE, rfl, hlen⟩ := he.form
  have hcall : ∀ (args : Array Value) (w : World), (callFunc 55 args).run Try.prog w = .ok (.enter 55 args) w := fun args w => by kernel_rfl
  have HW := fun W hB' he' hR' => Lib.hid (walkM_any visKS (RKS (w.heap.size + 1)) w.heap.size 55 #[.pointer (some ⟨w.heap.size + 1, 0, none⟩)] hcall
    (fun s w o ⟨v, h, h0, h1⟩ => ⟨v, Var.alloc h o, h0.al o, h1⟩) List.length cstK 1000000 (fun e lv s => by
      rw [visKS, cstK]; dsimp only; split
      · exact len_insK _ _
      · exact Nat.le_add_right _ _) (fun e cs lv w' s hB he hR hs => keysV_any w.heap.size (w.heap.size + 1) (by omega) e cs lv w' s hB he hR hs)
    e (hd.cells (.slice A ks.length c)) W [] (by rw [costK_len]; simpa using hm) hB' he' hR')
  clear hcall
  have he1 := he.mono hB
  clear he
  rw [walk_keys] at HW
  dsimp only at HW
  change ∀ W hB' he' hR', Hid (Calls _ _ _ _ fun r w' => _ ∧ RKS _ (keysE e) w' ∧ _) at HW
  generalize keysE e = R at *
  go_enter Try.func34, Try.ntmps34
  unfold Hd.cells at *
  go_wp2_with fail
  refine (HW _ ?_ ?_ ?_).out.mono ?_
  · simp; omega
  · exact he1.carry (((Below.refl _ _).al _).al _)
  · exact ⟨_, Blk.at1 _ _ _ _, OwnK.nil _ _, List.Pairwise.nil⟩
  rintro r w1 ⟨rfl, ⟨v1, hR1, hown1, _⟩, F1⟩
  have b1 := Var.cell hR1
  obtain ⟨A1, c1, rfl, hr1⟩ := hown1.rows
  clear HW he1
  go_wp2_with fail
  go_ret
  exact ⟨⟨_, rfl, ⟨A1, c1, rfl, hr1⟩⟩, (((Below.refl _ _).al _).al _).trans F1.low⟩
end Go.Proofs.Ytnelgblmogciiaa
