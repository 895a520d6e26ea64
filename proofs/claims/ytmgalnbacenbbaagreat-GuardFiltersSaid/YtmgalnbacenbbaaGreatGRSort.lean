/- Guard: the active locks, the strongest first: the reference's. -/
import Derived.Test.YtmgalnbacenbbaaGreatGStr
set_option linter.unusedSimpArgs false
set_option linter.unusedVariables false
namespace Go.Proofs.YtmgalnbacenbbaaGreat
open Go.RowKit

set_option maxRecDepth 100000 in
set_option maxHeartbeats 1000000 in
theorem stronger_any (x y : LkR) (w : World) : Calls Tryz.prog 67 #[.agg (lkC x).toArray, .agg (lkC y).toArray] w fun r w' => r = .returned (.bool (rn x.name x.rank y.name y.rank)) ∧ Lat w w' := by
  have HC : Hid (rn x.name x.rank y.name y.rank = if x.rank ≠ y.rank then decide (x.rank < y.rank) else Op.bytesLess x.name.toList y.name.toList) := Lib.hid rfl
  generalize rn x.name x.rank y.name y.rank = R at *
  obtain ⟨x1, x2, ⟨a1, a2, a3, a4, ⟨a5, a6, a7⟩, ⟨a8, a9, a10⟩, a11, a12, a13⟩, x3, x4, x5, x6, x7, x8, x9⟩ := x
  obtain ⟨y1, y2, ⟨b1, b2, b3, b4, ⟨b5, b6, b7⟩, ⟨b8, b9, b10⟩, b11, b12, b13⟩, y3, y4, y5, y6, y7, y8, y9⟩ := y
  simp only [lkC, whC, kC, vC, List.cons_append, List.nil_append] at *
  have hL := fun (a b : Obj) => (Lat.al w a).trans (Lat.al (w.alloc a) b)
  go_enter Tryz.func67, Tryz.ntmps67
  by_cases h1 : x2 = y2
  · subst h1
    go_wp2_with fail
    go_ret
    have e := HC.out
    rw [if_neg (by simp)] at e
    rw [e]
    exact ⟨rfl, hL _ _⟩
  · have h2 : (x2 != y2) = true := bne_iff_ne.2 h1
    go_wp2_with fail
    go_ret
    have e := HC.out
    rw [if_pos h1] at e
    rw [e]
    exact ⟨rfl, hL _ _⟩
theorem splice_all : ∀ (vs xs : List Value) (k : Nat), k + vs.length = xs.length → splice xs k vs = xs.take k ++ vs
  | [], xs, k, h => by rw [splice, List.append_nil, List.take_of_length_le (by simp at h; omega)]
  | v :: r, xs, k, h => by
    have hk : k < xs.length := by simp at h; omega
    rw [splice, splice_all r (xs.set k v) (k + 1) (by rw [List.length_set]; simp at h; omega), List.take_succ_eq_append_getElem (by rw [List.length_set]; exact hk), List.append_assoc]
    simp [List.take_set_of_le]
theorem splice_lk (x y : LkR) : lkC x = splice (lkC y) 0 (lkC x) := by
  rw [splice_all (lkC x) (lkC y) 0 rfl]; rfl
theorem set_at {α : Type} (P : List α) (a b : α) (S : List α) (n : Nat) (h : n = P.length) : (P ++ a :: S).set n b = P ++ b :: S := by
  subst h; simp
theorem get_at {α : Type} (P : List α) (a : α) (S : List α) (n : Nat) (h : n = P.length) (hn : n < (P ++ a :: S).length) : (P ++ a :: S)[n] = a := by
  subst h; simp
theorem insRev_pass {α : Type} (lt : α → α → Bool) (x : α) : ∀ (s r : List α), (∀ y ∈ s, lt x y = true) → insRev lt x (s ++ r) = s ++ insRev lt x r
  | [], r, _ => rfl
  | y :: s, r, h => by rw [List.cons_append, insRev, if_pos (h y (by simp)), insRev_pass lt x s r (fun z hz => h z (by simp [hz]))]; rfl
/-- On cells alone. -/
def strR (a b : LkR) : Bool := rn a.name a.rank b.name b.rank
def actR (acts : List ByteArray) (r : LkR) : Bool := acts.any (fun x => decide (x = r.name))
theorem strg_fst (ps : List (LkR × LLock)) (acts : List ByteArray) : (strg ps acts).map Prod.fst = stab strR ((ps.map Prod.fst).filter (actR acts)) := by
  unfold strg
  rw [stab_map strR strP Prod.fst (fun x y => rfl), List.filter_map]
  rfl
theorem strg_of_fst {ps : List (LkR × LLock)} {acts : List ByteArray} {w : World} {v : Value} {base : Nat} {w' : World} (h : EL.Own w' base (stab strR ((ps.map Prod.fst).filter (actR acts))) v) : EL.Own w' base ((strg ps acts).map Prod.fst) v := by rw [strg_fst]; exact h
theorem own_row {α : Type} {E : Elt α} {w : World} {base : Nat} {xs : List α} {g n c : Nat} (h : E.Own w base xs (.slice (some ⟨g, 0, none⟩) n c)) (i : Nat) (hi : i < xs.length) : RowAt w g (i * E.n) (E.f xs[i]) := by
  obtain ⟨b, off, hA, hb, hr⟩ := h.rd.row i hi
  injection hA with hA
  injection hA with e1 e2
  subst e1 e2
  rw [Nat.zero_add] at hr
  exact hr
set_option maxRecDepth 100000 in
set_option maxHeartbeats 4000000 in
theorem sorted_any (ps : List (LkR × LLock)) (A : Option Addr) (c : Nat) (acts : List ByteArray) (B : Option Addr) (m : Nat) (w : World) (hx : RdL w ps (.slice A ps.length c)) (hy : ES.Rd w acts (.slice B acts.length m)) (hl : ps.length < 40) (hbig : acts.length ≤ 1000000) :
    Calls Tryz.prog 43 #[.slice A ps.length c, .slice B acts.length m] w fun r w' => ∃ v, r = .returned v ∧ OwnL w' w.heap.size (strg ps acts) v ∧ Lat w w' := by
  have HSays : Hid (∀ p ∈ strg ps acts, p.1.Says w p.2) := Lib.hid (fun p hp => hx.2 p (strg_mem hp))
  have HSTR := fun (w' : World) (v : Value) (h : EL.Own w' w.heap.size (stab strR ((ps.map Prod.fst).filter (actR acts))) v) => strg_of_fst (w := w) h
  have HSTR := Lib.hid HSTR
  go_enter Tryz.func43, Tryz.ntmps43
  go_wp2_with fail
  go_loopw [5, 6] (fun v i wr => ∃ (j : Nat) (acc : List LkR), j ≤ ps.length ∧ i = .int .i64 j ∧ Hid (acc = (((ps.take j).map Prod.fst).filter (actR acts)).foldl (fun acc x => insRev strR x acc) []) ∧ acc.length ≤ j ∧ EL.Own wr w.heap.size acc.reverse v ∧ Lat w wr) (fun _ i _ => ps.length - (intOf i).toNat)
  case atStart => exact ⟨0, [], Nat.zero_le _, rfl, Lib.hid rfl, Nat.le_refl _, Elt.Own.nil _ _, Lat.refl _⟩
  case round =>
    obtain ⟨j, acc, hjl, rfl, HACC, hacl, hown, hLW⟩ := hrel
    by_cases hlt : j < ps.length
    · obtain ⟨b, off, hA, hb1, hr1, _⟩ := (hx.lat hLW).row j hlt
      subst hA
      have hFold : (((ps.take (j + 1)).map Prod.fst).filter (actR acts)).foldl (fun acc x => insRev strR x acc) [] = if actR acts ps[j].1 then insRev strR ps[j].1 acc else acc := by
        rw [List.take_succ_eq_append_getElem hlt, List.map_append, List.filter_append, List.foldl_append, ← HACC.out]
        by_cases q : actR acts ps[j].1 = true
        · rw [if_pos q]; simp [q]
        · rw [if_neg q]; simp [q]
      have hAc : actR acts ps[j].1 = acts.any (fun x => decide (x = ps[j].1.name)) := rfl
      rw [hAc] at hFold
      have HFold := Lib.hid hFold
      clear hFold hAc HACC
      generalize hX : ps[j].1 = X at *
      clear hX
      have cn := hr1 0 (.string X.name) rfl
      rw [Nat.add_zero] at cn
      have HC := Lib.hid (rindex_any acts B m X.name wr (hy.lat hLW) hbig)
      go_wp2_with fail
      refine HC.out.mono ?_
      rintro r w2 ⟨⟨z, rfl, hz⟩, hl2⟩
      have hLW2 := hLW.trans hl2
      have hown2 := hown.lat hl2
      have hr2 := hr1.below hl2 hb1
      have hza := hz.any
      clear HC hz hr1 cn
      cases hq : acts.any (fun x => decide (x = X.name))
      · have hz0 : z < 0 := by rw [hq] at hza; exact Int.not_le.1 (of_decide_eq_false hza)
        have HQ := Lib.hid hq
        clear hq hza hown hl2 hr2
        go_wp2_with fail
        go_roundw
        case rel => exact ⟨j + 1, acc, by omega, by go_num, Lib.hid (by rw [HFold.out, if_neg (by rw [HQ.out]; decide)]), by omega, hown2, hLW2⟩
        case measure => simp [intOf]; omega
      · have hz0 : ¬ (z < 0) := by rw [hq] at hza; exact Int.not_lt.2 (of_decide_eq_true hza)
        have HF : Hid ((((ps.take (j + 1)).map Prod.fst).filter (actR acts)).foldl (fun acc x => insRev strR x acc) [] = insRev strR X acc) := Lib.hid (by rw [HFold.out, if_pos hq])
        have HT := Lib.hid (fun k (hk : u5.ownBlock = some k) => (hown.lt k hk).1)
        clear hq hza hown HFold
        obtain ⟨a1, a2, ⟨b1, b2, b3, b4, ⟨b5, b6, b7⟩, ⟨b8, b9, b10⟩, b11, b12, b13⟩, a3, a4, a5, a6, a7, a8, a9⟩ := X
        simp only [lkC, whC, kC, vC, List.cons_append, List.nil_append] at hr2
        have hown3 := hown2.al (.cells #[.string a1, .int .i64 a2, .int .i64 b1, .int .i64 b2, .int .i64 b3, .string b4, .int .i64 b5, .int .i64 b6, .string b7, .int .i64 b8, .string b9, .string b10, .slice b11 b12 b13, .bool a3, .slice a4 a5 a6, .slice a7 a8 a9] 40)
        have hnew := Blk.new w2 40 #[.string a1, .int .i64 a2, .int .i64 b1, .int .i64 b2, .int .i64 b3, .string b4, .int .i64 b5, .int .i64 b6, .string b7, .int .i64 b8, .string b9, .string b10, .slice b11 b12 b13, .bool a3, .slice a4 a5 a6, .slice a7 a8 a9]
        have hL3 : Lat w (w2.alloc (.cells #[.string a1, .int .i64 a2, .int .i64 b1, .int .i64 b2, .int .i64 b3, .string b4, .int .i64 b5, .int .i64 b6, .string b7, .int .i64 b8, .string b9, .string b10, .slice b11 b12 b13, .bool a3, .slice a4 a5 a6, .slice a7 a8 a9] 40)) := hLW2.trans (Lat.al _ _)
        have hbse := hL3.size
        have hmax : acc.reverse.length + 1 ≤ maxLen := by rw [List.length_reverse]; unfold maxLen; omega
        have hby : (acc.reverse.length + 1) * EL.bytes ≤ 140737488355328 := Nat.le_trans (Nat.mul_le_mul_right EL.bytes (by rw [List.length_reverse]; omega : acc.reverse.length + 1 ≤ 1000000)) (by decide)
        have HL := Lib.hid hL3
        have hbl2 := Nat.lt_of_lt_of_le hb1 hl2.size
        clear hL3 hLW2 hown2 hl2
        go_wp2_with (first | (with_reducible refine wpList_load_at rfl 40 _ rfl b (off + j * 16) rfl _ _ hr2 Tryz.underlying40 rfl (by kernel_rfl) ?_) | (at_builtin; refine EL.append rfl _ _ rfl w.heap.size acc.reverse _ rfl hown3 w2.heap.size 1 (⟨a1, a2, ⟨b1, b2, b3, b4, ⟨b5, b6, b7⟩, ⟨b8, b9, b10⟩, b11, b12, b13⟩, a3, a4, a5, a6, a7, a8, a9⟩ : LkR) rfl 40 hnew hmax hby hbse ?_; intro v6 w6 hown6 hg6 hw6; go_must (have hLW7 : Lat w w6 := HL.out.grown hg6 hbse HT.out; obtain ⟨g, cap, hv6, hbg, hgl⟩ := hown6.form (by simp); subst hv6; clear hnew hg6 hw6 hr2 hown3)))
        have HLR := Lib.hid hLW7
        go_loopw [7] (fun kv wr => ∃ (s r : List LkR), kv = .int .i64 (r.length : Nat) ∧ Hid (acc = s ++ r ∧ ∀ y ∈ s, strR (⟨a1, a2, ⟨b1, b2, b3, b4, ⟨b5, b6, b7⟩, ⟨b8, b9, b10⟩, b11, b12, b13⟩, a3, a4, a5, a6, a7, a8, a9⟩ : LkR) y = true) ∧ s.length + r.length = acc.length ∧ EL.Own wr w.heap.size (r.reverse ++ (⟨a1, a2, ⟨b1, b2, b3, b4, ⟨b5, b6, b7⟩, ⟨b8, b9, b10⟩, b11, b12, b13⟩, a3, a4, a5, a6, a7, a8, a9⟩ : LkR) :: s.reverse) (.slice (some ⟨g, 0, none⟩) (acc.length + 1) cap) ∧ Lat w wr) (fun kv _ => (intOf kv).toNat)
        case atStart => exact ⟨[], acc, rfl, Lib.hid ⟨rfl, fun y hy => by simp at hy⟩, by simp, by simpa using hown6, hLW7⟩
        case round =>
          clear hown6 hLW7 HL HLR
          obtain ⟨s, r, rfl, HSR, hsr, hown7, hLW7⟩ := hrel
          cases r with
          | nil =>
            have HFIN : Hid (insRev strR (⟨a1, a2, ⟨b1, b2, b3, b4, ⟨b5, b6, b7⟩, ⟨b8, b9, b10⟩, b11, b12, b13⟩, a3, a4, a5, a6, a7, a8, a9⟩ : LkR) acc = s ++ [(⟨a1, a2, ⟨b1, b2, b3, b4, ⟨b5, b6, b7⟩, ⟨b8, b9, b10⟩, b11, b12, b13⟩, a3, a4, a5, a6, a7, a8, a9⟩ : LkR)]) := Lib.hid (by rw [HSR.out.1, insRev_pass strR (⟨a1, a2, ⟨b1, b2, b3, b4, ⟨b5, b6, b7⟩, ⟨b8, b9, b10⟩, b11, b12, b13⟩, a3, a4, a5, a6, a7, a8, a9⟩ : LkR) s [] HSR.out.2]; rfl)
            have hown8 : EL.Own wr w.heap.size (insRev strR (⟨a1, a2, ⟨b1, b2, b3, b4, ⟨b5, b6, b7⟩, ⟨b8, b9, b10⟩, b11, b12, b13⟩, a3, a4, a5, a6, a7, a8, a9⟩ : LkR) acc).reverse (.slice (some ⟨g, 0, none⟩) (acc.length + 1) cap) := by rw [HFIN.out]; simpa using hown7
            have hil : (insRev strR (⟨a1, a2, ⟨b1, b2, b3, b4, ⟨b5, b6, b7⟩, ⟨b8, b9, b10⟩, b11, b12, b13⟩, a3, a4, a5, a6, a7, a8, a9⟩ : LkR) acc).length ≤ j + 1 := by rw [insRev_len]; omega
            generalize insRev strR (⟨a1, a2, ⟨b1, b2, b3, b4, ⟨b5, b6, b7⟩, ⟨b8, b9, b10⟩, b11, b12, b13⟩, a3, a4, a5, a6, a7, a8, a9⟩ : LkR) acc = acc2 at *
            clear HFIN HSR hown7
            go_wp2_with fail
            refine wp_rely (by kernel_rfl) (by kernel_rfl) ?_
            apply RelyL.val
            · intro ν w' hL hF K hK'
              go_simp
              exact hK'.out _ _ rfl (Lat.refl _)
            simp only [Act.put, List.setIfInBounds_toArray, List.set_cons_zero, List.set_cons_succ, Nat.reduceAdd]
            apply RelyL.val
            · intro ν w' hL hF K hK'
              go_simp
              exact hK'.out _ _ rfl (Lat.refl _)
            simp only [Act.put, List.setIfInBounds_toArray, List.set_cons_zero, List.set_cons_succ, Nat.reduceAdd]
            apply RelyL.val
            · intro ν w' hL hF K hK'
              go_simp
              exact hK'.out _ _ rfl (Lat.refl _)
            simp only [Act.put, List.setIfInBounds_toArray, List.set_cons_zero, List.set_cons_succ, Nat.reduceAdd]
            apply RelyL.val
            · intro ν w' hL hF K hK'
              refine skip_op rfl ?_
              exact hK'.out _ _ rfl (Lat.refl _)
            simp only [Act.put, List.setIfInBounds_toArray, List.set_cons_zero, List.set_cons_succ, Nat.reduceAdd]
            apply RelyL.val
            · intro ν w' hL hF K hK'
              refine skip_op rfl ?_
              exact hK'.out _ _ rfl (Lat.refl _)
            simp only [Act.put, List.setIfInBounds_toArray, List.set_cons_zero, List.set_cons_succ, Nat.reduceAdd]
            apply RelyL.val
            · intro ν w' hL hF K hK'
              refine skip_op rfl ?_
              exact hK'.out _ _ rfl (Lat.refl _)
            simp only [Act.put, List.setIfInBounds_toArray, List.set_cons_zero, List.set_cons_succ, Nat.reduceAdd]
            apply RelyL.val
            · intro ν w' hL hF K hK'
              refine skip_op rfl ?_
              exact hK'.out _ _ rfl (Lat.refl _)
            simp only [Act.put, List.setIfInBounds_toArray, List.set_cons_zero, List.set_cons_succ, Nat.reduceAdd]
            apply RelyL.val
            · intro ν w' hL hF K hK'
              refine skip_op rfl ?_
              exact hK'.out _ _ rfl (Lat.refl _)
            simp only [Act.put, List.setIfInBounds_toArray, List.set_cons_zero, List.set_cons_succ, Nat.reduceAdd]
            apply RelyL.val
            · intro ν w' hL hF K hK'
              refine skip_op rfl ?_
              exact hK'.out _ _ rfl (Lat.refl _)
            simp only [Act.put, List.setIfInBounds_toArray, List.set_cons_zero, List.set_cons_succ, Nat.reduceAdd]
            apply RelyL.val
            · intro ν w' hL hF K hK'
              refine skip_op rfl ?_
              exact hK'.out _ _ rfl (Lat.refl _)
            simp only [Act.put, List.setIfInBounds_toArray, List.set_cons_zero, List.set_cons_succ, Nat.reduceAdd]
            apply RelyL.val
            · intro ν w' hL hF K hK'
              refine skip_op rfl ?_
              exact hK'.out _ _ rfl (Lat.refl _)
            simp only [Act.put, List.setIfInBounds_toArray, List.set_cons_zero, List.set_cons_succ, Nat.reduceAdd]
            apply RelyL.val
            · intro ν w' hL hF K hK'
              refine skip_op rfl ?_
              exact hK'.out _ _ rfl (Lat.refl _)
            simp only [Act.put, List.setIfInBounds_toArray, List.set_cons_zero, List.set_cons_succ, Nat.reduceAdd]
            apply RelyL.val
            · intro ν w' hL hF K hK'
              refine skip_op rfl ?_
              exact hK'.out _ _ rfl (Lat.refl _)
            simp only [Act.put, List.setIfInBounds_toArray, List.set_cons_zero, List.set_cons_succ, Nat.reduceAdd]
            apply RelyL.val
            · intro ν w' hL hF K hK'
              go_simp
              exact hK'.out _ _ rfl (Lat.refl _)
            simp only [Act.put, List.setIfInBounds_toArray, List.set_cons_zero, List.set_cons_succ, Nat.reduceAdd]
            refine RelyL.done fun ν w9 hL9 hF => ?_
            clear hF
            have hown9 := hown8.lat hL9
            have hLW9 := hLW7.trans hL9
            clear hown8 hLW7 hL9
            go_wp2_with fail
            go_roundw
            case rel => exact ⟨j + 1, acc2, by omega, by go_num, Lib.hid HF.out.symm, hil, hown9, hLW9⟩
            case measure => simp [intOf]; omega
          | cons y r =>
            have hshape : (y :: r).reverse ++ (⟨a1, a2, ⟨b1, b2, b3, b4, ⟨b5, b6, b7⟩, ⟨b8, b9, b10⟩, b11, b12, b13⟩, a3, a4, a5, a6, a7, a8, a9⟩ : LkR) :: s.reverse = r.reverse ++ y :: (⟨a1, a2, ⟨b1, b2, b3, b4, ⟨b5, b6, b7⟩, ⟨b8, b9, b10⟩, b11, b12, b13⟩, a3, a4, a5, a6, a7, a8, a9⟩ : LkR) :: s.reverse := by simp
            rw [hshape] at hown7
            clear hshape
            have hrl : r.length + 1 < (r.reverse ++ y :: (⟨a1, a2, ⟨b1, b2, b3, b4, ⟨b5, b6, b7⟩, ⟨b8, b9, b10⟩, b11, b12, b13⟩, a3, a4, a5, a6, a7, a8, a9⟩ : LkR) :: s.reverse).length := by simp
            have hrx0 := own_row hown7 (r.length + 1) hrl
            have hry0 := own_row hown7 r.length (by omega)
            have ex : (r.reverse ++ y :: (⟨a1, a2, ⟨b1, b2, b3, b4, ⟨b5, b6, b7⟩, ⟨b8, b9, b10⟩, b11, b12, b13⟩, a3, a4, a5, a6, a7, a8, a9⟩ : LkR) :: s.reverse)[r.length + 1] = (⟨a1, a2, ⟨b1, b2, b3, b4, ⟨b5, b6, b7⟩, ⟨b8, b9, b10⟩, b11, b12, b13⟩, a3, a4, a5, a6, a7, a8, a9⟩ : LkR) := by
              simp
            have ey : (r.reverse ++ y :: (⟨a1, a2, ⟨b1, b2, b3, b4, ⟨b5, b6, b7⟩, ⟨b8, b9, b10⟩, b11, b12, b13⟩, a3, a4, a5, a6, a7, a8, a9⟩ : LkR) :: s.reverse)[r.length] = y := get_at r.reverse y ((⟨a1, a2, ⟨b1, b2, b3, b4, ⟨b5, b6, b7⟩, ⟨b8, b9, b10⟩, b11, b12, b13⟩, a3, a4, a5, a6, a7, a8, a9⟩ : LkR) :: s.reverse) r.length (by simp) (by simp)
            rw [ex] at hrx0
            rw [ey] at hry0
            have hrx : RowAt wr g ((r.length + 1) * 16) [.string a1, .int .i64 a2, .int .i64 b1, .int .i64 b2, .int .i64 b3, .string b4, .int .i64 b5, .int .i64 b6, .string b7, .int .i64 b8, .string b9, .string b10, .slice b11 b12 b13, .bool a3, .slice a4 a5 a6, .slice a7 a8 a9] := hrx0
            have hry : RowAt wr g (r.length * 16) (lkC y) := hry0
            clear ex ey hrx0 hry0
            have hsr2 : s.length + (r.length + 1) = acc.length := by rw [List.length_cons] at hsr; exact hsr
            have f1 : (r.length : Int) < (acc.length : Int) := by omega
            have f2 : (0 : Int) ≤ (r.length : Int) + 1 := by omega
            have f3 : ((r.length : Int) + 1).toNat = r.length + 1 := by omega
            have f4 : IntKind.i64.wrap (r.length : Int) = (r.length : Int) := by rw [IntKind.wrap_i64]; omega
            have f5 : (r.length : Int) < (acc.length : Int) + 1 := by omega
            have hglr : g < wr.heap.size := (hown7.base_le).2
            have hST : ∀ w', Hid (Calls Tryz.prog 67 #[.agg #[.string a1, .int .i64 a2, .int .i64 b1, .int .i64 b2, .int .i64 b3, .string b4, .int .i64 b5, .int .i64 b6, .string b7, .int .i64 b8, .string b9, .string b10, .slice b11 b12 b13, .bool a3, .slice a4 a5 a6, .slice a7 a8 a9], .agg (lkC y).toArray] w' fun q w'' => q = .returned (.bool (strR (⟨a1, a2, ⟨b1, b2, b3, b4, ⟨b5, b6, b7⟩, ⟨b8, b9, b10⟩, b11, b12, b13⟩, a3, a4, a5, a6, a7, a8, a9⟩ : LkR) y)) ∧ Lat w' w'') := fun w' => Lib.hid (stronger_any (⟨a1, a2, ⟨b1, b2, b3, b4, ⟨b5, b6, b7⟩, ⟨b8, b9, b10⟩, b11, b12, b13⟩, a3, a4, a5, a6, a7, a8, a9⟩ : LkR) y w')
            have HLN : Hid (r.length + 1 < (r.reverse ++ y :: (⟨a1, a2, ⟨b1, b2, b3, b4, ⟨b5, b6, b7⟩, ⟨b8, b9, b10⟩, b11, b12, b13⟩, a3, a4, a5, a6, a7, a8, a9⟩ : LkR) :: s.reverse).length) := Lib.hid hrl
            cases hq : strR (⟨a1, a2, ⟨b1, b2, b3, b4, ⟨b5, b6, b7⟩, ⟨b8, b9, b10⟩, b11, b12, b13⟩, a3, a4, a5, a6, a7, a8, a9⟩ : LkR) y
            · rw [hq] at hST
              have HQ := Lib.hid hq
              have hacc2 : Hid (insRev strR (⟨a1, a2, ⟨b1, b2, b3, b4, ⟨b5, b6, b7⟩, ⟨b8, b9, b10⟩, b11, b12, b13⟩, a3, a4, a5, a6, a7, a8, a9⟩ : LkR) acc = s ++ (⟨a1, a2, ⟨b1, b2, b3, b4, ⟨b5, b6, b7⟩, ⟨b8, b9, b10⟩, b11, b12, b13⟩, a3, a4, a5, a6, a7, a8, a9⟩ : LkR) :: y :: r) := Lib.hid (by rw [HSR.out.1, insRev_pass strR (⟨a1, a2, ⟨b1, b2, b3, b4, ⟨b5, b6, b7⟩, ⟨b8, b9, b10⟩, b11, b12, b13⟩, a3, a4, a5, a6, a7, a8, a9⟩ : LkR) s (y :: r) HSR.out.2, insRev, if_neg (by rw [HQ.out]; decide)])
              have hown8 : EL.Own wr w.heap.size (insRev strR (⟨a1, a2, ⟨b1, b2, b3, b4, ⟨b5, b6, b7⟩, ⟨b8, b9, b10⟩, b11, b12, b13⟩, a3, a4, a5, a6, a7, a8, a9⟩ : LkR) acc).reverse (.slice (some ⟨g, 0, none⟩) (acc.length + 1) cap) := by rw [hacc2.out]; simpa using hown7
              have hil : (insRev strR (⟨a1, a2, ⟨b1, b2, b3, b4, ⟨b5, b6, b7⟩, ⟨b8, b9, b10⟩, b11, b12, b13⟩, a3, a4, a5, a6, a7, a8, a9⟩ : LkR) acc).length ≤ j + 1 := by rw [insRev_len]; omega
              generalize insRev strR (⟨a1, a2, ⟨b1, b2, b3, b4, ⟨b5, b6, b7⟩, ⟨b8, b9, b10⟩, b11, b12, b13⟩, a3, a4, a5, a6, a7, a8, a9⟩ : LkR) acc = acc2 at *
              clear hacc2 HSR hown7 hrl hq
              go_wp2_with fail
              refine wp_rely (by kernel_rfl) (by kernel_rfl) ?_
              apply RelyL.val
              · intro ν w' hL hF K hK'
                go_simp
                exact hK'.out _ _ rfl (Lat.refl _)
              simp only [Act.put, List.setIfInBounds_toArray, List.set_cons_zero, List.set_cons_succ, Nat.reduceAdd]
              apply RelyL.val
              · intro ν w' hL hF K hK'
                go_simp
                exact hK'.out _ _ rfl (Lat.refl _)
              simp only [Act.put, List.setIfInBounds_toArray, List.set_cons_zero, List.set_cons_succ, Nat.reduceAdd]
              apply RelyL.val
              · intro ν w' hL hF K hK'
                go_simp
                exact hK'.out _ _ rfl (Lat.refl _)
              simp only [Act.put, List.setIfInBounds_toArray, List.set_cons_zero, List.set_cons_succ, Nat.reduceAdd]
              apply RelyL.val
              · intro ν w' hL hF K hK'
                go_simp
                exact hK'.out _ _ rfl (Lat.refl _)
              simp only [Act.put, List.setIfInBounds_toArray, List.set_cons_zero, List.set_cons_succ, Nat.reduceAdd]
              apply RelyL.val
              · intro ν w' hL hF K hK'
                go_simp
                exact hK'.out _ _ rfl (Lat.refl _)
              simp only [Act.put, List.setIfInBounds_toArray, List.set_cons_zero, List.set_cons_succ, Nat.reduceAdd]
              apply RelyL.val
              · intro ν w' hL hF K hK'
                go_simp
                exact hK'.out _ _ rfl (Lat.refl _)
              simp only [Act.put, List.setIfInBounds_toArray, List.set_cons_zero, List.set_cons_succ, Nat.reduceAdd]
              apply RelyL.val
              · intro ν w' hL hF K hK'
                refine take_op rfl ?_
                refine wp_load_at 40 _ rfl g (((r.length + 1) * 16)) rfl _ _ (hrx.below hL hglr) Tryz.underlying40 rfl (by kernel_rfl) ?_
                exact hK'.out _ _ rfl (Lat.refl _)
              simp only [Act.put, List.setIfInBounds_toArray, List.set_cons_zero, List.set_cons_succ, Nat.reduceAdd]
              apply RelyL.val
              · intro ν w' hL hF K hK'
                go_simp
                exact hK'.out _ _ rfl (Lat.refl _)
              simp only [Act.put, List.setIfInBounds_toArray, List.set_cons_zero, List.set_cons_succ, Nat.reduceAdd]
              apply RelyL.val
              · intro ν w' hL hF K hK'
                go_simp
                exact hK'.out _ _ rfl (Lat.refl _)
              simp only [Act.put, List.setIfInBounds_toArray, List.set_cons_zero, List.set_cons_succ, Nat.reduceAdd]
              apply RelyL.val
              · intro ν w' hL hF K hK'
                go_simp
                exact hK'.out _ _ rfl (Lat.refl _)
              simp only [Act.put, List.setIfInBounds_toArray, List.set_cons_zero, List.set_cons_succ, Nat.reduceAdd]
              apply RelyL.val
              · intro ν w' hL hF K hK'
                go_simp
                exact hK'.out _ _ rfl (Lat.refl _)
              simp only [Act.put, List.setIfInBounds_toArray, List.set_cons_zero, List.set_cons_succ, Nat.reduceAdd]
              apply RelyL.val
              · intro ν w' hL hF K hK'
                refine take_op rfl ?_
                refine wp_load_at 40 _ rfl g ((r.length * 16)) rfl _ _ (hry.below hL hglr) Tryz.underlying40 rfl (by kernel_rfl) ?_
                exact hK'.out _ _ rfl (Lat.refl _)
              simp only [Act.put, List.setIfInBounds_toArray, List.set_cons_zero, List.set_cons_succ, Nat.reduceAdd]
              apply RelyL.val
              · intro ν w' hL hF K hK'
                have H := Lib.hid ((hST w').out)
                go_simp
                go_at_call 67
                refine H.out.mono ?_
                rintro r w'' ⟨rfl, hbp⟩
                exact hK'.out _ _ rfl hbp
              simp only [Act.put, List.setIfInBounds_toArray, List.set_cons_zero, List.set_cons_succ, Nat.reduceAdd]
              apply RelyL.val
              · intro ν w' hL hF K hK'
                go_simp
                exact hK'.out _ _ rfl (Lat.refl _)
              simp only [Act.put, List.setIfInBounds_toArray, List.set_cons_zero, List.set_cons_succ, Nat.reduceAdd]
              refine RelyL.done fun ν w9 hL9 hF => ?_
              clear hF hST
              have hown9 := hown8.lat hL9
              have hLW9 := hLW7.trans hL9
              clear hown8 hLW7 hL9 hrx hry
              go_wp2_with fail
              go_roundw
              case rel => exact ⟨j + 1, acc2, by omega, by go_num, Lib.hid HF.out.symm, hil, hown9, hLW9⟩
              case measure => simp [intOf]; omega
            · rw [hq] at hST
              have HQ := Lib.hid hq
              have HSR2 : Hid (acc = (s ++ [y]) ++ r ∧ ∀ z ∈ s ++ [y], strR (⟨a1, a2, ⟨b1, b2, b3, b4, ⟨b5, b6, b7⟩, ⟨b8, b9, b10⟩, b11, b12, b13⟩, a3, a4, a5, a6, a7, a8, a9⟩ : LkR) z = true) := Lib.hid ⟨by rw [HSR.out.1]; simp, fun z hz => by
                rcases List.mem_append.1 hz with hz | hz
                · exact HSR.out.2 z hz
                · rw [List.mem_singleton.1 hz]; exact HQ.out⟩
              clear HSR hrl hq
              go_wp2_with fail
              refine wp_rely (by kernel_rfl) (by kernel_rfl) ?_
              apply RelyL.val
              · intro ν w' hL hF K hK'
                go_simp
                exact hK'.out _ _ rfl (Lat.refl _)
              simp only [Act.put, List.setIfInBounds_toArray, List.set_cons_zero, List.set_cons_succ, Nat.reduceAdd]
              apply RelyL.val
              · intro ν w' hL hF K hK'
                go_simp
                exact hK'.out _ _ rfl (Lat.refl _)
              simp only [Act.put, List.setIfInBounds_toArray, List.set_cons_zero, List.set_cons_succ, Nat.reduceAdd]
              apply RelyL.val
              · intro ν w' hL hF K hK'
                go_simp
                exact hK'.out _ _ rfl (Lat.refl _)
              simp only [Act.put, List.setIfInBounds_toArray, List.set_cons_zero, List.set_cons_succ, Nat.reduceAdd]
              apply RelyL.val
              · intro ν w' hL hF K hK'
                go_simp
                exact hK'.out _ _ rfl (Lat.refl _)
              simp only [Act.put, List.setIfInBounds_toArray, List.set_cons_zero, List.set_cons_succ, Nat.reduceAdd]
              apply RelyL.val
              · intro ν w' hL hF K hK'
                go_simp
                exact hK'.out _ _ rfl (Lat.refl _)
              simp only [Act.put, List.setIfInBounds_toArray, List.set_cons_zero, List.set_cons_succ, Nat.reduceAdd]
              apply RelyL.val
              · intro ν w' hL hF K hK'
                go_simp
                exact hK'.out _ _ rfl (Lat.refl _)
              simp only [Act.put, List.setIfInBounds_toArray, List.set_cons_zero, List.set_cons_succ, Nat.reduceAdd]
              apply RelyL.val
              · intro ν w' hL hF K hK'
                refine take_op rfl ?_
                refine wp_load_at 40 _ rfl g (((r.length + 1) * 16)) rfl _ _ (hrx.below hL hglr) Tryz.underlying40 rfl (by kernel_rfl) ?_
                exact hK'.out _ _ rfl (Lat.refl _)
              simp only [Act.put, List.setIfInBounds_toArray, List.set_cons_zero, List.set_cons_succ, Nat.reduceAdd]
              apply RelyL.val
              · intro ν w' hL hF K hK'
                go_simp
                exact hK'.out _ _ rfl (Lat.refl _)
              simp only [Act.put, List.setIfInBounds_toArray, List.set_cons_zero, List.set_cons_succ, Nat.reduceAdd]
              apply RelyL.val
              · intro ν w' hL hF K hK'
                go_simp
                exact hK'.out _ _ rfl (Lat.refl _)
              simp only [Act.put, List.setIfInBounds_toArray, List.set_cons_zero, List.set_cons_succ, Nat.reduceAdd]
              apply RelyL.val
              · intro ν w' hL hF K hK'
                go_simp
                exact hK'.out _ _ rfl (Lat.refl _)
              simp only [Act.put, List.setIfInBounds_toArray, List.set_cons_zero, List.set_cons_succ, Nat.reduceAdd]
              apply RelyL.val
              · intro ν w' hL hF K hK'
                go_simp
                exact hK'.out _ _ rfl (Lat.refl _)
              simp only [Act.put, List.setIfInBounds_toArray, List.set_cons_zero, List.set_cons_succ, Nat.reduceAdd]
              apply RelyL.val
              · intro ν w' hL hF K hK'
                refine take_op rfl ?_
                refine wp_load_at 40 _ rfl g ((r.length * 16)) rfl _ _ (hry.below hL hglr) Tryz.underlying40 rfl (by kernel_rfl) ?_
                exact hK'.out _ _ rfl (Lat.refl _)
              simp only [Act.put, List.setIfInBounds_toArray, List.set_cons_zero, List.set_cons_succ, Nat.reduceAdd]
              apply RelyL.val
              · intro ν w' hL hF K hK'
                have H := Lib.hid ((hST w').out)
                go_simp
                go_at_call 67
                refine H.out.mono ?_
                rintro r w'' ⟨rfl, hbp⟩
                exact hK'.out _ _ rfl hbp
              simp only [Act.put, List.setIfInBounds_toArray, List.set_cons_zero, List.set_cons_succ, Nat.reduceAdd]
              apply RelyL.val
              · intro ν w' hL hF K hK'
                go_simp
                exact hK'.out _ _ rfl (Lat.refl _)
              simp only [Act.put, List.setIfInBounds_toArray, List.set_cons_zero, List.set_cons_succ, Nat.reduceAdd]
              refine RelyL.done fun ν w9 hL9 hF => ?_
              clear hF hST
              have hown9 := hown7.lat hL9
              have hLW9 := hLW7.trans hL9
              have hrx9 := hrx.below hL9 hglr
              have hry9 := hry.below hL9 hglr
              have hgl9 := (hown9.base_le).2
              clear hown7 hLW7 hL9 hrx hry
              have hown10 := hown9.al (.cells #[.string a1, .int .i64 a2, .int .i64 b1, .int .i64 b2, .int .i64 b3, .string b4, .int .i64 b5, .int .i64 b6, .string b7, .int .i64 b8, .string b9, .string b10, .slice b11 b12 b13, .bool a3, .slice a4 a5 a6, .slice a7 a8 a9] 40)
              have hLW10 : Lat w (w9.alloc (.cells #[.string a1, .int .i64 a2, .int .i64 b1, .int .i64 b2, .int .i64 b3, .string b4, .int .i64 b5, .int .i64 b6, .string b7, .int .i64 b8, .string b9, .string b10, .slice b11 b12 b13, .bool a3, .slice a4 a5 a6, .slice a7 a8 a9] 40)) := hLW9.trans (Lat.al _ _)
              have hry10 := hry9.below (Lat.al w9 (.cells #[.string a1, .int .i64 a2, .int .i64 b1, .int .i64 b2, .int .i64 b3, .string b4, .int .i64 b5, .int .i64 b6, .string b7, .int .i64 b8, .string b9, .string b10, .slice b11 b12 b13, .bool a3, .slice a4 a5 a6, .slice a7 a8 a9] 40)) hgl9
              have hbx10 := Blk.new w9 40 #[.string a1, .int .i64 a2, .int .i64 b1, .int .i64 b2, .int .i64 b3, .string b4, .int .i64 b5, .int .i64 b6, .string b7, .int .i64 b8, .string b9, .string b10, .slice b11 b12 b13, .bool a3, .slice a4 a5 a6, .slice a7 a8 a9]
              have HIW : Hid ((Tryz.prog.info? 40).map (·.size) = some 16) := Lib.hid (by kernel_rfl)
              have HLN2 : Hid (r.length < ((r.reverse ++ y :: (⟨a1, a2, ⟨b1, b2, b3, b4, ⟨b5, b6, b7⟩, ⟨b8, b9, b10⟩, b11, b12, b13⟩, a3, a4, a5, a6, a7, a8, a9⟩ : LkR) :: s.reverse).set (r.length + 1) y).length) := Lib.hid (by have := HLN.out; rw [List.length_set]; omega)
              have HZ1 := Lib.hid (fun (a : LkR) => splice_lk y a)
              have HZ2 := Lib.hid (fun (a : LkR) => splice_lk (⟨a1, a2, ⟨b1, b2, b3, b4, ⟨b5, b6, b7⟩, ⟨b8, b9, b10⟩, b11, b12, b13⟩, a3, a4, a5, a6, a7, a8, a9⟩ : LkR) a)
              have HNE : Hid (w9.heap.size ≠ g) := Lib.hid (by omega)
              have HBX := Lib.hid hbx10
              have HG9 := Lib.hid hgl9
              have HL10 := Lib.hid hLW10
              clear hbx10 hown9 hry9 hLW9 hLW10
              go_wp2_with (first
                | (with_reducible refine wpList_load_at rfl 40 _ rfl g ((r.length + 1) * 16) rfl _ _ hrx9 Tryz.underlying40 rfl (by kernel_rfl) ?_)
                | (with_reducible refine wpList_load_at rfl 40 _ rfl g (r.length * 16) rfl _ _ hry10 Tryz.underlying40 rfl (by kernel_rfl) ?_)
                | (with_reducible refine wpList_load_at rfl 40 _ rfl w9.heap.size 0 rfl _ _ hbx11 Tryz.underlying40 rfl (by kernel_rfl) ?_)
                | (refine EL.put rfl 40 _ _ rfl w.heap.size (r.reverse ++ y :: (⟨a1, a2, ⟨b1, b2, b3, b4, ⟨b5, b6, b7⟩, ⟨b8, b9, b10⟩, b11, b12, b13⟩, a3, a4, a5, a6, a7, a8, a9⟩ : LkR) :: s.reverse) g (acc.length + 1) cap hown10 (r.length + 1) 0 HLN.out ((r.length + 1) * 16) rfl rfl (.agg (lkC y).toArray) rfl HIW.out (EL.one y) (by show 0 + 16 ≤ 16; decide) y (HZ1.out _) ?_; intro w11 hown11 ho11 hb11; go_must (have hbx11 : RowAt w11 w9.heap.size 0 [.string a1, .int .i64 a2, .int .i64 b1, .int .i64 b2, .int .i64 b3, .string b4, .int .i64 b5, .int .i64 b6, .string b7, .int .i64 b8, .string b9, .string b10, .slice b11 b12 b13, .bool a3, .slice a4 a5 a6, .slice a7 a8 a9] := (show Blk w11 w9.heap.size 40 #[.string a1, .int .i64 a2, .int .i64 b1, .int .i64 b2, .int .i64 b3, .string b4, .int .i64 b5, .int .i64 b6, .string b7, .int .i64 b8, .string b9, .string b10, .slice b11 b12 b13, .bool a3, .slice a4 a5 a6, .slice a7 a8 a9] from (ho11.block _ HBX.out.lt HNE.out).trans HBX.out).row; have hLW11 : Lat w w11 := Below.trans HL10.out hb11; clear hown10 hry10 hrx9 ho11 hb11))
                | (refine EL.put rfl 40 _ _ rfl w.heap.size ((r.reverse ++ y :: (⟨a1, a2, ⟨b1, b2, b3, b4, ⟨b5, b6, b7⟩, ⟨b8, b9, b10⟩, b11, b12, b13⟩, a3, a4, a5, a6, a7, a8, a9⟩ : LkR) :: s.reverse).set (r.length + 1) y) g (acc.length + 1) cap hown11 r.length 0 HLN2.out (r.length * 16) rfl rfl (.agg #[.string a1, .int .i64 a2, .int .i64 b1, .int .i64 b2, .int .i64 b3, .string b4, .int .i64 b5, .int .i64 b6, .string b7, .int .i64 b8, .string b9, .string b10, .slice b11 b12 b13, .bool a3, .slice a4 a5 a6, .slice a7 a8 a9]) rfl HIW.out (EL.one (⟨a1, a2, ⟨b1, b2, b3, b4, ⟨b5, b6, b7⟩, ⟨b8, b9, b10⟩, b11, b12, b13⟩, a3, a4, a5, a6, a7, a8, a9⟩ : LkR)) (by show 0 + 16 ≤ 16; decide) (⟨a1, a2, ⟨b1, b2, b3, b4, ⟨b5, b6, b7⟩, ⟨b8, b9, b10⟩, b11, b12, b13⟩, a3, a4, a5, a6, a7, a8, a9⟩ : LkR) (HZ2.out _) ?_; intro w12 hown12 ho12 hb12; go_must (have hLW12 : Lat w w12 := Below.trans hLW11 hb12; clear hown11 hLW11 hbx11 ho12 hb12)))
              have hset : ((r.reverse ++ y :: (⟨a1, a2, ⟨b1, b2, b3, b4, ⟨b5, b6, b7⟩, ⟨b8, b9, b10⟩, b11, b12, b13⟩, a3, a4, a5, a6, a7, a8, a9⟩ : LkR) :: s.reverse).set (r.length + 1) y).set r.length (⟨a1, a2, ⟨b1, b2, b3, b4, ⟨b5, b6, b7⟩, ⟨b8, b9, b10⟩, b11, b12, b13⟩, a3, a4, a5, a6, a7, a8, a9⟩ : LkR) = r.reverse ++ (⟨a1, a2, ⟨b1, b2, b3, b4, ⟨b5, b6, b7⟩, ⟨b8, b9, b10⟩, b11, b12, b13⟩, a3, a4, a5, a6, a7, a8, a9⟩ : LkR) :: (s ++ [y]).reverse := by
                have e1 := set_at (r.reverse ++ [y]) (⟨a1, a2, ⟨b1, b2, b3, b4, ⟨b5, b6, b7⟩, ⟨b8, b9, b10⟩, b11, b12, b13⟩, a3, a4, a5, a6, a7, a8, a9⟩ : LkR) y s.reverse (r.length + 1) (by simp)
                rw [List.append_assoc, List.append_assoc] at e1
                have e2 := set_at r.reverse y (⟨a1, a2, ⟨b1, b2, b3, b4, ⟨b5, b6, b7⟩, ⟨b8, b9, b10⟩, b11, b12, b13⟩, a3, a4, a5, a6, a7, a8, a9⟩ : LkR) (y :: s.reverse) r.length (by simp)
                simp only [List.cons_append, List.nil_append] at e1
                rw [e1, e2]; simp
              rw [hset] at hown12
              clear hset
              go_roundw
              case rel => exact ⟨s ++ [y], r, by go_num, HSR2, by first | (simp; done) | (simp; omega), hown12, hLW12⟩
              case measure => (first | (simp [intOf]; done) | (simp [intOf]; omega))
    · have hj : j = ps.length := by omega
      subst hj
      have hAcc := HACC.out
      rw [List.take_length] at hAcc
      have hown2 : EL.Own wr w.heap.size (stab strR ((ps.map Prod.fst).filter (actR acts))) u5 := by unfold stab; rw [← hAcc]; exact hown
      have HO := Lib.hid (HSTR.out wr u5 hown2)
      clear HACC hAcc hown hown2 HSTR
      go_wp2_with fail
      go_ret
      exact ⟨_, rfl, ⟨HO.out, fun p hp => (HSays.out p hp).lat hLW⟩, hLW⟩
end Go.Proofs.YtmgalnbacenbbaaGreat
