/- Guard: Blocked, Allowed, Safe of both. -/
import Derived.Test.YtmgalnbacenbbaaGreatGRBlk
set_option linter.unusedSimpArgs false
set_option linter.unusedVariables false
namespace Go.Proofs.YtmgalnbacenbbaaGreat
open Go.RowKit

theorem few_strg {ps : List (LkR × LLock)} (acts : List ByteArray) (h : FewI ps) : FewI (strg ps acts) := fun p hp => h p (strg_mem hp)
/-- The name that blocks. -/
def blkAll (ps : List (LkR × LLock)) (acts : List ByteArray) (k : LKey) (v : LVal) : ByteArray := blkN k v ((strg ps acts).map Prod.snd)
set_option maxRecDepth 100000 in
set_option maxHeartbeats 2000000 in
theorem blocked_any (ps : List (LkR × LLock)) (A : Option Addr) (c : Nat) (acts : List ByteArray) (B : Option Addr) (m : Nat) (k : LKey) (v : LVal) (w : World) (hx : RdL w ps (.slice A ps.length c)) (hy : ES.Rd w acts (.slice B acts.length m)) (hl : ps.length < 40) (hbig : acts.length ≤ 1000000) (hfi : FewI ps) :
    Calls Tryz.prog 13 #[.slice A ps.length c, .slice B acts.length m, .agg (kC k).toArray, .agg (vC v).toArray] w fun r w' => r = .returned (.string (blkAll ps acts k v)) ∧ Lat w w' := by
  have hk0 := (Blk.alloc (Blk.new w 34 (kC k).toArray) (.cells (vC v).toArray 32)).row
  have hv0 := (Blk.at1 w (.cells (kC k).toArray 34) 32 (vC v).toArray).row
  have hgk := (Blk.alloc (Blk.new w 34 (kC k).toArray) (.cells (vC v).toArray 32)).lt
  have hgv := (Blk.at1 w (.cells (kC k).toArray 34) 32 (vC v).toArray).lt
  have hL0 : Lat w ((w.alloc (.cells (kC k).toArray 34)).alloc (.cells (vC v).toArray 32)) := (Lat.al _ _).trans (Lat.al _ _)
  have HB : ∀ (A1 : Option Addr) (c1 : Nat) (w' : World), RdL w' (strg ps acts) (.slice A1 (strg ps acts).length c1) → Hid (Calls Tryz.prog 18 #[.slice A1 (strg ps acts).length c1, .agg (kC k).toArray, .agg (vC v).toArray] w' fun r w'' => r = .returned (.string (blkAll ps acts k v)) ∧ Lat w' w'') := fun A1 c1 w' hr => Lib.hid (blocker_any (strg ps acts) A1 c1 k v w' hr (by have := strg_len ps acts; omega) (few_strg acts hfi))
  generalize blkAll ps acts k v = R at *
  go_enter Tryz.func13, Tryz.ntmps13
  go_wp2_with fail
  generalize ((w.alloc (.cells (kC k).toArray 34)).alloc (.cells (vC v).toArray 32)) = w1 at *
  generalize w.heap.size = g at *
  refine wp_rely (by kernel_rfl) (by kernel_rfl) ?_
  apply RelyL.val
  · intro ν w' hL hF K hK'
    go_simp
    exact hK'.out _ _ rfl (Lat.refl _)
  simp only [Act.put, List.setIfInBounds_toArray, List.set_cons_zero, List.set_cons_succ, Nat.reduceAdd]
  apply RelyL.val
  · intro ν w' hL hF K hK'
    go_simp
    exact hK'.out _ _ rfl (Lat.refl _)
  simp only [Act.put, List.setIfInBounds_toArray, List.set_cons_zero, List.set_cons_succ, Nat.reduceAdd]
  refine RelyL.law (fun u w => ∃ A1 c1, u = .slice A1 (strg ps acts).length c1 ∧ RdL w (strg ps acts) (.slice A1 (strg ps acts).length c1)) (fun u w1 w2 hl h => by obtain ⟨A1, c1, h1, h2⟩ := h; exact ⟨A1, c1, h1, h2.lat hl⟩) (fun ν w' hL hF K hK => ?_) ?_
  · have H := Lib.hid (strongest_any ps A c acts B m w' (hx.lat (hL0.trans hL)) (hy.lat (hL0.trans hL)) hl hbig)
    clear hF
    go_simp
    go_at_call 15
    refine H.out.mono ?_
    rintro r w'' ⟨u, rfl, hown, hl⟩
    have hrd := hown.rd
    obtain ⟨A1, c1, rfl⟩ := hrd.slice
    exact hK.out _ _ _ rfl ⟨_, _, rfl, hrd⟩ hl
  simp only [Act.put, List.setIfInBounds_toArray, List.set_cons_zero, List.set_cons_succ, Nat.reduceAdd]
  apply RelyL.val
  · intro ν w' hL hF K hK'
    refine take_op rfl ?_
    refine wp_load_at 34 _ rfl g (0) rfl _ _ (hk0.below hL hgk) Tryz.underlying34 rfl (by kernel_rfl) ?_
    exact hK'.out _ _ rfl (Lat.refl _)
  simp only [Act.put, List.setIfInBounds_toArray, List.set_cons_zero, List.set_cons_succ, Nat.reduceAdd]
  apply RelyL.val
  · intro ν w' hL hF K hK'
    refine take_op rfl ?_
    refine wp_load_at 32 _ rfl (g + 1) (0) rfl _ _ (hv0.below hL hgv) Tryz.underlying32 rfl (by kernel_rfl) ?_
    exact hK'.out _ _ rfl (Lat.refl _)
  simp only [Act.put, List.setIfInBounds_toArray, List.set_cons_zero, List.set_cons_succ, Nat.reduceAdd]
  apply RelyL.val
  · intro ν w' hL hF K hK'
    have h4 := hF.get 0 rfl (by kernel_rfl)
    dsimp only at h4
    generalize ν 2 = y2 at *
    obtain ⟨A1, c1, rfl, hr⟩ := h4
    have H := HB A1 c1 w' hr
    clear hF
    go_simp
    go_at_call 18
    refine H.out.mono ?_
    rintro r w'' ⟨rfl, hbp⟩
    exact hK'.out _ _ rfl hbp
  simp only [Act.put, List.setIfInBounds_toArray, List.set_cons_zero, List.set_cons_succ, Nat.reduceAdd]
  apply RelyL.val
  · intro ν w' hL hF K hK'
    go_simp
    exact hK'.out _ _ rfl (Lat.refl _)
  simp only [Act.put, List.setIfInBounds_toArray, List.set_cons_zero, List.set_cons_succ, Nat.reduceAdd]
  refine RelyL.done fun ν w4 hL hF => ?_
  clear hF
  generalize ν 2 = y2 at *
  have hLW := hL0.trans hL
  go_wp2_with fail
  go_ret
  exact ⟨rfl, hLW⟩
theorem size_nil {s : ByteArray} (h : s.size = 0) : s = ⟨#[]⟩ := by
  cases s with
  | mk d => congr 1; exact Array.eq_empty_of_size_eq_zero h
set_option maxRecDepth 100000 in
set_option maxHeartbeats 1000000 in
theorem allowed_any (ps : List (LkR × LLock)) (A : Option Addr) (c : Nat) (acts : List ByteArray) (B : Option Addr) (m : Nat) (k : LKey) (v : LVal) (w : World) (hx : RdL w ps (.slice A ps.length c)) (hy : ES.Rd w acts (.slice B acts.length m)) (hl : ps.length < 40) (hbig : acts.length ≤ 1000000) (hfi : FewI ps) :
    Calls Tryz.prog 14 #[.slice A ps.length c, .slice B acts.length m, .agg (kC k).toArray, .agg (vC v).toArray] w fun r w' => r = .returned (.bool (decide ((blkAll ps acts k v).size = 0))) ∧ Lat w w' := by
  have hk0 := (Blk.alloc (Blk.new w 34 (kC k).toArray) (.cells (vC v).toArray 32)).row
  have hv0 := (Blk.at1 w (.cells (kC k).toArray 34) 32 (vC v).toArray).row
  have hL0 : Lat w ((w.alloc (.cells (kC k).toArray 34)).alloc (.cells (vC v).toArray 32)) := (Lat.al _ _).trans (Lat.al _ _)
  have HB : Hid (Calls Tryz.prog 13 #[.slice A ps.length c, .slice B acts.length m, .agg (kC k).toArray, .agg (vC v).toArray] ((w.alloc (.cells (kC k).toArray 34)).alloc (.cells (vC v).toArray 32)) fun r w' => r = .returned (.string (blkAll ps acts k v)) ∧ Lat ((w.alloc (.cells (kC k).toArray 34)).alloc (.cells (vC v).toArray 32)) w') := Lib.hid (blocked_any ps A c acts B m k v _ (hx.lat hL0) (hy.lat hL0) hl hbig hfi)
  generalize blkAll ps acts k v = R at *
  go_enter Tryz.func14, Tryz.ntmps14
  go_wp2_with (first | (with_reducible refine wpList_load_at rfl 34 _ rfl w.heap.size 0 rfl _ _ hk0 Tryz.underlying34 rfl (by kernel_rfl) ?_) | (with_reducible refine wpList_load_at rfl 32 _ rfl (w.heap.size + 1) 0 rfl _ _ hv0 Tryz.underlying32 rfl (by kernel_rfl) ?_))
  refine HB.out.mono ?_
  rintro r w2 ⟨rfl, hl2⟩
  by_cases hz : R.size = 0
  · obtain rfl := size_nil hz
    go_wp2_with fail
    go_ret
    exact ⟨rfl, hL0.trans hl2⟩
  · have hs1 : ¬ R.toList = [] := fun h => hz ((toList_nil R).1 h)
    have hs2 : R.toList.isEmpty = false := by simpa using hs1
    have hd : decide (R.size = 0) = false := decide_eq_false hz
    have HD := Lib.hid hd
    have HS := Lib.hid hz
    clear hz hd
    go_wp2_with fail
    go_ret
    rw [HD.out]
    exact ⟨ret_bool (by simp [hs1, hs2]), hL0.trans hl2⟩
set_option maxRecDepth 100000 in
set_option maxHeartbeats 1000000 in
theorem rallowed_any (ps : List (LkR × LLock)) (A : Option Addr) (c : Nat) (acts : List ByteArray) (B : Option Addr) (m : Nat) (k : LKey) (v : LVal) (w : World) (hx : RdL w ps (.slice A ps.length c)) (hy : ES.Rd w acts (.slice B acts.length m)) (hl : ps.length < 40) (hbig : acts.length ≤ 1000000) (hfi : FewI ps) :
    Calls Tryz.prog 22 #[.slice A ps.length c, .slice B acts.length m, .agg (kC k).toArray, .agg (vC v).toArray] w fun r w' => r = .returned (.bool (decide ((blkAll ps acts k v).size = 0))) ∧ Lat w w' := by
  have hk0 := (Blk.alloc (Blk.new w 34 (kC k).toArray) (.cells (vC v).toArray 32)).row
  have hv0 := (Blk.at1 w (.cells (kC k).toArray 34) 32 (vC v).toArray).row
  have hL0 : Lat w ((w.alloc (.cells (kC k).toArray 34)).alloc (.cells (vC v).toArray 32)) := (Lat.al _ _).trans (Lat.al _ _)
  have HB : Hid (Calls Tryz.prog 47 #[.slice A ps.length c, .slice B acts.length m, .agg (kC k).toArray, .agg (vC v).toArray] ((w.alloc (.cells (kC k).toArray 34)).alloc (.cells (vC v).toArray 32)) fun r w' => r = .returned (.string (blkAll ps acts k v)) ∧ Lat ((w.alloc (.cells (kC k).toArray 34)).alloc (.cells (vC v).toArray 32)) w') := Lib.hid (rblocked_any ps A c acts B m k v _ (hx.lat hL0) (hy.lat hL0) hl hbig hfi)
  generalize blkAll ps acts k v = R at *
  go_enter Tryz.func22, Tryz.ntmps22
  go_wp2_with (first | (with_reducible refine wpList_load_at rfl 34 _ rfl w.heap.size 0 rfl _ _ hk0 Tryz.underlying34 rfl (by kernel_rfl) ?_) | (with_reducible refine wpList_load_at rfl 32 _ rfl (w.heap.size + 1) 0 rfl _ _ hv0 Tryz.underlying32 rfl (by kernel_rfl) ?_))
  refine HB.out.mono ?_
  rintro r w2 ⟨rfl, hl2⟩
  by_cases hz : R.size = 0
  · obtain rfl := size_nil hz
    go_wp2_with fail
    go_ret
    exact ⟨rfl, hL0.trans hl2⟩
  · have hs1 : ¬ R.toList = [] := fun h => hz ((toList_nil R).1 h)
    have hs2 : R.toList.isEmpty = false := by simpa using hs1
    have hd : decide (R.size = 0) = false := decide_eq_false hz
    have HD := Lib.hid hd
    have HS := Lib.hid hz
    clear hz hd
    go_wp2_with fail
    go_ret
    rw [HD.out]
    exact ⟨ret_bool (by simp [hs1, hs2]), hL0.trans hl2⟩
/-- Whether some item's value is blocked. -/
def badI (ps : List (LkR × LLock)) (acts : List ByteArray) (x : LItem) : Bool := decide ((blkAll ps acts x.key x.val).size ≠ 0)
end Go.Proofs.YtmgalnbacenbbaaGreat
