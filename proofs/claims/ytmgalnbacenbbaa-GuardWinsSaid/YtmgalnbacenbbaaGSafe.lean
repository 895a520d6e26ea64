/- Guard: Blocked, Allowed, Safe of both. -/
import Derived.Test.YtmgalnbacenbbaaGRBlk
set_option linter.unusedSimpArgs false
set_option linter.unusedVariables false
namespace Go.Proofs.Ytmgalnbacenbbaa
open Go.RowKit

theorem few_strg {ps : List (LkR × LLock)} (acts : List ByteArray) (h : FewI ps) : FewI (strg ps acts) := fun p hp => h p (strg_mem hp)
/-- The name that blocks. -/
def blkAll (ps : List (LkR × LLock)) (acts : List ByteArray) (k : LKey) (v : LVal) : ByteArray := blkN k v ((strg ps acts).map Prod.snd)
set_option maxRecDepth 100000 in
set_option maxHeartbeats 2000000 in
theorem blocked_any (ps : List (LkR × LLock)) (A : Option Addr) (c : Nat) (acts : List ByteArray) (B : Option Addr) (m : Nat) (k : LKey) (v : LVal) (w : World) (hx : RdL w ps (.slice A ps.length c)) (hy : ES.Rd w acts (.slice B acts.length m)) (hl : ps.length < 40) (hbig : acts.length ≤ 1000000) (hfi : FewI ps) :
    Calls Try.prog 18 #[.slice A ps.length c, .slice B acts.length m, .agg (kC k).toArray, .agg (vC v).toArray] w fun r w' => r = .returned (.string (blkAll ps acts k v)) ∧ Lat w w' := by
  have hk0 := (Blk.alloc (Blk.new w 33 (kC k).toArray) (.cells (vC v).toArray 35)).row
  have hv0 := (Blk.at1 w (.cells (kC k).toArray 33) 35 (vC v).toArray).row
  have hgk := (Blk.alloc (Blk.new w 33 (kC k).toArray) (.cells (vC v).toArray 35)).lt
  have hgv := (Blk.at1 w (.cells (kC k).toArray 33) 35 (vC v).toArray).lt
  have hL0 : Lat w ((w.alloc (.cells (kC k).toArray 33)).alloc (.cells (vC v).toArray 35)) := (Lat.al _ _).trans (Lat.al _ _)
  have HB : ∀ (A1 : Option Addr) (c1 : Nat) (w' : World), RdL w' (strg ps acts) (.slice A1 (strg ps acts).length c1) → Hid (Calls Try.prog 35 #[.slice A1 (strg ps acts).length c1, .agg (kC k).toArray, .agg (vC v).toArray] w' fun r w'' => r = .returned (.string (blkAll ps acts k v)) ∧ Lat w' w'') := fun A1 c1 w' hr => Lib.hid (blocker_any (strg ps acts) A1 c1 k v w' hr (by have := strg_len ps acts; omega) (few_strg acts hfi))
  generalize blkAll ps acts k v = R at *
  go_enter Try.func18, Try.ntmps18
  go_wp2_with fail
  generalize ((w.alloc (.cells (kC k).toArray 33)).alloc (.cells (vC v).toArray 35)) = w1 at *
  generalize w.heap.size = g at *
  refine wp_rely (by kernel_rfl) (by kernel_rfl) ?_
  apply RelyL.val
  · intro ν w' hL hF K hK'
    go_simp
    exact hK'.out _ _ rfl (Lat.refl _)
  simp only [Act.put, List.setIfInBounds_toArray, List.set_cons_zero, List.set_cons_succ, Nat.reduceAdd]
  apply RelyL.val
  · intro ν w' hL hF K hK'
    go_simp
    exact hK'.out _ _ rfl (Lat.refl _)
  simp only [Act.put, List.setIfInBounds_toArray, List.set_cons_zero, List.set_cons_succ, Nat.reduceAdd]
  refine RelyL.law (fun u w => ∃ A1 c1, u = .slice A1 (strg ps acts).length c1 ∧ RdL w (strg ps acts) (.slice A1 (strg ps acts).length c1)) (fun u w1 w2 hl h => by obtain ⟨A1, c1, h1, h2⟩ := h; exact ⟨A1, c1, h1, h2.lat hl⟩) (fun ν w' hL hF K hK => ?_) ?_
  · have H := Lib.hid (strongest_any ps A c acts B m w' (hx.lat (hL0.trans hL)) (hy.lat (hL0.trans hL)) hl hbig)
    clear hF
    go_simp
    go_at_call 27
    refine H.out.mono ?_
    rintro r w'' ⟨u, rfl, hown, hl⟩
    have hrd := hown.rd
    obtain ⟨A1, c1, rfl⟩ := hrd.slice
    exact hK.out _ _ _ rfl ⟨_, _, rfl, hrd⟩ hl
  simp only [Act.put, List.setIfInBounds_toArray, List.set_cons_zero, List.set_cons_succ, Nat.reduceAdd]
  apply RelyL.val
  · intro ν w' hL hF K hK'
    refine take_op rfl ?_
    refine wp_load_at 33 _ rfl g (0) rfl _ _ (hk0.below hL hgk) Try.underlying33 rfl (by kernel_rfl) ?_
    exact hK'.out _ _ rfl (Lat.refl _)
  simp only [Act.put, List.setIfInBounds_toArray, List.set_cons_zero, List.set_cons_succ, Nat.reduceAdd]
  apply RelyL.val
  · intro ν w' hL hF K hK'
    refine take_op rfl ?_
    refine wp_load_at 35 _ rfl (g + 1) (0) rfl _ _ (hv0.below hL hgv) Try.underlying35 rfl (by kernel_rfl) ?_
    exact hK'.out _ _ rfl (Lat.refl _)
  simp only [Act.put, List.setIfInBounds_toArray, List.set_cons_zero, List.set_cons_succ, Nat.reduceAdd]
  apply RelyL.val
  · intro ν w' hL hF K hK'
    have h4 := hF.get 0 rfl (by kernel_rfl)
    dsimp only at h4
    generalize ν 2 = y2 at *
    obtain ⟨A1, c1, rfl, hr⟩ := h4
    have H := HB A1 c1 w' hr
    clear hF
    go_simp
    go_at_call 35
    refine H.out.mono ?_
    rintro r w'' ⟨rfl, hbp⟩
    exact hK'.out _ _ rfl hbp
  simp only [Act.put, List.setIfInBounds_toArray, List.set_cons_zero, List.set_cons_succ, Nat.reduceAdd]
  apply RelyL.val
  · intro ν w' hL hF K hK'
    go_simp
    exact hK'.out _ _ rfl (Lat.refl _)
  simp only [Act.put, List.setIfInBounds_toArray, List.set_cons_zero, List.set_cons_succ, Nat.reduceAdd]
  refine RelyL.done fun ν w4 hL hF => ?_
  clear hF
  generalize ν 2 = y2 at *
  have hLW := hL0.trans hL
  go_wp2_with fail
  go_ret
  exact ⟨rfl, hLW⟩
theorem size_nil {s : ByteArray} (h : s.size = 0) : s = ⟨#[]⟩ := by
  cases s with
  | mk d => congr 1; exact Array.eq_empty_of_size_eq_zero h
set_option maxRecDepth 100000 in
set_option maxHeartbeats 1000000 in
theorem allowed_any (ps : List (LkR × LLock)) (A : Option Addr) (c : Nat) (acts : List ByteArray) (B : Option Addr) (m : Nat) (k : LKey) (v : LVal) (w : World) (hx : RdL w ps (.slice A ps.length c)) (hy : ES.Rd w acts (.slice B acts.length m)) (hl : ps.length < 40) (hbig : acts.length ≤ 1000000) (hfi : FewI ps) :
    Calls Try.prog 19 #[.slice A ps.length c, .slice B acts.length m, .agg (kC k).toArray, .agg (vC v).toArray] w fun r w' => r = .returned (.bool (decide ((blkAll ps acts k v).size = 0))) ∧ Lat w w' := by
  have hk0 := (Blk.alloc (Blk.new w 33 (kC k).toArray) (.cells (vC v).toArray 35)).row
  have hv0 := (Blk.at1 w (.cells (kC k).toArray 33) 35 (vC v).toArray).row
  have hL0 : Lat w ((w.alloc (.cells (kC k).toArray 33)).alloc (.cells (vC v).toArray 35)) := (Lat.al _ _).trans (Lat.al _ _)
  have HB : Hid (Calls Try.prog 18 #[.slice A ps.length c, .slice B acts.length m, .agg (kC k).toArray, .agg (vC v).toArray] ((w.alloc (.cells (kC k).toArray 33)).alloc (.cells (vC v).toArray 35)) fun r w' => r = .returned (.string (blkAll ps acts k v)) ∧ Lat ((w.alloc (.cells (kC k).toArray 33)).alloc (.cells (vC v).toArray 35)) w') := Lib.hid (blocked_any ps A c acts B m k v _ (hx.lat hL0) (hy.lat hL0) hl hbig hfi)
  generalize blkAll ps acts k v = R at *
  go_enter Try.func19, Try.ntmps19
  go_wp2_with (first | (with_reducible refine wpList_load_at rfl 33 _ rfl w.heap.size 0 rfl _ _ hk0 Try.underlying33 rfl (by kernel_rfl) ?_) | (with_reducible refine wpList_load_at rfl 35 _ rfl (w.heap.size + 1) 0 rfl _ _ hv0 Try.underlying35 rfl (by kernel_rfl) ?_))
  refine HB.out.mono ?_
  rintro r w2 ⟨rfl, hl2⟩
  by_cases hz : R.size = 0
  · obtain rfl := size_nil hz
    go_wp2_with fail
    go_ret
    exact ⟨rfl, hL0.trans hl2⟩
  · have hs1 : ¬ R.toList = [] := fun h => hz ((toList_nil R).1 h)
    have hs2 : R.toList.isEmpty = false := by simpa using hs1
    have hd : decide (R.size = 0) = false := decide_eq_false hz
    have HD := Lib.hid hd
    have HS := Lib.hid hz
    clear hz hd
    go_wp2_with fail
    go_ret
    rw [HD.out]
    exact ⟨ret_bool (by simp [hs1, hs2]), hL0.trans hl2⟩
set_option maxRecDepth 100000 in
set_option maxHeartbeats 1000000 in
theorem rallowed_any (ps : List (LkR × LLock)) (A : Option Addr) (c : Nat) (acts : List ByteArray) (B : Option Addr) (m : Nat) (k : LKey) (v : LVal) (w : World) (hx : RdL w ps (.slice A ps.length c)) (hy : ES.Rd w acts (.slice B acts.length m)) (hl : ps.length < 40) (hbig : acts.length ≤ 1000000) (hfi : FewI ps) :
    Calls Try.prog 39 #[.slice A ps.length c, .slice B acts.length m, .agg (kC k).toArray, .agg (vC v).toArray] w fun r w' => r = .returned (.bool (decide ((blkAll ps acts k v).size = 0))) ∧ Lat w w' := by
  have hk0 := (Blk.alloc (Blk.new w 33 (kC k).toArray) (.cells (vC v).toArray 35)).row
  have hv0 := (Blk.at1 w (.cells (kC k).toArray 33) 35 (vC v).toArray).row
  have hL0 : Lat w ((w.alloc (.cells (kC k).toArray 33)).alloc (.cells (vC v).toArray 35)) := (Lat.al _ _).trans (Lat.al _ _)
  have HB : Hid (Calls Try.prog 17 #[.slice A ps.length c, .slice B acts.length m, .agg (kC k).toArray, .agg (vC v).toArray] ((w.alloc (.cells (kC k).toArray 33)).alloc (.cells (vC v).toArray 35)) fun r w' => r = .returned (.string (blkAll ps acts k v)) ∧ Lat ((w.alloc (.cells (kC k).toArray 33)).alloc (.cells (vC v).toArray 35)) w') := Lib.hid (rblocked_any ps A c acts B m k v _ (hx.lat hL0) (hy.lat hL0) hl hbig hfi)
  generalize blkAll ps acts k v = R at *
  go_enter Try.func39, Try.ntmps39
  go_wp2_with (first | (with_reducible refine wpList_load_at rfl 33 _ rfl w.heap.size 0 rfl _ _ hk0 Try.underlying33 rfl (by kernel_rfl) ?_) | (with_reducible refine wpList_load_at rfl 35 _ rfl (w.heap.size + 1) 0 rfl _ _ hv0 Try.underlying35 rfl (by kernel_rfl) ?_))
  refine HB.out.mono ?_
  rintro r w2 ⟨rfl, hl2⟩
  by_cases hz : R.size = 0
  · obtain rfl := size_nil hz
    go_wp2_with fail
    go_ret
    exact ⟨rfl, hL0.trans hl2⟩
  · have hs1 : ¬ R.toList = [] := fun h => hz ((toList_nil R).1 h)
    have hs2 : R.toList.isEmpty = false := by simpa using hs1
    have hd : decide (R.size = 0) = false := decide_eq_false hz
    have HD := Lib.hid hd
    have HS := Lib.hid hz
    clear hz hd
    go_wp2_with fail
    go_ret
    rw [HD.out]
    exact ⟨ret_bool (by simp [hs1, hs2]), hL0.trans hl2⟩
/-- Whether some item's value is blocked. -/
def badI (ps : List (LkR × LLock)) (acts : List ByteArray) (x : LItem) : Bool := decide ((blkAll ps acts x.key x.val).size ≠ 0)
set_option maxRecDepth 100000 in
set_option maxHeartbeats 1000000 in
theorem closure_sf (ps : List (LkR × LLock)) (acts : List ByteArray) (x : LItem) (A : Option Addr) (c g : Nat) (w : World) (hx : RdL w (strg ps acts) (.slice A (strg ps acts).length c)) (hl : (strg ps acts).length ≤ 1000000) (hfi : FewI ps) (hb : Blk w g 22 #[.slice A (strg ps acts).length c]) :
    Calls Try.prog 38 #[.agg (iC x).toArray, .pointer (some ⟨g, 0, none⟩)] w fun r w' => r = .returned (.bool (badI ps acts x)) ∧ Lat w w' := by
  have hL0 : Lat w (w.alloc (.cells (iC x).toArray 49)) := Lat.al _ _
  have hrx : RowAt (w.alloc (.cells (iC x).toArray 49)) w.heap.size 0 (iC x) := (Blk.new w 49 (iC x).toArray).row
  have hrk := iC_key hrx
  have hrv : RowAt (w.alloc (.cells (iC x).toArray 49)) w.heap.size 3 (vC x.val) := iC_val hrx
  have hc := (hb.lat hL0).cell
  have HB : Hid (Calls Try.prog 35 #[.slice A (strg ps acts).length c, .agg (kC x.key).toArray, .agg (vC x.val).toArray] (w.alloc (.cells (iC x).toArray 49)) fun r w' => r = .returned (.string (blkAll ps acts x.key x.val)) ∧ Lat (w.alloc (.cells (iC x).toArray 49)) w') := Lib.hid (blocker_any (strg ps acts) A c x.key x.val _ (hx.lat hL0) hl (few_strg acts hfi))
  have HBAD : Hid (badI ps acts x = decide ((blkAll ps acts x.key x.val).size ≠ 0)) := Lib.hid rfl
  generalize blkAll ps acts x.key x.val = R at *
  generalize badI ps acts x = E at *
  clear hrx hb
  go_enter Try.func38, Try.ntmps38
  go_wp2_with (first | (with_reducible refine wpList_load_at rfl 33 _ rfl w.heap.size 0 rfl _ _ hrk Try.underlying33 rfl (by kernel_rfl) ?_) | (with_reducible refine wpList_load_at rfl 35 _ rfl w.heap.size 3 rfl _ _ hrv Try.underlying35 rfl (by kernel_rfl) ?_))
  refine HB.out.mono ?_
  rintro r w2 ⟨rfl, hl2⟩
  by_cases hz : R.size = 0
  · obtain rfl := size_nil hz
    have HE : Hid (E = false) := Lib.hid (HBAD.out.trans rfl)
    clear HBAD hz
    go_wp2_with fail
    go_ret
    rw [HE.out]
    exact ⟨rfl, hL0.trans hl2⟩
  · have hs1 : ¬ R.toList = [] := fun h => hz ((toList_nil R).1 h)
    have hs2 : R.toList.isEmpty = false := by simpa using hs1
    have HE : Hid (E = true) := Lib.hid (HBAD.out.trans (decide_eq_true hz))
    clear hz HBAD
    go_wp2_with fail
    go_ret
    rw [HE.out]
    exact ⟨ret_bool (by simp [hs1, hs2]), hL0.trans hl2⟩
theorem safe_any (ps : List (LkR × LLock)) (A : Option Addr) (c : Nat) (acts : List ByteArray) (B : Option Addr) (m : Nat) (its : List LItem) (C : Option Addr) (q : Nat) (w : World) (hx : RdL w ps (.slice A ps.length c)) (hy : ES.Rd w acts (.slice B acts.length m)) (hz : EI.Rd w its (.slice C its.length q)) (hl : ps.length < 40) (hbig : acts.length ≤ 1000000) (hib : its.length ≤ 1000000) (hfi : FewI ps) :
    Calls Try.prog 22 #[.slice A ps.length c, .slice B acts.length m, .slice C its.length q] w fun r w' => r = .returned (.bool (!(its.any (badI ps acts)))) ∧ Lat w w' := by
  have eg : ∀ args w, (callFunc 38 args).run Try.prog w = .ok (.enter 38 args) w := Go.Proofs.enters_of Try.func38 (by kernel_rfl) rfl
  have HS := Lib.hid (strongest_any ps A c acts B m w hx hy hl hbig)
  have HCF : ∀ (A1 : Option Addr) (c1 g1 : Nat) (w' : World), Lat w w' → RdL w' (strg ps acts) (.slice A1 (strg ps acts).length c1) → Blk w' g1 22 #[.slice A1 (strg ps acts).length c1] → Hid (Calls Try.prog 37 #[.slice C its.length q, .func (.func 38) #[] #[.pointer (some ⟨g1, 0, none⟩)]] w' fun r w'' => r = .returned (.bool (its.any (badI ps acts))) ∧ Lat w' w'') := fun A1 c1 g1 w' hl' hr hb => Lib.hid (containsFunc_any its C q 38 #[.pointer (some ⟨g1, 0, none⟩)] (badI ps acts) w' (hz.lat hl') hib eg (fun x w'' h => closure_sf ps acts x A1 c1 g1 w'' (hr.lat h) (by have := strg_len ps acts; omega) hfi (hb.lat h)))
  generalize its.any (badI ps acts) = Q at *
  clear eg hx hy hz
  go_enter Try.func22, Try.ntmps22
  go_wp2_with fail
  refine HS.out.mono ?_
  rintro r w2 ⟨u, rfl, hown, hl2⟩
  have hrd := hown.rd
  obtain ⟨A1, c1, rfl⟩ := hrd.slice
  have hL2 := hl2.trans (Lat.al w2 (.cells #[.slice A1 (strg ps acts).length c1] 22))
  have H := HCF A1 c1 w2.heap.size _ hL2 (hrd.lat (Lat.al _ _)) (Blk.new w2 22 #[.slice A1 (strg ps acts).length c1])
  clear HCF HS hown hrd
  go_wp2_with fail
  refine H.out.mono ?_
  rintro r w3 ⟨rfl, hl3⟩
  go_wp2_with fail
  go_ret
  exact ⟨rfl, hL2.trans hl3⟩
set_option maxRecDepth 100000 in
set_option maxHeartbeats 1000000 in
theorem rsafe_any (ps : List (LkR × LLock)) (A : Option Addr) (c : Nat) (acts : List ByteArray) (B : Option Addr) (m : Nat) (its : List LItem) (C : Option Addr) (q : Nat) (w : World) (hx : RdL w ps (.slice A ps.length c)) (hy : ES.Rd w acts (.slice B acts.length m)) (hz : EI.Rd w its (.slice C its.length q)) (hl : ps.length < 40) (hbig : acts.length ≤ 1000000) (hib : its.length ≤ 1000000) (hfi : FewI ps) :
    Calls Try.prog 23 #[.slice A ps.length c, .slice B acts.length m, .slice C its.length q] w fun r w' => r = .returned (.bool (!(its.any (badI ps acts)))) ∧ Lat w w' := by
  have H0 := Lib.hid (NoneTo.zero (badI ps acts) its)
  have HA := fun (k : LKey) (v : LVal) (w' : World) (hl' : Lat w w') => Lib.hid (rallowed_any ps A c acts B m k v w' (hx.lat hl') (hy.lat hl') hl hbig hfi)
  generalize hQ : its.any (badI ps acts) = Q at *
  have HQ := Lib.hid hQ
  clear hx hy hQ
  go_enter Try.func23, Try.ntmps23
  go_wp2_with fail
  go_loopw [7] (fun i wr => ∃ j : Nat, j ≤ its.length ∧ i = .int .i64 j ∧ Hid (NoneTo (badI ps acts) its j) ∧ Lat w wr) (fun i _ => its.length - (intOf i).toNat)
  case atStart => exact ⟨0, Nat.zero_le _, rfl, H0, Lat.refl _⟩
  case round =>
    clear H0
    obtain ⟨j, hjl, rfl, HN, hLW⟩ := hrel
    by_cases hlt : j < its.length
    · obtain ⟨b, off, hA, hbb, hr1'⟩ := (hz.lat hLW).row j hlt
      subst hA
      have hr1 : RowAt wr b (off + j * 7) (iC its[j]) := hr1'
      have hrk := iC_key hr1
      have hrv := iC_val hr1
      have HA2 := fun w' (hl' : Lat wr w') => HA its[j].key its[j].val w' (hLW.trans hl')
      have hbi : badI ps acts its[j] = !decide ((blkAll ps acts its[j].key its[j].val).size = 0) := by unfold badI; simp
      generalize decide ((blkAll ps acts its[j].key its[j].val).size = 0) = D at *
      have HBI := Lib.hid hbi
      clear hr1' hr1 hbi HA
      go_wp2_with fail
      refine wp_rely (by kernel_rfl) (by kernel_rfl) ?_
      apply RelyL.val
      · intro ν w' hL hF K hK'
        go_simp
        exact hK'.out _ _ rfl (Lat.refl _)
      simp only [Act.put, List.setIfInBounds_toArray, List.set_cons_zero, List.set_cons_succ, Nat.reduceAdd]
      apply RelyL.val
      · intro ν w' hL hF K hK'
        go_simp
        exact hK'.out _ _ rfl (Lat.refl _)
      simp only [Act.put, List.setIfInBounds_toArray, List.set_cons_zero, List.set_cons_succ, Nat.reduceAdd]
      apply RelyL.val
      · intro ν w' hL hF K hK'
        go_simp
        exact hK'.out _ _ rfl (Lat.refl _)
      simp only [Act.put, List.setIfInBounds_toArray, List.set_cons_zero, List.set_cons_succ, Nat.reduceAdd]
      apply RelyL.val
      · intro ν w' hL hF K hK'
        go_simp
        exact hK'.out _ _ rfl (Lat.refl _)
      simp only [Act.put, List.setIfInBounds_toArray, List.set_cons_zero, List.set_cons_succ, Nat.reduceAdd]
      apply RelyL.val
      · intro ν w' hL hF K hK'
        go_simp
        exact hK'.out _ _ rfl (Lat.refl _)
      simp only [Act.put, List.setIfInBounds_toArray, List.set_cons_zero, List.set_cons_succ, Nat.reduceAdd]
      apply RelyL.val
      · intro ν w' hL hF K hK'
        go_simp
        exact hK'.out _ _ rfl (Lat.refl _)
      simp only [Act.put, List.setIfInBounds_toArray, List.set_cons_zero, List.set_cons_succ, Nat.reduceAdd]
      apply RelyL.val
      · intro ν w' hL hF K hK'
        refine take_op rfl ?_
        refine wp_load_at 33 _ rfl b ((off + j * 7)) rfl _ _ (hrk.below hL hbb) Try.underlying33 rfl (by kernel_rfl) ?_
        exact hK'.out _ _ rfl (Lat.refl _)
      simp only [Act.put, List.setIfInBounds_toArray, List.set_cons_zero, List.set_cons_succ, Nat.reduceAdd]
      apply RelyL.val
      · intro ν w' hL hF K hK'
        go_simp
        exact hK'.out _ _ rfl (Lat.refl _)
      simp only [Act.put, List.setIfInBounds_toArray, List.set_cons_zero, List.set_cons_succ, Nat.reduceAdd]
      apply RelyL.val
      · intro ν w' hL hF K hK'
        go_simp
        exact hK'.out _ _ rfl (Lat.refl _)
      simp only [Act.put, List.setIfInBounds_toArray, List.set_cons_zero, List.set_cons_succ, Nat.reduceAdd]
      apply RelyL.val
      · intro ν w' hL hF K hK'
        go_simp
        exact hK'.out _ _ rfl (Lat.refl _)
      simp only [Act.put, List.setIfInBounds_toArray, List.set_cons_zero, List.set_cons_succ, Nat.reduceAdd]
      apply RelyL.val
      · intro ν w' hL hF K hK'
        go_simp
        exact hK'.out _ _ rfl (Lat.refl _)
      simp only [Act.put, List.setIfInBounds_toArray, List.set_cons_zero, List.set_cons_succ, Nat.reduceAdd]
      apply RelyL.val
      · intro ν w' hL hF K hK'
        refine take_op rfl ?_
        refine wp_load_at 35 _ rfl b ((off + j * 7 + 3)) rfl _ _ (hrv.below hL hbb) Try.underlying35 rfl (by kernel_rfl) ?_
        exact hK'.out _ _ rfl (Lat.refl _)
      simp only [Act.put, List.setIfInBounds_toArray, List.set_cons_zero, List.set_cons_succ, Nat.reduceAdd]
      apply RelyL.val
      · intro ν w' hL hF K hK'
        have H := Lib.hid ((HA2 w' hL).out)
        go_simp
        go_at_call 39
        refine H.out.mono ?_
        rintro r w'' ⟨rfl, hbp⟩
        exact hK'.out _ _ rfl hbp
      simp only [Act.put, List.setIfInBounds_toArray, List.set_cons_zero, List.set_cons_succ, Nat.reduceAdd]
      apply RelyL.val
      · intro ν w' hL hF K hK'
        go_simp
        exact hK'.out _ _ rfl (Lat.refl _)
      simp only [Act.put, List.setIfInBounds_toArray, List.set_cons_zero, List.set_cons_succ, Nat.reduceAdd]
      refine RelyL.done fun ν w6 hL6 hF => ?_
      clear hF HA2
      have hL7 := hLW.trans hL6
      cases D
      · have hfin : Q = true := by have := (HN.out.found hlt (by rw [HBI.out]; rfl)).any; rw [decide_eq_true (by omega)] at this; exact HQ.out.symm.trans this.symm
        subst hfin
        go_wp2_with fail
        go_ret
        exact ⟨rfl, hL7⟩
      · have HF := Lib.hid (HN.out.step hlt (by rw [HBI.out]; rfl))
        clear HN
        go_wp2_with fail
        go_roundw
        case rel => exact ⟨j + 1, by omega, by go_num, HF, hL7⟩
        case measure => simp [intOf]; omega
    · have hfin : Q = false := by have := (HN.out.none (by omega : its.length ≤ j)).any; rw [decide_eq_false (by omega)] at this; exact HQ.out.symm.trans this.symm
      subst hfin
      clear HN
      go_wp2_with fail
      go_ret
      exact ⟨rfl, hLW⟩
end Go.Proofs.Ytmgalnbacenbbaa
