/- slices.Insert of one key into a list of keys that the call itself fills. -/
import Derived.Test.YtnelgblmogciiaaKOps
import Derived.Laws.CopyRow
import Derived.Laws.NewBlocks
import Derived.Lib.AppendZerosOnto
import Derived.Lib.Overlaps
import Derived.Test.YtnelgblmogciiaaRelies
set_option linter.unusedSimpArgs false
set_option linter.unusedVariables false
namespace Go.Proofs.Ytnelgblmogciiaa
open Go.RowKit


/-- The operation 'copy', its run known. -/
theorem wp_copy_eq {P : Program} {o : Oper} {a : Act} {w : World} {K : Act → World → Prop} {Q : Exit → Act → World → Prop} (d s : Operand) (t t' : TypeId)
    (ho : o.op = .call { callee := .builtin .copy, args := #[d, s], argTypes := #[t, t'] }) (v u : Value) (hd : a.eval d = v) (hs : a.eval s = u) {v' : Value} {w' : World}
    (hr : (Builtin.copy_ #[t, t'] o.type #[v, u]).run P w = .ok v' w') (h : K (a.put o.dst v') w') : o.wp P a w K Q := by
  unfold Oper.wp execOp
  simp only [ho, resolve, invoke, builtin, Sem.run_bind, Sem.run_pure, Result.andThen_ok, List.map_toArray, List.map_cons, List.map_nil, hd, hs, hr]
  exact h

/-- A copy of elements of several cells: all is read ahead of the first store. -/
theorem run_copy_n {P : Program} (w : World) (dT sT ty elem : TypeId) (size g o dLen dCap : Nat) (a : Addr) (sLen sCap m : Nat) (cur : Array Value) (t : TypeId) (cs : List Value)
    (hu : P.underlying dT = some (.slice elem)) (hs : (P.info? elem).map (·.size) = some size)
    (hg : w.heap[g]? = some (.cells cur t (0, 0))) (hm : Nat.min sLen dLen = m) (hn : cs.length = m * size)
    (hsrc : ∀ j v, cs[j]? = some v → w.cell? (a.add j) = some v) (hfit : o + cs.length ≤ cur.size) (h1 : ∀ v ∈ cs, v.oneCell' = true) :
    (Builtin.copy_ #[dT, sT] ty #[.slice (some ⟨g, o, none⟩) dLen dCap, .slice (some a) sLen sCap]).run P w =
      .ok (goInt m) (w.setRow g (cur.toList.take o ++ cs ++ cur.toList.drop (o + cs.length)).toArray) := by
  have hl := run_loadCells_list (P := P) w a cs hsrc
  have hst := run_storeCells_at P g o t cs 0 cur w hg (by simpa using hfit) h1
  cases hq : P.info? elem with
  | none => simp [hq] at hs
  | some i =>
    have hi : i.size = size := by simpa [hq] using hs
    simp [Builtin.copy_, run_underlying hu, Builtin.lenOf, Builtin.firstCells, sizeOf, typeInfo, hq, hi, hm, ← hn, hl, hst]

theorem flat_take (ks : List LKey) (i : Nat) : (ks.map kcells).flatten.take (i * 3) = ((ks.take i).map kcells).flatten := by
  induction i generalizing ks with
  | zero => simp
  | succ i ih =>
    cases ks with
    | nil => simp
    | cons k ks =>
      simp only [List.map_cons, List.flatten_cons, List.take_succ_cons, ← ih ks]
      rw [show (i + 1) * 3 = (kcells k).length + i * 3 from by simp [kcells]; omega, List.take_length_add_append]
theorem flat_drop (ks : List LKey) (i : Nat) : (ks.map kcells).flatten.drop (i * 3) = ((ks.drop i).map kcells).flatten := by
  induction i generalizing ks with
  | zero => simp
  | succ i ih =>
    cases ks with
    | nil => simp
    | cons k ks =>
      simp only [List.map_cons, List.flatten_cons, List.drop_succ_cons, ← ih ks]
      rw [show (i + 1) * 3 = (kcells k).length + i * 3 from by simp [kcells]; omega, List.drop_length_add_append]
theorem flat_size (ks : List LKey) : (ks.map kcells).flatten.length = ks.length * 3 := by rw [flat_len _ (kcells_len ks)]; simp
theorem flat_one (ks : List LKey) : ∀ u ∈ (ks.map kcells).flatten, u.oneCell' = true := fun u hu => by
  obtain ⟨r, hr, hu⟩ := List.mem_flatten.1 hu
  obtain ⟨x, _, rfl⟩ := List.mem_map.1 hr
  exact kcells_one x u hu

set_option maxRecDepth 100000 in
set_option maxHeartbeats 1000000 in
/-- At the end. -/
theorem insert_end (w : World) (base : Nat) (ks : List LKey) (v : Value) (k : LKey) (g1 : Nat) (hown : OwnK w base ks v) (hb : Blk w g1 29 (kcells k).toArray) (hlen : (ks.length + 1) * 40 ≤ 140737488355328) (hbase : base ≤ w.heap.size) :
    Calls Try.prog 57 #[v, .int .i64 ks.length, .slice (some ⟨g1, 0, none⟩) 1 1] w fun r w' => ∃ v', r = .returned v' ∧ OwnK w' base (ks ++ [k]) v' ∧ w.grownBy w' v.ownBlock := by
  have hO := Lib.hid hown
  rcases hown with ⟨hl, ⟨rfl, h0⟩ | ⟨g, cap, cur, rfl, hbg, hg, hnc, hcm, hcs, htake⟩⟩
  · have h0' : ks = [] := List.eq_nil_of_length_eq_zero h0
    subst h0'
    go_enter Try.func57, Try.ntmps57
    go_wp2_with (at_builtin; refine append_key rfl _ _ rfl base [] _ rfl hO.out g1 1 k rfl 29 hb (by simp) hbase ?_; intro v3 w3 hown3 hg3)
    go_ret
    exact ⟨_, rfl, hown3, hg3⟩
  · simp only [maxLen] at hcm
    have hn1 : (ks.length : Int) ≤ cap := by omega
    go_enter Try.func57, Try.ntmps57
    go_wp2_with (at_builtin; refine append_key rfl _ _ rfl base ks _ rfl hO.out g1 1 k rfl 29 hb (by omega) hbase ?_; intro v3 w3 hown3 hg3)
    all_goals go_ret
    all_goals exact ⟨_, rfl, hown3, hg3⟩

set_option maxRecDepth 100000 in
set_option maxHeartbeats 4000000 in
/-- Ahead of another one, no room: a new row. -/
theorem insert_grow (w : World) (base : Nat) (ks : List LKey) (k : LKey) (g1 g cap i : Nat) (cur : Array Value) (hi : i < ks.length) (hb : Blk w g1 29 (kcells k).toArray)
    (hbg : base ≤ g) (hg : w.heap[g]? = some (.cells cur 29 (0, 0))) (hnc : ks.length ≤ cap) (hcm : cap ≤ maxLen) (hcs : cur.size = cap * 3) (htake : cur.toList.take (ks.length * 3) = (ks.map kcells).flatten)
    (hfull : cap < ks.length + 1) (hlen : (ks.length + 1) * 40 ≤ 140737488355328) (hbase : base ≤ w.heap.size) :
    Calls Try.prog 57 #[.slice (some ⟨g, 0, none⟩) ks.length cap, .int .i64 i, .slice (some ⟨g1, 0, none⟩) 1 1] w fun r w' => ∃ v', r = .returned v' ∧ OwnK w' base (ks.take i ++ k :: ks.drop i) v' ∧ w.grownBy w' (some g) := by
  obtain ⟨i0, hi0, hz0, hzs, hzb⟩ := info_parts infoKey'
  have hsz : (Try.prog.info? 29).map (·.size) = some 3 := by kernel_rfl
  generalize hn : ks.length = n at *
  simp only [maxLen] at hcm
  have hgl : g < w.heap.size := (Array.getElem?_eq_some_iff.1 hg).1
  have hg1l : g1 < w.heap.size := hb.lt
  have hcell : ∀ j u, (ks.map kcells).flatten[j]? = some u → w.cell? ⟨g, j, none⟩ = some u := fun j u hj => by
    rw [← htake, List.getElem?_take] at hj
    split at hj
    · rw [cell_of_row w g j cur 29 (0, 0) hg, ← Array.getElem?_toList]; exact hj
    · cases hj
  have hold : (Builtin.firstCells i0.size i (.slice (some ⟨g, 0, none⟩) i cap)).run Try.prog w.drew = .ok ((ks.take i).map kcells).flatten.toArray w.drew := by
    rw [hzs]
    exact run_firstCells_some w.drew 3 i ⟨g, 0, none⟩ i cap _ (by rw [flat_size, List.length_take]; omega) (fun j u hj => by
      rw [Addr.add_lit, Nat.zero_add]
      rw [← flat_take, List.getElem?_take] at hj
      split at hj
      · exact hcell j u hj
      · cases hj)
  have hkk : (n : Int) + 1 - (i : Int) = ((n + 1 - i : Nat) : Int) := by omega
  have hik : i + (n + 1 - i) = n + 1 := by omega
  obtain ⟨G, hG⟩ : ∃ G, G = grownCap w (n + 1) cap 29 := ⟨_, rfl⟩
  have hGn : n + 1 ≤ G := by rw [hG]; exact grownCap_ge w _ _ _
  have hG63 : G ≤ 9223372036854775807 := by
    have := grownCap_le_maxLen w (n + 1) cap 29 (by unfold maxLen; omega)
    rw [← hG] at this
    unfold maxLen at this
    omega
  obtain ⟨ROW, hROW⟩ : ∃ ROW : Array Value, ROW = ((ks.take i).map kcells).flatten.toArray ++ Builtin.zeroCells (Value.agg #[.int .i64 0, .string { data := #[] }, .string { data := #[] }]).cells (n + 1 - i) ++ Builtin.zeroCells (Value.agg #[.int .i64 0, .string { data := #[] }, .string { data := #[] }]).cells (G - (n + 1)) := ⟨_, rfl⟩
  have hrz : ∀ ty, (Builtin.append_ #[48, 3] ty #[.slice (some ⟨g, 0, none⟩) i cap, .int .i64 ((n + 1 - i : Nat) : Int)]).run Try.prog w =
      .ok (.slice (some ⟨w.heap.size, 0, none⟩) (n + 1) G) (w.drew.alloc (.cells ROW 29)) := fun ty => by
    have h := Lib.run_append_grow_zeros w 48 3 ty 29 i0 _ .i64 .i64 Try.underlying48 Try.underlying3 hi0 hz0 (some ⟨g, 0, none⟩) i cap _ hold (n + 1 - i) (by omega) (by omega) (by omega) (by omega) (by rw [hzb]; omega) (by rw [hzb, hik]; exact growslice_fits hfull hlen)
    rw [hik] at h
    rw [hROW, hG]
    exact h
  have hRl : ROW.size = G * 3 := by
    rw [hROW]
    simp only [Array.size_append, List.size_toArray, flat_size, List.length_take]
    simp [Builtin.zeroCells, Value.cells]
    omega
  have hdl : ((ks.drop i).map kcells).flatten.length = (n - i) * 3 := by rw [flat_size, List.length_drop, hn]
  have htl : ((ks.take i).map kcells).flatten.length = i * 3 := by rw [flat_size, List.length_take, hn]; congr 1; omega
  have hfin : ∀ Z : List Value, Z.length = (G - (n + 1)) * 3 → ∀ Z1 : List Value, Z1.length = (n + 1 - i) * 3 → ∀ R : Array Value, R.toList = ((ks.take i).map kcells).flatten ++ Z1 ++ Z → True := fun _ _ _ _ _ _ => trivial
  clear hfin
  obtain ⟨ROW2, hROW2⟩ : ∃ R : Array Value, R = (ROW.toList.take (i * 3) ++ kcells k ++ ROW.toList.drop (i * 3 + (kcells k).length)).toArray := ⟨_, rfl⟩
  have hR2l : ROW2.size = G * 3 := by
    rw [hROW2]
    simp only [List.size_toArray, List.length_append, List.length_take, List.length_drop, Array.length_toList, hRl]
    simp only [kcells, List.length_cons, List.length_nil]
    omega
  obtain ⟨X2, hX2⟩ : ∃ X, X = ((ks.drop i).map kcells).flatten := ⟨_, rfl⟩
  rw [← hX2] at hdl
  obtain ⟨ROW3, hROW3⟩ : ∃ R : Array Value, R = (ROW2.toList.take ((i + 1) * 3) ++ X2 ++ ROW2.toList.drop ((i + 1) * 3 + X2.length)).toArray := ⟨_, rfl⟩
  have hN : w.heap.size = w.heap.size := rfl
  have hcpA : ∀ (W : World), W.heap = (w.alloc (.cells ROW 29)).heap → ∀ ty dc, (Builtin.copy_ #[48, 48] ty #[.slice (some ⟨w.heap.size, i * 3, none⟩) (n + 1 - i) dc, .slice (some ⟨g1, 0, none⟩) 1 1]).run Try.prog W = .ok (goInt 1) (W.setRow w.heap.size ROW2) := fun W hW ty dc => by
    rw [hROW2]
    exact run_copy_n W _ _ ty 29 3 w.heap.size (i * 3) (n + 1 - i) dc ⟨g1, 0, none⟩ 1 1 1 ROW 29 (kcells k) Try.underlying48 hsz (by rw [hW]; exact Blk.new w 29 ROW) (by simp only [Nat.min_def]; split <;> omega) rfl
      (fun j u hj => by
        rw [Addr.add_lit, Nat.zero_add, cell_of_row W g1 j (kcells k).toArray 29 (0, 0) (by rw [hW]; exact hb.alloc _)]
        simpa using hj)
      (by rw [hRl]; simp only [kcells, List.length_cons, List.length_nil]; omega) (kcells_one k)
  have hcpB : ∀ (W : World), W.heap[w.heap.size]? = some (.cells ROW2 29 (0, 0)) → W.heap[g]? = some (.cells cur 29 (0, 0)) → ∀ ty dc sc, (Builtin.copy_ #[48, 48] ty #[.slice (some ⟨w.heap.size, (i + 1) * 3, none⟩) (n - i) dc, .slice (some ⟨g, i * 3, none⟩) (n - i) sc]).run Try.prog W = .ok (goInt ((n - i : Nat) : Int)) (W.setRow w.heap.size ROW3) := fun W hWN hWg ty dc sc => by
    rw [hROW3]
    exact run_copy_n W _ _ ty 29 3 w.heap.size ((i + 1) * 3) (n - i) dc ⟨g, i * 3, none⟩ (n - i) sc (n - i) ROW2 29 X2 Try.underlying48 hsz hWN (Nat.min_self _) hdl
      (fun j u hj => by
        rw [Addr.add_lit, cell_of_row W g (i * 3 + j) cur 29 (0, 0) hWg, ← Array.getElem?_toList]
        rw [hX2, ← flat_drop, List.getElem?_drop, ← htake, List.getElem?_take] at hj
        split at hj
        · exact hj
        · cases hj)
      (by rw [hdl, hR2l]; omega) (by rw [hX2]; exact flat_one _)
  have hflat : ((ks.take i ++ k :: ks.drop i).map kcells).flatten = ((ks.take i).map kcells).flatten ++ kcells k ++ X2 := by rw [hX2]; simp
  have hlk : (ks.take i ++ k :: ks.drop i).length = n + 1 := by simp only [List.length_append, List.length_take, List.length_cons, List.length_drop]; omega
  have h1 : ROW.toList.take (i * 3) = ((ks.take i).map kcells).flatten := by
    rw [hROW]; simp only [Array.toList_append, List.append_assoc]; exact List.take_left' htl
  have h2 : ROW2.toList.take ((i + 1) * 3) = ((ks.take i).map kcells).flatten ++ kcells k := by
    rw [hROW2]; simp only [h1]; exact List.take_left' (by rw [List.length_append, htl]; simp [kcells]; omega)
  have h3 : ROW3.toList.take ((n + 1) * 3) = ((ks.take i ++ k :: ks.drop i).map kcells).flatten := by
    rw [hflat, hROW3]; simp only [h2]; exact List.take_left' (by rw [List.length_append, List.length_append, htl, hdl]; simp [kcells]; omega)
  have hR3l : ROW3.size = G * 3 := by
    rw [hROW3]
    simp only [List.size_toArray, List.length_append, List.length_take, List.length_drop, Array.length_toList, hR2l, hdl]
    omega
  have hw1 : ∀ W : World, Lat ((w.alloc (.cells ROW 29)).drew.setRow w.heap.size ROW2) W → W.heap[w.heap.size]? = some (.cells ROW2 29 (0, 0)) ∧ W.heap[g]? = some (.cells cur 29 (0, 0)) := fun W hL => by
    have hs : ((w.alloc (.cells ROW 29)).drew.setRow w.heap.size ROW2).heap.size = w.heap.size + 1 := by simp [World.setRow]
    refine ⟨(hL.block _ (by omega)).trans (setRow_heap _ _ ROW _ 29 (0, 0) (Blk.new w 29 ROW)), (hL.block _ (by omega)).trans ?_⟩
    rw [setRow_other _ _ _ _ (by omega)]; exact Blk.alloc hg _
  have hend : ∀ W : World, Lat ((w.alloc (.cells ROW 29)).drew.setRow w.heap.size ROW2) W →
      OwnK (W.setRow w.heap.size ROW3) base (ks.take i ++ k :: ks.drop i) (.slice (some ⟨w.heap.size, 0, none⟩) (n + 1) G) ∧ w.grownBy (W.setRow w.heap.size ROW3) (some g) := by
    intro W hL
    have hs : ((w.alloc (.cells ROW 29)).drew.setRow w.heap.size ROW2).heap.size = w.heap.size + 1 := by simp [World.setRow]
    have hs' := hL.size
    refine ⟨⟨by rw [flat_size], .inr ⟨w.heap.size, G, ROW3, by rw [hlk], hbase, setRow_heap _ _ ROW2 _ 29 (0, 0) (hw1 W hL).1, by rw [hlk]; exact hGn, by simp only [maxLen]; omega, hR3l, by rw [hlk]; exact h3⟩⟩, hL.os, hL.tape, hL.output, ?_, fun j hj hne => ?_⟩
    · simp only [World.setRow, Array.size_modify]; omega
    · rw [setRow_other _ _ _ _ (by omega)]
      refine (hL.block j (by omega)).trans ?_
      rw [setRow_other _ _ _ _ (by omega)]; exact Below.heap_alloc w _ j hj
  clear hflat hlk h1 h2 h3 hR3l
  clear hold hROW hROW2 hROW3 hX2 hcell hik htl hR2l hdl hRl hG hz0 hzs hzb hsz hi0 hb hbg hg hcs htake hg1l hgl hlen hbase hN hn
  have HRZ := Lib.hid hrz
  have HCA := Lib.hid hcpA
  have HCB := Lib.hid hcpB
  have HEND := Lib.hid hend
  have HW1 := Lib.hid hw1
  clear hw1
  clear hrz hcpA hcpB hend
  have hz2 : ¬ ((i : Int) = (n : Int)) := by omega
  have hz3 : (cap : Int) < (n : Int) + 1 := by omega
  have hci : ¬ (cap = i) := by omega
  have hGi : ¬ (G = i) := by omega
  have hGim : ¬ (G = i + 1) := by omega
  have hw1 : IntKind.i64.wrap ((i : Int) + 1) = (i : Int) + 1 := by rw [IntKind.wrap_i64]; omega
  have hw2 : IntKind.i64.wrap ((n : Int) + 1) = (n : Int) + 1 := by rw [IntKind.wrap_i64]; omega
  have hw3 : IntKind.i64.wrap ((n : Int) + 1 - (i : Int)) = (n : Int) + 1 - (i : Int) := by rw [IntKind.wrap_i64]; omega
  have hb1 : (0 : Int) ≤ (i : Int) + 1 := by omega
  have htn : ((i : Int) + 1).toNat = i + 1 := by omega
  have hb3 : (i : Int) ≤ (n : Int) := by omega
  have hcapi : (i : Int) ≤ (cap : Int) := by omega
  go_enter Try.func57, Try.ntmps57
  go_upto_region 9 with fail
  go_upto_region 10 with (at_builtin; go_must (refine Lib.wpList_append_run _ rfl _ _ _ _ rfl _ _ rfl rfl _ _ (HRZ.out _) ?_))
  go_wp2_with fail
  rw [HCA.out (w.alloc (.cells ROW 29)).drew rfl]
  go_upto_region 11 with fail
  refine wp_rely_last (n := 8) (by kernel_rfl) (by kernel_rfl) rfl (by kernel_rfl) ?_
  simp only [List.take_succ_cons, List.take_zero]
  apply RelyL.val
  · intro ν w' hL hF K hK
    go_simp
    exact hK.out _ _ rfl (Lat.refl _)
  simp only [Act.put, List.setIfInBounds_toArray, List.set_cons_zero, List.set_cons_succ, Nat.reduceAdd]
  apply RelyL.val
  · intro ν w' hL hF K hK
    go_simp
    exact hK.out _ _ rfl (Lat.refl _)
  simp only [Act.put, List.setIfInBounds_toArray, List.set_cons_zero, List.set_cons_succ, Nat.reduceAdd]
  apply RelyL.val
  · intro ν w' hL hF K hK
    go_simp
    exact hK.out _ _ rfl (Lat.refl _)
  simp only [Act.put, List.setIfInBounds_toArray, List.set_cons_zero, List.set_cons_succ, Nat.reduceAdd]
  apply RelyL.val
  · intro ν w' hL hF K hK
    go_simp
    exact hK.out _ _ rfl (Lat.refl _)
  simp only [Act.put, List.setIfInBounds_toArray, List.set_cons_zero, List.set_cons_succ, Nat.reduceAdd]
  apply RelyL.val
  · intro ν w' hL hF K hK
    go_simp
    exact hK.out _ _ rfl (Lat.refl _)
  simp only [Act.put, List.setIfInBounds_toArray, List.set_cons_zero, List.set_cons_succ, Nat.reduceAdd]
  apply RelyL.val
  · intro ν w' hL hF K hK
    go_simp
    exact hK.out _ _ rfl (Lat.refl _)
  simp only [Act.put, List.setIfInBounds_toArray, List.set_cons_zero, List.set_cons_succ, Nat.reduceAdd]
  apply RelyL.val
  · intro ν w' hL hF K hK
    go_simp
    exact hK.out _ _ rfl (Lat.refl _)
  simp only [Act.put, List.setIfInBounds_toArray, List.set_cons_zero, List.set_cons_succ, Nat.reduceAdd]
  apply RelyL.val
  · intro ν w' hL hF K hK
    go_simp
    exact hK.out _ _ rfl (Lat.refl _)
  simp only [Act.put, List.setIfInBounds_toArray, List.set_cons_zero, List.set_cons_succ, Nat.reduceAdd]
  refine RelyL.done fun ν w2 hL hF => ?_
  obtain ⟨hr2, hr3⟩ := HW1.out _ hL
  refine wpOp_step rfl (fun K hK => ?_)
  refine take_op rfl ?_
  refine wp_copy_eq _ _ 48 48 rfl _ _ rfl rfl (HCB.out w2 hr2 hr3 _ _ _) ?_
  refine hK _ _ ?_
  clear hr2 hr3 hF
  replace HEND := HEND.out _ hL
  clear hL HW1 HCA HCB HRZ
  generalize w2.setRow w.heap.size ROW3 = W3 at *
  go_wp2_with fail
  go_ret
  exact ⟨_, rfl, HEND⟩

set_option maxRecDepth 100000 in
set_option maxHeartbeats 4000000 in
/-- Ahead of another one, in place. -/
theorem insert_room (w : World) (base : Nat) (ks : List LKey) (k : LKey) (g1 g cap i : Nat) (cur : Array Value) (hi : i < ks.length) (hb : Blk w g1 29 (kcells k).toArray) (hne : g1 ≠ g)
    (hbg : base ≤ g) (hg : w.heap[g]? = some (.cells cur 29 (0, 0))) (hcm : cap ≤ maxLen) (hcs : cur.size = cap * 3) (htake : cur.toList.take (ks.length * 3) = (ks.map kcells).flatten)
    (hroom : ks.length + 1 ≤ cap) :
    Calls Try.prog 57 #[.slice (some ⟨g, 0, none⟩) ks.length cap, .int .i64 i, .slice (some ⟨g1, 0, none⟩) 1 1] w fun r w' => ∃ v', r = .returned v' ∧ OwnK w' base (ks.take i ++ k :: ks.drop i) v' ∧ w.grownBy w' (some g) := by
  have hsz : (Try.prog.info? 29).map (·.size) = some 3 := by kernel_rfl
  generalize hn : ks.length = n at *
  simp only [maxLen] at hcm
  have hgl : g < w.heap.size := (Array.getElem?_eq_some_iff.1 hg).1
  obtain ⟨X2, hX2⟩ : ∃ X, X = ((ks.drop i).map kcells).flatten := ⟨_, rfl⟩
  have hdl : X2.length = (n - i) * 3 := by rw [hX2, flat_size, List.length_drop, hn]
  have htl : ((ks.take i).map kcells).flatten.length = i * 3 := by rw [flat_size, List.length_take, hn]; congr 1; omega
  obtain ⟨R1, hR1⟩ : ∃ R : Array Value, R = (cur.toList.take ((i + 1) * 3) ++ X2 ++ cur.toList.drop ((i + 1) * 3 + X2.length)).toArray := ⟨_, rfl⟩
  obtain ⟨R2, hR2⟩ : ∃ R : Array Value, R = (R1.toList.take (i * 3) ++ kcells k ++ R1.toList.drop (i * 3 + (kcells k).length)).toArray := ⟨_, rfl⟩
  have hR1l : R1.size = cap * 3 := by
    rw [hR1]
    simp only [List.size_toArray, List.length_append, List.length_take, List.length_drop, Array.length_toList, hcs, hdl]
    omega
  have hk3 : (kcells k).length = 3 := rfl
  have hR2l : R2.size = cap * 3 := by
    rw [hR2]
    simp only [List.size_toArray, List.length_append, List.length_take, List.length_drop, Array.length_toList, hR1l, hk3]
    omega
  have hov : ∀ lb cb, (callFunc 92 #[.slice (some ⟨g1, 0, none⟩) 1 1, .slice (some ⟨g, (i + 1) * 3, none⟩) lb cb]).run Try.prog w = .ok (.value (.bool false)) w := fun lb cb => by
    rw [run_callFunc_extern Try.func92 (by kernel_rfl) (by kernel_rfl) (by kernel_rfl) (e := Extern.SlicesOverlaps.overlaps #[48, 48] #[4]) (by kernel_rfl),
      Lib.run_overlaps_apart w 48 4 29 Try.underlying48 3 Try.sizeOf29 ⟨g1, 0, none⟩ ⟨g, (i + 1) * 3, none⟩ 1 1 lb cb hne 29 29 3 (cap * 3) (by simp only [World.shape?]; rw [show w.heap[g1]? = _ from hb]; rfl) (by simp only [World.shape?, hg, hcs]) (by omega) (hb.free 0) (hb.free 3)]
    rfl
  have hcpA : ∀ (W : World), W.heap[g]? = some (.cells cur 29 (0, 0)) → ∀ ty dc sc, (Builtin.copy_ #[48, 48] ty #[.slice (some ⟨g, (i + 1) * 3, none⟩) (n - i) dc, .slice (some ⟨g, i * 3, none⟩) (n + 1 - i) sc]).run Try.prog W = .ok (goInt ((n - i : Nat) : Int)) (W.setRow g R1) := fun W hWg ty dc sc => by
    rw [hR1]
    exact run_copy_n W _ _ ty 29 3 g ((i + 1) * 3) (n - i) dc ⟨g, i * 3, none⟩ (n + 1 - i) sc (n - i) cur 29 X2 Try.underlying48 hsz hWg (by simp only [Nat.min_def]; split <;> omega) hdl
      (fun j u hj => by
        rw [Addr.add_lit, cell_of_row W g (i * 3 + j) cur 29 (0, 0) hWg, ← Array.getElem?_toList]
        rw [hX2, ← flat_drop, List.getElem?_drop, ← htake, List.getElem?_take] at hj
        split at hj
        · exact hj
        · cases hj)
      (by rw [hdl, hcs]; omega) (by rw [hX2]; exact flat_one _)
  have hcpB : ∀ (W : World), W.heap[g]? = some (.cells R1 29 (0, 0)) → Blk W g1 29 (kcells k).toArray → ∀ ty dc, (Builtin.copy_ #[48, 48] ty #[.slice (some ⟨g, i * 3, none⟩) (n + 1 - i) dc, .slice (some ⟨g1, 0, none⟩) 1 1]).run Try.prog W = .ok (goInt 1) (W.setRow g R2) := fun W hW hWb ty dc => by
    rw [hR2]
    exact run_copy_n W _ _ ty 29 3 g (i * 3) (n + 1 - i) dc ⟨g1, 0, none⟩ 1 1 1 R1 29 (kcells k) Try.underlying48 hsz hW (by simp only [Nat.min_def]; split <;> omega) rfl
      (fun j u hj => by
        rw [Addr.add_lit, Nat.zero_add, hWb.cell]
        simpa using hj)
      (by rw [hR1l, hk3]; omega) (kcells_one k)
  have hflat : ((ks.take i ++ k :: ks.drop i).map kcells).flatten = ((ks.take i).map kcells).flatten ++ kcells k ++ X2 := by rw [hX2]; simp
  have hlk : (ks.take i ++ k :: ks.drop i).length = n + 1 := by simp only [List.length_append, List.length_take, List.length_cons, List.length_drop]; omega
  have h1 : cur.toList.take (i * 3) = ((ks.take i).map kcells).flatten := by
    rw [← flat_take, ← htake, List.take_take]; congr 1; omega
  have h2 : R1.toList.take (i * 3) = ((ks.take i).map kcells).flatten := by
    rw [hR1, ← h1]
    simp only [List.append_assoc]
    rw [List.take_append_of_le_length (by rw [List.length_take, Array.length_toList, hcs]; omega), List.take_take]
    congr 1; omega
  have h3 : R1.toList.drop (i * 3 + (kcells k).length) = X2 ++ cur.toList.drop ((i + 1) * 3 + X2.length) := by
    rw [hR1]
    simp only [List.append_assoc]
    rw [List.drop_left' (by rw [List.length_take, Array.length_toList, hcs, hk3]; omega)]
  have h4 : R2.toList.take ((n + 1) * 3) = ((ks.take i ++ k :: ks.drop i).map kcells).flatten := by
    rw [hflat, hR2]
    simp only [h2, h3]
    rw [← List.append_assoc]
    exact List.take_left' (by rw [List.length_append, List.length_append, htl, hdl, hk3]; omega)
  have hend : ∀ W : World, Lat w W → OwnK ((W.setRow g R1).setRow g R2) base (ks.take i ++ k :: ks.drop i) (.slice (some ⟨g, 0, none⟩) (n + 1) cap) ∧ w.grownBy ((W.setRow g R1).setRow g R2) (some g) := by
    intro W hL
    have hWg : W.heap[g]? = some (.cells cur 29 (0, 0)) := (hL.block g hgl).trans hg
    refine ⟨⟨by rw [flat_size], .inr ⟨g, cap, R2, by rw [hlk], hbg, setRow_heap _ _ R1 _ 29 (0, 0) (setRow_heap _ _ cur _ 29 (0, 0) hWg), by rw [hlk]; exact hroom, by simp only [maxLen]; omega, hR2l, by rw [hlk]; exact h4⟩⟩, hL.os, hL.tape, hL.output, ?_, fun j hj hjn => ?_⟩
    · have := hL.size; simp only [World.setRow, Array.size_modify]; omega
    · have hjg : j ≠ g := fun e => hjn (by rw [e])
      rw [setRow_other _ _ _ _ hjg, setRow_other _ _ _ _ hjg]; exact hL.block j hj
  have hw1 : ∀ W : World, Lat w W → W.heap[g]? = some (.cells cur 29 (0, 0)) ∧ (W.setRow g R1).heap[g]? = some (.cells R1 29 (0, 0)) ∧ Blk (W.setRow g R1) g1 29 (kcells k).toArray := fun W hL => by
    have hWg : W.heap[g]? = some (.cells cur 29 (0, 0)) := (hL.block g hgl).trans hg
    exact ⟨hWg, setRow_heap _ _ cur _ 29 (0, 0) hWg, (setRow_other _ _ _ _ hne).trans ((hL.block g1 hb.lt).trans hb)⟩
  clear hflat hlk h1 h2 h3 h4 hR1 hR2 hX2 htl hdl hR1l hR2l hk3 htake hcs hb hsz hg hgl hbg hn
  have HCA := Lib.hid hcpA
  have HCB := Lib.hid hcpB
  have HEND := Lib.hid hend
  have HW1 := Lib.hid hw1
  clear hcpA hcpB hend hw1
  have hz2 : ¬ ((i : Int) = (n : Int)) := by omega
  have hz3 : ¬ ((cap : Int) < (n : Int) + 1) := by omega
  have hci : ¬ (cap = i) := by omega
  have hcim : ¬ (cap = i + 1) := by omega
  have hw1 : IntKind.i64.wrap ((i : Int) + 1) = (i : Int) + 1 := by rw [IntKind.wrap_i64]; omega
  have hw2 : IntKind.i64.wrap ((n : Int) + 1) = (n : Int) + 1 := by rw [IntKind.wrap_i64]; omega
  have hb1 : (0 : Int) ≤ (i : Int) + 1 := by omega
  have hb2 : (0 : Int) ≤ (n : Int) + 1 := by omega
  have htn : ((i : Int) + 1).toNat = i + 1 := by omega
  have htn2 : ((n : Int) + 1).toNat = n + 1 := by omega
  have hb3 : (i : Int) ≤ (n : Int) := by omega
  have hb4 : (i : Int) ≤ (n : Int) + 1 := by omega
  have hb5 : (n : Int) + 1 ≤ (cap : Int) := by omega
  have hb6 : (i : Int) + 1 ≤ (n : Int) + 1 := by omega
  have hcapi : (i : Int) ≤ (cap : Int) := by omega
  have hncap : (n : Int) ≤ (cap : Int) := by omega
  go_enter Try.func57, Try.ntmps57
  go_upto_region 14 with fail
  go_upto_region 15 with (simp only [hov])
  rw [show ((i : Int) == (n : Int)) = false from by simpa using hz2]
  refine wp_rely_last (n := 8) (by kernel_rfl) (by kernel_rfl) rfl (by kernel_rfl) ?_
  simp only [List.take_succ_cons, List.take_zero]
  apply RelyL.val
  · intro ν w' hL hF K hK
    go_simp
    exact hK.out _ _ rfl (Lat.refl _)
  simp only [Act.put, List.setIfInBounds_toArray, List.set_cons_zero, List.set_cons_succ, Nat.reduceAdd]
  apply RelyL.val
  · intro ν w' hL hF K hK
    go_simp
    exact hK.out _ _ rfl (Lat.refl _)
  simp only [Act.put, List.setIfInBounds_toArray, List.set_cons_zero, List.set_cons_succ, Nat.reduceAdd]
  apply RelyL.val
  · intro ν w' hL hF K hK
    go_simp
    exact hK.out _ _ rfl (Lat.refl _)
  simp only [Act.put, List.setIfInBounds_toArray, List.set_cons_zero, List.set_cons_succ, Nat.reduceAdd]
  apply RelyL.val
  · intro ν w' hL hF K hK
    go_simp
    exact hK.out _ _ rfl (Lat.refl _)
  simp only [Act.put, List.setIfInBounds_toArray, List.set_cons_zero, List.set_cons_succ, Nat.reduceAdd]
  apply RelyL.val
  · intro ν w' hL hF K hK
    go_simp
    exact hK.out _ _ rfl (Lat.refl _)
  simp only [Act.put, List.setIfInBounds_toArray, List.set_cons_zero, List.set_cons_succ, Nat.reduceAdd]
  apply RelyL.val
  · intro ν w' hL hF K hK
    go_simp
    exact hK.out _ _ rfl (Lat.refl _)
  simp only [Act.put, List.setIfInBounds_toArray, List.set_cons_zero, List.set_cons_succ, Nat.reduceAdd]
  apply RelyL.val
  · intro ν w' hL hF K hK
    go_simp
    exact hK.out _ _ rfl (Lat.refl _)
  simp only [Act.put, List.setIfInBounds_toArray, List.set_cons_zero, List.set_cons_succ, Nat.reduceAdd]
  apply RelyL.val
  · intro ν w' hL hF K hK
    go_simp
    exact hK.out _ _ rfl (Lat.refl _)
  simp only [Act.put, List.setIfInBounds_toArray, List.set_cons_zero, List.set_cons_succ, Nat.reduceAdd]
  refine RelyL.done fun ν w2 hL hF => ?_
  obtain ⟨hr1, hr2, hr3⟩ := HW1.out _ hL
  refine wpOp_step rfl (fun K hK => ?_)
  refine take_op rfl ?_
  refine wp_copy_eq _ _ 48 48 rfl _ _ rfl rfl (HCA.out w2 hr1 _ _ _) ?_
  refine hK _ _ ?_
  have HCB' := HCB.out _ hr2 hr3
  replace HEND := HEND.out _ hL
  clear hr1 hr2 hr3 hF hL HW1 HCA HCB hov
  have HC := Lib.hid HCB'
  clear HCB'
  generalize w2.setRow g R1 = W2 at *
  go_wp2_with fail
  rw [HC.out]
  generalize W2.setRow g R2 = W3 at *
  go_wp2_with fail
  go_ret
  exact ⟨_, rfl, HEND⟩

/-- One key laid into its place. -/
theorem insert_any (w : World) (base : Nat) (ks : List LKey) (v : Value) (k : LKey) (g1 i : Nat) (hi : i ≤ ks.length) (hown : OwnK w base ks v) (hb : Blk w g1 29 (kcells k).toArray) (hne : some g1 ≠ v.ownBlock) (hlen : (ks.length + 1) * 40 ≤ 140737488355328) (hbase : base ≤ w.heap.size) :
    Calls Try.prog 57 #[v, .int .i64 i, .slice (some ⟨g1, 0, none⟩) 1 1] w fun r w' => ∃ v', r = .returned v' ∧ OwnK w' base (ks.take i ++ k :: ks.drop i) v' ∧ w.grownBy w' v.ownBlock := by
  by_cases he : i = ks.length
  · subst he
    rw [List.take_length, List.drop_length]
    exact insert_end w base ks v k g1 hown hb hlen hbase
  · have hO := hown
    rcases hown with ⟨hl, ⟨rfl, h0⟩ | ⟨g, cap, cur, rfl, hbg, hg, hnc, hcm, hcs, htake⟩⟩
    · omega
    · by_cases hr : ks.length + 1 ≤ cap
      · exact insert_room w base ks k g1 g cap i cur (by omega) hb (fun e => hne (by rw [e]; rfl)) hbg hg hcm hcs htake hr
      · exact insert_grow w base ks k g1 g cap i cur (by omega) hb hbg hg hnc hcm hcs htake (by omega) hlen hbase
end Go.Proofs.Ytnelgblmogciiaa
