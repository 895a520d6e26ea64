/- Folding by the reference. -/
import Derived.Test.YtnelgblmogciiaaRFoldA
import Derived.Test.YtnelgblmogciiaaIdem
import Derived.Deep.RegionHeld3
import Derived.Deep.DeepCutAuto
set_option linter.unusedSimpArgs false
set_option linter.unusedVariables false
namespace Go.Proofs.Ytnelgblmogciiaa
open Go.RowKit

/-- What the end of the walk stands on. -/
structure Done3 (w W : World) (e o : Array Value) : Prop where
  low : Below w.heap.size w W
  box : Blk W w.heap.size 32 e
  res : Blk W (w.heap.size + 1) 32 zero11
  out : Blk W (w.heap.size + 1 + 1) 32 o
  size : w.heap.size + 3 ≤ W.heap.size
theorem Done3.lat {w W W' : World} {e o : Array Value} (h : Done3 w W e o) (hl : Below W.heap.size W W') : Done3 w W' e o :=
  ⟨h.low.th hl, h.box.below hl, h.res.below hl, h.out.below hl, Nat.le_trans h.size hl.size⟩
theorem Done3.fin {w W : World} {e o : Array Value} (h : Done3 w W e o) (C : Array Value) : Below w.heap.size w (W.setRow (w.heap.size + 1) C) := below_setRow h.low (by omega) _
theorem Done3.back {w W : World} {e o : Array Value} (h : Done3 w W e o) {x : LExpr} {cx : List Value} (he : IsExprP (w.heap.size + 3 ≤ ·) W x cx) (C : Array Value) : IsExprP (w.heap.size ≤ ·) (W.setRow (w.heap.size + 1) C) x cx :=
  (he.carry (fun b hb _ => setRow_other _ _ _ _ (by omega))).mono (fun b hb _ => by omega)
-- the end: what a call has handed back as r
-- the node itself: $1 kind $2 number of kids $3 the slice's place
-- a kid: $1 its index $2 its offset
theorem val3_one (k n : Int) (s : ByteArray) : (#[.int .i64 k, .int .i64 n, .string s] : Array Value).all (·.oneCell') = true := by simp [Value.oneCell']
theorem RowAt.sub {w : World} {b off : Nat} {cs : List Value} (h : RowAt w b off cs) (i n : Nat) : RowAt w b (off + i) ((cs.drop i).take n) := fun j v hj => by
  have hj' : cs[i + j]? = some v := by
    rw [List.getElem?_take] at hj
    split at hj
    · rw [List.getElem?_drop] at hj; exact hj
    · cases hj
  have := h (i + j) v hj'
  rwa [← Nat.add_assoc] at this
-- the first steps of an operation: $1 kind
-- $1 the kid's index
-- a call of 'is' at the first kid: $1 ris, $2 the fact of its answer
theorem lit_not {h : Hd} (q : isLit h 1 = true) : isLit h 0 = false := by
  rw [isLit_iff] at q
  cases hb : isLit h 0 with
  | false => rfl
  | true => rw [isLit_iff] at hb; omega
theorem IsExprP.rows {ok : Nat → Prop} {w : World} {hd : Hd} {ks : List LExpr} {A : Option Addr} {n c : Nat} (h : IsExprP ok w (.mk hd ks) (hd.cells (.slice A n c))) :
    ∃ (b off : Nat) (cs : Nat → List Value), (0 < ks.length → A = some ⟨b, off, none⟩ ∧ ok b) ∧ (∀ i, (cs i).length = 11) ∧ (∀ i (hi : i < ks.length), RowAt w b (off + i * 11) (cs i)) ∧ ∀ i (hi : i < ks.length), IsExprP ok w ks[i] (cs i) := by
  generalize he : LExpr.mk hd ks = e at h
  generalize hc : hd.cells (.slice A n c) = cs at h
  cases h with
  | mk h ks' A' c' b off cs hok hlen hA hsz hrow hk =>
    injection he with e1 e2
    subst e1 e2
    unfold Hd.cells at hc
    simp only [List.cons.injEq, Value.slice.injEq, true_and, and_true] at hc
    obtain ⟨rfl, _, _⟩ := hc
    exact ⟨b, off, cs, hA, hsz, hrow, hk⟩
theorem foldN_mk (h : Hd) (ks : List LExpr) : (rebE foldN) (.mk h ks) = foldN (.mk h (ks.map (rebE foldN))) := by
  rw [rebE, rebL_eq]

set_option maxRecDepth 100000 in
set_option maxHeartbeats 16000000 in
theorem rfold_any (e : LExpr) : ∀ (cs : List Value) (B : Nat) (w : World), B ≤ w.heap.size → IsExpr B w e cs → okE e →
    Calls Try.prog 66 #[.agg cs.toArray] w (RetEx (w.heap.size ≤ ·) ((rebE foldN) e) w) := by
  induction e using LExpr.ind with | _ hd ks ih => ?_
  intro cs B w hB he hokE
  rw [okE] at hokE
  obtain ⟨hP, hoks⟩ := hokE
  cases he with
  | mk _ _ A c b off cs hok hlen hA hsz hrow hk =>
  rw [foldN_mk]
  obtain ⟨kd, n, m, nm, vk, vn, vs, dv, cl, at_⟩ := hd
  have HJ0 := Lib.hid (foldN_eq (⟨kd, n, m, nm, vk, vn, vs, dv, cl, at_⟩ : Hd) (ks.map (rebE foldN)))
  generalize foldN (.mk (⟨kd, n, m, nm, vk, vn, vs, dv, cl, at_⟩ : Hd) (ks.map (rebE foldN))) = R at *
  unfold Hd.cells
  dsimp only
  go_enter Try.func66, Try.ntmps66
  go_upto_region 4 with fail
  have hB1 : Done3 w (((w.alloc (.cells #[.int .i64 kd, .int .i64 n, .int .i64 m, .string nm, .int .i64 vk, .int .i64 vn, .string vs, .int .i64 dv, .string cl, .string at_, .slice A ks.length c] 32)).alloc (.cells #[.int .i64 0, .int .i64 0, .int .i64 0, .string { data := #[] }, .int .i64 0, .int .i64 0, .string { data := #[] }, .int .i64 0, .string { data := #[] }, .string { data := #[] }, .slice none 0 0] 32)).alloc (.cells #[.int .i64 kd, .int .i64 n, .int .i64 m, .string nm, .int .i64 vk, .int .i64 vn, .string vs, .int .i64 dv, .string cl, .string at_, .slice none 0 0] 32)) #[.int .i64 kd, .int .i64 n, .int .i64 m, .string nm, .int .i64 vk, .int .i64 vn, .string vs, .int .i64 dv, .string cl, .string at_, .slice A ks.length c] #[.int .i64 kd, .int .i64 n, .int .i64 m, .string nm, .int .i64 vk, .int .i64 vn, .string vs, .int .i64 dv, .string cl, .string at_, .slice none 0 0] :=
    ⟨(((Below.refl _ _).al _).al _).al _, ((Blk.new _ _ _).alloc _).alloc _, (Blk.at1 _ _ _ _).alloc _, Blk.at2 _ _ _ _ _, by simp⟩
  generalize (((w.alloc (.cells #[.int .i64 kd, .int .i64 n, .int .i64 m, .string nm, .int .i64 vk, .int .i64 vn, .string vs, .int .i64 dv, .string cl, .string at_, .slice A ks.length c] 32)).alloc (.cells #[.int .i64 0, .int .i64 0, .int .i64 0, .string { data := #[] }, .int .i64 0, .int .i64 0, .string { data := #[] }, .int .i64 0, .string { data := #[] }, .string { data := #[] }, .slice none 0 0] 32)).alloc (.cells #[.int .i64 kd, .int .i64 n, .int .i64 m, .string nm, .int .i64 vk, .int .i64 vn, .string vs, .int .i64 dv, .string cl, .string at_, .slice none 0 0] 32)) = WA at *
  go_wp2_with fail
  go_loopw [4] (fun i wr => ∃ (j : Nat) (v : Value), j ≤ ks.length ∧ i = .int .i64 j ∧ OwnEx wr (w.heap.size + 3) ((ks.map (rebE foldN)).take j) v ∧ Done3 w wr #[.int .i64 kd, .int .i64 n, .int .i64 m, .string nm, .int .i64 vk, .int .i64 vn, .string vs, .int .i64 dv, .string cl, .string at_, .slice A ks.length c] #[.int .i64 kd, .int .i64 n, .int .i64 m, .string nm, .int .i64 vk, .int .i64 vn, .string vs, .int .i64 dv, .string cl, .string at_, v]) (fun i _ => ks.length - (intOf i).toNat)
  case atStart => exact ⟨0, .slice none 0 0, Nat.zero_le _, rfl, OwnEx.nil _ _, hB1⟩
  case round =>
    clear hB1
    obtain ⟨j, v, hjl, rfl, hown, hD⟩ := hrel
    have hbw := hD.low
    have hx := hD.box
    have ho := hD.out
    have hr := hD.res
    have hs := hD.size
    have cx := hx.cell
    by_cases hlt : j < ks.length
    · clear hD
      obtain ⟨rfl, hbB⟩ := hA (by omega)
      have hrk := (hrow j hlt).below hbw (by omega)
      obtain ⟨hk', kk, Ak, ck, hek, hcs, hl'⟩ := (hk j hlt).form
      have hkk := (hk j hlt).carry (hbw.mono hB)
      have hsz' := hsz j
      rw [hcs] at hrk hkk hsz'
      have HI := Lib.hid (ih j hlt (hk'.cells (.slice Ak kk.length ck)))
      have HOK := Lib.hid (hoks _ (List.getElem_mem hlt))
      clear ih hA hrow hk hcs hsz hek hP hoks
      unfold Hd.cells at hrk HI hkk
      have hbwr : b < wr.heap.size := by omega
      have hBwr : B ≤ wr.heap.size := by omega
      go_upto_region 6 with fail
      clear cx
      refine wp_rely_tail 9 (by kernel_rfl) (by kernel_rfl) (by decide) (by kernel_rfl) ?_
      simp only [List.take_succ_cons, List.take_zero, List.drop_succ_cons, List.drop_zero]
      apply RelyL.val
      · intro ν w' hL hF K hK
        have cx := (hx.lat hL).cell
        have co := (ho.lat hL).cell
        go_simp
        exact hK.out _ _ rfl (Lat.refl _)
      simp only [Act.put, List.setIfInBounds_toArray, List.set_cons_zero, List.set_cons_succ, Nat.reduceAdd]
      apply RelyL.val
      · intro ν w' hL hF K hK
        have cx := (hx.lat hL).cell
        have co := (ho.lat hL).cell
        go_simp
        exact hK.out _ _ rfl (Lat.refl _)
      simp only [Act.put, List.setIfInBounds_toArray, List.set_cons_zero, List.set_cons_succ, Nat.reduceAdd]
      apply RelyL.val
      · intro ν w' hL hF K hK
        have cx := (hx.lat hL).cell
        have co := (ho.lat hL).cell
        go_simp
        exact hK.out _ _ rfl (Lat.refl _)
      simp only [Act.put, List.setIfInBounds_toArray, List.set_cons_zero, List.set_cons_succ, Nat.reduceAdd]
      apply RelyL.val
      · intro ν w' hL hF K hK
        have cx := (hx.lat hL).cell
        have co := (ho.lat hL).cell
        go_simp
        exact hK.out _ _ rfl (Lat.refl _)
      simp only [Act.put, List.setIfInBounds_toArray, List.set_cons_zero, List.set_cons_succ, Nat.reduceAdd]
      apply RelyL.val
      · intro ν w' hL hF K hK
        have cx := (hx.lat hL).cell
        have co := (ho.lat hL).cell
        go_simp
        exact hK.out _ _ rfl (Lat.refl _)
      simp only [Act.put, List.setIfInBounds_toArray, List.set_cons_zero, List.set_cons_succ, Nat.reduceAdd]
      apply RelyL.val
      · intro ν w' hL hF K hK
        have cx := (hx.lat hL).cell
        have co := (ho.lat hL).cell
        go_simp
        exact hK.out _ _ rfl (Lat.refl _)
      simp only [Act.put, List.setIfInBounds_toArray, List.set_cons_zero, List.set_cons_succ, Nat.reduceAdd]
      apply RelyL.val
      · intro ν w' hL hF K hK
        refine take_op rfl ?_
        refine wp_load_at 32 _ rfl b (off + j * 11) rfl _ _ (hrk.below hL hbwr) Try.underlying32 rfl (by kernel_rfl : (Try.prog.info? 32).map (·.size) = some 11) ?_
        exact hK.out _ _ rfl (Lat.refl _)
      simp only [Act.put, List.setIfInBounds_toArray, List.set_cons_zero, List.set_cons_succ, Nat.reduceAdd]
      refine RelyL.law (Ex (wr.heap.size ≤ ·) ((rebE foldN) ks[j])) (fun v w1 w2 hl h => Ex.lat h hl) (fun ν w' hL hF K hK => ?_) ?_
      · have HI1 := HI.out w'.heap.size w' (Nat.le_refl _) (hkk.lat hBwr hL) HOK.out
        go_simp
        go_at_call 66
        with_reducible refine HI1.mono ?_
        rintro r w'' ⟨⟨v', rfl, hv'⟩, hb⟩
        exact hK.out _ _ _ rfl (hv'.mono (fun b hb' _ => Nat.le_trans hL.size hb')) hb
      simp only [Act.put, List.setIfInBounds_toArray, List.set_cons_zero, List.set_cons_succ, Nat.reduceAdd]
      refine RelyL.law (fun v w => ∃ g cs', v = .slice (some ⟨g, 0, none⟩) 1 1 ∧ Blk w g 32 cs'.toArray ∧ IsExprP (wr.heap.size ≤ ·) w ((rebE foldN) ks[j]) cs') (fun v w1 w2 hl h => by obtain ⟨g, cs', h1, h2, h3⟩ := h; exact ⟨g, cs', h1, h2.lat hl, h3.lat hl⟩) (fun ν w' hL hF K hK => ?_) ?_
      · have h4 := hF.get 0 rfl (by kernel_rfl)
        dsimp only at h4
        generalize ν 7 = x4 at *
        obtain ⟨cs', rfl, he'⟩ := h4
        obtain ⟨hd2, k2, A2, c2, hcs2⟩ := he'.form
        subst hcs2
        clear hF
        unfold Hd.cells at *
        go_simp
        exact hK.out _ _ _ rfl ⟨_, _, rfl, Blk.new _ _ _, he'.lat (Lat.al _ _)⟩ (Lat.al _ _)
      simp only [Act.put, List.setIfInBounds_toArray, List.set_cons_zero, List.set_cons_succ, Nat.reduceAdd]
      refine RelyL.done fun ν w5 hL hF => ?_
      have h5 := hF.get 0 rfl
      dsimp only at h5
      generalize ν 7 = x4 at *
      generalize ν 8 = x5 at *
      obtain ⟨g5, cs5, rfl, hb5, he5⟩ := h5
      clear hF
      have hx5 := hx.lat hL
      have ho5 := ho.lat hL
      have hr5 := hr.lat hL
      have own5 := hown.lat hL
      have hbw5 := hbw.th hL
      have hs5 := hL.size
      have hlen5 : ((ks.map (rebE foldN)).take j).length = j := by rw [List.length_take, List.length_map]; omega
      have hb8 : (((ks.map (rebE foldN)).take j).length + 1) * 136 ≤ 140737488351232 := by rw [hlen5]; omega
      have he5' : IsExprP (fun b => w.heap.size + 3 ≤ b ∧ some b ≠ v.ownBlock) w5 ((rebE foldN) ks[j]) cs5 := he5.mono (fun b hb hl => ⟨by omega, fun hc => by have := (hown.size b hc.symm).2; omega⟩)
      have hnx : some w.heap.size ≠ v.ownBlock := fun hc => by have := (hown.size _ hc.symm).1; omega
      have hno : some (w.heap.size + 1 + 1) ≠ v.ownBlock := fun hc => by have := (hown.size _ hc.symm).1; omega
      have hnr : some (w.heap.size + 1) ≠ v.ownBlock := fun hc => by have := (hown.size _ hc.symm).1; omega
      have hbo : ∀ k, v.ownBlock = some k → w.heap.size ≤ k := fun k hc => by have := (hown.size _ hc).1; omega
      have htk : (ks.map (rebE foldN)).take j ++ [(rebE foldN) ks[j]] = (ks.map (rebE foldN)).take (j + 1) := by
        rw [List.take_succ_eq_append_getElem (by simpa using hlt)]; simp
      have HTK := Lib.hid htk
      have hl6 : ((ks.map (rebE foldN)).take (j + 1)).length = j + 1 := by rw [List.length_take, List.length_map]; omega
      have HL6 := Lib.hid hl6
      clear hl6 hx ho hr hown hbw HI hkk hL he5 hlen5 htk hrk HOK
      go_wp2_with (at_builtin; refine append_ex rfl _ _ rfl (w.heap.size + 3) _ v rfl own5 g5 1 _ cs5 rfl 32 hb5 he5' hb8 (by omega) ?_; intro v6 w6 own6 hg6; go_must (have hx6 := hx5.grown hg6 hnx; have ho6 := ho5.grown hg6 hno; have hr6 := hr5.grown hg6 hnr; have hbw6 := hbw5.grown hg6 (by omega) hbo; have hs6 := hg6.size; have cx6 := ho6.cell; have fx6 := ho6.free; rw [HTK.out] at own6; obtain ⟨A6, c6, hv6⟩ := own6.slice; rw [HL6.out] at hv6; subst hv6; clear HL6 own5 hb5 he5' hx5 ho5 hr5 hbw5 hg6 hnx hno hnr hbo HTK))
      go_roundw
      case rel =>
        refine ⟨j + 1, _, by omega, by go_num, own6.carry (fun k hk _ => heap_setCell_other _ _ _ _ (by dsimp only; omega)), hbw6.setCell (p := ⟨w.heap.size + 1 + 1, 10, none⟩) (by dsimp only; omega) _, hx6.far (by omega) 10 _, hr6.far (by omega) 10 _, ho6.set 10 _, by simp; omega⟩
      case measure => simp [intOf]; omega
    · have hj : j = ks.length := by omega
      subst hj
      have hall : (ks.map (rebE foldN)).take ks.length = ks.map (rebE foldN) := List.take_of_length_le (by simp)
      rw [hall] at hown
      obtain ⟨A', c', hv⟩ := hown.slice
      subst hv
      have hnode := hown.node (⟨kd, n, m, nm, vk, vn, vs, dv, cl, at_⟩ : Hd) hok (by simpa using hlen)
      have hoks' : ∀ k ∈ ks.map (rebE foldN), okE k := fun k hk => by obtain ⟨k', hk', rfl⟩ := List.mem_map.1 hk; exact (good_reb ⟨[], noStr, 0, []⟩ k' (hoks k' hk')).2.1
      clear hown hA hrow hk ih hall hsz hx ho hr hs hbw cx hoks hok
      have hP' : nodeCheck (⟨kd, n, m, nm, vk, vn, vs, dv, cl, at_⟩ : Hd) (ks.map (rebE foldN)).length = 0 := by rw [List.length_map]; exact hP
      clear hP hlt hjl hlen
      generalize ks.map (rebE foldN) = kl at *
      have hko := kidsOf hP'
      clear hP'
      have hB := hD
      clear hD
      obtain ⟨b', off', cs', hA', hsz', hrow', hk'⟩ := hnode.rows
      have cx := hB.box.cell
      have co := hB.out.cell
      have hB0 : Below wr.heap.size wr wr := Below.refl _ _
      unfold Hd.cells at hnode
      dsimp only at hnode hko
      rcases kdCases kd with rfl | rfl | rfl | rfl | rfl | rfl | rfl | rfl | rfl | hkd
      · -- not
        obtain ⟨k0, rfl⟩ := len1 (ks := kl) (by rcases hko with h | h | h | h | h <;> omega)
        obtain ⟨rfl, hbB⟩ := hA' (by simp)
        have hr0 := hrow' 0 (by simp)
        obtain ⟨h0', n0, A0, c0, e0⟩ := (hk' 0 (by simp)).form
        have hy0 := hk' 0 (by simp)
        have hbl0 := rowAt_lt hr0 (by rw [hsz']; omega)
        rw [e0] at hr0 hy0
        have hd0 := hd_of (hk' 0 (by simp)) e0
        simp only [List.getElem_cons_zero, List.getElem_cons_succ, Nat.zero_mul, Nat.one_mul, Nat.add_zero, Nat.reduceMul] at hd0 hr0 hy0
        have hok0 := hoks' k0 (by simp)
        have hJ := HJ0.out
        rw [if_pos rfl] at hJ
        simp only [kid, List.getD_cons_zero, hd0] at hJ
        clear HJ0 hko hA' hrow' hk' hoks' e0
        simp only [List.length_cons, List.length_nil, Nat.reduceAdd] at hnode cx co hB ⊢
        unfold Hd.cells at hr0 hy0
        rcases Bool.eq_false_or_eq_true (isLit h0' 1) with q1 | q1
        · have q0 := lit_not q1
          have hR : R = .mk (litB false) [] := by rw [hJ, q0, q1]; rfl
          have HJ := Lib.hid hR
          clear hJ hR
          go_wp2_with (first | (with_reducible refine wpList_load_at rfl 32 _ rfl b' off' rfl _ _ (hr0.below hB0 (by omega)) Try.underlying32 rfl (by kernel_rfl) ?_) | (refine wpList_load_atG rfl 32 _ rfl b' off' rfl _ _ (hr0.below hB0 (by omega)) Try.underlying32 rfl (by kernel_rfl) ?_))
          refine ((ris1_any _ _ wr.heap.size _ hB0.size (hy0.toIs.carry hB0) hok0).mono ?_)
          rintro r w1 ⟨rfl, hb1⟩
          rw [hd0, q1]
          replace hB := hB.lat hb1
          replace hB0 := hB0.th hb1
          clear hb1
          try clear cx co
          have cx := hB.box.cell
          have co := hB.out.cell
          go_wp2_with (first | (with_reducible refine wpList_load_at rfl 32 _ rfl b' off' rfl _ _ (hr0.below hB0 (by omega)) Try.underlying32 rfl (by kernel_rfl) ?_) | (refine wpList_load_atG rfl 32 _ rfl b' off' rfl _ _ (hr0.below hB0 (by omega)) Try.underlying32 rfl (by kernel_rfl) ?_))
          refine ((ris0_any _ _ wr.heap.size _ hB0.size (hy0.toIs.carry hB0) hok0).mono ?_)
          rintro r w1 ⟨rfl, hb1⟩
          rw [hd0, q0]
          replace hB := hB.lat hb1
          replace hB0 := hB0.th hb1
          clear hb1
          try clear cx co
          have cx := hB.box.cell
          have co := hB.out.cell
          go_wp2_with fail
          refine (rflag_f _).mono ?_
          rintro r w3 ⟨rfl, hb3⟩
          replace hB := hB.lat hb3
          have hr3 := hB.res.setRow #[.int .i64 1, .int .i64 0, .int .i64 0, .string { data := #[] }, .int .i64 1, .int .i64 0, .string { data := #[] }, .int .i64 0, .string { data := #[] }, .string { data := #[] }, .slice none 0 0]
          have hbw3 := hB.fin #[.int .i64 1, .int .i64 0, .int .i64 0, .string { data := #[] }, .int .i64 1, .int .i64 0, .string { data := #[] }, .int .i64 0, .string { data := #[] }, .string { data := #[] }, .slice none 0 0]
          clear hb3
          try clear cx co
          go_wp2_with (refine wpList_store_row rfl 32 _ _ rfl (w.heap.size + 1) _ rfl rfl 32 _ hB.res (by kernel_rfl : (Try.prog.info? 32).map (·.size) = some 11) rfl (by kernel_rfl) ?_)
          have cR := hr3.cell
          refine bodyPost_ret (v := ?_) ?_ rfl ?_
          rotate_left
          · simp [results, Try.results66, go_sem, cR]; exact rfl
          rw [HJ.out]
          exact ⟨⟨_, rfl, leaf_f _ _⟩, hbw3⟩
        · rcases Bool.eq_false_or_eq_true (isLit h0' 0) with q0 | q0
          · have hR : R = .mk (litB true) [] := by rw [hJ, q0]; rfl
            have HJ := Lib.hid hR
            clear hJ hR
            go_wp2_with (first | (with_reducible refine wpList_load_at rfl 32 _ rfl b' off' rfl _ _ (hr0.below hB0 (by omega)) Try.underlying32 rfl (by kernel_rfl) ?_) | (refine wpList_load_atG rfl 32 _ rfl b' off' rfl _ _ (hr0.below hB0 (by omega)) Try.underlying32 rfl (by kernel_rfl) ?_))
            refine ((ris1_any _ _ wr.heap.size _ hB0.size (hy0.toIs.carry hB0) hok0).mono ?_)
            rintro r w1 ⟨rfl, hb1⟩
            rw [hd0, q1]
            replace hB := hB.lat hb1
            replace hB0 := hB0.th hb1
            clear hb1
            try clear cx co
            have cx := hB.box.cell
            have co := hB.out.cell
            go_wp2_with (first | (with_reducible refine wpList_load_at rfl 32 _ rfl b' off' rfl _ _ (hr0.below hB0 (by omega)) Try.underlying32 rfl (by kernel_rfl) ?_) | (refine wpList_load_atG rfl 32 _ rfl b' off' rfl _ _ (hr0.below hB0 (by omega)) Try.underlying32 rfl (by kernel_rfl) ?_))
            refine ((ris0_any _ _ wr.heap.size _ hB0.size (hy0.toIs.carry hB0) hok0).mono ?_)
            rintro r w1 ⟨rfl, hb1⟩
            rw [hd0, q0]
            replace hB := hB.lat hb1
            replace hB0 := hB0.th hb1
            clear hb1
            try clear cx co
            have cx := hB.box.cell
            have co := hB.out.cell
            go_wp2_with (first | (with_reducible refine wpList_load_at rfl 32 _ rfl b' off' rfl _ _ (hr0.below hB0 (by omega)) Try.underlying32 rfl (by kernel_rfl) ?_) | (refine wpList_load_atG rfl 32 _ rfl b' off' rfl _ _ (hr0.below hB0 (by omega)) Try.underlying32 rfl (by kernel_rfl) ?_))
            refine ((ris0_any _ _ wr.heap.size _ hB0.size (hy0.toIs.carry hB0) hok0).mono ?_)
            rintro r w1 ⟨rfl, hb1⟩
            rw [hd0, q0]
            replace hB := hB.lat hb1
            replace hB0 := hB0.th hb1
            clear hb1
            try clear cx co
            have cx := hB.box.cell
            have co := hB.out.cell
            go_wp2_with fail
            refine (rflag_t _).mono ?_
            rintro r w3 ⟨rfl, hb3⟩
            replace hB := hB.lat hb3
            have hr3 := hB.res.setRow #[.int .i64 1, .int .i64 0, .int .i64 0, .string { data := #[] }, .int .i64 1, .int .i64 1, .string { data := #[] }, .int .i64 0, .string { data := #[] }, .string { data := #[] }, .slice none 0 0]
            have hbw3 := hB.fin #[.int .i64 1, .int .i64 0, .int .i64 0, .string { data := #[] }, .int .i64 1, .int .i64 1, .string { data := #[] }, .int .i64 0, .string { data := #[] }, .string { data := #[] }, .slice none 0 0]
            clear hb3
            try clear cx co
            go_wp2_with (refine wpList_store_row rfl 32 _ _ rfl (w.heap.size + 1) _ rfl rfl 32 _ hB.res (by kernel_rfl : (Try.prog.info? 32).map (·.size) = some 11) rfl (by kernel_rfl) ?_)
            have cR := hr3.cell
            refine bodyPost_ret (v := ?_) ?_ rfl ?_
            rotate_left
            · simp [results, Try.results66, go_sem, cR]; exact rfl
            rw [HJ.out]
            exact ⟨⟨_, rfl, leaf_t _ _⟩, hbw3⟩
          · have hR : R = .mk ⟨6, n, m, nm, vk, vn, vs, dv, cl, at_⟩ [k0] := by rw [hJ, q0, q1]; rfl
            have HJ := Lib.hid hR
            clear hJ hR
            go_wp2_with (first | (with_reducible refine wpList_load_at rfl 32 _ rfl b' off' rfl _ _ (hr0.below hB0 (by omega)) Try.underlying32 rfl (by kernel_rfl) ?_) | (refine wpList_load_atG rfl 32 _ rfl b' off' rfl _ _ (hr0.below hB0 (by omega)) Try.underlying32 rfl (by kernel_rfl) ?_))
            refine ((ris1_any _ _ wr.heap.size _ hB0.size (hy0.toIs.carry hB0) hok0).mono ?_)
            rintro r w1 ⟨rfl, hb1⟩
            rw [hd0, q1]
            replace hB := hB.lat hb1
            replace hB0 := hB0.th hb1
            clear hb1
            try clear cx co
            have cx := hB.box.cell
            have co := hB.out.cell
            go_wp2_with (first | (with_reducible refine wpList_load_at rfl 32 _ rfl b' off' rfl _ _ (hr0.below hB0 (by omega)) Try.underlying32 rfl (by kernel_rfl) ?_) | (refine wpList_load_atG rfl 32 _ rfl b' off' rfl _ _ (hr0.below hB0 (by omega)) Try.underlying32 rfl (by kernel_rfl) ?_))
            refine ((ris0_any _ _ wr.heap.size _ hB0.size (hy0.toIs.carry hB0) hok0).mono ?_)
            rintro r w1 ⟨rfl, hb1⟩
            rw [hd0, q0]
            replace hB := hB.lat hb1
            replace hB0 := hB0.th hb1
            clear hb1
            try clear cx co
            have cx := hB.box.cell
            have co := hB.out.cell
            have hn2 := hnode.carry (fun k hk hkl => hB0.block k hkl)
            clear hnode hr0 hy0 hB0
            have hr3 := hB.res.setRow #[.int .i64 6, .int .i64 n, .int .i64 m, .string nm, .int .i64 vk, .int .i64 vn, .string vs, .int .i64 dv, .string cl, .string at_, .slice (some ⟨b', off', none⟩) 1 c']
            have he3 := hB.back hn2 #[.int .i64 6, .int .i64 n, .int .i64 m, .string nm, .int .i64 vk, .int .i64 vn, .string vs, .int .i64 dv, .string cl, .string at_, .slice (some ⟨b', off', none⟩) 1 c']
            have hbw3 := hB.fin #[.int .i64 6, .int .i64 n, .int .i64 m, .string nm, .int .i64 vk, .int .i64 vn, .string vs, .int .i64 dv, .string cl, .string at_, .slice (some ⟨b', off', none⟩) 1 c']
            clear hn2
            go_wp2_with (refine wpList_store_row rfl 32 _ _ rfl (w.heap.size + 1) _ rfl rfl 32 _ hB.res (by kernel_rfl : (Try.prog.info? 32).map (·.size) = some 11) rfl (cells_one ⟨6, n, m, nm, vk, vn, vs, dv, cl, at_⟩ (some ⟨b', off', none⟩) 1 c') ?_)
            have cR := hr3.cell
            refine bodyPost_ret (v := ?_) ?_ rfl ?_
            rotate_left
            · simp [results, Try.results66, go_sem, cR]; exact rfl
            rw [HJ.out]
            exact ⟨⟨_, rfl, _, rfl, he3⟩, hbw3⟩
      · -- and
        have hR : R = junF 0 (.mk ⟨7, n, m, nm, vk, vn, vs, dv, cl, at_⟩ kl) := by rw [HJ0.out, if_neg (by omega), if_pos rfl]
        have HJ := Lib.hid hR
        have HQ := Lib.hid (rjun0_any _ _ (w.heap.size + 3 ≤ ·) wr (fun b hb => Nat.le_trans hB.size hb) ⟨_, rfl, hnode⟩ hoks')
        clear hR HJ0 hko hA' hrow' hk' hoks' hnode hB0
        go_wp2_with fail
        refine HQ.out.mono ?_
        clear HQ
        rintro r w3 ⟨⟨v', rfl, cs', rfl, he'⟩, hb3⟩
        obtain ⟨hd2, k2, A2, c2, hcs2⟩ := he'.form
        subst hcs2
        replace hB := hB.lat hb3
        have hr3 := hB.res.setRow (hd2.cells (.slice A2 k2 c2)).toArray
        have he3 := hB.back he' (hd2.cells (.slice A2 k2 c2)).toArray
        have hbw3 := hB.fin (hd2.cells (.slice A2 k2 c2)).toArray
        clear he' hb3
        try clear cx co
        unfold Hd.cells at hr3 he3 hbw3 ⊢
        go_wp2_with (refine wpList_store_row rfl 32 _ _ rfl (w.heap.size + 1) _ rfl rfl 32 _ hB.res (by kernel_rfl : (Try.prog.info? 32).map (·.size) = some 11) rfl (cells_one hd2 A2 k2 c2) ?_)
        have cR := hr3.cell
        refine bodyPost_ret (v := ?_) ?_ rfl ?_
        rotate_left
        · simp [results, Try.results66, go_sem, cR]; exact rfl
        rw [HJ.out]
        exact ⟨⟨_, rfl, _, rfl, he3⟩, hbw3⟩
      · -- or
        have hR : R = junF 1 (.mk ⟨8, n, m, nm, vk, vn, vs, dv, cl, at_⟩ kl) := by rw [HJ0.out, if_neg (by omega), if_neg (by omega), if_pos rfl]
        have HJ := Lib.hid hR
        have HQ := Lib.hid (rjun1_any _ _ (w.heap.size + 3 ≤ ·) wr (fun b hb => Nat.le_trans hB.size hb) ⟨_, rfl, hnode⟩ hoks')
        clear hR HJ0 hko hA' hrow' hk' hoks' hnode hB0
        go_wp2_with fail
        refine HQ.out.mono ?_
        clear HQ
        rintro r w3 ⟨⟨v', rfl, cs', rfl, he'⟩, hb3⟩
        obtain ⟨hd2, k2, A2, c2, hcs2⟩ := he'.form
        subst hcs2
        replace hB := hB.lat hb3
        have hr3 := hB.res.setRow (hd2.cells (.slice A2 k2 c2)).toArray
        have he3 := hB.back he' (hd2.cells (.slice A2 k2 c2)).toArray
        have hbw3 := hB.fin (hd2.cells (.slice A2 k2 c2)).toArray
        clear he' hb3
        try clear cx co
        unfold Hd.cells at hr3 he3 hbw3 ⊢
        go_wp2_with (refine wpList_store_row rfl 32 _ _ rfl (w.heap.size + 1) _ rfl rfl 32 _ hB.res (by kernel_rfl : (Try.prog.info? 32).map (·.size) = some 11) rfl (cells_one hd2 A2 k2 c2) ?_)
        have cR := hr3.cell
        refine bodyPost_ret (v := ?_) ?_ rfl ?_
        rotate_left
        · simp [results, Try.results66, go_sem, cR]; exact rfl
        rw [HJ.out]
        exact ⟨⟨_, rfl, _, rfl, he3⟩, hbw3⟩
      · obtain ⟨k0, k1, rfl⟩ := len2 (ks := kl) (by rcases hko with h | h | h | h | h <;> omega)
        obtain ⟨rfl, hbB⟩ := hA' (by simp)
        have hr0 := hrow' 0 (by simp)
        obtain ⟨h0', n0, A0, c0, e0⟩ := (hk' 0 (by simp)).form
        have hy0 := hk' 0 (by simp)
        have hbl0 := rowAt_lt hr0 (by rw [hsz']; omega)
        rw [e0] at hr0 hy0
        have hd0 := hd_of (hk' 0 (by simp)) e0
        simp only [List.getElem_cons_zero, List.getElem_cons_succ, Nat.zero_mul, Nat.one_mul, Nat.add_zero, Nat.reduceMul] at hd0 hr0 hy0
        have hr1 := hrow' 1 (by simp)
        obtain ⟨h1', n1, A1, c1, e1⟩ := (hk' 1 (by simp)).form
        have hy1 := hk' 1 (by simp)
        have hbl1 := rowAt_lt hr1 (by rw [hsz']; omega)
        rw [e1] at hr1 hy1
        have hd1 := hd_of (hk' 1 (by simp)) e1
        simp only [List.getElem_cons_zero, List.getElem_cons_succ, Nat.zero_mul, Nat.one_mul, Nat.add_zero, Nat.reduceMul] at hd1 hr1 hy1
        have hia := okP (hk' 0 (by simp)) e0
        have hib := okP (hk' 1 (by simp)) e1
        have hJ : R = binF ⟨9, n, m, nm, vk, vn, vs, dv, cl, at_⟩ k0 k1 := by rw [HJ0.out, if_neg (by omega), if_neg (by omega), if_neg (by omega), if_pos (by omega)]; rfl
        rw [binF_eq, hd0, hd1] at hJ
        dsimp only at hJ
        clear HJ0 hko hA' hrow' hk' hoks' e0 e1 hd0 hd1 hy0 hy1
        simp only [List.length_cons, List.length_nil, Nat.reduceAdd] at hnode cx co hB ⊢
        unfold Hd.cells at hr0 hr1
        have r00 := hr0 0 _ rfl
        have r10 := hr1 0 _ rfl
        simp only [Nat.add_zero] at r00 r10
        by_cases ha1 : h0'.kind = 1
        · have qa : (h0'.kind != 1) = false := by simpa using ha1
          by_cases hb1 : h1'.kind = 1
          · have qb : (h1'.kind != 1) = false := by simpa using hb1
            have hv0 : RowAt wr b' (off' + 4) [.int .i64 h0'.vk, .int .i64 h0'.vn, .string h0'.vs] := hr0.sub 4 3
            have hv1 : RowAt wr b' (off' + 11 + 4) [.int .i64 h1'.vk, .int .i64 h1'.vn, .string h1'.vs] := hr1.sub 4 3
            clear hr0 hr1
            go_upto_region 18 with fail
            have hO0 : FB wr.heap.size wr wr := ⟨Below.refl _ _, Nat.le_refl _⟩
            have hu := Try.underlying27
            have hia' : (Try.prog.info? 27).map (·.size) = some ([.int .i64 h0'.vk, .int .i64 h0'.vn, .string h0'.vs] : List Value).length := by kernel_rfl
            have hib' : (Try.prog.info? 27).map (·.size) = some ([.int .i64 h1'.vk, .int .i64 h1'.vn, .string h1'.vs] : List Value).length := by kernel_rfl
            go_cut [6, 7] (fun s6 s7 wx => ∃ ga gb : Nat, s6 = .pointer (some ⟨ga, 0, none⟩) ∧ s7 = .pointer (some ⟨gb, 0, none⟩) ∧ Blk wx ga 27 #[.int .i64 h0'.vk, .int .i64 h0'.vn, .string h0'.vs] ∧ Blk wx gb 27 #[.int .i64 h1'.vk, .int .i64 h1'.vn, .string h1'.vs] ∧ FB wr.heap.size wr wx)
            case first =>
              refine wp_region_held_drew (S := fun w' => FB wr.heap.size wr w') (by kernel_rfl) (FB.dr hO0) (fun hHeld => ?_)
              refine wpAnyH_take (i := 0) (oi := { dst := some 110, op := Op.move (Operand.tmp 5), type := 30, pos := "ref.go:235", after := #[], guard := none }) (v := .slice (some ⟨b', off', none⟩) 2 c') rfl (by kernel_rfl) (by kernel_rfl) (by kernel_rfl) (fun _ _ _ h => h) (Or.inl ⟨rfl, ?_⟩) hHeld ?_
              · intro w' hS
                go_simp
              simp only [Act.put, List.setIfInBounds_toArray, List.set_cons_zero, List.set_cons_succ]
              refine wpAnyH_take (i := 1) (oi := { dst := some 111, op := Op.indexAddr 30 (Operand.tmp 110) (Operand.const (Value.int IntKind.i64 0)), type := 0, pos := "ref.go:235", after := #[{ on := 0, ground := Ground.data }], guard := none }) (v := .pointer (some ⟨b', off', none⟩)) rfl (by kernel_rfl) (by kernel_rfl) (by kernel_rfl) (fun _ _ _ h => h) (Or.inl ⟨rfl, ?_⟩) hHeld ?_
              · intro w' hS
                go_simp
              simp only [Act.put, List.setIfInBounds_toArray, List.set_cons_zero, List.set_cons_succ]
              refine wpAnyH_take (i := 2) (oi := { dst := some 112, op := Op.fieldAddr 32 (Operand.tmp 111) 4, type := 0, pos := "ref.go:235", after := #[{ on := 1, ground := Ground.data }], guard := none }) (v := .pointer (some ⟨b', off' + 4, none⟩)) rfl (by kernel_rfl) (by kernel_rfl) (by kernel_rfl) (fun _ _ _ h => h) (Or.inl ⟨rfl, ?_⟩) hHeld ?_
              · intro w' hS
                go_simp
              simp only [Act.put, List.setIfInBounds_toArray, List.set_cons_zero, List.set_cons_succ]
              refine wpAnyH_take (i := 3) (oi := { dst := some 113, op := Op.load 27 (Operand.tmp 112), type := 27, pos := "ref.go:235", after := #[{ on := 2, ground := Ground.data }], guard := none }) (v := .agg #[.int .i64 h0'.vk, .int .i64 h0'.vn, .string h0'.vs]) rfl (by kernel_rfl) (by kernel_rfl) (by kernel_rfl) (fun _ _ _ h => h) (Or.inl ⟨rfl, ?_⟩) hHeld ?_
              · intro w' hS
                (exact yields_load_at 27 _ rfl b' (off' + 4) rfl [.int .i64 h0'.vk, .int .i64 h0'.vn, .string h0'.vs] _ (hv0.below hS.1 hbl0) Try.underlying27 rfl hia')
              simp only [Act.put, List.setIfInBounds_toArray, List.set_cons_zero, List.set_cons_succ]
              refine wpAnyH_take (i := 4) (oi := { dst := some 114, op := Op.move (Operand.tmp 5), type := 30, pos := "ref.go:235", after := #[{ on := 10, ground := Ground.gcOnly Departure.lateStores }], guard := none }) (v := .slice (some ⟨b', off', none⟩) 2 c') rfl (by kernel_rfl) (by kernel_rfl) (by kernel_rfl) (fun _ _ _ h => h) (Or.inl ⟨rfl, ?_⟩) hHeld ?_
              · intro w' hS
                go_simp
              simp only [Act.put, List.setIfInBounds_toArray, List.set_cons_zero, List.set_cons_succ]
              refine wpAnyH_take (i := 5) (oi := { dst := some 115, op := Op.indexAddr 30 (Operand.tmp 114) (Operand.const (Value.int IntKind.i64 1)), type := 0, pos := "ref.go:235", after := #[{ on := 4, ground := Ground.data }, { on := 10, ground := Ground.gcOnly Departure.lateStores }], guard := none }) (v := .pointer (some ⟨b', off' + 11, none⟩)) rfl (by kernel_rfl) (by kernel_rfl) (by kernel_rfl) (fun _ _ _ h => h) (Or.inl ⟨rfl, ?_⟩) hHeld ?_
              · intro w' hS
                go_simp
              simp only [Act.put, List.setIfInBounds_toArray, List.set_cons_zero, List.set_cons_succ]
              refine wpAnyH_take (i := 6) (oi := { dst := some 116, op := Op.fieldAddr 32 (Operand.tmp 115) 4, type := 0, pos := "ref.go:235", after := #[{ on := 5, ground := Ground.data }, { on := 10, ground := Ground.gcOnly Departure.lateStores }], guard := none }) (v := .pointer (some ⟨b', off' + 11 + 4, none⟩)) rfl (by kernel_rfl) (by kernel_rfl) (by kernel_rfl) (fun _ _ _ h => h) (Or.inl ⟨rfl, ?_⟩) hHeld ?_
              · intro w' hS
                go_simp
              simp only [Act.put, List.setIfInBounds_toArray, List.set_cons_zero, List.set_cons_succ]
              refine wpAnyH_take (i := 7) (oi := { dst := some 117, op := Op.load 27 (Operand.tmp 116), type := 27, pos := "ref.go:235", after := #[{ on := 6, ground := Ground.data }, { on := 10, ground := Ground.gcOnly Departure.lateStores }], guard := none }) (v := .agg #[.int .i64 h1'.vk, .int .i64 h1'.vn, .string h1'.vs]) rfl (by kernel_rfl) (by kernel_rfl) (by kernel_rfl) (fun _ _ _ h => h) (Or.inl ⟨rfl, ?_⟩) hHeld ?_
              · intro w' hS
                (exact yields_load_at 27 _ rfl b' (off' + 11 + 4) rfl [.int .i64 h1'.vk, .int .i64 h1'.vn, .string h1'.vs] _ (hv1.below hS.1 hbl1) Try.underlying27 rfl hib')
              simp only [Act.put, List.setIfInBounds_toArray, List.set_cons_zero, List.set_cons_succ]
              refine wpAnyH_ready (rs := [8, 9]) (by kernel_rfl) (by simp) ?_
              refine AllReadyH.cons (o := { dst := some 6, op := Op.alloc 27, type := 0, pos := "ref.go:235", after := #[], guard := none }) rfl (fun K hK => ?_) ?_
              · go_simp
                refine hK.out _ _ (by ((repeat (first | assumption | refine FB.dr ?_ | refine FB.al ?_ _ | refine FB.th ?_ (by assumption) | refine FB.far ?_ (by omega) _ _ | refine FB.cells ?_ (by first | exact Nat.le_refl _ | omega | (simp; omega)) _ _)); done)) (fun hHeld => ?_)
                clear hK K
                try simp only [Act.put, List.setIfInBounds_toArray, List.set_cons_zero, List.set_cons_succ]
                have hz1 := Blk.nx (w := wr.drew) (g := wr.heap.size) 27 #[.int .i64 0, .int .i64 0, .string { data := #[] }] rfl
                refine wpAnyH_ready (rs := [9]) (by kernel_rfl) (by simp) ?_
                refine AllReadyH.cons (o := { dst := some 7, op := Op.alloc 27, type := 0, pos := "ref.go:235", after := #[], guard := none }) rfl (fun K hK => ?_) AllReadyH.nil
                go_simp
                refine hK.out _ _ (by ((repeat (first | assumption | refine FB.dr ?_ | refine FB.al ?_ _ | refine FB.th ?_ (by assumption) | refine FB.far ?_ (by omega) _ _ | refine FB.cells ?_ (by first | exact Nat.le_refl _ | omega | (simp; omega)) _ _)); done)) (fun hHeld => ?_)
                clear hK K
                try simp only [Act.put, List.setIfInBounds_toArray, List.set_cons_zero, List.set_cons_succ]
                have hz1' := hz1.alloc (.cells #[.int .i64 0, .int .i64 0, .string { data := #[] }] 27)
                have hz2 := Blk.nx (w := wr.drew.alloc (.cells #[.int .i64 0, .int .i64 0, .string { data := #[] }] 27)) (g := wr.heap.size + 1) 27 #[.int .i64 0, .int .i64 0, .string { data := #[] }] (by simp)
                refine wpAnyH_ready (rs := [10]) (by kernel_rfl) (by simp) ?_
                refine AllReadyH.cons (o := { dst := none, op := Op.store 27 (Operand.tmp 6) (Operand.tmp 113), type := 0, pos := "ref.go:235", after := #[{ on := 8, ground := Ground.data }, { on := 3, ground := Ground.data }, { on := 0, ground := Ground.phase }, { on := 1, ground := Ground.phase }, { on := 2, ground := Ground.phase }, { on := 3, ground := Ground.phase }, { on := 4, ground := Ground.textOnly Departure.lateStores }, { on := 5, ground := Ground.textOnly Departure.lateStores }, { on := 6, ground := Ground.textOnly Departure.lateStores }, { on := 7, ground := Ground.textOnly Departure.lateStores }, { on := 8, ground := Ground.phase }, { on := 9, ground := Ground.phase }], guard := none }) rfl (fun K hK => ?_) AllReadyH.nil
                refine take_op rfl ?_
                refine wp_store_row 27 _ _ rfl (wr.heap.size) _ rfl rfl 27 _ hz1' (by kernel_rfl : (Try.prog.info? 27).map (·.size) = some 3) rfl (val3_one _ _ _) ?_
                refine hK.out _ _ (FB.row hHeld (by omega) _) (fun hHeld => ?_)
                clear hK K
                try simp only [Act.put, List.setIfInBounds_toArray, List.set_cons_zero, List.set_cons_succ]
                have hz3 := Blk.setRow hz1' #[.int .i64 h0'.vk, .int .i64 h0'.vn, .string h0'.vs]
                have hz4 := Blk.apart hz2 (g' := wr.heap.size) #[.int .i64 h0'.vk, .int .i64 h0'.vn, .string h0'.vs] (by omega)
                refine wpAnyH_ready (rs := [11]) (by kernel_rfl) (by simp) ?_
                refine AllReadyH.cons (o := { dst := none, op := Op.store 27 (Operand.tmp 7) (Operand.tmp 117), type := 0, pos := "ref.go:235", after := #[{ on := 9, ground := Ground.data }, { on := 7, ground := Ground.data }, { on := 10, ground := Ground.chain }, { on := 0, ground := Ground.phase }, { on := 1, ground := Ground.phase }, { on := 2, ground := Ground.phase }, { on := 3, ground := Ground.phase }, { on := 4, ground := Ground.phase }, { on := 5, ground := Ground.phase }, { on := 6, ground := Ground.phase }, { on := 7, ground := Ground.phase }, { on := 8, ground := Ground.phase }, { on := 9, ground := Ground.phase }, { on := 10, ground := Ground.phase }], guard := none }) rfl (fun K hK => ?_) AllReadyH.nil
                refine take_op rfl ?_
                refine wp_store_row 27 _ _ rfl (wr.heap.size + 1) _ rfl rfl 27 _ hz4 (by kernel_rfl : (Try.prog.info? 27).map (·.size) = some 3) rfl (val3_one _ _ _) ?_
                refine hK.out _ _ (FB.row hHeld (by omega) _) (fun hHeld => ?_)
                clear hK K
                try simp only [Act.put, List.setIfInBounds_toArray, List.set_cons_zero, List.set_cons_succ]
                have hz5 := Blk.setRow hz4 #[.int .i64 h1'.vk, .int .i64 h1'.vn, .string h1'.vs]
                have hz6 := Blk.apart hz3 (g' := wr.heap.size + 1) #[.int .i64 h1'.vk, .int .i64 h1'.vn, .string h1'.vs] (by omega)
                refine wpAnyH_done (by kernel_rfl) ?_ _
                go_wp2_with fail
                go_meet
                exact ⟨_, _, rfl, rfl, hz6, hz5, hHeld⟩
              refine AllReadyH.cons (o := { dst := some 7, op := Op.alloc 27, type := 0, pos := "ref.go:235", after := #[], guard := none }) rfl (fun K hK => ?_) AllReadyH.nil
              · go_simp
                refine hK.out _ _ (by ((repeat (first | assumption | refine FB.dr ?_ | refine FB.al ?_ _ | refine FB.th ?_ (by assumption) | refine FB.far ?_ (by omega) _ _ | refine FB.cells ?_ (by first | exact Nat.le_refl _ | omega | (simp; omega)) _ _)); done)) (fun hHeld => ?_)
                clear hK K
                try simp only [Act.put, List.setIfInBounds_toArray, List.set_cons_zero, List.set_cons_succ]
                have hz1 := Blk.nx (w := wr.drew) (g := wr.heap.size) 27 #[.int .i64 0, .int .i64 0, .string { data := #[] }] rfl
                refine wpAnyH_ready (rs := [8]) (by kernel_rfl) (by simp) ?_
                refine AllReadyH.cons (o := { dst := some 6, op := Op.alloc 27, type := 0, pos := "ref.go:235", after := #[], guard := none }) rfl (fun K hK => ?_) AllReadyH.nil
                go_simp
                refine hK.out _ _ (by ((repeat (first | assumption | refine FB.dr ?_ | refine FB.al ?_ _ | refine FB.th ?_ (by assumption) | refine FB.far ?_ (by omega) _ _ | refine FB.cells ?_ (by first | exact Nat.le_refl _ | omega | (simp; omega)) _ _)); done)) (fun hHeld => ?_)
                clear hK K
                try simp only [Act.put, List.setIfInBounds_toArray, List.set_cons_zero, List.set_cons_succ]
                have hz1' := hz1.alloc (.cells #[.int .i64 0, .int .i64 0, .string { data := #[] }] 27)
                have hz2 := Blk.nx (w := wr.drew.alloc (.cells #[.int .i64 0, .int .i64 0, .string { data := #[] }] 27)) (g := wr.heap.size + 1) 27 #[.int .i64 0, .int .i64 0, .string { data := #[] }] (by simp)
                refine wpAnyH_ready (rs := [10]) (by kernel_rfl) (by simp) ?_
                refine AllReadyH.cons (o := { dst := none, op := Op.store 27 (Operand.tmp 6) (Operand.tmp 113), type := 0, pos := "ref.go:235", after := #[{ on := 8, ground := Ground.data }, { on := 3, ground := Ground.data }, { on := 0, ground := Ground.phase }, { on := 1, ground := Ground.phase }, { on := 2, ground := Ground.phase }, { on := 3, ground := Ground.phase }, { on := 4, ground := Ground.textOnly Departure.lateStores }, { on := 5, ground := Ground.textOnly Departure.lateStores }, { on := 6, ground := Ground.textOnly Departure.lateStores }, { on := 7, ground := Ground.textOnly Departure.lateStores }, { on := 8, ground := Ground.phase }, { on := 9, ground := Ground.phase }], guard := none }) rfl (fun K hK => ?_) AllReadyH.nil
                refine take_op rfl ?_
                refine wp_store_row 27 _ _ rfl (wr.heap.size + 1) _ rfl rfl 27 _ hz2 (by kernel_rfl : (Try.prog.info? 27).map (·.size) = some 3) rfl (val3_one _ _ _) ?_
                refine hK.out _ _ (FB.row hHeld (by omega) _) (fun hHeld => ?_)
                clear hK K
                try simp only [Act.put, List.setIfInBounds_toArray, List.set_cons_zero, List.set_cons_succ]
                have hz3 := Blk.setRow hz2 #[.int .i64 h0'.vk, .int .i64 h0'.vn, .string h0'.vs]
                have hz4 := Blk.apart hz1' (g' := wr.heap.size + 1) #[.int .i64 h0'.vk, .int .i64 h0'.vn, .string h0'.vs] (by omega)
                refine wpAnyH_ready (rs := [11]) (by kernel_rfl) (by simp) ?_
                refine AllReadyH.cons (o := { dst := none, op := Op.store 27 (Operand.tmp 7) (Operand.tmp 117), type := 0, pos := "ref.go:235", after := #[{ on := 9, ground := Ground.data }, { on := 7, ground := Ground.data }, { on := 10, ground := Ground.chain }, { on := 0, ground := Ground.phase }, { on := 1, ground := Ground.phase }, { on := 2, ground := Ground.phase }, { on := 3, ground := Ground.phase }, { on := 4, ground := Ground.phase }, { on := 5, ground := Ground.phase }, { on := 6, ground := Ground.phase }, { on := 7, ground := Ground.phase }, { on := 8, ground := Ground.phase }, { on := 9, ground := Ground.phase }, { on := 10, ground := Ground.phase }], guard := none }) rfl (fun K hK => ?_) AllReadyH.nil
                refine take_op rfl ?_
                refine wp_store_row 27 _ _ rfl (wr.heap.size) _ rfl rfl 27 _ hz4 (by kernel_rfl : (Try.prog.info? 27).map (·.size) = some 3) rfl (val3_one _ _ _) ?_
                refine hK.out _ _ (FB.row hHeld (by omega) _) (fun hHeld => ?_)
                clear hK K
                try simp only [Act.put, List.setIfInBounds_toArray, List.set_cons_zero, List.set_cons_succ]
                have hz5 := Blk.setRow hz4 #[.int .i64 h1'.vk, .int .i64 h1'.vn, .string h1'.vs]
                have hz6 := Blk.apart hz3 (g' := wr.heap.size) #[.int .i64 h1'.vk, .int .i64 h1'.vn, .string h1'.vs] (by omega)
                refine wpAnyH_done (by kernel_rfl) ?_ _
                go_wp2_with fail
                go_meet
                exact ⟨_, _, rfl, rfl, hz6, hz5, hHeld⟩
            case rest =>
              obtain ⟨ga, gb, rfl, rfl, hga, hgb, hfb⟩ := hcut
              replace hB := hB.lat hfb.1
              have hn2 := hnode.carry (fun k hk hkl => hfb.1.block k hkl)
              clear hnode hv0 hv1 hO0 hu hia' hib' hfb cx co r00 r10 hB0
              have cx := hB.box.cell
              have co := hB.out.cell
              have ca' := hga.cell
              have cb' := hgb.cell
              have hR : R = .mk (litB (eqV h0' h1')) [] := by rw [hJ, if_pos rfl, if_pos ⟨ha1, hb1⟩]
              clear hJ hn2 ha1 hb1
              by_cases e1 : h0'.vk = h1'.vk
              · by_cases e2 : h0'.vn = h1'.vn
                · by_cases e3 : h0'.vs = h1'.vs
                  · have hE : eqV h0' h1' = true := by simp [eqV, e1, e2, e3]
                    rw [hE] at hR
                    have HJ := Lib.hid hR
                    clear hR
                    have e3' : h0'.vs.toList = h1'.vs.toList := by rw [e3]
                    go_wp2_with fail
                    refine (rflag_t _).mono ?_
                    rintro r w3 ⟨rfl, hb3⟩
                    replace hB := hB.lat hb3
                    have hr3 := hB.res.setRow #[.int .i64 1, .int .i64 0, .int .i64 0, .string { data := #[] }, .int .i64 1, .int .i64 1, .string { data := #[] }, .int .i64 0, .string { data := #[] }, .string { data := #[] }, .slice none 0 0]
                    have hbw3 := hB.fin #[.int .i64 1, .int .i64 0, .int .i64 0, .string { data := #[] }, .int .i64 1, .int .i64 1, .string { data := #[] }, .int .i64 0, .string { data := #[] }, .string { data := #[] }, .slice none 0 0]
                    clear hb3
                    try clear cx co
                    go_wp2_with (refine wpList_store_row rfl 32 _ _ rfl (w.heap.size + 1) _ rfl rfl 32 _ hB.res (by kernel_rfl : (Try.prog.info? 32).map (·.size) = some 11) rfl (by kernel_rfl) ?_)
                    have cR := hr3.cell
                    refine bodyPost_ret (v := ?_) ?_ rfl ?_
                    rotate_left
                    · simp [results, Try.results66, go_sem, cR]; exact rfl
                    rw [HJ.out]
                    exact ⟨⟨_, rfl, leaf_t _ _⟩, hbw3⟩
                  · have hE : eqV h0' h1' = false := by simp [eqV, e3]
                    rw [hE] at hR
                    have HJ := Lib.hid hR
                    clear hR
                    have e3' : ¬ h0'.vs.toList = h1'.vs.toList := fun h => e3 ((toList_inj _ _).1 h)
                    go_wp2_with fail
                    refine (rflag_f _).mono ?_
                    rintro r w3 ⟨rfl, hb3⟩
                    replace hB := hB.lat hb3
                    have hr3 := hB.res.setRow #[.int .i64 1, .int .i64 0, .int .i64 0, .string { data := #[] }, .int .i64 1, .int .i64 0, .string { data := #[] }, .int .i64 0, .string { data := #[] }, .string { data := #[] }, .slice none 0 0]
                    have hbw3 := hB.fin #[.int .i64 1, .int .i64 0, .int .i64 0, .string { data := #[] }, .int .i64 1, .int .i64 0, .string { data := #[] }, .int .i64 0, .string { data := #[] }, .string { data := #[] }, .slice none 0 0]
                    clear hb3
                    try clear cx co
                    go_wp2_with (refine wpList_store_row rfl 32 _ _ rfl (w.heap.size + 1) _ rfl rfl 32 _ hB.res (by kernel_rfl : (Try.prog.info? 32).map (·.size) = some 11) rfl (by kernel_rfl) ?_)
                    have cR := hr3.cell
                    refine bodyPost_ret (v := ?_) ?_ rfl ?_
                    rotate_left
                    · simp [results, Try.results66, go_sem, cR]; exact rfl
                    rw [HJ.out]
                    exact ⟨⟨_, rfl, leaf_f _ _⟩, hbw3⟩
                · have hE : eqV h0' h1' = false := by simp [eqV, e2]
                  rw [hE] at hR
                  have HJ := Lib.hid hR
                  clear hR
                  go_wp2_with fail
                  refine (rflag_f _).mono ?_
                  rintro r w3 ⟨rfl, hb3⟩
                  replace hB := hB.lat hb3
                  have hr3 := hB.res.setRow #[.int .i64 1, .int .i64 0, .int .i64 0, .string { data := #[] }, .int .i64 1, .int .i64 0, .string { data := #[] }, .int .i64 0, .string { data := #[] }, .string { data := #[] }, .slice none 0 0]
                  have hbw3 := hB.fin #[.int .i64 1, .int .i64 0, .int .i64 0, .string { data := #[] }, .int .i64 1, .int .i64 0, .string { data := #[] }, .int .i64 0, .string { data := #[] }, .string { data := #[] }, .slice none 0 0]
                  clear hb3
                  try clear cx co
                  go_wp2_with (refine wpList_store_row rfl 32 _ _ rfl (w.heap.size + 1) _ rfl rfl 32 _ hB.res (by kernel_rfl : (Try.prog.info? 32).map (·.size) = some 11) rfl (by kernel_rfl) ?_)
                  have cR := hr3.cell
                  refine bodyPost_ret (v := ?_) ?_ rfl ?_
                  rotate_left
                  · simp [results, Try.results66, go_sem, cR]; exact rfl
                  rw [HJ.out]
                  exact ⟨⟨_, rfl, leaf_f _ _⟩, hbw3⟩
              · have hE : eqV h0' h1' = false := by simp [eqV, e1]
                rw [hE] at hR
                have HJ := Lib.hid hR
                clear hR
                go_wp2_with fail
                refine (rflag_f _).mono ?_
                rintro r w3 ⟨rfl, hb3⟩
                replace hB := hB.lat hb3
                have hr3 := hB.res.setRow #[.int .i64 1, .int .i64 0, .int .i64 0, .string { data := #[] }, .int .i64 1, .int .i64 0, .string { data := #[] }, .int .i64 0, .string { data := #[] }, .string { data := #[] }, .slice none 0 0]
                have hbw3 := hB.fin #[.int .i64 1, .int .i64 0, .int .i64 0, .string { data := #[] }, .int .i64 1, .int .i64 0, .string { data := #[] }, .int .i64 0, .string { data := #[] }, .string { data := #[] }, .slice none 0 0]
                clear hb3
                try clear cx co
                go_wp2_with (refine wpList_store_row rfl 32 _ _ rfl (w.heap.size + 1) _ rfl rfl 32 _ hB.res (by kernel_rfl : (Try.prog.info? 32).map (·.size) = some 11) rfl (by kernel_rfl) ?_)
                have cR := hr3.cell
                refine bodyPost_ret (v := ?_) ?_ rfl ?_
                rotate_left
                · simp [results, Try.results66, go_sem, cR]; exact rfl
                rw [HJ.out]
                exact ⟨⟨_, rfl, leaf_f _ _⟩, hbw3⟩
          · have qb : (h1'.kind != 1) = true := by simpa using hb1
            have hR : R = .mk ⟨9, n, m, nm, vk, vn, vs, dv, cl, at_⟩ [k0, k1] := by rw [hJ, if_pos rfl, if_neg (fun h => hb1 h.2)]
            clear ha1
            have HJ := Lib.hid hR
            have hn2 := hnode
            clear hJ hR hnode hr0 hr1 hB0
            have hr3 := hB.res.setRow #[.int .i64 9, .int .i64 n, .int .i64 m, .string nm, .int .i64 vk, .int .i64 vn, .string vs, .int .i64 dv, .string cl, .string at_, .slice (some ⟨b', off', none⟩) 2 c']
            have he3 := hB.back hn2 #[.int .i64 9, .int .i64 n, .int .i64 m, .string nm, .int .i64 vk, .int .i64 vn, .string vs, .int .i64 dv, .string cl, .string at_, .slice (some ⟨b', off', none⟩) 2 c']
            have hbw3 := hB.fin #[.int .i64 9, .int .i64 n, .int .i64 m, .string nm, .int .i64 vk, .int .i64 vn, .string vs, .int .i64 dv, .string cl, .string at_, .slice (some ⟨b', off', none⟩) 2 c']
            clear hn2
            go_wp2_with (refine wpList_store_row rfl 32 _ _ rfl (w.heap.size + 1) _ rfl rfl 32 _ hB.res (by kernel_rfl : (Try.prog.info? 32).map (·.size) = some 11) rfl (cells_one ⟨9, n, m, nm, vk, vn, vs, dv, cl, at_⟩ (some ⟨b', off', none⟩) 2 c') ?_)
            have cR := hr3.cell
            refine bodyPost_ret (v := ?_) ?_ rfl ?_
            rotate_left
            · simp [results, Try.results66, go_sem, cR]; exact rfl
            rw [HJ.out]
            exact ⟨⟨_, rfl, _, rfl, he3⟩, hbw3⟩
        · have qa : (h0'.kind != 1) = true := by simpa using ha1
          have hR : R = .mk ⟨9, n, m, nm, vk, vn, vs, dv, cl, at_⟩ [k0, k1] := by rw [hJ, if_pos rfl, if_neg (fun h => ha1 h.1)]
          have HJ := Lib.hid hR
          have hn2 := hnode
          clear hJ hR hnode hr0 hr1 hB0
          have hr3 := hB.res.setRow #[.int .i64 9, .int .i64 n, .int .i64 m, .string nm, .int .i64 vk, .int .i64 vn, .string vs, .int .i64 dv, .string cl, .string at_, .slice (some ⟨b', off', none⟩) 2 c']
          have he3 := hB.back hn2 #[.int .i64 9, .int .i64 n, .int .i64 m, .string nm, .int .i64 vk, .int .i64 vn, .string vs, .int .i64 dv, .string cl, .string at_, .slice (some ⟨b', off', none⟩) 2 c']
          have hbw3 := hB.fin #[.int .i64 9, .int .i64 n, .int .i64 m, .string nm, .int .i64 vk, .int .i64 vn, .string vs, .int .i64 dv, .string cl, .string at_, .slice (some ⟨b', off', none⟩) 2 c']
          clear hn2
          go_wp2_with (refine wpList_store_row rfl 32 _ _ rfl (w.heap.size + 1) _ rfl rfl 32 _ hB.res (by kernel_rfl : (Try.prog.info? 32).map (·.size) = some 11) rfl (cells_one ⟨9, n, m, nm, vk, vn, vs, dv, cl, at_⟩ (some ⟨b', off', none⟩) 2 c') ?_)
          have cR := hr3.cell
          refine bodyPost_ret (v := ?_) ?_ rfl ?_
          rotate_left
          · simp [results, Try.results66, go_sem, cR]; exact rfl
          rw [HJ.out]
          exact ⟨⟨_, rfl, _, rfl, he3⟩, hbw3⟩
      · obtain ⟨k0, k1, rfl⟩ := len2 (ks := kl) (by rcases hko with h | h | h | h | h <;> omega)
        obtain ⟨rfl, hbB⟩ := hA' (by simp)
        have hr0 := hrow' 0 (by simp)
        obtain ⟨h0', n0, A0, c0, e0⟩ := (hk' 0 (by simp)).form
        have hy0 := hk' 0 (by simp)
        have hbl0 := rowAt_lt hr0 (by rw [hsz']; omega)
        rw [e0] at hr0 hy0
        have hd0 := hd_of (hk' 0 (by simp)) e0
        simp only [List.getElem_cons_zero, List.getElem_cons_succ, Nat.zero_mul, Nat.one_mul, Nat.add_zero, Nat.reduceMul] at hd0 hr0 hy0
        have hr1 := hrow' 1 (by simp)
        obtain ⟨h1', n1, A1, c1, e1⟩ := (hk' 1 (by simp)).form
        have hy1 := hk' 1 (by simp)
        have hbl1 := rowAt_lt hr1 (by rw [hsz']; omega)
        rw [e1] at hr1 hy1
        have hd1 := hd_of (hk' 1 (by simp)) e1
        simp only [List.getElem_cons_zero, List.getElem_cons_succ, Nat.zero_mul, Nat.one_mul, Nat.add_zero, Nat.reduceMul] at hd1 hr1 hy1
        have hia := okP (hk' 0 (by simp)) e0
        have hib := okP (hk' 1 (by simp)) e1
        have hJ : R = binF ⟨10, n, m, nm, vk, vn, vs, dv, cl, at_⟩ k0 k1 := by rw [HJ0.out, if_neg (by omega), if_neg (by omega), if_neg (by omega), if_pos (by omega)]; rfl
        rw [binF_eq, hd0, hd1] at hJ
        dsimp only at hJ
        clear HJ0 hko hA' hrow' hk' hoks' e0 e1 hd0 hd1 hy0 hy1
        simp only [List.length_cons, List.length_nil, Nat.reduceAdd] at hnode cx co hB ⊢
        unfold Hd.cells at hr0 hr1
        have r00 := hr0 0 _ rfl
        have r10 := hr1 0 _ rfl
        simp only [Nat.add_zero] at r00 r10
        by_cases ha1 : h0'.kind = 1
        · have qa : (h0'.kind != 1) = false := by simpa using ha1
          by_cases hb1 : h1'.kind = 1
          · have qb : (h1'.kind != 1) = false := by simpa using hb1
            have hv0 : RowAt wr b' (off' + 4) [.int .i64 h0'.vk, .int .i64 h0'.vn, .string h0'.vs] := hr0.sub 4 3
            have hv1 : RowAt wr b' (off' + 11 + 4) [.int .i64 h1'.vk, .int .i64 h1'.vn, .string h1'.vs] := hr1.sub 4 3
            clear hr0 hr1
            go_upto_region 18 with fail
            have hO0 : FB wr.heap.size wr wr := ⟨Below.refl _ _, Nat.le_refl _⟩
            have hu := Try.underlying27
            have hia' : (Try.prog.info? 27).map (·.size) = some ([.int .i64 h0'.vk, .int .i64 h0'.vn, .string h0'.vs] : List Value).length := by kernel_rfl
            have hib' : (Try.prog.info? 27).map (·.size) = some ([.int .i64 h1'.vk, .int .i64 h1'.vn, .string h1'.vs] : List Value).length := by kernel_rfl
            go_cut [6, 7] (fun s6 s7 wx => ∃ ga gb : Nat, s6 = .pointer (some ⟨ga, 0, none⟩) ∧ s7 = .pointer (some ⟨gb, 0, none⟩) ∧ Blk wx ga 27 #[.int .i64 h0'.vk, .int .i64 h0'.vn, .string h0'.vs] ∧ Blk wx gb 27 #[.int .i64 h1'.vk, .int .i64 h1'.vn, .string h1'.vs] ∧ FB wr.heap.size wr wx)
            case first =>
              refine wp_region_held_drew (S := fun w' => FB wr.heap.size wr w') (by kernel_rfl) (FB.dr hO0) (fun hHeld => ?_)
              refine wpAnyH_take (i := 0) (oi := { dst := some 110, op := Op.move (Operand.tmp 5), type := 30, pos := "ref.go:235", after := #[], guard := none }) (v := .slice (some ⟨b', off', none⟩) 2 c') rfl (by kernel_rfl) (by kernel_rfl) (by kernel_rfl) (fun _ _ _ h => h) (Or.inl ⟨rfl, ?_⟩) hHeld ?_
              · intro w' hS
                go_simp
              simp only [Act.put, List.setIfInBounds_toArray, List.set_cons_zero, List.set_cons_succ]
              refine wpAnyH_take (i := 1) (oi := { dst := some 111, op := Op.indexAddr 30 (Operand.tmp 110) (Operand.const (Value.int IntKind.i64 0)), type := 0, pos := "ref.go:235", after := #[{ on := 0, ground := Ground.data }], guard := none }) (v := .pointer (some ⟨b', off', none⟩)) rfl (by kernel_rfl) (by kernel_rfl) (by kernel_rfl) (fun _ _ _ h => h) (Or.inl ⟨rfl, ?_⟩) hHeld ?_
              · intro w' hS
                go_simp
              simp only [Act.put, List.setIfInBounds_toArray, List.set_cons_zero, List.set_cons_succ]
              refine wpAnyH_take (i := 2) (oi := { dst := some 112, op := Op.fieldAddr 32 (Operand.tmp 111) 4, type := 0, pos := "ref.go:235", after := #[{ on := 1, ground := Ground.data }], guard := none }) (v := .pointer (some ⟨b', off' + 4, none⟩)) rfl (by kernel_rfl) (by kernel_rfl) (by kernel_rfl) (fun _ _ _ h => h) (Or.inl ⟨rfl, ?_⟩) hHeld ?_
              · intro w' hS
                go_simp
              simp only [Act.put, List.setIfInBounds_toArray, List.set_cons_zero, List.set_cons_succ]
              refine wpAnyH_take (i := 3) (oi := { dst := some 113, op := Op.load 27 (Operand.tmp 112), type := 27, pos := "ref.go:235", after := #[{ on := 2, ground := Ground.data }], guard := none }) (v := .agg #[.int .i64 h0'.vk, .int .i64 h0'.vn, .string h0'.vs]) rfl (by kernel_rfl) (by kernel_rfl) (by kernel_rfl) (fun _ _ _ h => h) (Or.inl ⟨rfl, ?_⟩) hHeld ?_
              · intro w' hS
                (exact yields_load_at 27 _ rfl b' (off' + 4) rfl [.int .i64 h0'.vk, .int .i64 h0'.vn, .string h0'.vs] _ (hv0.below hS.1 hbl0) Try.underlying27 rfl hia')
              simp only [Act.put, List.setIfInBounds_toArray, List.set_cons_zero, List.set_cons_succ]
              refine wpAnyH_take (i := 4) (oi := { dst := some 114, op := Op.move (Operand.tmp 5), type := 30, pos := "ref.go:235", after := #[{ on := 10, ground := Ground.gcOnly Departure.lateStores }], guard := none }) (v := .slice (some ⟨b', off', none⟩) 2 c') rfl (by kernel_rfl) (by kernel_rfl) (by kernel_rfl) (fun _ _ _ h => h) (Or.inl ⟨rfl, ?_⟩) hHeld ?_
              · intro w' hS
                go_simp
              simp only [Act.put, List.setIfInBounds_toArray, List.set_cons_zero, List.set_cons_succ]
              refine wpAnyH_take (i := 5) (oi := { dst := some 115, op := Op.indexAddr 30 (Operand.tmp 114) (Operand.const (Value.int IntKind.i64 1)), type := 0, pos := "ref.go:235", after := #[{ on := 4, ground := Ground.data }, { on := 10, ground := Ground.gcOnly Departure.lateStores }], guard := none }) (v := .pointer (some ⟨b', off' + 11, none⟩)) rfl (by kernel_rfl) (by kernel_rfl) (by kernel_rfl) (fun _ _ _ h => h) (Or.inl ⟨rfl, ?_⟩) hHeld ?_
              · intro w' hS
                go_simp
              simp only [Act.put, List.setIfInBounds_toArray, List.set_cons_zero, List.set_cons_succ]
              refine wpAnyH_take (i := 6) (oi := { dst := some 116, op := Op.fieldAddr 32 (Operand.tmp 115) 4, type := 0, pos := "ref.go:235", after := #[{ on := 5, ground := Ground.data }, { on := 10, ground := Ground.gcOnly Departure.lateStores }], guard := none }) (v := .pointer (some ⟨b', off' + 11 + 4, none⟩)) rfl (by kernel_rfl) (by kernel_rfl) (by kernel_rfl) (fun _ _ _ h => h) (Or.inl ⟨rfl, ?_⟩) hHeld ?_
              · intro w' hS
                go_simp
              simp only [Act.put, List.setIfInBounds_toArray, List.set_cons_zero, List.set_cons_succ]
              refine wpAnyH_take (i := 7) (oi := { dst := some 117, op := Op.load 27 (Operand.tmp 116), type := 27, pos := "ref.go:235", after := #[{ on := 6, ground := Ground.data }, { on := 10, ground := Ground.gcOnly Departure.lateStores }], guard := none }) (v := .agg #[.int .i64 h1'.vk, .int .i64 h1'.vn, .string h1'.vs]) rfl (by kernel_rfl) (by kernel_rfl) (by kernel_rfl) (fun _ _ _ h => h) (Or.inl ⟨rfl, ?_⟩) hHeld ?_
              · intro w' hS
                (exact yields_load_at 27 _ rfl b' (off' + 11 + 4) rfl [.int .i64 h1'.vk, .int .i64 h1'.vn, .string h1'.vs] _ (hv1.below hS.1 hbl1) Try.underlying27 rfl hib')
              simp only [Act.put, List.setIfInBounds_toArray, List.set_cons_zero, List.set_cons_succ]
              refine wpAnyH_ready (rs := [8, 9]) (by kernel_rfl) (by simp) ?_
              refine AllReadyH.cons (o := { dst := some 6, op := Op.alloc 27, type := 0, pos := "ref.go:235", after := #[], guard := none }) rfl (fun K hK => ?_) ?_
              · go_simp
                refine hK.out _ _ (by ((repeat (first | assumption | refine FB.dr ?_ | refine FB.al ?_ _ | refine FB.th ?_ (by assumption) | refine FB.far ?_ (by omega) _ _ | refine FB.cells ?_ (by first | exact Nat.le_refl _ | omega | (simp; omega)) _ _)); done)) (fun hHeld => ?_)
                clear hK K
                try simp only [Act.put, List.setIfInBounds_toArray, List.set_cons_zero, List.set_cons_succ]
                have hz1 := Blk.nx (w := wr.drew) (g := wr.heap.size) 27 #[.int .i64 0, .int .i64 0, .string { data := #[] }] rfl
                refine wpAnyH_ready (rs := [9]) (by kernel_rfl) (by simp) ?_
                refine AllReadyH.cons (o := { dst := some 7, op := Op.alloc 27, type := 0, pos := "ref.go:235", after := #[], guard := none }) rfl (fun K hK => ?_) AllReadyH.nil
                go_simp
                refine hK.out _ _ (by ((repeat (first | assumption | refine FB.dr ?_ | refine FB.al ?_ _ | refine FB.th ?_ (by assumption) | refine FB.far ?_ (by omega) _ _ | refine FB.cells ?_ (by first | exact Nat.le_refl _ | omega | (simp; omega)) _ _)); done)) (fun hHeld => ?_)
                clear hK K
                try simp only [Act.put, List.setIfInBounds_toArray, List.set_cons_zero, List.set_cons_succ]
                have hz1' := hz1.alloc (.cells #[.int .i64 0, .int .i64 0, .string { data := #[] }] 27)
                have hz2 := Blk.nx (w := wr.drew.alloc (.cells #[.int .i64 0, .int .i64 0, .string { data := #[] }] 27)) (g := wr.heap.size + 1) 27 #[.int .i64 0, .int .i64 0, .string { data := #[] }] (by simp)
                refine wpAnyH_ready (rs := [10]) (by kernel_rfl) (by simp) ?_
                refine AllReadyH.cons (o := { dst := none, op := Op.store 27 (Operand.tmp 6) (Operand.tmp 113), type := 0, pos := "ref.go:235", after := #[{ on := 8, ground := Ground.data }, { on := 3, ground := Ground.data }, { on := 0, ground := Ground.phase }, { on := 1, ground := Ground.phase }, { on := 2, ground := Ground.phase }, { on := 3, ground := Ground.phase }, { on := 4, ground := Ground.textOnly Departure.lateStores }, { on := 5, ground := Ground.textOnly Departure.lateStores }, { on := 6, ground := Ground.textOnly Departure.lateStores }, { on := 7, ground := Ground.textOnly Departure.lateStores }, { on := 8, ground := Ground.phase }, { on := 9, ground := Ground.phase }], guard := none }) rfl (fun K hK => ?_) AllReadyH.nil
                refine take_op rfl ?_
                refine wp_store_row 27 _ _ rfl (wr.heap.size) _ rfl rfl 27 _ hz1' (by kernel_rfl : (Try.prog.info? 27).map (·.size) = some 3) rfl (val3_one _ _ _) ?_
                refine hK.out _ _ (FB.row hHeld (by omega) _) (fun hHeld => ?_)
                clear hK K
                try simp only [Act.put, List.setIfInBounds_toArray, List.set_cons_zero, List.set_cons_succ]
                have hz3 := Blk.setRow hz1' #[.int .i64 h0'.vk, .int .i64 h0'.vn, .string h0'.vs]
                have hz4 := Blk.apart hz2 (g' := wr.heap.size) #[.int .i64 h0'.vk, .int .i64 h0'.vn, .string h0'.vs] (by omega)
                refine wpAnyH_ready (rs := [11]) (by kernel_rfl) (by simp) ?_
                refine AllReadyH.cons (o := { dst := none, op := Op.store 27 (Operand.tmp 7) (Operand.tmp 117), type := 0, pos := "ref.go:235", after := #[{ on := 9, ground := Ground.data }, { on := 7, ground := Ground.data }, { on := 10, ground := Ground.chain }, { on := 0, ground := Ground.phase }, { on := 1, ground := Ground.phase }, { on := 2, ground := Ground.phase }, { on := 3, ground := Ground.phase }, { on := 4, ground := Ground.phase }, { on := 5, ground := Ground.phase }, { on := 6, ground := Ground.phase }, { on := 7, ground := Ground.phase }, { on := 8, ground := Ground.phase }, { on := 9, ground := Ground.phase }, { on := 10, ground := Ground.phase }], guard := none }) rfl (fun K hK => ?_) AllReadyH.nil
                refine take_op rfl ?_
                refine wp_store_row 27 _ _ rfl (wr.heap.size + 1) _ rfl rfl 27 _ hz4 (by kernel_rfl : (Try.prog.info? 27).map (·.size) = some 3) rfl (val3_one _ _ _) ?_
                refine hK.out _ _ (FB.row hHeld (by omega) _) (fun hHeld => ?_)
                clear hK K
                try simp only [Act.put, List.setIfInBounds_toArray, List.set_cons_zero, List.set_cons_succ]
                have hz5 := Blk.setRow hz4 #[.int .i64 h1'.vk, .int .i64 h1'.vn, .string h1'.vs]
                have hz6 := Blk.apart hz3 (g' := wr.heap.size + 1) #[.int .i64 h1'.vk, .int .i64 h1'.vn, .string h1'.vs] (by omega)
                refine wpAnyH_done (by kernel_rfl) ?_ _
                go_wp2_with fail
                go_meet
                exact ⟨_, _, rfl, rfl, hz6, hz5, hHeld⟩
              refine AllReadyH.cons (o := { dst := some 7, op := Op.alloc 27, type := 0, pos := "ref.go:235", after := #[], guard := none }) rfl (fun K hK => ?_) AllReadyH.nil
              · go_simp
                refine hK.out _ _ (by ((repeat (first | assumption | refine FB.dr ?_ | refine FB.al ?_ _ | refine FB.th ?_ (by assumption) | refine FB.far ?_ (by omega) _ _ | refine FB.cells ?_ (by first | exact Nat.le_refl _ | omega | (simp; omega)) _ _)); done)) (fun hHeld => ?_)
                clear hK K
                try simp only [Act.put, List.setIfInBounds_toArray, List.set_cons_zero, List.set_cons_succ]
                have hz1 := Blk.nx (w := wr.drew) (g := wr.heap.size) 27 #[.int .i64 0, .int .i64 0, .string { data := #[] }] rfl
                refine wpAnyH_ready (rs := [8]) (by kernel_rfl) (by simp) ?_
                refine AllReadyH.cons (o := { dst := some 6, op := Op.alloc 27, type := 0, pos := "ref.go:235", after := #[], guard := none }) rfl (fun K hK => ?_) AllReadyH.nil
                go_simp
                refine hK.out _ _ (by ((repeat (first | assumption | refine FB.dr ?_ | refine FB.al ?_ _ | refine FB.th ?_ (by assumption) | refine FB.far ?_ (by omega) _ _ | refine FB.cells ?_ (by first | exact Nat.le_refl _ | omega | (simp; omega)) _ _)); done)) (fun hHeld => ?_)
                clear hK K
                try simp only [Act.put, List.setIfInBounds_toArray, List.set_cons_zero, List.set_cons_succ]
                have hz1' := hz1.alloc (.cells #[.int .i64 0, .int .i64 0, .string { data := #[] }] 27)
                have hz2 := Blk.nx (w := wr.drew.alloc (.cells #[.int .i64 0, .int .i64 0, .string { data := #[] }] 27)) (g := wr.heap.size + 1) 27 #[.int .i64 0, .int .i64 0, .string { data := #[] }] (by simp)
                refine wpAnyH_ready (rs := [10]) (by kernel_rfl) (by simp) ?_
                refine AllReadyH.cons (o := { dst := none, op := Op.store 27 (Operand.tmp 6) (Operand.tmp 113), type := 0, pos := "ref.go:235", after := #[{ on := 8, ground := Ground.data }, { on := 3, ground := Ground.data }, { on := 0, ground := Ground.phase }, { on := 1, ground := Ground.phase }, { on := 2, ground := Ground.phase }, { on := 3, ground := Ground.phase }, { on := 4, ground := Ground.textOnly Departure.lateStores }, { on := 5, ground := Ground.textOnly Departure.lateStores }, { on := 6, ground := Ground.textOnly Departure.lateStores }, { on := 7, ground := Ground.textOnly Departure.lateStores }, { on := 8, ground := Ground.phase }, { on := 9, ground := Ground.phase }], guard := none }) rfl (fun K hK => ?_) AllReadyH.nil
                refine take_op rfl ?_
                refine wp_store_row 27 _ _ rfl (wr.heap.size + 1) _ rfl rfl 27 _ hz2 (by kernel_rfl : (Try.prog.info? 27).map (·.size) = some 3) rfl (val3_one _ _ _) ?_
                refine hK.out _ _ (FB.row hHeld (by omega) _) (fun hHeld => ?_)
                clear hK K
                try simp only [Act.put, List.setIfInBounds_toArray, List.set_cons_zero, List.set_cons_succ]
                have hz3 := Blk.setRow hz2 #[.int .i64 h0'.vk, .int .i64 h0'.vn, .string h0'.vs]
                have hz4 := Blk.apart hz1' (g' := wr.heap.size + 1) #[.int .i64 h0'.vk, .int .i64 h0'.vn, .string h0'.vs] (by omega)
                refine wpAnyH_ready (rs := [11]) (by kernel_rfl) (by simp) ?_
                refine AllReadyH.cons (o := { dst := none, op := Op.store 27 (Operand.tmp 7) (Operand.tmp 117), type := 0, pos := "ref.go:235", after := #[{ on := 9, ground := Ground.data }, { on := 7, ground := Ground.data }, { on := 10, ground := Ground.chain }, { on := 0, ground := Ground.phase }, { on := 1, ground := Ground.phase }, { on := 2, ground := Ground.phase }, { on := 3, ground := Ground.phase }, { on := 4, ground := Ground.phase }, { on := 5, ground := Ground.phase }, { on := 6, ground := Ground.phase }, { on := 7, ground := Ground.phase }, { on := 8, ground := Ground.phase }, { on := 9, ground := Ground.phase }, { on := 10, ground := Ground.phase }], guard := none }) rfl (fun K hK => ?_) AllReadyH.nil
                refine take_op rfl ?_
                refine wp_store_row 27 _ _ rfl (wr.heap.size) _ rfl rfl 27 _ hz4 (by kernel_rfl : (Try.prog.info? 27).map (·.size) = some 3) rfl (val3_one _ _ _) ?_
                refine hK.out _ _ (FB.row hHeld (by omega) _) (fun hHeld => ?_)
                clear hK K
                try simp only [Act.put, List.setIfInBounds_toArray, List.set_cons_zero, List.set_cons_succ]
                have hz5 := Blk.setRow hz4 #[.int .i64 h1'.vk, .int .i64 h1'.vn, .string h1'.vs]
                have hz6 := Blk.apart hz3 (g' := wr.heap.size) #[.int .i64 h1'.vk, .int .i64 h1'.vn, .string h1'.vs] (by omega)
                refine wpAnyH_done (by kernel_rfl) ?_ _
                go_wp2_with fail
                go_meet
                exact ⟨_, _, rfl, rfl, hz6, hz5, hHeld⟩
            case rest =>
              obtain ⟨ga, gb, rfl, rfl, hga, hgb, hfb⟩ := hcut
              replace hB := hB.lat hfb.1
              have hn2 := hnode.carry (fun k hk hkl => hfb.1.block k hkl)
              clear hnode hv0 hv1 hO0 hu hia' hib' hfb cx co r00 r10 hB0
              have cx := hB.box.cell
              have co := hB.out.cell
              have ca' := hga.cell
              have cb' := hgb.cell
              by_cases hn0 : h0'.vk = 2
              · by_cases hn1 : h1'.vk = 2
                · have hR : R = numF 10 h0'.vn h1'.vn := by
                    rw [hJ, if_neg (by omega), if_neg (by simp [isNum, ha1, hb1, hn0, hn1])]; rfl
                  have HJ := Lib.hid hR
                  have HQ := Lib.hid (rnumbers_any ⟨10, n, m, nm, vk, vn, vs, dv, cl, at_⟩ A ks.length c h0'.vn h1'.vn hia hib (w.heap.size + 3 ≤ ·) wc)
                  have q2 : (h0'.vk == 2) = true := by simpa using hn0
                  have q3 : (h1'.vk == 2) = true := by simpa using hn1
                  clear hJ hR hn2 hn0 hn1 ha1 hb1
                  unfold Hd.cells at HQ
                  dsimp only at HQ
                  go_wp2_with fail
                  refine HQ.out.mono ?_
                  clear HQ
                  rintro r w3 ⟨⟨v', rfl, cs', rfl, he'⟩, hb3⟩
                  obtain ⟨hd2, k2, A2, c2, hcs2⟩ := he'.form
                  subst hcs2
                  replace hB := hB.lat hb3
                  have hr3 := hB.res.setRow (hd2.cells (.slice A2 k2 c2)).toArray
                  have he3 := hB.back he' (hd2.cells (.slice A2 k2 c2)).toArray
                  have hbw3 := hB.fin (hd2.cells (.slice A2 k2 c2)).toArray
                  clear he' hb3
                  try clear cx co
                  unfold Hd.cells at hr3 he3 hbw3 ⊢
                  go_wp2_with (refine wpList_store_row rfl 32 _ _ rfl (w.heap.size + 1) _ rfl rfl 32 _ hB.res (by kernel_rfl : (Try.prog.info? 32).map (·.size) = some 11) rfl (cells_one hd2 A2 k2 c2) ?_)
                  have cR := hr3.cell
                  refine bodyPost_ret (v := ?_) ?_ rfl ?_
                  rotate_left
                  · simp [results, Try.results66, go_sem, cR]; exact rfl
                  rw [HJ.out]
                  exact ⟨⟨_, rfl, _, rfl, he3⟩, hbw3⟩
                · have hR : R = .mk ⟨10, n, m, nm, vk, vn, vs, dv, cl, at_⟩ [k0, k1] := by
                    rw [hJ, if_neg (by omega), if_pos (.inr (by simp [isNum, hn1]))]
                  have HJ := Lib.hid hR
                  have q2 : (h0'.vk == 2) = true := by simpa using hn0
                  have q3 : (h1'.vk == 2) = false := by simpa using hn1
                  clear hJ hR ha1 hb1 hn0
                  have hr3 := hB.res.setRow #[.int .i64 10, .int .i64 n, .int .i64 m, .string nm, .int .i64 vk, .int .i64 vn, .string vs, .int .i64 dv, .string cl, .string at_, .slice (some ⟨b', off', none⟩) 2 c']
                  have he3 := hB.back hn2 #[.int .i64 10, .int .i64 n, .int .i64 m, .string nm, .int .i64 vk, .int .i64 vn, .string vs, .int .i64 dv, .string cl, .string at_, .slice (some ⟨b', off', none⟩) 2 c']
                  have hbw3 := hB.fin #[.int .i64 10, .int .i64 n, .int .i64 m, .string nm, .int .i64 vk, .int .i64 vn, .string vs, .int .i64 dv, .string cl, .string at_, .slice (some ⟨b', off', none⟩) 2 c']
                  clear hn2
                  go_wp2_with (refine wpList_store_row rfl 32 _ _ rfl (w.heap.size + 1) _ rfl rfl 32 _ hB.res (by kernel_rfl : (Try.prog.info? 32).map (·.size) = some 11) rfl (cells_one ⟨10, n, m, nm, vk, vn, vs, dv, cl, at_⟩ (some ⟨b', off', none⟩) 2 c') ?_)
                  have cR := hr3.cell
                  refine bodyPost_ret (v := ?_) ?_ rfl ?_
                  rotate_left
                  · simp [results, Try.results66, go_sem, cR]; exact rfl
                  rw [HJ.out]
                  exact ⟨⟨_, rfl, _, rfl, he3⟩, hbw3⟩
              · have hR : R = .mk ⟨10, n, m, nm, vk, vn, vs, dv, cl, at_⟩ [k0, k1] := by
                  rw [hJ, if_neg (by omega), if_pos (.inl (by simp [isNum, hn0]))]
                have HJ := Lib.hid hR
                have q2 : (h0'.vk == 2) = false := by simpa using hn0
                clear hJ hR ha1 hb1
                have hr3 := hB.res.setRow #[.int .i64 10, .int .i64 n, .int .i64 m, .string nm, .int .i64 vk, .int .i64 vn, .string vs, .int .i64 dv, .string cl, .string at_, .slice (some ⟨b', off', none⟩) 2 c']
                have he3 := hB.back hn2 #[.int .i64 10, .int .i64 n, .int .i64 m, .string nm, .int .i64 vk, .int .i64 vn, .string vs, .int .i64 dv, .string cl, .string at_, .slice (some ⟨b', off', none⟩) 2 c']
                have hbw3 := hB.fin #[.int .i64 10, .int .i64 n, .int .i64 m, .string nm, .int .i64 vk, .int .i64 vn, .string vs, .int .i64 dv, .string cl, .string at_, .slice (some ⟨b', off', none⟩) 2 c']
                clear hn2
                go_wp2_with (refine wpList_store_row rfl 32 _ _ rfl (w.heap.size + 1) _ rfl rfl 32 _ hB.res (by kernel_rfl : (Try.prog.info? 32).map (·.size) = some 11) rfl (cells_one ⟨10, n, m, nm, vk, vn, vs, dv, cl, at_⟩ (some ⟨b', off', none⟩) 2 c') ?_)
                have cR := hr3.cell
                refine bodyPost_ret (v := ?_) ?_ rfl ?_
                rotate_left
                · simp [results, Try.results66, go_sem, cR]; exact rfl
                rw [HJ.out]
                exact ⟨⟨_, rfl, _, rfl, he3⟩, hbw3⟩
          · have qb : (h1'.kind != 1) = true := by simpa using hb1
            have hR : R = .mk ⟨10, n, m, nm, vk, vn, vs, dv, cl, at_⟩ [k0, k1] := by
              rw [hJ, if_neg (by omega), if_pos (.inr (by simp [isNum, hb1]))]
            clear ha1
            have HJ := Lib.hid hR
            have hn2 := hnode
            clear hJ hR hnode hr0 hr1 hB0
            have hr3 := hB.res.setRow #[.int .i64 10, .int .i64 n, .int .i64 m, .string nm, .int .i64 vk, .int .i64 vn, .string vs, .int .i64 dv, .string cl, .string at_, .slice (some ⟨b', off', none⟩) 2 c']
            have he3 := hB.back hn2 #[.int .i64 10, .int .i64 n, .int .i64 m, .string nm, .int .i64 vk, .int .i64 vn, .string vs, .int .i64 dv, .string cl, .string at_, .slice (some ⟨b', off', none⟩) 2 c']
            have hbw3 := hB.fin #[.int .i64 10, .int .i64 n, .int .i64 m, .string nm, .int .i64 vk, .int .i64 vn, .string vs, .int .i64 dv, .string cl, .string at_, .slice (some ⟨b', off', none⟩) 2 c']
            clear hn2
            go_wp2_with (refine wpList_store_row rfl 32 _ _ rfl (w.heap.size + 1) _ rfl rfl 32 _ hB.res (by kernel_rfl : (Try.prog.info? 32).map (·.size) = some 11) rfl (cells_one ⟨10, n, m, nm, vk, vn, vs, dv, cl, at_⟩ (some ⟨b', off', none⟩) 2 c') ?_)
            have cR := hr3.cell
            refine bodyPost_ret (v := ?_) ?_ rfl ?_
            rotate_left
            · simp [results, Try.results66, go_sem, cR]; exact rfl
            rw [HJ.out]
            exact ⟨⟨_, rfl, _, rfl, he3⟩, hbw3⟩
        · have qa : (h0'.kind != 1) = true := by simpa using ha1
          have hR : R = .mk ⟨10, n, m, nm, vk, vn, vs, dv, cl, at_⟩ [k0, k1] := by
            rw [hJ, if_neg (by omega), if_pos (.inl (by simp [isNum, ha1]))]
          have HJ := Lib.hid hR
          have hn2 := hnode
          clear hJ hR hnode hr0 hr1 hB0
          have hr3 := hB.res.setRow #[.int .i64 10, .int .i64 n, .int .i64 m, .string nm, .int .i64 vk, .int .i64 vn, .string vs, .int .i64 dv, .string cl, .string at_, .slice (some ⟨b', off', none⟩) 2 c']
          have he3 := hB.back hn2 #[.int .i64 10, .int .i64 n, .int .i64 m, .string nm, .int .i64 vk, .int .i64 vn, .string vs, .int .i64 dv, .string cl, .string at_, .slice (some ⟨b', off', none⟩) 2 c']
          have hbw3 := hB.fin #[.int .i64 10, .int .i64 n, .int .i64 m, .string nm, .int .i64 vk, .int .i64 vn, .string vs, .int .i64 dv, .string cl, .string at_, .slice (some ⟨b', off', none⟩) 2 c']
          clear hn2
          go_wp2_with (refine wpList_store_row rfl 32 _ _ rfl (w.heap.size + 1) _ rfl rfl 32 _ hB.res (by kernel_rfl : (Try.prog.info? 32).map (·.size) = some 11) rfl (cells_one ⟨10, n, m, nm, vk, vn, vs, dv, cl, at_⟩ (some ⟨b', off', none⟩) 2 c') ?_)
          have cR := hr3.cell
          refine bodyPost_ret (v := ?_) ?_ rfl ?_
          rotate_left
          · simp [results, Try.results66, go_sem, cR]; exact rfl
          rw [HJ.out]
          exact ⟨⟨_, rfl, _, rfl, he3⟩, hbw3⟩
      · obtain ⟨k0, k1, rfl⟩ := len2 (ks := kl) (by rcases hko with h | h | h | h | h <;> omega)
        obtain ⟨rfl, hbB⟩ := hA' (by simp)
        have hr0 := hrow' 0 (by simp)
        obtain ⟨h0', n0, A0, c0, e0⟩ := (hk' 0 (by simp)).form
        have hy0 := hk' 0 (by simp)
        have hbl0 := rowAt_lt hr0 (by rw [hsz']; omega)
        rw [e0] at hr0 hy0
        have hd0 := hd_of (hk' 0 (by simp)) e0
        simp only [List.getElem_cons_zero, List.getElem_cons_succ, Nat.zero_mul, Nat.one_mul, Nat.add_zero, Nat.reduceMul] at hd0 hr0 hy0
        have hr1 := hrow' 1 (by simp)
        obtain ⟨h1', n1, A1, c1, e1⟩ := (hk' 1 (by simp)).form
        have hy1 := hk' 1 (by simp)
        have hbl1 := rowAt_lt hr1 (by rw [hsz']; omega)
        rw [e1] at hr1 hy1
        have hd1 := hd_of (hk' 1 (by simp)) e1
        simp only [List.getElem_cons_zero, List.getElem_cons_succ, Nat.zero_mul, Nat.one_mul, Nat.add_zero, Nat.reduceMul] at hd1 hr1 hy1
        have hia := okP (hk' 0 (by simp)) e0
        have hib := okP (hk' 1 (by simp)) e1
        have hJ : R = binF ⟨11, n, m, nm, vk, vn, vs, dv, cl, at_⟩ k0 k1 := by rw [HJ0.out, if_neg (by omega), if_neg (by omega), if_neg (by omega), if_pos (by omega)]; rfl
        rw [binF_eq, hd0, hd1] at hJ
        dsimp only at hJ
        clear HJ0 hko hA' hrow' hk' hoks' e0 e1 hd0 hd1 hy0 hy1
        simp only [List.length_cons, List.length_nil, Nat.reduceAdd] at hnode cx co hB ⊢
        unfold Hd.cells at hr0 hr1
        have r00 := hr0 0 _ rfl
        have r10 := hr1 0 _ rfl
        simp only [Nat.add_zero] at r00 r10
        by_cases ha1 : h0'.kind = 1
        · have qa : (h0'.kind != 1) = false := by simpa using ha1
          by_cases hb1 : h1'.kind = 1
          · have qb : (h1'.kind != 1) = false := by simpa using hb1
            have hv0 : RowAt wr b' (off' + 4) [.int .i64 h0'.vk, .int .i64 h0'.vn, .string h0'.vs] := hr0.sub 4 3
            have hv1 : RowAt wr b' (off' + 11 + 4) [.int .i64 h1'.vk, .int .i64 h1'.vn, .string h1'.vs] := hr1.sub 4 3
            clear hr0 hr1
            go_upto_region 18 with fail
            have hO0 : FB wr.heap.size wr wr := ⟨Below.refl _ _, Nat.le_refl _⟩
            have hu := Try.underlying27
            have hia' : (Try.prog.info? 27).map (·.size) = some ([.int .i64 h0'.vk, .int .i64 h0'.vn, .string h0'.vs] : List Value).length := by kernel_rfl
            have hib' : (Try.prog.info? 27).map (·.size) = some ([.int .i64 h1'.vk, .int .i64 h1'.vn, .string h1'.vs] : List Value).length := by kernel_rfl
            go_cut [6, 7] (fun s6 s7 wx => ∃ ga gb : Nat, s6 = .pointer (some ⟨ga, 0, none⟩) ∧ s7 = .pointer (some ⟨gb, 0, none⟩) ∧ Blk wx ga 27 #[.int .i64 h0'.vk, .int .i64 h0'.vn, .string h0'.vs] ∧ Blk wx gb 27 #[.int .i64 h1'.vk, .int .i64 h1'.vn, .string h1'.vs] ∧ FB wr.heap.size wr wx)
            case first =>
              refine wp_region_held_drew (S := fun w' => FB wr.heap.size wr w') (by kernel_rfl) (FB.dr hO0) (fun hHeld => ?_)
              refine wpAnyH_take (i := 0) (oi := { dst := some 110, op := Op.move (Operand.tmp 5), type := 30, pos := "ref.go:235", after := #[], guard := none }) (v := .slice (some ⟨b', off', none⟩) 2 c') rfl (by kernel_rfl) (by kernel_rfl) (by kernel_rfl) (fun _ _ _ h => h) (Or.inl ⟨rfl, ?_⟩) hHeld ?_
              · intro w' hS
                go_simp
              simp only [Act.put, List.setIfInBounds_toArray, List.set_cons_zero, List.set_cons_succ]
              refine wpAnyH_take (i := 1) (oi := { dst := some 111, op := Op.indexAddr 30 (Operand.tmp 110) (Operand.const (Value.int IntKind.i64 0)), type := 0, pos := "ref.go:235", after := #[{ on := 0, ground := Ground.data }], guard := none }) (v := .pointer (some ⟨b', off', none⟩)) rfl (by kernel_rfl) (by kernel_rfl) (by kernel_rfl) (fun _ _ _ h => h) (Or.inl ⟨rfl, ?_⟩) hHeld ?_
              · intro w' hS
                go_simp
              simp only [Act.put, List.setIfInBounds_toArray, List.set_cons_zero, List.set_cons_succ]
              refine wpAnyH_take (i := 2) (oi := { dst := some 112, op := Op.fieldAddr 32 (Operand.tmp 111) 4, type := 0, pos := "ref.go:235", after := #[{ on := 1, ground := Ground.data }], guard := none }) (v := .pointer (some ⟨b', off' + 4, none⟩)) rfl (by kernel_rfl) (by kernel_rfl) (by kernel_rfl) (fun _ _ _ h => h) (Or.inl ⟨rfl, ?_⟩) hHeld ?_
              · intro w' hS
                go_simp
              simp only [Act.put, List.setIfInBounds_toArray, List.set_cons_zero, List.set_cons_succ]
              refine wpAnyH_take (i := 3) (oi := { dst := some 113, op := Op.load 27 (Operand.tmp 112), type := 27, pos := "ref.go:235", after := #[{ on := 2, ground := Ground.data }], guard := none }) (v := .agg #[.int .i64 h0'.vk, .int .i64 h0'.vn, .string h0'.vs]) rfl (by kernel_rfl) (by kernel_rfl) (by kernel_rfl) (fun _ _ _ h => h) (Or.inl ⟨rfl, ?_⟩) hHeld ?_
              · intro w' hS
                (exact yields_load_at 27 _ rfl b' (off' + 4) rfl [.int .i64 h0'.vk, .int .i64 h0'.vn, .string h0'.vs] _ (hv0.below hS.1 hbl0) Try.underlying27 rfl hia')
              simp only [Act.put, List.setIfInBounds_toArray, List.set_cons_zero, List.set_cons_succ]
              refine wpAnyH_take (i := 4) (oi := { dst := some 114, op := Op.move (Operand.tmp 5), type := 30, pos := "ref.go:235", after := #[{ on := 10, ground := Ground.gcOnly Departure.lateStores }], guard := none }) (v := .slice (some ⟨b', off', none⟩) 2 c') rfl (by kernel_rfl) (by kernel_rfl) (by kernel_rfl) (fun _ _ _ h => h) (Or.inl ⟨rfl, ?_⟩) hHeld ?_
              · intro w' hS
                go_simp
              simp only [Act.put, List.setIfInBounds_toArray, List.set_cons_zero, List.set_cons_succ]
              refine wpAnyH_take (i := 5) (oi := { dst := some 115, op := Op.indexAddr 30 (Operand.tmp 114) (Operand.const (Value.int IntKind.i64 1)), type := 0, pos := "ref.go:235", after := #[{ on := 4, ground := Ground.data }, { on := 10, ground := Ground.gcOnly Departure.lateStores }], guard := none }) (v := .pointer (some ⟨b', off' + 11, none⟩)) rfl (by kernel_rfl) (by kernel_rfl) (by kernel_rfl) (fun _ _ _ h => h) (Or.inl ⟨rfl, ?_⟩) hHeld ?_
              · intro w' hS
                go_simp
              simp only [Act.put, List.setIfInBounds_toArray, List.set_cons_zero, List.set_cons_succ]
              refine wpAnyH_take (i := 6) (oi := { dst := some 116, op := Op.fieldAddr 32 (Operand.tmp 115) 4, type := 0, pos := "ref.go:235", after := #[{ on := 5, ground := Ground.data }, { on := 10, ground := Ground.gcOnly Departure.lateStores }], guard := none }) (v := .pointer (some ⟨b', off' + 11 + 4, none⟩)) rfl (by kernel_rfl) (by kernel_rfl) (by kernel_rfl) (fun _ _ _ h => h) (Or.inl ⟨rfl, ?_⟩) hHeld ?_
              · intro w' hS
                go_simp
              simp only [Act.put, List.setIfInBounds_toArray, List.set_cons_zero, List.set_cons_succ]
              refine wpAnyH_take (i := 7) (oi := { dst := some 117, op := Op.load 27 (Operand.tmp 116), type := 27, pos := "ref.go:235", after := #[{ on := 6, ground := Ground.data }, { on := 10, ground := Ground.gcOnly Departure.lateStores }], guard := none }) (v := .agg #[.int .i64 h1'.vk, .int .i64 h1'.vn, .string h1'.vs]) rfl (by kernel_rfl) (by kernel_rfl) (by kernel_rfl) (fun _ _ _ h => h) (Or.inl ⟨rfl, ?_⟩) hHeld ?_
              · intro w' hS
                (exact yields_load_at 27 _ rfl b' (off' + 11 + 4) rfl [.int .i64 h1'.vk, .int .i64 h1'.vn, .string h1'.vs] _ (hv1.below hS.1 hbl1) Try.underlying27 rfl hib')
              simp only [Act.put, List.setIfInBounds_toArray, List.set_cons_zero, List.set_cons_succ]
              refine wpAnyH_ready (rs := [8, 9]) (by kernel_rfl) (by simp) ?_
              refine AllReadyH.cons (o := { dst := some 6, op := Op.alloc 27, type := 0, pos := "ref.go:235", after := #[], guard := none }) rfl (fun K hK => ?_) ?_
              · go_simp
                refine hK.out _ _ (by ((repeat (first | assumption | refine FB.dr ?_ | refine FB.al ?_ _ | refine FB.th ?_ (by assumption) | refine FB.far ?_ (by omega) _ _ | refine FB.cells ?_ (by first | exact Nat.le_refl _ | omega | (simp; omega)) _ _)); done)) (fun hHeld => ?_)
                clear hK K
                try simp only [Act.put, List.setIfInBounds_toArray, List.set_cons_zero, List.set_cons_succ]
                have hz1 := Blk.nx (w := wr.drew) (g := wr.heap.size) 27 #[.int .i64 0, .int .i64 0, .string { data := #[] }] rfl
                refine wpAnyH_ready (rs := [9]) (by kernel_rfl) (by simp) ?_
                refine AllReadyH.cons (o := { dst := some 7, op := Op.alloc 27, type := 0, pos := "ref.go:235", after := #[], guard := none }) rfl (fun K hK => ?_) AllReadyH.nil
                go_simp
                refine hK.out _ _ (by ((repeat (first | assumption | refine FB.dr ?_ | refine FB.al ?_ _ | refine FB.th ?_ (by assumption) | refine FB.far ?_ (by omega) _ _ | refine FB.cells ?_ (by first | exact Nat.le_refl _ | omega | (simp; omega)) _ _)); done)) (fun hHeld => ?_)
                clear hK K
                try simp only [Act.put, List.setIfInBounds_toArray, List.set_cons_zero, List.set_cons_succ]
                have hz1' := hz1.alloc (.cells #[.int .i64 0, .int .i64 0, .string { data := #[] }] 27)
                have hz2 := Blk.nx (w := wr.drew.alloc (.cells #[.int .i64 0, .int .i64 0, .string { data := #[] }] 27)) (g := wr.heap.size + 1) 27 #[.int .i64 0, .int .i64 0, .string { data := #[] }] (by simp)
                refine wpAnyH_ready (rs := [10]) (by kernel_rfl) (by simp) ?_
                refine AllReadyH.cons (o := { dst := none, op := Op.store 27 (Operand.tmp 6) (Operand.tmp 113), type := 0, pos := "ref.go:235", after := #[{ on := 8, ground := Ground.data }, { on := 3, ground := Ground.data }, { on := 0, ground := Ground.phase }, { on := 1, ground := Ground.phase }, { on := 2, ground := Ground.phase }, { on := 3, ground := Ground.phase }, { on := 4, ground := Ground.textOnly Departure.lateStores }, { on := 5, ground := Ground.textOnly Departure.lateStores }, { on := 6, ground := Ground.textOnly Departure.lateStores }, { on := 7, ground := Ground.textOnly Departure.lateStores }, { on := 8, ground := Ground.phase }, { on := 9, ground := Ground.phase }], guard := none }) rfl (fun K hK => ?_) AllReadyH.nil
                refine take_op rfl ?_
                refine wp_store_row 27 _ _ rfl (wr.heap.size) _ rfl rfl 27 _ hz1' (by kernel_rfl : (Try.prog.info? 27).map (·.size) = some 3) rfl (val3_one _ _ _) ?_
                refine hK.out _ _ (FB.row hHeld (by omega) _) (fun hHeld => ?_)
                clear hK K
                try simp only [Act.put, List.setIfInBounds_toArray, List.set_cons_zero, List.set_cons_succ]
                have hz3 := Blk.setRow hz1' #[.int .i64 h0'.vk, .int .i64 h0'.vn, .string h0'.vs]
                have hz4 := Blk.apart hz2 (g' := wr.heap.size) #[.int .i64 h0'.vk, .int .i64 h0'.vn, .string h0'.vs] (by omega)
                refine wpAnyH_ready (rs := [11]) (by kernel_rfl) (by simp) ?_
                refine AllReadyH.cons (o := { dst := none, op := Op.store 27 (Operand.tmp 7) (Operand.tmp 117), type := 0, pos := "ref.go:235", after := #[{ on := 9, ground := Ground.data }, { on := 7, ground := Ground.data }, { on := 10, ground := Ground.chain }, { on := 0, ground := Ground.phase }, { on := 1, ground := Ground.phase }, { on := 2, ground := Ground.phase }, { on := 3, ground := Ground.phase }, { on := 4, ground := Ground.phase }, { on := 5, ground := Ground.phase }, { on := 6, ground := Ground.phase }, { on := 7, ground := Ground.phase }, { on := 8, ground := Ground.phase }, { on := 9, ground := Ground.phase }, { on := 10, ground := Ground.phase }], guard := none }) rfl (fun K hK => ?_) AllReadyH.nil
                refine take_op rfl ?_
                refine wp_store_row 27 _ _ rfl (wr.heap.size + 1) _ rfl rfl 27 _ hz4 (by kernel_rfl : (Try.prog.info? 27).map (·.size) = some 3) rfl (val3_one _ _ _) ?_
                refine hK.out _ _ (FB.row hHeld (by omega) _) (fun hHeld => ?_)
                clear hK K
                try simp only [Act.put, List.setIfInBounds_toArray, List.set_cons_zero, List.set_cons_succ]
                have hz5 := Blk.setRow hz4 #[.int .i64 h1'.vk, .int .i64 h1'.vn, .string h1'.vs]
                have hz6 := Blk.apart hz3 (g' := wr.heap.size + 1) #[.int .i64 h1'.vk, .int .i64 h1'.vn, .string h1'.vs] (by omega)
                refine wpAnyH_done (by kernel_rfl) ?_ _
                go_wp2_with fail
                go_meet
                exact ⟨_, _, rfl, rfl, hz6, hz5, hHeld⟩
              refine AllReadyH.cons (o := { dst := some 7, op := Op.alloc 27, type := 0, pos := "ref.go:235", after := #[], guard := none }) rfl (fun K hK => ?_) AllReadyH.nil
              · go_simp
                refine hK.out _ _ (by ((repeat (first | assumption | refine FB.dr ?_ | refine FB.al ?_ _ | refine FB.th ?_ (by assumption) | refine FB.far ?_ (by omega) _ _ | refine FB.cells ?_ (by first | exact Nat.le_refl _ | omega | (simp; omega)) _ _)); done)) (fun hHeld => ?_)
                clear hK K
                try simp only [Act.put, List.setIfInBounds_toArray, List.set_cons_zero, List.set_cons_succ]
                have hz1 := Blk.nx (w := wr.drew) (g := wr.heap.size) 27 #[.int .i64 0, .int .i64 0, .string { data := #[] }] rfl
                refine wpAnyH_ready (rs := [8]) (by kernel_rfl) (by simp) ?_
                refine AllReadyH.cons (o := { dst := some 6, op := Op.alloc 27, type := 0, pos := "ref.go:235", after := #[], guard := none }) rfl (fun K hK => ?_) AllReadyH.nil
                go_simp
                refine hK.out _ _ (by ((repeat (first | assumption | refine FB.dr ?_ | refine FB.al ?_ _ | refine FB.th ?_ (by assumption) | refine FB.far ?_ (by omega) _ _ | refine FB.cells ?_ (by first | exact Nat.le_refl _ | omega | (simp; omega)) _ _)); done)) (fun hHeld => ?_)
                clear hK K
                try simp only [Act.put, List.setIfInBounds_toArray, List.set_cons_zero, List.set_cons_succ]
                have hz1' := hz1.alloc (.cells #[.int .i64 0, .int .i64 0, .string { data := #[] }] 27)
                have hz2 := Blk.nx (w := wr.drew.alloc (.cells #[.int .i64 0, .int .i64 0, .string { data := #[] }] 27)) (g := wr.heap.size + 1) 27 #[.int .i64 0, .int .i64 0, .string { data := #[] }] (by simp)
                refine wpAnyH_ready (rs := [10]) (by kernel_rfl) (by simp) ?_
                refine AllReadyH.cons (o := { dst := none, op := Op.store 27 (Operand.tmp 6) (Operand.tmp 113), type := 0, pos := "ref.go:235", after := #[{ on := 8, ground := Ground.data }, { on := 3, ground := Ground.data }, { on := 0, ground := Ground.phase }, { on := 1, ground := Ground.phase }, { on := 2, ground := Ground.phase }, { on := 3, ground := Ground.phase }, { on := 4, ground := Ground.textOnly Departure.lateStores }, { on := 5, ground := Ground.textOnly Departure.lateStores }, { on := 6, ground := Ground.textOnly Departure.lateStores }, { on := 7, ground := Ground.textOnly Departure.lateStores }, { on := 8, ground := Ground.phase }, { on := 9, ground := Ground.phase }], guard := none }) rfl (fun K hK => ?_) AllReadyH.nil
                refine take_op rfl ?_
                refine wp_store_row 27 _ _ rfl (wr.heap.size + 1) _ rfl rfl 27 _ hz2 (by kernel_rfl : (Try.prog.info? 27).map (·.size) = some 3) rfl (val3_one _ _ _) ?_
                refine hK.out _ _ (FB.row hHeld (by omega) _) (fun hHeld => ?_)
                clear hK K
                try simp only [Act.put, List.setIfInBounds_toArray, List.set_cons_zero, List.set_cons_succ]
                have hz3 := Blk.setRow hz2 #[.int .i64 h0'.vk, .int .i64 h0'.vn, .string h0'.vs]
                have hz4 := Blk.apart hz1' (g' := wr.heap.size + 1) #[.int .i64 h0'.vk, .int .i64 h0'.vn, .string h0'.vs] (by omega)
                refine wpAnyH_ready (rs := [11]) (by kernel_rfl) (by simp) ?_
                refine AllReadyH.cons (o := { dst := none, op := Op.store 27 (Operand.tmp 7) (Operand.tmp 117), type := 0, pos := "ref.go:235", after := #[{ on := 9, ground := Ground.data }, { on := 7, ground := Ground.data }, { on := 10, ground := Ground.chain }, { on := 0, ground := Ground.phase }, { on := 1, ground := Ground.phase }, { on := 2, ground := Ground.phase }, { on := 3, ground := Ground.phase }, { on := 4, ground := Ground.phase }, { on := 5, ground := Ground.phase }, { on := 6, ground := Ground.phase }, { on := 7, ground := Ground.phase }, { on := 8, ground := Ground.phase }, { on := 9, ground := Ground.phase }, { on := 10, ground := Ground.phase }], guard := none }) rfl (fun K hK => ?_) AllReadyH.nil
                refine take_op rfl ?_
                refine wp_store_row 27 _ _ rfl (wr.heap.size) _ rfl rfl 27 _ hz4 (by kernel_rfl : (Try.prog.info? 27).map (·.size) = some 3) rfl (val3_one _ _ _) ?_
                refine hK.out _ _ (FB.row hHeld (by omega) _) (fun hHeld => ?_)
                clear hK K
                try simp only [Act.put, List.setIfInBounds_toArray, List.set_cons_zero, List.set_cons_succ]
                have hz5 := Blk.setRow hz4 #[.int .i64 h1'.vk, .int .i64 h1'.vn, .string h1'.vs]
                have hz6 := Blk.apart hz3 (g' := wr.heap.size) #[.int .i64 h1'.vk, .int .i64 h1'.vn, .string h1'.vs] (by omega)
                refine wpAnyH_done (by kernel_rfl) ?_ _
                go_wp2_with fail
                go_meet
                exact ⟨_, _, rfl, rfl, hz6, hz5, hHeld⟩
            case rest =>
              obtain ⟨ga, gb, rfl, rfl, hga, hgb, hfb⟩ := hcut
              replace hB := hB.lat hfb.1
              have hn2 := hnode.carry (fun k hk hkl => hfb.1.block k hkl)
              clear hnode hv0 hv1 hO0 hu hia' hib' hfb cx co r00 r10 hB0
              have cx := hB.box.cell
              have co := hB.out.cell
              have ca' := hga.cell
              have cb' := hgb.cell
              by_cases hn0 : h0'.vk = 2
              · by_cases hn1 : h1'.vk = 2
                · have hR : R = numF 11 h0'.vn h1'.vn := by
                    rw [hJ, if_neg (by omega), if_neg (by simp [isNum, ha1, hb1, hn0, hn1])]; rfl
                  have HJ := Lib.hid hR
                  have HQ := Lib.hid (rnumbers_any ⟨11, n, m, nm, vk, vn, vs, dv, cl, at_⟩ A ks.length c h0'.vn h1'.vn hia hib (w.heap.size + 3 ≤ ·) wc)
                  have q2 : (h0'.vk == 2) = true := by simpa using hn0
                  have q3 : (h1'.vk == 2) = true := by simpa using hn1
                  clear hJ hR hn2 hn0 hn1 ha1 hb1
                  unfold Hd.cells at HQ
                  dsimp only at HQ
                  go_wp2_with fail
                  refine HQ.out.mono ?_
                  clear HQ
                  rintro r w3 ⟨⟨v', rfl, cs', rfl, he'⟩, hb3⟩
                  obtain ⟨hd2, k2, A2, c2, hcs2⟩ := he'.form
                  subst hcs2
                  replace hB := hB.lat hb3
                  have hr3 := hB.res.setRow (hd2.cells (.slice A2 k2 c2)).toArray
                  have he3 := hB.back he' (hd2.cells (.slice A2 k2 c2)).toArray
                  have hbw3 := hB.fin (hd2.cells (.slice A2 k2 c2)).toArray
                  clear he' hb3
                  try clear cx co
                  unfold Hd.cells at hr3 he3 hbw3 ⊢
                  go_wp2_with (refine wpList_store_row rfl 32 _ _ rfl (w.heap.size + 1) _ rfl rfl 32 _ hB.res (by kernel_rfl : (Try.prog.info? 32).map (·.size) = some 11) rfl (cells_one hd2 A2 k2 c2) ?_)
                  have cR := hr3.cell
                  refine bodyPost_ret (v := ?_) ?_ rfl ?_
                  rotate_left
                  · simp [results, Try.results66, go_sem, cR]; exact rfl
                  rw [HJ.out]
                  exact ⟨⟨_, rfl, _, rfl, he3⟩, hbw3⟩
                · have hR : R = .mk ⟨11, n, m, nm, vk, vn, vs, dv, cl, at_⟩ [k0, k1] := by
                    rw [hJ, if_neg (by omega), if_pos (.inr (by simp [isNum, hn1]))]
                  have HJ := Lib.hid hR
                  have q2 : (h0'.vk == 2) = true := by simpa using hn0
                  have q3 : (h1'.vk == 2) = false := by simpa using hn1
                  clear hJ hR ha1 hb1 hn0
                  have hr3 := hB.res.setRow #[.int .i64 11, .int .i64 n, .int .i64 m, .string nm, .int .i64 vk, .int .i64 vn, .string vs, .int .i64 dv, .string cl, .string at_, .slice (some ⟨b', off', none⟩) 2 c']
                  have he3 := hB.back hn2 #[.int .i64 11, .int .i64 n, .int .i64 m, .string nm, .int .i64 vk, .int .i64 vn, .string vs, .int .i64 dv, .string cl, .string at_, .slice (some ⟨b', off', none⟩) 2 c']
                  have hbw3 := hB.fin #[.int .i64 11, .int .i64 n, .int .i64 m, .string nm, .int .i64 vk, .int .i64 vn, .string vs, .int .i64 dv, .string cl, .string at_, .slice (some ⟨b', off', none⟩) 2 c']
                  clear hn2
                  go_wp2_with (refine wpList_store_row rfl 32 _ _ rfl (w.heap.size + 1) _ rfl rfl 32 _ hB.res (by kernel_rfl : (Try.prog.info? 32).map (·.size) = some 11) rfl (cells_one ⟨11, n, m, nm, vk, vn, vs, dv, cl, at_⟩ (some ⟨b', off', none⟩) 2 c') ?_)
                  have cR := hr3.cell
                  refine bodyPost_ret (v := ?_) ?_ rfl ?_
                  rotate_left
                  · simp [results, Try.results66, go_sem, cR]; exact rfl
                  rw [HJ.out]
                  exact ⟨⟨_, rfl, _, rfl, he3⟩, hbw3⟩
              · have hR : R = .mk ⟨11, n, m, nm, vk, vn, vs, dv, cl, at_⟩ [k0, k1] := by
                  rw [hJ, if_neg (by omega), if_pos (.inl (by simp [isNum, hn0]))]
                have HJ := Lib.hid hR
                have q2 : (h0'.vk == 2) = false := by simpa using hn0
                clear hJ hR ha1 hb1
                have hr3 := hB.res.setRow #[.int .i64 11, .int .i64 n, .int .i64 m, .string nm, .int .i64 vk, .int .i64 vn, .string vs, .int .i64 dv, .string cl, .string at_, .slice (some ⟨b', off', none⟩) 2 c']
                have he3 := hB.back hn2 #[.int .i64 11, .int .i64 n, .int .i64 m, .string nm, .int .i64 vk, .int .i64 vn, .string vs, .int .i64 dv, .string cl, .string at_, .slice (some ⟨b', off', none⟩) 2 c']
                have hbw3 := hB.fin #[.int .i64 11, .int .i64 n, .int .i64 m, .string nm, .int .i64 vk, .int .i64 vn, .string vs, .int .i64 dv, .string cl, .string at_, .slice (some ⟨b', off', none⟩) 2 c']
                clear hn2
                go_wp2_with (refine wpList_store_row rfl 32 _ _ rfl (w.heap.size + 1) _ rfl rfl 32 _ hB.res (by kernel_rfl : (Try.prog.info? 32).map (·.size) = some 11) rfl (cells_one ⟨11, n, m, nm, vk, vn, vs, dv, cl, at_⟩ (some ⟨b', off', none⟩) 2 c') ?_)
                have cR := hr3.cell
                refine bodyPost_ret (v := ?_) ?_ rfl ?_
                rotate_left
                · simp [results, Try.results66, go_sem, cR]; exact rfl
                rw [HJ.out]
                exact ⟨⟨_, rfl, _, rfl, he3⟩, hbw3⟩
          · have qb : (h1'.kind != 1) = true := by simpa using hb1
            have hR : R = .mk ⟨11, n, m, nm, vk, vn, vs, dv, cl, at_⟩ [k0, k1] := by
              rw [hJ, if_neg (by omega), if_pos (.inr (by simp [isNum, hb1]))]
            clear ha1
            have HJ := Lib.hid hR
            have hn2 := hnode
            clear hJ hR hnode hr0 hr1 hB0
            have hr3 := hB.res.setRow #[.int .i64 11, .int .i64 n, .int .i64 m, .string nm, .int .i64 vk, .int .i64 vn, .string vs, .int .i64 dv, .string cl, .string at_, .slice (some ⟨b', off', none⟩) 2 c']
            have he3 := hB.back hn2 #[.int .i64 11, .int .i64 n, .int .i64 m, .string nm, .int .i64 vk, .int .i64 vn, .string vs, .int .i64 dv, .string cl, .string at_, .slice (some ⟨b', off', none⟩) 2 c']
            have hbw3 := hB.fin #[.int .i64 11, .int .i64 n, .int .i64 m, .string nm, .int .i64 vk, .int .i64 vn, .string vs, .int .i64 dv, .string cl, .string at_, .slice (some ⟨b', off', none⟩) 2 c']
            clear hn2
            go_wp2_with (refine wpList_store_row rfl 32 _ _ rfl (w.heap.size + 1) _ rfl rfl 32 _ hB.res (by kernel_rfl : (Try.prog.info? 32).map (·.size) = some 11) rfl (cells_one ⟨11, n, m, nm, vk, vn, vs, dv, cl, at_⟩ (some ⟨b', off', none⟩) 2 c') ?_)
            have cR := hr3.cell
            refine bodyPost_ret (v := ?_) ?_ rfl ?_
            rotate_left
            · simp [results, Try.results66, go_sem, cR]; exact rfl
            rw [HJ.out]
            exact ⟨⟨_, rfl, _, rfl, he3⟩, hbw3⟩
        · have qa : (h0'.kind != 1) = true := by simpa using ha1
          have hR : R = .mk ⟨11, n, m, nm, vk, vn, vs, dv, cl, at_⟩ [k0, k1] := by
            rw [hJ, if_neg (by omega), if_pos (.inl (by simp [isNum, ha1]))]
          have HJ := Lib.hid hR
          have hn2 := hnode
          clear hJ hR hnode hr0 hr1 hB0
          have hr3 := hB.res.setRow #[.int .i64 11, .int .i64 n, .int .i64 m, .string nm, .int .i64 vk, .int .i64 vn, .string vs, .int .i64 dv, .string cl, .string at_, .slice (some ⟨b', off', none⟩) 2 c']
          have he3 := hB.back hn2 #[.int .i64 11, .int .i64 n, .int .i64 m, .string nm, .int .i64 vk, .int .i64 vn, .string vs, .int .i64 dv, .string cl, .string at_, .slice (some ⟨b', off', none⟩) 2 c']
          have hbw3 := hB.fin #[.int .i64 11, .int .i64 n, .int .i64 m, .string nm, .int .i64 vk, .int .i64 vn, .string vs, .int .i64 dv, .string cl, .string at_, .slice (some ⟨b', off', none⟩) 2 c']
          clear hn2
          go_wp2_with (refine wpList_store_row rfl 32 _ _ rfl (w.heap.size + 1) _ rfl rfl 32 _ hB.res (by kernel_rfl : (Try.prog.info? 32).map (·.size) = some 11) rfl (cells_one ⟨11, n, m, nm, vk, vn, vs, dv, cl, at_⟩ (some ⟨b', off', none⟩) 2 c') ?_)
          have cR := hr3.cell
          refine bodyPost_ret (v := ?_) ?_ rfl ?_
          rotate_left
          · simp [results, Try.results66, go_sem, cR]; exact rfl
          rw [HJ.out]
          exact ⟨⟨_, rfl, _, rfl, he3⟩, hbw3⟩
      · obtain ⟨k0, k1, rfl⟩ := len2 (ks := kl) (by rcases hko with h | h | h | h | h <;> omega)
        obtain ⟨rfl, hbB⟩ := hA' (by simp)
        have hr0 := hrow' 0 (by simp)
        obtain ⟨h0', n0, A0, c0, e0⟩ := (hk' 0 (by simp)).form
        have hy0 := hk' 0 (by simp)
        have hbl0 := rowAt_lt hr0 (by rw [hsz']; omega)
        rw [e0] at hr0 hy0
        have hd0 := hd_of (hk' 0 (by simp)) e0
        simp only [List.getElem_cons_zero, List.getElem_cons_succ, Nat.zero_mul, Nat.one_mul, Nat.add_zero, Nat.reduceMul] at hd0 hr0 hy0
        have hr1 := hrow' 1 (by simp)
        obtain ⟨h1', n1, A1, c1, e1⟩ := (hk' 1 (by simp)).form
        have hy1 := hk' 1 (by simp)
        have hbl1 := rowAt_lt hr1 (by rw [hsz']; omega)
        rw [e1] at hr1 hy1
        have hd1 := hd_of (hk' 1 (by simp)) e1
        simp only [List.getElem_cons_zero, List.getElem_cons_succ, Nat.zero_mul, Nat.one_mul, Nat.add_zero, Nat.reduceMul] at hd1 hr1 hy1
        have hia := okP (hk' 0 (by simp)) e0
        have hib := okP (hk' 1 (by simp)) e1
        have hJ : R = binF ⟨12, n, m, nm, vk, vn, vs, dv, cl, at_⟩ k0 k1 := by rw [HJ0.out, if_neg (by omega), if_neg (by omega), if_neg (by omega), if_pos (by omega)]; rfl
        rw [binF_eq, hd0, hd1] at hJ
        dsimp only at hJ
        clear HJ0 hko hA' hrow' hk' hoks' e0 e1 hd0 hd1 hy0 hy1
        simp only [List.length_cons, List.length_nil, Nat.reduceAdd] at hnode cx co hB ⊢
        unfold Hd.cells at hr0 hr1
        have r00 := hr0 0 _ rfl
        have r10 := hr1 0 _ rfl
        simp only [Nat.add_zero] at r00 r10
        by_cases ha1 : h0'.kind = 1
        · have qa : (h0'.kind != 1) = false := by simpa using ha1
          by_cases hb1 : h1'.kind = 1
          · have qb : (h1'.kind != 1) = false := by simpa using hb1
            have hv0 : RowAt wr b' (off' + 4) [.int .i64 h0'.vk, .int .i64 h0'.vn, .string h0'.vs] := hr0.sub 4 3
            have hv1 : RowAt wr b' (off' + 11 + 4) [.int .i64 h1'.vk, .int .i64 h1'.vn, .string h1'.vs] := hr1.sub 4 3
            clear hr0 hr1
            go_upto_region 18 with fail
            have hO0 : FB wr.heap.size wr wr := ⟨Below.refl _ _, Nat.le_refl _⟩
            have hu := Try.underlying27
            have hia' : (Try.prog.info? 27).map (·.size) = some ([.int .i64 h0'.vk, .int .i64 h0'.vn, .string h0'.vs] : List Value).length := by kernel_rfl
            have hib' : (Try.prog.info? 27).map (·.size) = some ([.int .i64 h1'.vk, .int .i64 h1'.vn, .string h1'.vs] : List Value).length := by kernel_rfl
            go_cut [6, 7] (fun s6 s7 wx => ∃ ga gb : Nat, s6 = .pointer (some ⟨ga, 0, none⟩) ∧ s7 = .pointer (some ⟨gb, 0, none⟩) ∧ Blk wx ga 27 #[.int .i64 h0'.vk, .int .i64 h0'.vn, .string h0'.vs] ∧ Blk wx gb 27 #[.int .i64 h1'.vk, .int .i64 h1'.vn, .string h1'.vs] ∧ FB wr.heap.size wr wx)
            case first =>
              refine wp_region_held_drew (S := fun w' => FB wr.heap.size wr w') (by kernel_rfl) (FB.dr hO0) (fun hHeld => ?_)
              refine wpAnyH_take (i := 0) (oi := { dst := some 110, op := Op.move (Operand.tmp 5), type := 30, pos := "ref.go:235", after := #[], guard := none }) (v := .slice (some ⟨b', off', none⟩) 2 c') rfl (by kernel_rfl) (by kernel_rfl) (by kernel_rfl) (fun _ _ _ h => h) (Or.inl ⟨rfl, ?_⟩) hHeld ?_
              · intro w' hS
                go_simp
              simp only [Act.put, List.setIfInBounds_toArray, List.set_cons_zero, List.set_cons_succ]
              refine wpAnyH_take (i := 1) (oi := { dst := some 111, op := Op.indexAddr 30 (Operand.tmp 110) (Operand.const (Value.int IntKind.i64 0)), type := 0, pos := "ref.go:235", after := #[{ on := 0, ground := Ground.data }], guard := none }) (v := .pointer (some ⟨b', off', none⟩)) rfl (by kernel_rfl) (by kernel_rfl) (by kernel_rfl) (fun _ _ _ h => h) (Or.inl ⟨rfl, ?_⟩) hHeld ?_
              · intro w' hS
                go_simp
              simp only [Act.put, List.setIfInBounds_toArray, List.set_cons_zero, List.set_cons_succ]
              refine wpAnyH_take (i := 2) (oi := { dst := some 112, op := Op.fieldAddr 32 (Operand.tmp 111) 4, type := 0, pos := "ref.go:235", after := #[{ on := 1, ground := Ground.data }], guard := none }) (v := .pointer (some ⟨b', off' + 4, none⟩)) rfl (by kernel_rfl) (by kernel_rfl) (by kernel_rfl) (fun _ _ _ h => h) (Or.inl ⟨rfl, ?_⟩) hHeld ?_
              · intro w' hS
                go_simp
              simp only [Act.put, List.setIfInBounds_toArray, List.set_cons_zero, List.set_cons_succ]
              refine wpAnyH_take (i := 3) (oi := { dst := some 113, op := Op.load 27 (Operand.tmp 112), type := 27, pos := "ref.go:235", after := #[{ on := 2, ground := Ground.data }], guard := none }) (v := .agg #[.int .i64 h0'.vk, .int .i64 h0'.vn, .string h0'.vs]) rfl (by kernel_rfl) (by kernel_rfl) (by kernel_rfl) (fun _ _ _ h => h) (Or.inl ⟨rfl, ?_⟩) hHeld ?_
              · intro w' hS
                (exact yields_load_at 27 _ rfl b' (off' + 4) rfl [.int .i64 h0'.vk, .int .i64 h0'.vn, .string h0'.vs] _ (hv0.below hS.1 hbl0) Try.underlying27 rfl hia')
              simp only [Act.put, List.setIfInBounds_toArray, List.set_cons_zero, List.set_cons_succ]
              refine wpAnyH_take (i := 4) (oi := { dst := some 114, op := Op.move (Operand.tmp 5), type := 30, pos := "ref.go:235", after := #[{ on := 10, ground := Ground.gcOnly Departure.lateStores }], guard := none }) (v := .slice (some ⟨b', off', none⟩) 2 c') rfl (by kernel_rfl) (by kernel_rfl) (by kernel_rfl) (fun _ _ _ h => h) (Or.inl ⟨rfl, ?_⟩) hHeld ?_
              · intro w' hS
                go_simp
              simp only [Act.put, List.setIfInBounds_toArray, List.set_cons_zero, List.set_cons_succ]
              refine wpAnyH_take (i := 5) (oi := { dst := some 115, op := Op.indexAddr 30 (Operand.tmp 114) (Operand.const (Value.int IntKind.i64 1)), type := 0, pos := "ref.go:235", after := #[{ on := 4, ground := Ground.data }, { on := 10, ground := Ground.gcOnly Departure.lateStores }], guard := none }) (v := .pointer (some ⟨b', off' + 11, none⟩)) rfl (by kernel_rfl) (by kernel_rfl) (by kernel_rfl) (fun _ _ _ h => h) (Or.inl ⟨rfl, ?_⟩) hHeld ?_
              · intro w' hS
                go_simp
              simp only [Act.put, List.setIfInBounds_toArray, List.set_cons_zero, List.set_cons_succ]
              refine wpAnyH_take (i := 6) (oi := { dst := some 116, op := Op.fieldAddr 32 (Operand.tmp 115) 4, type := 0, pos := "ref.go:235", after := #[{ on := 5, ground := Ground.data }, { on := 10, ground := Ground.gcOnly Departure.lateStores }], guard := none }) (v := .pointer (some ⟨b', off' + 11 + 4, none⟩)) rfl (by kernel_rfl) (by kernel_rfl) (by kernel_rfl) (fun _ _ _ h => h) (Or.inl ⟨rfl, ?_⟩) hHeld ?_
              · intro w' hS
                go_simp
              simp only [Act.put, List.setIfInBounds_toArray, List.set_cons_zero, List.set_cons_succ]
              refine wpAnyH_take (i := 7) (oi := { dst := some 117, op := Op.load 27 (Operand.tmp 116), type := 27, pos := "ref.go:235", after := #[{ on := 6, ground := Ground.data }, { on := 10, ground := Ground.gcOnly Departure.lateStores }], guard := none }) (v := .agg #[.int .i64 h1'.vk, .int .i64 h1'.vn, .string h1'.vs]) rfl (by kernel_rfl) (by kernel_rfl) (by kernel_rfl) (fun _ _ _ h => h) (Or.inl ⟨rfl, ?_⟩) hHeld ?_
              · intro w' hS
                (exact yields_load_at 27 _ rfl b' (off' + 11 + 4) rfl [.int .i64 h1'.vk, .int .i64 h1'.vn, .string h1'.vs] _ (hv1.below hS.1 hbl1) Try.underlying27 rfl hib')
              simp only [Act.put, List.setIfInBounds_toArray, List.set_cons_zero, List.set_cons_succ]
              refine wpAnyH_ready (rs := [8, 9]) (by kernel_rfl) (by simp) ?_
              refine AllReadyH.cons (o := { dst := some 6, op := Op.alloc 27, type := 0, pos := "ref.go:235", after := #[], guard := none }) rfl (fun K hK => ?_) ?_
              · go_simp
                refine hK.out _ _ (by ((repeat (first | assumption | refine FB.dr ?_ | refine FB.al ?_ _ | refine FB.th ?_ (by assumption) | refine FB.far ?_ (by omega) _ _ | refine FB.cells ?_ (by first | exact Nat.le_refl _ | omega | (simp; omega)) _ _)); done)) (fun hHeld => ?_)
                clear hK K
                try simp only [Act.put, List.setIfInBounds_toArray, List.set_cons_zero, List.set_cons_succ]
                have hz1 := Blk.nx (w := wr.drew) (g := wr.heap.size) 27 #[.int .i64 0, .int .i64 0, .string { data := #[] }] rfl
                refine wpAnyH_ready (rs := [9]) (by kernel_rfl) (by simp) ?_
                refine AllReadyH.cons (o := { dst := some 7, op := Op.alloc 27, type := 0, pos := "ref.go:235", after := #[], guard := none }) rfl (fun K hK => ?_) AllReadyH.nil
                go_simp
                refine hK.out _ _ (by ((repeat (first | assumption | refine FB.dr ?_ | refine FB.al ?_ _ | refine FB.th ?_ (by assumption) | refine FB.far ?_ (by omega) _ _ | refine FB.cells ?_ (by first | exact Nat.le_refl _ | omega | (simp; omega)) _ _)); done)) (fun hHeld => ?_)
                clear hK K
                try simp only [Act.put, List.setIfInBounds_toArray, List.set_cons_zero, List.set_cons_succ]
                have hz1' := hz1.alloc (.cells #[.int .i64 0, .int .i64 0, .string { data := #[] }] 27)
                have hz2 := Blk.nx (w := wr.drew.alloc (.cells #[.int .i64 0, .int .i64 0, .string { data := #[] }] 27)) (g := wr.heap.size + 1) 27 #[.int .i64 0, .int .i64 0, .string { data := #[] }] (by simp)
                refine wpAnyH_ready (rs := [10]) (by kernel_rfl) (by simp) ?_
                refine AllReadyH.cons (o := { dst := none, op := Op.store 27 (Operand.tmp 6) (Operand.tmp 113), type := 0, pos := "ref.go:235", after := #[{ on := 8, ground := Ground.data }, { on := 3, ground := Ground.data }, { on := 0, ground := Ground.phase }, { on := 1, ground := Ground.phase }, { on := 2, ground := Ground.phase }, { on := 3, ground := Ground.phase }, { on := 4, ground := Ground.textOnly Departure.lateStores }, { on := 5, ground := Ground.textOnly Departure.lateStores }, { on := 6, ground := Ground.textOnly Departure.lateStores }, { on := 7, ground := Ground.textOnly Departure.lateStores }, { on := 8, ground := Ground.phase }, { on := 9, ground := Ground.phase }], guard := none }) rfl (fun K hK => ?_) AllReadyH.nil
                refine take_op rfl ?_
                refine wp_store_row 27 _ _ rfl (wr.heap.size) _ rfl rfl 27 _ hz1' (by kernel_rfl : (Try.prog.info? 27).map (·.size) = some 3) rfl (val3_one _ _ _) ?_
                refine hK.out _ _ (FB.row hHeld (by omega) _) (fun hHeld => ?_)
                clear hK K
                try simp only [Act.put, List.setIfInBounds_toArray, List.set_cons_zero, List.set_cons_succ]
                have hz3 := Blk.setRow hz1' #[.int .i64 h0'.vk, .int .i64 h0'.vn, .string h0'.vs]
                have hz4 := Blk.apart hz2 (g' := wr.heap.size) #[.int .i64 h0'.vk, .int .i64 h0'.vn, .string h0'.vs] (by omega)
                refine wpAnyH_ready (rs := [11]) (by kernel_rfl) (by simp) ?_
                refine AllReadyH.cons (o := { dst := none, op := Op.store 27 (Operand.tmp 7) (Operand.tmp 117), type := 0, pos := "ref.go:235", after := #[{ on := 9, ground := Ground.data }, { on := 7, ground := Ground.data }, { on := 10, ground := Ground.chain }, { on := 0, ground := Ground.phase }, { on := 1, ground := Ground.phase }, { on := 2, ground := Ground.phase }, { on := 3, ground := Ground.phase }, { on := 4, ground := Ground.phase }, { on := 5, ground := Ground.phase }, { on := 6, ground := Ground.phase }, { on := 7, ground := Ground.phase }, { on := 8, ground := Ground.phase }, { on := 9, ground := Ground.phase }, { on := 10, ground := Ground.phase }], guard := none }) rfl (fun K hK => ?_) AllReadyH.nil
                refine take_op rfl ?_
                refine wp_store_row 27 _ _ rfl (wr.heap.size + 1) _ rfl rfl 27 _ hz4 (by kernel_rfl : (Try.prog.info? 27).map (·.size) = some 3) rfl (val3_one _ _ _) ?_
                refine hK.out _ _ (FB.row hHeld (by omega) _) (fun hHeld => ?_)
                clear hK K
                try simp only [Act.put, List.setIfInBounds_toArray, List.set_cons_zero, List.set_cons_succ]
                have hz5 := Blk.setRow hz4 #[.int .i64 h1'.vk, .int .i64 h1'.vn, .string h1'.vs]
                have hz6 := Blk.apart hz3 (g' := wr.heap.size + 1) #[.int .i64 h1'.vk, .int .i64 h1'.vn, .string h1'.vs] (by omega)
                refine wpAnyH_done (by kernel_rfl) ?_ _
                go_wp2_with fail
                go_meet
                exact ⟨_, _, rfl, rfl, hz6, hz5, hHeld⟩
              refine AllReadyH.cons (o := { dst := some 7, op := Op.alloc 27, type := 0, pos := "ref.go:235", after := #[], guard := none }) rfl (fun K hK => ?_) AllReadyH.nil
              · go_simp
                refine hK.out _ _ (by ((repeat (first | assumption | refine FB.dr ?_ | refine FB.al ?_ _ | refine FB.th ?_ (by assumption) | refine FB.far ?_ (by omega) _ _ | refine FB.cells ?_ (by first | exact Nat.le_refl _ | omega | (simp; omega)) _ _)); done)) (fun hHeld => ?_)
                clear hK K
                try simp only [Act.put, List.setIfInBounds_toArray, List.set_cons_zero, List.set_cons_succ]
                have hz1 := Blk.nx (w := wr.drew) (g := wr.heap.size) 27 #[.int .i64 0, .int .i64 0, .string { data := #[] }] rfl
                refine wpAnyH_ready (rs := [8]) (by kernel_rfl) (by simp) ?_
                refine AllReadyH.cons (o := { dst := some 6, op := Op.alloc 27, type := 0, pos := "ref.go:235", after := #[], guard := none }) rfl (fun K hK => ?_) AllReadyH.nil
                go_simp
                refine hK.out _ _ (by ((repeat (first | assumption | refine FB.dr ?_ | refine FB.al ?_ _ | refine FB.th ?_ (by assumption) | refine FB.far ?_ (by omega) _ _ | refine FB.cells ?_ (by first | exact Nat.le_refl _ | omega | (simp; omega)) _ _)); done)) (fun hHeld => ?_)
                clear hK K
                try simp only [Act.put, List.setIfInBounds_toArray, List.set_cons_zero, List.set_cons_succ]
                have hz1' := hz1.alloc (.cells #[.int .i64 0, .int .i64 0, .string { data := #[] }] 27)
                have hz2 := Blk.nx (w := wr.drew.alloc (.cells #[.int .i64 0, .int .i64 0, .string { data := #[] }] 27)) (g := wr.heap.size + 1) 27 #[.int .i64 0, .int .i64 0, .string { data := #[] }] (by simp)
                refine wpAnyH_ready (rs := [10]) (by kernel_rfl) (by simp) ?_
                refine AllReadyH.cons (o := { dst := none, op := Op.store 27 (Operand.tmp 6) (Operand.tmp 113), type := 0, pos := "ref.go:235", after := #[{ on := 8, ground := Ground.data }, { on := 3, ground := Ground.data }, { on := 0, ground := Ground.phase }, { on := 1, ground := Ground.phase }, { on := 2, ground := Ground.phase }, { on := 3, ground := Ground.phase }, { on := 4, ground := Ground.textOnly Departure.lateStores }, { on := 5, ground := Ground.textOnly Departure.lateStores }, { on := 6, ground := Ground.textOnly Departure.lateStores }, { on := 7, ground := Ground.textOnly Departure.lateStores }, { on := 8, ground := Ground.phase }, { on := 9, ground := Ground.phase }], guard := none }) rfl (fun K hK => ?_) AllReadyH.nil
                refine take_op rfl ?_
                refine wp_store_row 27 _ _ rfl (wr.heap.size + 1) _ rfl rfl 27 _ hz2 (by kernel_rfl : (Try.prog.info? 27).map (·.size) = some 3) rfl (val3_one _ _ _) ?_
                refine hK.out _ _ (FB.row hHeld (by omega) _) (fun hHeld => ?_)
                clear hK K
                try simp only [Act.put, List.setIfInBounds_toArray, List.set_cons_zero, List.set_cons_succ]
                have hz3 := Blk.setRow hz2 #[.int .i64 h0'.vk, .int .i64 h0'.vn, .string h0'.vs]
                have hz4 := Blk.apart hz1' (g' := wr.heap.size + 1) #[.int .i64 h0'.vk, .int .i64 h0'.vn, .string h0'.vs] (by omega)
                refine wpAnyH_ready (rs := [11]) (by kernel_rfl) (by simp) ?_
                refine AllReadyH.cons (o := { dst := none, op := Op.store 27 (Operand.tmp 7) (Operand.tmp 117), type := 0, pos := "ref.go:235", after := #[{ on := 9, ground := Ground.data }, { on := 7, ground := Ground.data }, { on := 10, ground := Ground.chain }, { on := 0, ground := Ground.phase }, { on := 1, ground := Ground.phase }, { on := 2, ground := Ground.phase }, { on := 3, ground := Ground.phase }, { on := 4, ground := Ground.phase }, { on := 5, ground := Ground.phase }, { on := 6, ground := Ground.phase }, { on := 7, ground := Ground.phase }, { on := 8, ground := Ground.phase }, { on := 9, ground := Ground.phase }, { on := 10, ground := Ground.phase }], guard := none }) rfl (fun K hK => ?_) AllReadyH.nil
                refine take_op rfl ?_
                refine wp_store_row 27 _ _ rfl (wr.heap.size) _ rfl rfl 27 _ hz4 (by kernel_rfl : (Try.prog.info? 27).map (·.size) = some 3) rfl (val3_one _ _ _) ?_
                refine hK.out _ _ (FB.row hHeld (by omega) _) (fun hHeld => ?_)
                clear hK K
                try simp only [Act.put, List.setIfInBounds_toArray, List.set_cons_zero, List.set_cons_succ]
                have hz5 := Blk.setRow hz4 #[.int .i64 h1'.vk, .int .i64 h1'.vn, .string h1'.vs]
                have hz6 := Blk.apart hz3 (g' := wr.heap.size) #[.int .i64 h1'.vk, .int .i64 h1'.vn, .string h1'.vs] (by omega)
                refine wpAnyH_done (by kernel_rfl) ?_ _
                go_wp2_with fail
                go_meet
                exact ⟨_, _, rfl, rfl, hz6, hz5, hHeld⟩
            case rest =>
              obtain ⟨ga, gb, rfl, rfl, hga, hgb, hfb⟩ := hcut
              replace hB := hB.lat hfb.1
              have hn2 := hnode.carry (fun k hk hkl => hfb.1.block k hkl)
              clear hnode hv0 hv1 hO0 hu hia' hib' hfb cx co r00 r10 hB0
              have cx := hB.box.cell
              have co := hB.out.cell
              have ca' := hga.cell
              have cb' := hgb.cell
              by_cases hn0 : h0'.vk = 2
              · by_cases hn1 : h1'.vk = 2
                · have hR : R = numF 12 h0'.vn h1'.vn := by
                    rw [hJ, if_neg (by omega), if_neg (by simp [isNum, ha1, hb1, hn0, hn1])]; rfl
                  have HJ := Lib.hid hR
                  have HQ := Lib.hid (rnumbers_any ⟨12, n, m, nm, vk, vn, vs, dv, cl, at_⟩ A ks.length c h0'.vn h1'.vn hia hib (w.heap.size + 3 ≤ ·) wc)
                  have q2 : (h0'.vk == 2) = true := by simpa using hn0
                  have q3 : (h1'.vk == 2) = true := by simpa using hn1
                  clear hJ hR hn2 hn0 hn1 ha1 hb1
                  unfold Hd.cells at HQ
                  dsimp only at HQ
                  go_wp2_with fail
                  refine HQ.out.mono ?_
                  clear HQ
                  rintro r w3 ⟨⟨v', rfl, cs', rfl, he'⟩, hb3⟩
                  obtain ⟨hd2, k2, A2, c2, hcs2⟩ := he'.form
                  subst hcs2
                  replace hB := hB.lat hb3
                  have hr3 := hB.res.setRow (hd2.cells (.slice A2 k2 c2)).toArray
                  have he3 := hB.back he' (hd2.cells (.slice A2 k2 c2)).toArray
                  have hbw3 := hB.fin (hd2.cells (.slice A2 k2 c2)).toArray
                  clear he' hb3
                  try clear cx co
                  unfold Hd.cells at hr3 he3 hbw3 ⊢
                  go_wp2_with (refine wpList_store_row rfl 32 _ _ rfl (w.heap.size + 1) _ rfl rfl 32 _ hB.res (by kernel_rfl : (Try.prog.info? 32).map (·.size) = some 11) rfl (cells_one hd2 A2 k2 c2) ?_)
                  have cR := hr3.cell
                  refine bodyPost_ret (v := ?_) ?_ rfl ?_
                  rotate_left
                  · simp [results, Try.results66, go_sem, cR]; exact rfl
                  rw [HJ.out]
                  exact ⟨⟨_, rfl, _, rfl, he3⟩, hbw3⟩
                · have hR : R = .mk ⟨12, n, m, nm, vk, vn, vs, dv, cl, at_⟩ [k0, k1] := by
                    rw [hJ, if_neg (by omega), if_pos (.inr (by simp [isNum, hn1]))]
                  have HJ := Lib.hid hR
                  have q2 : (h0'.vk == 2) = true := by simpa using hn0
                  have q3 : (h1'.vk == 2) = false := by simpa using hn1
                  clear hJ hR ha1 hb1 hn0
                  have hr3 := hB.res.setRow #[.int .i64 12, .int .i64 n, .int .i64 m, .string nm, .int .i64 vk, .int .i64 vn, .string vs, .int .i64 dv, .string cl, .string at_, .slice (some ⟨b', off', none⟩) 2 c']
                  have he3 := hB.back hn2 #[.int .i64 12, .int .i64 n, .int .i64 m, .string nm, .int .i64 vk, .int .i64 vn, .string vs, .int .i64 dv, .string cl, .string at_, .slice (some ⟨b', off', none⟩) 2 c']
                  have hbw3 := hB.fin #[.int .i64 12, .int .i64 n, .int .i64 m, .string nm, .int .i64 vk, .int .i64 vn, .string vs, .int .i64 dv, .string cl, .string at_, .slice (some ⟨b', off', none⟩) 2 c']
                  clear hn2
                  go_wp2_with (refine wpList_store_row rfl 32 _ _ rfl (w.heap.size + 1) _ rfl rfl 32 _ hB.res (by kernel_rfl : (Try.prog.info? 32).map (·.size) = some 11) rfl (cells_one ⟨12, n, m, nm, vk, vn, vs, dv, cl, at_⟩ (some ⟨b', off', none⟩) 2 c') ?_)
                  have cR := hr3.cell
                  refine bodyPost_ret (v := ?_) ?_ rfl ?_
                  rotate_left
                  · simp [results, Try.results66, go_sem, cR]; exact rfl
                  rw [HJ.out]
                  exact ⟨⟨_, rfl, _, rfl, he3⟩, hbw3⟩
              · have hR : R = .mk ⟨12, n, m, nm, vk, vn, vs, dv, cl, at_⟩ [k0, k1] := by
                  rw [hJ, if_neg (by omega), if_pos (.inl (by simp [isNum, hn0]))]
                have HJ := Lib.hid hR
                have q2 : (h0'.vk == 2) = false := by simpa using hn0
                clear hJ hR ha1 hb1
                have hr3 := hB.res.setRow #[.int .i64 12, .int .i64 n, .int .i64 m, .string nm, .int .i64 vk, .int .i64 vn, .string vs, .int .i64 dv, .string cl, .string at_, .slice (some ⟨b', off', none⟩) 2 c']
                have he3 := hB.back hn2 #[.int .i64 12, .int .i64 n, .int .i64 m, .string nm, .int .i64 vk, .int .i64 vn, .string vs, .int .i64 dv, .string cl, .string at_, .slice (some ⟨b', off', none⟩) 2 c']
                have hbw3 := hB.fin #[.int .i64 12, .int .i64 n, .int .i64 m, .string nm, .int .i64 vk, .int .i64 vn, .string vs, .int .i64 dv, .string cl, .string at_, .slice (some ⟨b', off', none⟩) 2 c']
                clear hn2
                go_wp2_with (refine wpList_store_row rfl 32 _ _ rfl (w.heap.size + 1) _ rfl rfl 32 _ hB.res (by kernel_rfl : (Try.prog.info? 32).map (·.size) = some 11) rfl (cells_one ⟨12, n, m, nm, vk, vn, vs, dv, cl, at_⟩ (some ⟨b', off', none⟩) 2 c') ?_)
                have cR := hr3.cell
                refine bodyPost_ret (v := ?_) ?_ rfl ?_
                rotate_left
                · simp [results, Try.results66, go_sem, cR]; exact rfl
                rw [HJ.out]
                exact ⟨⟨_, rfl, _, rfl, he3⟩, hbw3⟩
          · have qb : (h1'.kind != 1) = true := by simpa using hb1
            have hR : R = .mk ⟨12, n, m, nm, vk, vn, vs, dv, cl, at_⟩ [k0, k1] := by
              rw [hJ, if_neg (by omega), if_pos (.inr (by simp [isNum, hb1]))]
            clear ha1
            have HJ := Lib.hid hR
            have hn2 := hnode
            clear hJ hR hnode hr0 hr1 hB0
            have hr3 := hB.res.setRow #[.int .i64 12, .int .i64 n, .int .i64 m, .string nm, .int .i64 vk, .int .i64 vn, .string vs, .int .i64 dv, .string cl, .string at_, .slice (some ⟨b', off', none⟩) 2 c']
            have he3 := hB.back hn2 #[.int .i64 12, .int .i64 n, .int .i64 m, .string nm, .int .i64 vk, .int .i64 vn, .string vs, .int .i64 dv, .string cl, .string at_, .slice (some ⟨b', off', none⟩) 2 c']
            have hbw3 := hB.fin #[.int .i64 12, .int .i64 n, .int .i64 m, .string nm, .int .i64 vk, .int .i64 vn, .string vs, .int .i64 dv, .string cl, .string at_, .slice (some ⟨b', off', none⟩) 2 c']
            clear hn2
            go_wp2_with (refine wpList_store_row rfl 32 _ _ rfl (w.heap.size + 1) _ rfl rfl 32 _ hB.res (by kernel_rfl : (Try.prog.info? 32).map (·.size) = some 11) rfl (cells_one ⟨12, n, m, nm, vk, vn, vs, dv, cl, at_⟩ (some ⟨b', off', none⟩) 2 c') ?_)
            have cR := hr3.cell
            refine bodyPost_ret (v := ?_) ?_ rfl ?_
            rotate_left
            · simp [results, Try.results66, go_sem, cR]; exact rfl
            rw [HJ.out]
            exact ⟨⟨_, rfl, _, rfl, he3⟩, hbw3⟩
        · have qa : (h0'.kind != 1) = true := by simpa using ha1
          have hR : R = .mk ⟨12, n, m, nm, vk, vn, vs, dv, cl, at_⟩ [k0, k1] := by
            rw [hJ, if_neg (by omega), if_pos (.inl (by simp [isNum, ha1]))]
          have HJ := Lib.hid hR
          have hn2 := hnode
          clear hJ hR hnode hr0 hr1 hB0
          have hr3 := hB.res.setRow #[.int .i64 12, .int .i64 n, .int .i64 m, .string nm, .int .i64 vk, .int .i64 vn, .string vs, .int .i64 dv, .string cl, .string at_, .slice (some ⟨b', off', none⟩) 2 c']
          have he3 := hB.back hn2 #[.int .i64 12, .int .i64 n, .int .i64 m, .string nm, .int .i64 vk, .int .i64 vn, .string vs, .int .i64 dv, .string cl, .string at_, .slice (some ⟨b', off', none⟩) 2 c']
          have hbw3 := hB.fin #[.int .i64 12, .int .i64 n, .int .i64 m, .string nm, .int .i64 vk, .int .i64 vn, .string vs, .int .i64 dv, .string cl, .string at_, .slice (some ⟨b', off', none⟩) 2 c']
          clear hn2
          go_wp2_with (refine wpList_store_row rfl 32 _ _ rfl (w.heap.size + 1) _ rfl rfl 32 _ hB.res (by kernel_rfl : (Try.prog.info? 32).map (·.size) = some 11) rfl (cells_one ⟨12, n, m, nm, vk, vn, vs, dv, cl, at_⟩ (some ⟨b', off', none⟩) 2 c') ?_)
          have cR := hr3.cell
          refine bodyPost_ret (v := ?_) ?_ rfl ?_
          rotate_left
          · simp [results, Try.results66, go_sem, cR]; exact rfl
          rw [HJ.out]
          exact ⟨⟨_, rfl, _, rfl, he3⟩, hbw3⟩
      · obtain ⟨k0, k1, rfl⟩ := len2 (ks := kl) (by rcases hko with h | h | h | h | h <;> omega)
        obtain ⟨rfl, hbB⟩ := hA' (by simp)
        have hr0 := hrow' 0 (by simp)
        obtain ⟨h0', n0, A0, c0, e0⟩ := (hk' 0 (by simp)).form
        have hy0 := hk' 0 (by simp)
        have hbl0 := rowAt_lt hr0 (by rw [hsz']; omega)
        rw [e0] at hr0 hy0
        have hd0 := hd_of (hk' 0 (by simp)) e0
        simp only [List.getElem_cons_zero, List.getElem_cons_succ, Nat.zero_mul, Nat.one_mul, Nat.add_zero, Nat.reduceMul] at hd0 hr0 hy0
        have hr1 := hrow' 1 (by simp)
        obtain ⟨h1', n1, A1, c1, e1⟩ := (hk' 1 (by simp)).form
        have hy1 := hk' 1 (by simp)
        have hbl1 := rowAt_lt hr1 (by rw [hsz']; omega)
        rw [e1] at hr1 hy1
        have hd1 := hd_of (hk' 1 (by simp)) e1
        simp only [List.getElem_cons_zero, List.getElem_cons_succ, Nat.zero_mul, Nat.one_mul, Nat.add_zero, Nat.reduceMul] at hd1 hr1 hy1
        have hia := okP (hk' 0 (by simp)) e0
        have hib := okP (hk' 1 (by simp)) e1
        have hJ : R = binF ⟨13, n, m, nm, vk, vn, vs, dv, cl, at_⟩ k0 k1 := by rw [HJ0.out, if_neg (by omega), if_neg (by omega), if_neg (by omega), if_pos (by omega)]; rfl
        rw [binF_eq, hd0, hd1] at hJ
        dsimp only at hJ
        clear HJ0 hko hA' hrow' hk' hoks' e0 e1 hd0 hd1 hy0 hy1
        simp only [List.length_cons, List.length_nil, Nat.reduceAdd] at hnode cx co hB ⊢
        unfold Hd.cells at hr0 hr1
        have r00 := hr0 0 _ rfl
        have r10 := hr1 0 _ rfl
        simp only [Nat.add_zero] at r00 r10
        by_cases ha1 : h0'.kind = 1
        · have qa : (h0'.kind != 1) = false := by simpa using ha1
          by_cases hb1 : h1'.kind = 1
          · have qb : (h1'.kind != 1) = false := by simpa using hb1
            have hv0 : RowAt wr b' (off' + 4) [.int .i64 h0'.vk, .int .i64 h0'.vn, .string h0'.vs] := hr0.sub 4 3
            have hv1 : RowAt wr b' (off' + 11 + 4) [.int .i64 h1'.vk, .int .i64 h1'.vn, .string h1'.vs] := hr1.sub 4 3
            clear hr0 hr1
            go_upto_region 18 with fail
            have hO0 : FB wr.heap.size wr wr := ⟨Below.refl _ _, Nat.le_refl _⟩
            have hu := Try.underlying27
            have hia' : (Try.prog.info? 27).map (·.size) = some ([.int .i64 h0'.vk, .int .i64 h0'.vn, .string h0'.vs] : List Value).length := by kernel_rfl
            have hib' : (Try.prog.info? 27).map (·.size) = some ([.int .i64 h1'.vk, .int .i64 h1'.vn, .string h1'.vs] : List Value).length := by kernel_rfl
            go_cut [6, 7] (fun s6 s7 wx => ∃ ga gb : Nat, s6 = .pointer (some ⟨ga, 0, none⟩) ∧ s7 = .pointer (some ⟨gb, 0, none⟩) ∧ Blk wx ga 27 #[.int .i64 h0'.vk, .int .i64 h0'.vn, .string h0'.vs] ∧ Blk wx gb 27 #[.int .i64 h1'.vk, .int .i64 h1'.vn, .string h1'.vs] ∧ FB wr.heap.size wr wx)
            case first =>
              refine wp_region_held_drew (S := fun w' => FB wr.heap.size wr w') (by kernel_rfl) (FB.dr hO0) (fun hHeld => ?_)
              refine wpAnyH_take (i := 0) (oi := { dst := some 110, op := Op.move (Operand.tmp 5), type := 30, pos := "ref.go:235", after := #[], guard := none }) (v := .slice (some ⟨b', off', none⟩) 2 c') rfl (by kernel_rfl) (by kernel_rfl) (by kernel_rfl) (fun _ _ _ h => h) (Or.inl ⟨rfl, ?_⟩) hHeld ?_
              · intro w' hS
                go_simp
              simp only [Act.put, List.setIfInBounds_toArray, List.set_cons_zero, List.set_cons_succ]
              refine wpAnyH_take (i := 1) (oi := { dst := some 111, op := Op.indexAddr 30 (Operand.tmp 110) (Operand.const (Value.int IntKind.i64 0)), type := 0, pos := "ref.go:235", after := #[{ on := 0, ground := Ground.data }], guard := none }) (v := .pointer (some ⟨b', off', none⟩)) rfl (by kernel_rfl) (by kernel_rfl) (by kernel_rfl) (fun _ _ _ h => h) (Or.inl ⟨rfl, ?_⟩) hHeld ?_
              · intro w' hS
                go_simp
              simp only [Act.put, List.setIfInBounds_toArray, List.set_cons_zero, List.set_cons_succ]
              refine wpAnyH_take (i := 2) (oi := { dst := some 112, op := Op.fieldAddr 32 (Operand.tmp 111) 4, type := 0, pos := "ref.go:235", after := #[{ on := 1, ground := Ground.data }], guard := none }) (v := .pointer (some ⟨b', off' + 4, none⟩)) rfl (by kernel_rfl) (by kernel_rfl) (by kernel_rfl) (fun _ _ _ h => h) (Or.inl ⟨rfl, ?_⟩) hHeld ?_
              · intro w' hS
                go_simp
              simp only [Act.put, List.setIfInBounds_toArray, List.set_cons_zero, List.set_cons_succ]
              refine wpAnyH_take (i := 3) (oi := { dst := some 113, op := Op.load 27 (Operand.tmp 112), type := 27, pos := "ref.go:235", after := #[{ on := 2, ground := Ground.data }], guard := none }) (v := .agg #[.int .i64 h0'.vk, .int .i64 h0'.vn, .string h0'.vs]) rfl (by kernel_rfl) (by kernel_rfl) (by kernel_rfl) (fun _ _ _ h => h) (Or.inl ⟨rfl, ?_⟩) hHeld ?_
              · intro w' hS
                (exact yields_load_at 27 _ rfl b' (off' + 4) rfl [.int .i64 h0'.vk, .int .i64 h0'.vn, .string h0'.vs] _ (hv0.below hS.1 hbl0) Try.underlying27 rfl hia')
              simp only [Act.put, List.setIfInBounds_toArray, List.set_cons_zero, List.set_cons_succ]
              refine wpAnyH_take (i := 4) (oi := { dst := some 114, op := Op.move (Operand.tmp 5), type := 30, pos := "ref.go:235", after := #[{ on := 10, ground := Ground.gcOnly Departure.lateStores }], guard := none }) (v := .slice (some ⟨b', off', none⟩) 2 c') rfl (by kernel_rfl) (by kernel_rfl) (by kernel_rfl) (fun _ _ _ h => h) (Or.inl ⟨rfl, ?_⟩) hHeld ?_
              · intro w' hS
                go_simp
              simp only [Act.put, List.setIfInBounds_toArray, List.set_cons_zero, List.set_cons_succ]
              refine wpAnyH_take (i := 5) (oi := { dst := some 115, op := Op.indexAddr 30 (Operand.tmp 114) (Operand.const (Value.int IntKind.i64 1)), type := 0, pos := "ref.go:235", after := #[{ on := 4, ground := Ground.data }, { on := 10, ground := Ground.gcOnly Departure.lateStores }], guard := none }) (v := .pointer (some ⟨b', off' + 11, none⟩)) rfl (by kernel_rfl) (by kernel_rfl) (by kernel_rfl) (fun _ _ _ h => h) (Or.inl ⟨rfl, ?_⟩) hHeld ?_
              · intro w' hS
                go_simp
              simp only [Act.put, List.setIfInBounds_toArray, List.set_cons_zero, List.set_cons_succ]
              refine wpAnyH_take (i := 6) (oi := { dst := some 116, op := Op.fieldAddr 32 (Operand.tmp 115) 4, type := 0, pos := "ref.go:235", after := #[{ on := 5, ground := Ground.data }, { on := 10, ground := Ground.gcOnly Departure.lateStores }], guard := none }) (v := .pointer (some ⟨b', off' + 11 + 4, none⟩)) rfl (by kernel_rfl) (by kernel_rfl) (by kernel_rfl) (fun _ _ _ h => h) (Or.inl ⟨rfl, ?_⟩) hHeld ?_
              · intro w' hS
                go_simp
              simp only [Act.put, List.setIfInBounds_toArray, List.set_cons_zero, List.set_cons_succ]
              refine wpAnyH_take (i := 7) (oi := { dst := some 117, op := Op.load 27 (Operand.tmp 116), type := 27, pos := "ref.go:235", after := #[{ on := 6, ground := Ground.data }, { on := 10, ground := Ground.gcOnly Departure.lateStores }], guard := none }) (v := .agg #[.int .i64 h1'.vk, .int .i64 h1'.vn, .string h1'.vs]) rfl (by kernel_rfl) (by kernel_rfl) (by kernel_rfl) (fun _ _ _ h => h) (Or.inl ⟨rfl, ?_⟩) hHeld ?_
              · intro w' hS
                (exact yields_load_at 27 _ rfl b' (off' + 11 + 4) rfl [.int .i64 h1'.vk, .int .i64 h1'.vn, .string h1'.vs] _ (hv1.below hS.1 hbl1) Try.underlying27 rfl hib')
              simp only [Act.put, List.setIfInBounds_toArray, List.set_cons_zero, List.set_cons_succ]
              refine wpAnyH_ready (rs := [8, 9]) (by kernel_rfl) (by simp) ?_
              refine AllReadyH.cons (o := { dst := some 6, op := Op.alloc 27, type := 0, pos := "ref.go:235", after := #[], guard := none }) rfl (fun K hK => ?_) ?_
              · go_simp
                refine hK.out _ _ (by ((repeat (first | assumption | refine FB.dr ?_ | refine FB.al ?_ _ | refine FB.th ?_ (by assumption) | refine FB.far ?_ (by omega) _ _ | refine FB.cells ?_ (by first | exact Nat.le_refl _ | omega | (simp; omega)) _ _)); done)) (fun hHeld => ?_)
                clear hK K
                try simp only [Act.put, List.setIfInBounds_toArray, List.set_cons_zero, List.set_cons_succ]
                have hz1 := Blk.nx (w := wr.drew) (g := wr.heap.size) 27 #[.int .i64 0, .int .i64 0, .string { data := #[] }] rfl
                refine wpAnyH_ready (rs := [9]) (by kernel_rfl) (by simp) ?_
                refine AllReadyH.cons (o := { dst := some 7, op := Op.alloc 27, type := 0, pos := "ref.go:235", after := #[], guard := none }) rfl (fun K hK => ?_) AllReadyH.nil
                go_simp
                refine hK.out _ _ (by ((repeat (first | assumption | refine FB.dr ?_ | refine FB.al ?_ _ | refine FB.th ?_ (by assumption) | refine FB.far ?_ (by omega) _ _ | refine FB.cells ?_ (by first | exact Nat.le_refl _ | omega | (simp; omega)) _ _)); done)) (fun hHeld => ?_)
                clear hK K
                try simp only [Act.put, List.setIfInBounds_toArray, List.set_cons_zero, List.set_cons_succ]
                have hz1' := hz1.alloc (.cells #[.int .i64 0, .int .i64 0, .string { data := #[] }] 27)
                have hz2 := Blk.nx (w := wr.drew.alloc (.cells #[.int .i64 0, .int .i64 0, .string { data := #[] }] 27)) (g := wr.heap.size + 1) 27 #[.int .i64 0, .int .i64 0, .string { data := #[] }] (by simp)
                refine wpAnyH_ready (rs := [10]) (by kernel_rfl) (by simp) ?_
                refine AllReadyH.cons (o := { dst := none, op := Op.store 27 (Operand.tmp 6) (Operand.tmp 113), type := 0, pos := "ref.go:235", after := #[{ on := 8, ground := Ground.data }, { on := 3, ground := Ground.data }, { on := 0, ground := Ground.phase }, { on := 1, ground := Ground.phase }, { on := 2, ground := Ground.phase }, { on := 3, ground := Ground.phase }, { on := 4, ground := Ground.textOnly Departure.lateStores }, { on := 5, ground := Ground.textOnly Departure.lateStores }, { on := 6, ground := Ground.textOnly Departure.lateStores }, { on := 7, ground := Ground.textOnly Departure.lateStores }, { on := 8, ground := Ground.phase }, { on := 9, ground := Ground.phase }], guard := none }) rfl (fun K hK => ?_) AllReadyH.nil
                refine take_op rfl ?_
                refine wp_store_row 27 _ _ rfl (wr.heap.size) _ rfl rfl 27 _ hz1' (by kernel_rfl : (Try.prog.info? 27).map (·.size) = some 3) rfl (val3_one _ _ _) ?_
                refine hK.out _ _ (FB.row hHeld (by omega) _) (fun hHeld => ?_)
                clear hK K
                try simp only [Act.put, List.setIfInBounds_toArray, List.set_cons_zero, List.set_cons_succ]
                have hz3 := Blk.setRow hz1' #[.int .i64 h0'.vk, .int .i64 h0'.vn, .string h0'.vs]
                have hz4 := Blk.apart hz2 (g' := wr.heap.size) #[.int .i64 h0'.vk, .int .i64 h0'.vn, .string h0'.vs] (by omega)
                refine wpAnyH_ready (rs := [11]) (by kernel_rfl) (by simp) ?_
                refine AllReadyH.cons (o := { dst := none, op := Op.store 27 (Operand.tmp 7) (Operand.tmp 117), type := 0, pos := "ref.go:235", after := #[{ on := 9, ground := Ground.data }, { on := 7, ground := Ground.data }, { on := 10, ground := Ground.chain }, { on := 0, ground := Ground.phase }, { on := 1, ground := Ground.phase }, { on := 2, ground := Ground.phase }, { on := 3, ground := Ground.phase }, { on := 4, ground := Ground.phase }, { on := 5, ground := Ground.phase }, { on := 6, ground := Ground.phase }, { on := 7, ground := Ground.phase }, { on := 8, ground := Ground.phase }, { on := 9, ground := Ground.phase }, { on := 10, ground := Ground.phase }], guard := none }) rfl (fun K hK => ?_) AllReadyH.nil
                refine take_op rfl ?_
                refine wp_store_row 27 _ _ rfl (wr.heap.size + 1) _ rfl rfl 27 _ hz4 (by kernel_rfl : (Try.prog.info? 27).map (·.size) = some 3) rfl (val3_one _ _ _) ?_
                refine hK.out _ _ (FB.row hHeld (by omega) _) (fun hHeld => ?_)
                clear hK K
                try simp only [Act.put, List.setIfInBounds_toArray, List.set_cons_zero, List.set_cons_succ]
                have hz5 := Blk.setRow hz4 #[.int .i64 h1'.vk, .int .i64 h1'.vn, .string h1'.vs]
                have hz6 := Blk.apart hz3 (g' := wr.heap.size + 1) #[.int .i64 h1'.vk, .int .i64 h1'.vn, .string h1'.vs] (by omega)
                refine wpAnyH_done (by kernel_rfl) ?_ _
                go_wp2_with fail
                go_meet
                exact ⟨_, _, rfl, rfl, hz6, hz5, hHeld⟩
              refine AllReadyH.cons (o := { dst := some 7, op := Op.alloc 27, type := 0, pos := "ref.go:235", after := #[], guard := none }) rfl (fun K hK => ?_) AllReadyH.nil
              · go_simp
                refine hK.out _ _ (by ((repeat (first | assumption | refine FB.dr ?_ | refine FB.al ?_ _ | refine FB.th ?_ (by assumption) | refine FB.far ?_ (by omega) _ _ | refine FB.cells ?_ (by first | exact Nat.le_refl _ | omega | (simp; omega)) _ _)); done)) (fun hHeld => ?_)
                clear hK K
                try simp only [Act.put, List.setIfInBounds_toArray, List.set_cons_zero, List.set_cons_succ]
                have hz1 := Blk.nx (w := wr.drew) (g := wr.heap.size) 27 #[.int .i64 0, .int .i64 0, .string { data := #[] }] rfl
                refine wpAnyH_ready (rs := [8]) (by kernel_rfl) (by simp) ?_
                refine AllReadyH.cons (o := { dst := some 6, op := Op.alloc 27, type := 0, pos := "ref.go:235", after := #[], guard := none }) rfl (fun K hK => ?_) AllReadyH.nil
                go_simp
                refine hK.out _ _ (by ((repeat (first | assumption | refine FB.dr ?_ | refine FB.al ?_ _ | refine FB.th ?_ (by assumption) | refine FB.far ?_ (by omega) _ _ | refine FB.cells ?_ (by first | exact Nat.le_refl _ | omega | (simp; omega)) _ _)); done)) (fun hHeld => ?_)
                clear hK K
                try simp only [Act.put, List.setIfInBounds_toArray, List.set_cons_zero, List.set_cons_succ]
                have hz1' := hz1.alloc (.cells #[.int .i64 0, .int .i64 0, .string { data := #[] }] 27)
                have hz2 := Blk.nx (w := wr.drew.alloc (.cells #[.int .i64 0, .int .i64 0, .string { data := #[] }] 27)) (g := wr.heap.size + 1) 27 #[.int .i64 0, .int .i64 0, .string { data := #[] }] (by simp)
                refine wpAnyH_ready (rs := [10]) (by kernel_rfl) (by simp) ?_
                refine AllReadyH.cons (o := { dst := none, op := Op.store 27 (Operand.tmp 6) (Operand.tmp 113), type := 0, pos := "ref.go:235", after := #[{ on := 8, ground := Ground.data }, { on := 3, ground := Ground.data }, { on := 0, ground := Ground.phase }, { on := 1, ground := Ground.phase }, { on := 2, ground := Ground.phase }, { on := 3, ground := Ground.phase }, { on := 4, ground := Ground.textOnly Departure.lateStores }, { on := 5, ground := Ground.textOnly Departure.lateStores }, { on := 6, ground := Ground.textOnly Departure.lateStores }, { on := 7, ground := Ground.textOnly Departure.lateStores }, { on := 8, ground := Ground.phase }, { on := 9, ground := Ground.phase }], guard := none }) rfl (fun K hK => ?_) AllReadyH.nil
                refine take_op rfl ?_
                refine wp_store_row 27 _ _ rfl (wr.heap.size + 1) _ rfl rfl 27 _ hz2 (by kernel_rfl : (Try.prog.info? 27).map (·.size) = some 3) rfl (val3_one _ _ _) ?_
                refine hK.out _ _ (FB.row hHeld (by omega) _) (fun hHeld => ?_)
                clear hK K
                try simp only [Act.put, List.setIfInBounds_toArray, List.set_cons_zero, List.set_cons_succ]
                have hz3 := Blk.setRow hz2 #[.int .i64 h0'.vk, .int .i64 h0'.vn, .string h0'.vs]
                have hz4 := Blk.apart hz1' (g' := wr.heap.size + 1) #[.int .i64 h0'.vk, .int .i64 h0'.vn, .string h0'.vs] (by omega)
                refine wpAnyH_ready (rs := [11]) (by kernel_rfl) (by simp) ?_
                refine AllReadyH.cons (o := { dst := none, op := Op.store 27 (Operand.tmp 7) (Operand.tmp 117), type := 0, pos := "ref.go:235", after := #[{ on := 9, ground := Ground.data }, { on := 7, ground := Ground.data }, { on := 10, ground := Ground.chain }, { on := 0, ground := Ground.phase }, { on := 1, ground := Ground.phase }, { on := 2, ground := Ground.phase }, { on := 3, ground := Ground.phase }, { on := 4, ground := Ground.phase }, { on := 5, ground := Ground.phase }, { on := 6, ground := Ground.phase }, { on := 7, ground := Ground.phase }, { on := 8, ground := Ground.phase }, { on := 9, ground := Ground.phase }, { on := 10, ground := Ground.phase }], guard := none }) rfl (fun K hK => ?_) AllReadyH.nil
                refine take_op rfl ?_
                refine wp_store_row 27 _ _ rfl (wr.heap.size) _ rfl rfl 27 _ hz4 (by kernel_rfl : (Try.prog.info? 27).map (·.size) = some 3) rfl (val3_one _ _ _) ?_
                refine hK.out _ _ (FB.row hHeld (by omega) _) (fun hHeld => ?_)
                clear hK K
                try simp only [Act.put, List.setIfInBounds_toArray, List.set_cons_zero, List.set_cons_succ]
                have hz5 := Blk.setRow hz4 #[.int .i64 h1'.vk, .int .i64 h1'.vn, .string h1'.vs]
                have hz6 := Blk.apart hz3 (g' := wr.heap.size) #[.int .i64 h1'.vk, .int .i64 h1'.vn, .string h1'.vs] (by omega)
                refine wpAnyH_done (by kernel_rfl) ?_ _
                go_wp2_with fail
                go_meet
                exact ⟨_, _, rfl, rfl, hz6, hz5, hHeld⟩
            case rest =>
              obtain ⟨ga, gb, rfl, rfl, hga, hgb, hfb⟩ := hcut
              replace hB := hB.lat hfb.1
              have hn2 := hnode.carry (fun k hk hkl => hfb.1.block k hkl)
              clear hnode hv0 hv1 hO0 hu hia' hib' hfb cx co r00 r10 hB0
              have cx := hB.box.cell
              have co := hB.out.cell
              have ca' := hga.cell
              have cb' := hgb.cell
              by_cases hn0 : h0'.vk = 2
              · by_cases hn1 : h1'.vk = 2
                · have hR : R = numF 13 h0'.vn h1'.vn := by
                    rw [hJ, if_neg (by omega), if_neg (by simp [isNum, ha1, hb1, hn0, hn1])]; rfl
                  have HJ := Lib.hid hR
                  have HQ := Lib.hid (rnumbers_any ⟨13, n, m, nm, vk, vn, vs, dv, cl, at_⟩ A ks.length c h0'.vn h1'.vn hia hib (w.heap.size + 3 ≤ ·) wc)
                  have q2 : (h0'.vk == 2) = true := by simpa using hn0
                  have q3 : (h1'.vk == 2) = true := by simpa using hn1
                  clear hJ hR hn2 hn0 hn1 ha1 hb1
                  unfold Hd.cells at HQ
                  dsimp only at HQ
                  go_wp2_with fail
                  refine HQ.out.mono ?_
                  clear HQ
                  rintro r w3 ⟨⟨v', rfl, cs', rfl, he'⟩, hb3⟩
                  obtain ⟨hd2, k2, A2, c2, hcs2⟩ := he'.form
                  subst hcs2
                  replace hB := hB.lat hb3
                  have hr3 := hB.res.setRow (hd2.cells (.slice A2 k2 c2)).toArray
                  have he3 := hB.back he' (hd2.cells (.slice A2 k2 c2)).toArray
                  have hbw3 := hB.fin (hd2.cells (.slice A2 k2 c2)).toArray
                  clear he' hb3
                  try clear cx co
                  unfold Hd.cells at hr3 he3 hbw3 ⊢
                  go_wp2_with (refine wpList_store_row rfl 32 _ _ rfl (w.heap.size + 1) _ rfl rfl 32 _ hB.res (by kernel_rfl : (Try.prog.info? 32).map (·.size) = some 11) rfl (cells_one hd2 A2 k2 c2) ?_)
                  have cR := hr3.cell
                  refine bodyPost_ret (v := ?_) ?_ rfl ?_
                  rotate_left
                  · simp [results, Try.results66, go_sem, cR]; exact rfl
                  rw [HJ.out]
                  exact ⟨⟨_, rfl, _, rfl, he3⟩, hbw3⟩
                · have hR : R = .mk ⟨13, n, m, nm, vk, vn, vs, dv, cl, at_⟩ [k0, k1] := by
                    rw [hJ, if_neg (by omega), if_pos (.inr (by simp [isNum, hn1]))]
                  have HJ := Lib.hid hR
                  have q2 : (h0'.vk == 2) = true := by simpa using hn0
                  have q3 : (h1'.vk == 2) = false := by simpa using hn1
                  clear hJ hR ha1 hb1 hn0
                  have hr3 := hB.res.setRow #[.int .i64 13, .int .i64 n, .int .i64 m, .string nm, .int .i64 vk, .int .i64 vn, .string vs, .int .i64 dv, .string cl, .string at_, .slice (some ⟨b', off', none⟩) 2 c']
                  have he3 := hB.back hn2 #[.int .i64 13, .int .i64 n, .int .i64 m, .string nm, .int .i64 vk, .int .i64 vn, .string vs, .int .i64 dv, .string cl, .string at_, .slice (some ⟨b', off', none⟩) 2 c']
                  have hbw3 := hB.fin #[.int .i64 13, .int .i64 n, .int .i64 m, .string nm, .int .i64 vk, .int .i64 vn, .string vs, .int .i64 dv, .string cl, .string at_, .slice (some ⟨b', off', none⟩) 2 c']
                  clear hn2
                  go_wp2_with (refine wpList_store_row rfl 32 _ _ rfl (w.heap.size + 1) _ rfl rfl 32 _ hB.res (by kernel_rfl : (Try.prog.info? 32).map (·.size) = some 11) rfl (cells_one ⟨13, n, m, nm, vk, vn, vs, dv, cl, at_⟩ (some ⟨b', off', none⟩) 2 c') ?_)
                  have cR := hr3.cell
                  refine bodyPost_ret (v := ?_) ?_ rfl ?_
                  rotate_left
                  · simp [results, Try.results66, go_sem, cR]; exact rfl
                  rw [HJ.out]
                  exact ⟨⟨_, rfl, _, rfl, he3⟩, hbw3⟩
              · have hR : R = .mk ⟨13, n, m, nm, vk, vn, vs, dv, cl, at_⟩ [k0, k1] := by
                  rw [hJ, if_neg (by omega), if_pos (.inl (by simp [isNum, hn0]))]
                have HJ := Lib.hid hR
                have q2 : (h0'.vk == 2) = false := by simpa using hn0
                clear hJ hR ha1 hb1
                have hr3 := hB.res.setRow #[.int .i64 13, .int .i64 n, .int .i64 m, .string nm, .int .i64 vk, .int .i64 vn, .string vs, .int .i64 dv, .string cl, .string at_, .slice (some ⟨b', off', none⟩) 2 c']
                have he3 := hB.back hn2 #[.int .i64 13, .int .i64 n, .int .i64 m, .string nm, .int .i64 vk, .int .i64 vn, .string vs, .int .i64 dv, .string cl, .string at_, .slice (some ⟨b', off', none⟩) 2 c']
                have hbw3 := hB.fin #[.int .i64 13, .int .i64 n, .int .i64 m, .string nm, .int .i64 vk, .int .i64 vn, .string vs, .int .i64 dv, .string cl, .string at_, .slice (some ⟨b', off', none⟩) 2 c']
                clear hn2
                go_wp2_with (refine wpList_store_row rfl 32 _ _ rfl (w.heap.size + 1) _ rfl rfl 32 _ hB.res (by kernel_rfl : (Try.prog.info? 32).map (·.size) = some 11) rfl (cells_one ⟨13, n, m, nm, vk, vn, vs, dv, cl, at_⟩ (some ⟨b', off', none⟩) 2 c') ?_)
                have cR := hr3.cell
                refine bodyPost_ret (v := ?_) ?_ rfl ?_
                rotate_left
                · simp [results, Try.results66, go_sem, cR]; exact rfl
                rw [HJ.out]
                exact ⟨⟨_, rfl, _, rfl, he3⟩, hbw3⟩
          · have qb : (h1'.kind != 1) = true := by simpa using hb1
            have hR : R = .mk ⟨13, n, m, nm, vk, vn, vs, dv, cl, at_⟩ [k0, k1] := by
              rw [hJ, if_neg (by omega), if_pos (.inr (by simp [isNum, hb1]))]
            clear ha1
            have HJ := Lib.hid hR
            have hn2 := hnode
            clear hJ hR hnode hr0 hr1 hB0
            have hr3 := hB.res.setRow #[.int .i64 13, .int .i64 n, .int .i64 m, .string nm, .int .i64 vk, .int .i64 vn, .string vs, .int .i64 dv, .string cl, .string at_, .slice (some ⟨b', off', none⟩) 2 c']
            have he3 := hB.back hn2 #[.int .i64 13, .int .i64 n, .int .i64 m, .string nm, .int .i64 vk, .int .i64 vn, .string vs, .int .i64 dv, .string cl, .string at_, .slice (some ⟨b', off', none⟩) 2 c']
            have hbw3 := hB.fin #[.int .i64 13, .int .i64 n, .int .i64 m, .string nm, .int .i64 vk, .int .i64 vn, .string vs, .int .i64 dv, .string cl, .string at_, .slice (some ⟨b', off', none⟩) 2 c']
            clear hn2
            go_wp2_with (refine wpList_store_row rfl 32 _ _ rfl (w.heap.size + 1) _ rfl rfl 32 _ hB.res (by kernel_rfl : (Try.prog.info? 32).map (·.size) = some 11) rfl (cells_one ⟨13, n, m, nm, vk, vn, vs, dv, cl, at_⟩ (some ⟨b', off', none⟩) 2 c') ?_)
            have cR := hr3.cell
            refine bodyPost_ret (v := ?_) ?_ rfl ?_
            rotate_left
            · simp [results, Try.results66, go_sem, cR]; exact rfl
            rw [HJ.out]
            exact ⟨⟨_, rfl, _, rfl, he3⟩, hbw3⟩
        · have qa : (h0'.kind != 1) = true := by simpa using ha1
          have hR : R = .mk ⟨13, n, m, nm, vk, vn, vs, dv, cl, at_⟩ [k0, k1] := by
            rw [hJ, if_neg (by omega), if_pos (.inl (by simp [isNum, ha1]))]
          have HJ := Lib.hid hR
          have hn2 := hnode
          clear hJ hR hnode hr0 hr1 hB0
          have hr3 := hB.res.setRow #[.int .i64 13, .int .i64 n, .int .i64 m, .string nm, .int .i64 vk, .int .i64 vn, .string vs, .int .i64 dv, .string cl, .string at_, .slice (some ⟨b', off', none⟩) 2 c']
          have he3 := hB.back hn2 #[.int .i64 13, .int .i64 n, .int .i64 m, .string nm, .int .i64 vk, .int .i64 vn, .string vs, .int .i64 dv, .string cl, .string at_, .slice (some ⟨b', off', none⟩) 2 c']
          have hbw3 := hB.fin #[.int .i64 13, .int .i64 n, .int .i64 m, .string nm, .int .i64 vk, .int .i64 vn, .string vs, .int .i64 dv, .string cl, .string at_, .slice (some ⟨b', off', none⟩) 2 c']
          clear hn2
          go_wp2_with (refine wpList_store_row rfl 32 _ _ rfl (w.heap.size + 1) _ rfl rfl 32 _ hB.res (by kernel_rfl : (Try.prog.info? 32).map (·.size) = some 11) rfl (cells_one ⟨13, n, m, nm, vk, vn, vs, dv, cl, at_⟩ (some ⟨b', off', none⟩) 2 c') ?_)
          have cR := hr3.cell
          refine bodyPost_ret (v := ?_) ?_ rfl ?_
          rotate_left
          · simp [results, Try.results66, go_sem, cR]; exact rfl
          rw [HJ.out]
          exact ⟨⟨_, rfl, _, rfl, he3⟩, hbw3⟩
      · -- if
        obtain ⟨k0, k1, k2, rfl⟩ := len3 (ks := kl) (by rcases hko with h | h | h | h | h <;> omega)
        obtain ⟨rfl, hbB⟩ := hA' (by simp)
        have hr0 := hrow' 0 (by simp)
        obtain ⟨h0', n0, A0, c0, e0⟩ := (hk' 0 (by simp)).form
        have hy0 := hk' 0 (by simp)
        have hbl0 := rowAt_lt hr0 (by rw [hsz']; omega)
        rw [e0] at hr0 hy0
        have hd0 := hd_of (hk' 0 (by simp)) e0
        simp only [List.getElem_cons_zero, List.getElem_cons_succ, Nat.zero_mul, Nat.one_mul, Nat.add_zero, Nat.reduceMul] at hd0 hr0 hy0
        have hr1 := hrow' 1 (by simp)
        obtain ⟨h1', n1, A1, c1, e1⟩ := (hk' 1 (by simp)).form
        have hy1 := hk' 1 (by simp)
        have hbl1 := rowAt_lt hr1 (by rw [hsz']; omega)
        rw [e1] at hr1 hy1
        have hd1 := hd_of (hk' 1 (by simp)) e1
        simp only [List.getElem_cons_zero, List.getElem_cons_succ, Nat.zero_mul, Nat.one_mul, Nat.add_zero, Nat.reduceMul] at hd1 hr1 hy1
        have hr2 := hrow' 2 (by simp)
        obtain ⟨h2', n2, A2, c2, e2⟩ := (hk' 2 (by simp)).form
        have hy2 := hk' 2 (by simp)
        have hbl2 := rowAt_lt hr2 (by rw [hsz']; omega)
        rw [e2] at hr2 hy2
        have hd2 := hd_of (hk' 2 (by simp)) e2
        simp only [List.getElem_cons_zero, List.getElem_cons_succ, Nat.zero_mul, Nat.one_mul, Nat.add_zero, Nat.reduceMul] at hd2 hr2 hy2
        have hok0 := hoks' k0 (by simp)
        have hJ := HJ0.out
        rw [if_neg (by omega), if_neg (by omega), if_neg (by omega), if_neg (by omega), if_pos rfl] at hJ
        simp only [kid, List.getD_cons_zero, List.getD_cons_succ, hd0] at hJ
        clear HJ0 hko hA' hrow' hk' hoks' e0 e1 e2 hd1 hd2
        simp only [List.length_cons, List.length_nil, Nat.reduceAdd] at hnode cx co hB ⊢
        unfold Hd.cells at hr0 hy0 hr1 hr2
        rcases Bool.eq_false_or_eq_true (isLit h0' 1) with q1 | q1
        · have hR : R = k1 := by rw [hJ, q1]; rfl
          have HJ := Lib.hid hR
          clear hJ hR hr2 hy2
          go_wp2_with (first | (with_reducible refine wpList_load_at rfl 32 _ rfl b' off' rfl _ _ (hr0.below hB0 (by omega)) Try.underlying32 rfl (by kernel_rfl) ?_) | (refine wpList_load_atG rfl 32 _ rfl b' off' rfl _ _ (hr0.below hB0 (by omega)) Try.underlying32 rfl (by kernel_rfl) ?_))
          refine ((ris1_any _ _ wr.heap.size _ hB0.size (hy0.toIs.carry hB0) hok0).mono ?_)
          rintro r w1 ⟨rfl, hb1⟩
          rw [hd0, q1]
          replace hB := hB.lat hb1
          replace hB0 := hB0.th hb1
          clear hb1
          try clear cx co
          have cx := hB.box.cell
          have co := hB.out.cell
          have hyw := hy1.carry (fun k hk hkl => hB0.block k hkl)
          have hrw := hr1.below hB0 (by omega)
          have hr3 := hB.res.setRow (h1'.cells (.slice A1 n1 c1)).toArray
          have he3 := hB.back hyw (h1'.cells (.slice A1 n1 c1)).toArray
          have hbw3 := hB.fin (h1'.cells (.slice A1 n1 c1)).toArray
          clear hyw hr0 hy0 hr1 hy1 hB0
          unfold Hd.cells at hr3 he3 hbw3
          go_wp2_with (first | (with_reducible refine wpList_load_at rfl 32 _ rfl b' (off' + 11) rfl _ _ hrw Try.underlying32 rfl (by kernel_rfl) ?_) | (refine wpList_store_row rfl 32 _ _ rfl (w.heap.size + 1) _ rfl rfl 32 _ hB.res (by kernel_rfl : (Try.prog.info? 32).map (·.size) = some 11) rfl (cells_one h1' A1 n1 c1) ?_))
          have cR := hr3.cell
          refine bodyPost_ret (v := ?_) ?_ rfl ?_
          rotate_left
          · simp [results, Try.results66, go_sem, cR]; exact rfl
          rw [HJ.out]
          exact ⟨⟨_, rfl, _, rfl, he3⟩, hbw3⟩
        · rcases Bool.eq_false_or_eq_true (isLit h0' 0) with q0 | q0
          · have hR : R = k2 := by rw [hJ, q0, q1]; rfl
            have HJ := Lib.hid hR
            clear hJ hR hr1 hy1
            go_wp2_with (first | (with_reducible refine wpList_load_at rfl 32 _ rfl b' off' rfl _ _ (hr0.below hB0 (by omega)) Try.underlying32 rfl (by kernel_rfl) ?_) | (refine wpList_load_atG rfl 32 _ rfl b' off' rfl _ _ (hr0.below hB0 (by omega)) Try.underlying32 rfl (by kernel_rfl) ?_))
            refine ((ris1_any _ _ wr.heap.size _ hB0.size (hy0.toIs.carry hB0) hok0).mono ?_)
            rintro r w1 ⟨rfl, hb1⟩
            rw [hd0, q1]
            replace hB := hB.lat hb1
            replace hB0 := hB0.th hb1
            clear hb1
            try clear cx co
            have cx := hB.box.cell
            have co := hB.out.cell
            go_wp2_with (first | (with_reducible refine wpList_load_at rfl 32 _ rfl b' off' rfl _ _ (hr0.below hB0 (by omega)) Try.underlying32 rfl (by kernel_rfl) ?_) | (refine wpList_load_atG rfl 32 _ rfl b' off' rfl _ _ (hr0.below hB0 (by omega)) Try.underlying32 rfl (by kernel_rfl) ?_))
            refine ((ris0_any _ _ wr.heap.size _ hB0.size (hy0.toIs.carry hB0) hok0).mono ?_)
            rintro r w1 ⟨rfl, hb1⟩
            rw [hd0, q0]
            replace hB := hB.lat hb1
            replace hB0 := hB0.th hb1
            clear hb1
            try clear cx co
            have cx := hB.box.cell
            have co := hB.out.cell
            have hyw := hy2.carry (fun k hk hkl => hB0.block k hkl)
            have hrw := hr2.below hB0 (by omega)
            have hr3 := hB.res.setRow (h2'.cells (.slice A2 n2 c2)).toArray
            have he3 := hB.back hyw (h2'.cells (.slice A2 n2 c2)).toArray
            have hbw3 := hB.fin (h2'.cells (.slice A2 n2 c2)).toArray
            clear hyw hr0 hy0 hr2 hy2 hB0
            unfold Hd.cells at hr3 he3 hbw3
            go_wp2_with (first | (with_reducible refine wpList_load_at rfl 32 _ rfl b' (off' + 22) rfl _ _ hrw Try.underlying32 rfl (by kernel_rfl) ?_) | (refine wpList_store_row rfl 32 _ _ rfl (w.heap.size + 1) _ rfl rfl 32 _ hB.res (by kernel_rfl : (Try.prog.info? 32).map (·.size) = some 11) rfl (cells_one h2' A2 n2 c2) ?_))
            have cR := hr3.cell
            refine bodyPost_ret (v := ?_) ?_ rfl ?_
            rotate_left
            · simp [results, Try.results66, go_sem, cR]; exact rfl
            rw [HJ.out]
            exact ⟨⟨_, rfl, _, rfl, he3⟩, hbw3⟩
          · have hR : R = .mk ⟨14, n, m, nm, vk, vn, vs, dv, cl, at_⟩ [k0, k1, k2] := by rw [hJ, q0, q1]; rfl
            have HJ := Lib.hid hR
            clear hJ hR hr1 hy1 hr2 hy2
            go_wp2_with (first | (with_reducible refine wpList_load_at rfl 32 _ rfl b' off' rfl _ _ (hr0.below hB0 (by omega)) Try.underlying32 rfl (by kernel_rfl) ?_) | (refine wpList_load_atG rfl 32 _ rfl b' off' rfl _ _ (hr0.below hB0 (by omega)) Try.underlying32 rfl (by kernel_rfl) ?_))
            refine ((ris1_any _ _ wr.heap.size _ hB0.size (hy0.toIs.carry hB0) hok0).mono ?_)
            rintro r w1 ⟨rfl, hb1⟩
            rw [hd0, q1]
            replace hB := hB.lat hb1
            replace hB0 := hB0.th hb1
            clear hb1
            try clear cx co
            have cx := hB.box.cell
            have co := hB.out.cell
            go_wp2_with (first | (with_reducible refine wpList_load_at rfl 32 _ rfl b' off' rfl _ _ (hr0.below hB0 (by omega)) Try.underlying32 rfl (by kernel_rfl) ?_) | (refine wpList_load_atG rfl 32 _ rfl b' off' rfl _ _ (hr0.below hB0 (by omega)) Try.underlying32 rfl (by kernel_rfl) ?_))
            refine ((ris0_any _ _ wr.heap.size _ hB0.size (hy0.toIs.carry hB0) hok0).mono ?_)
            rintro r w1 ⟨rfl, hb1⟩
            rw [hd0, q0]
            replace hB := hB.lat hb1
            replace hB0 := hB0.th hb1
            clear hb1
            try clear cx co
            have cx := hB.box.cell
            have co := hB.out.cell
            have hn2 := hnode.carry (fun k hk hkl => hB0.block k hkl)
            clear hnode hr0 hy0 hB0
            have hr3 := hB.res.setRow #[.int .i64 14, .int .i64 n, .int .i64 m, .string nm, .int .i64 vk, .int .i64 vn, .string vs, .int .i64 dv, .string cl, .string at_, .slice (some ⟨b', off', none⟩) 3 c']
            have he3 := hB.back hn2 #[.int .i64 14, .int .i64 n, .int .i64 m, .string nm, .int .i64 vk, .int .i64 vn, .string vs, .int .i64 dv, .string cl, .string at_, .slice (some ⟨b', off', none⟩) 3 c']
            have hbw3 := hB.fin #[.int .i64 14, .int .i64 n, .int .i64 m, .string nm, .int .i64 vk, .int .i64 vn, .string vs, .int .i64 dv, .string cl, .string at_, .slice (some ⟨b', off', none⟩) 3 c']
            clear hn2
            go_wp2_with (refine wpList_store_row rfl 32 _ _ rfl (w.heap.size + 1) _ rfl rfl 32 _ hB.res (by kernel_rfl : (Try.prog.info? 32).map (·.size) = some 11) rfl (cells_one ⟨14, n, m, nm, vk, vn, vs, dv, cl, at_⟩ (some ⟨b', off', none⟩) 3 c') ?_)
            have cR := hr3.cell
            refine bodyPost_ret (v := ?_) ?_ rfl ?_
            rotate_left
            · simp [results, Try.results66, go_sem, cR]; exact rfl
            rw [HJ.out]
            exact ⟨⟨_, rfl, _, rfl, he3⟩, hbw3⟩
      · -- any other
        have hR : R = .mk ⟨kd, n, m, nm, vk, vn, vs, dv, cl, at_⟩ kl := by
          rw [HJ0.out, if_neg (by omega), if_neg (by omega), if_neg (by omega), if_neg (by omega), if_neg (by omega)]
        have HJ := Lib.hid hR
        have k6 : (kd == 6) = false := by rw [beq_eq_false_iff_ne]; omega
        have k7 : (kd == 7) = false := by rw [beq_eq_false_iff_ne]; omega
        have k8 : (kd == 8) = false := by rw [beq_eq_false_iff_ne]; omega
        have k14 : (kd == 14) = false := by rw [beq_eq_false_iff_ne]; omega
        have hn2 := hnode
        clear hR HJ0 hko hA' hrow' hk' hoks' hnode hB0
        by_cases hk9 : kd < 9
        · have hr3 := hB.res.setRow #[.int .i64 kd, .int .i64 n, .int .i64 m, .string nm, .int .i64 vk, .int .i64 vn, .string vs, .int .i64 dv, .string cl, .string at_, .slice (A') kl.length c']
          have he3 := hB.back hn2 #[.int .i64 kd, .int .i64 n, .int .i64 m, .string nm, .int .i64 vk, .int .i64 vn, .string vs, .int .i64 dv, .string cl, .string at_, .slice (A') kl.length c']
          have hbw3 := hB.fin #[.int .i64 kd, .int .i64 n, .int .i64 m, .string nm, .int .i64 vk, .int .i64 vn, .string vs, .int .i64 dv, .string cl, .string at_, .slice (A') kl.length c']
          clear hn2
          go_wp2_with (refine wpList_store_row rfl 32 _ _ rfl (w.heap.size + 1) _ rfl rfl 32 _ hB.res (by kernel_rfl : (Try.prog.info? 32).map (·.size) = some 11) rfl (cells_one ⟨kd, n, m, nm, vk, vn, vs, dv, cl, at_⟩ (A') kl.length c') ?_)
          have cR := hr3.cell
          refine bodyPost_ret (v := ?_) ?_ rfl ?_
          rotate_left
          · simp [results, Try.results66, go_sem, cR]; exact rfl
          rw [HJ.out]
          exact ⟨⟨_, rfl, _, rfl, he3⟩, hbw3⟩
        · have hk13 : 13 < kd := by omega
          have hr3 := hB.res.setRow #[.int .i64 kd, .int .i64 n, .int .i64 m, .string nm, .int .i64 vk, .int .i64 vn, .string vs, .int .i64 dv, .string cl, .string at_, .slice (A') kl.length c']
          have he3 := hB.back hn2 #[.int .i64 kd, .int .i64 n, .int .i64 m, .string nm, .int .i64 vk, .int .i64 vn, .string vs, .int .i64 dv, .string cl, .string at_, .slice (A') kl.length c']
          have hbw3 := hB.fin #[.int .i64 kd, .int .i64 n, .int .i64 m, .string nm, .int .i64 vk, .int .i64 vn, .string vs, .int .i64 dv, .string cl, .string at_, .slice (A') kl.length c']
          clear hn2
          go_wp2_with (refine wpList_store_row rfl 32 _ _ rfl (w.heap.size + 1) _ rfl rfl 32 _ hB.res (by kernel_rfl : (Try.prog.info? 32).map (·.size) = some 11) rfl (cells_one ⟨kd, n, m, nm, vk, vn, vs, dv, cl, at_⟩ (A') kl.length c') ?_)
          have cR := hr3.cell
          refine bodyPost_ret (v := ?_) ?_ rfl ?_
          rotate_left
          · simp [results, Try.results66, go_sem, cR]; exact rfl
          rw [HJ.out]
          exact ⟨⟨_, rfl, _, rfl, he3⟩, hbw3⟩

end Go.Proofs.Ytnelgblmogciiaa
