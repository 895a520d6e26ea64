/- Folding by the reference: the small functions. -/
import Derived.Test.YtnelgblmogciiaaLives
import Derived.Test.YtnelgblmogciiaaEFold
set_option linter.unusedSimpArgs false
set_option linter.unusedVariables false
namespace Go.Proofs.Ytnelgblmogciiaa
open Go.RowKit


theorem str_nil {s : ByteArray} (h : s.size = 0) : s = noStr := (toList_inj _ _).1 (((toList_nil s).2 h).trans ((toList_nil noStr).2 rfl).symm)
/-- A well made literal boolean has nothing else. -/
theorem node_lit {h : Hd} {n : Nat} (hc : nodeCheck h n = 0) (h1 : h.kind = 1) (h2 : h.vk = 1) : n = 0 ∧ h = ⟨1, 0, 0, noStr, 1, h.vn, noStr, 0, noStr, noStr⟩ := by
  have hko := kidsOf hc
  unfold nodeCheck at hc
  by_cases a1 : h.kind < 1 ∨ 15 < h.kind
  · omega
  rw [if_neg a1] at hc
  by_cases a2 : ¬ kidsOk h.kind n ∨ h.spareB = false
  · rw [if_pos a2] at hc; cases hc
  rw [if_neg a2] at hc
  have hs : h.spareB = true := by
    cases hb : h.spareB with
    | true => rfl
    | false => exact absurd (.inr hb) a2
  have hv : valCheck h.vk h.vn h.vs = 0 := by
    apply Classical.byContradiction
    intro hv
    rw [if_pos (⟨h1, hv⟩ : h.kind = 1 ∧ valCheck h.vk h.vn h.vs ≠ 0)] at hc
    repeat' split at hc
    all_goals first | (cases hc; done) | exact hv hc
  have hsp := of_decide_eq_true hs
  unfold spareP at hsp
  rw [h1] at hko hsp
  have hn : n = 0 := by unfold kidsOk at hko; omega
  have hvs : h.vs.size = 0 := by
    rw [h2] at hv
    unfold valCheck at hv
    repeat' split at hv
    all_goals first | (cases hv; done) | omega
  obtain ⟨k, n', m, nm, vk, vn, vs, dv, cl, at_⟩ := h
  simp only at h1 h2 hsp hvs ⊢
  obtain ⟨s1, s2, s3, _, s5⟩ := hsp
  refine ⟨hn, ?_⟩
  have e1 : n' = 0 := by omega
  have e2 : m = 0 := by omega
  have e3 := str_nil (s := nm) (by omega)
  have e4 := str_nil (s := vs) hvs
  have e5 : dv = 0 := by omega
  have e6 := str_nil (s := cl) (by omega)
  have e7 := str_nil (s := at_) (by omega)
  rw [h1, h2, e1, e2, e3, e4, e5, e6, e7]
theorem sameLit0 (e : LExpr) (hok : okE e) : sameE e (.mk (litB false) []) = isLit e.hd 0 := by
  obtain ⟨h, ks⟩ := e
  rw [okE] at hok
  rw [Bool.eq_iff_iff, sameE_iff, isLit_iff]
  constructor
  · intro he; injection he with he _; subst he; exact ⟨rfl, rfl, rfl⟩
  · rintro ⟨h1, h2, h3⟩
    simp only [LExpr.hd] at h1 h2 h3
    obtain ⟨g1, g2⟩ := node_lit hok.1 h1 h2
    rw [h3] at g2
    rw [g2, List.eq_nil_of_length_eq_zero g1]; rfl
theorem sameLit1 (e : LExpr) (hok : okE e) : sameE e (.mk (litB true) []) = isLit e.hd 1 := by
  obtain ⟨h, ks⟩ := e
  rw [okE] at hok
  rw [Bool.eq_iff_iff, sameE_iff, isLit_iff]
  constructor
  · intro he; injection he with he _; subst he; exact ⟨rfl, rfl, rfl⟩
  · rintro ⟨h1, h2, h3⟩
    simp only [LExpr.hd] at h1 h2 h3
    obtain ⟨g1, g2⟩ := node_lit hok.1 h1 h2
    rw [h3] at g2
    rw [g2, List.eq_nil_of_length_eq_zero g1]; rfl
theorem rflag_f (w : World) : Calls Try.prog 51 #[.bool false] w fun r w' => r = .returned (.agg #[.int .i64 1, .int .i64 0, .int .i64 0, .string { data := #[] }, .int .i64 1, .int .i64 0, .string { data := #[] }, .int .i64 0, .string { data := #[] }, .string { data := #[] }, .slice none 0 0]) ∧ Below w.heap.size w w' := rflag_any false w
theorem rflag_t (w : World) : Calls Try.prog 51 #[.bool true] w fun r w' => r = .returned (.agg #[.int .i64 1, .int .i64 0, .int .i64 0, .string { data := #[] }, .int .i64 1, .int .i64 1, .string { data := #[] }, .int .i64 0, .string { data := #[] }, .string { data := #[] }, .slice none 0 0]) ∧ Below w.heap.size w w' := rflag_any true w

-- $1 false/true $2 its cells $3 sameLit $4 rflag
set_option maxRecDepth 100000 in
set_option maxHeartbeats 1000000 in
theorem ris0_any (e : LExpr) (cs : List Value) (B : Nat) (w : World) (hB : B ≤ w.heap.size) (he : IsExpr B w e cs) (hok : okE e) :
    Calls Try.prog 99 #[.agg cs.toArray, .bool false] w fun r w' => r = .returned (.bool (isLit e.hd 0)) ∧ Below w.heap.size w w' := by
  have HS : ∀ W, Below B w W → B ≤ W.heap.size → Hid (Calls Try.prog 36 #[.agg cs.toArray, .agg #[.int .i64 1, .int .i64 0, .int .i64 0, .string { data := #[] }, .int .i64 1, .int .i64 0, .string { data := #[] }, .int .i64 0, .string { data := #[] }, .string { data := #[] }, .slice none 0 0]] W fun r w' => r = .returned (.bool (sameE e (.mk (litB false) []))) ∧ Below W.heap.size W w') :=
    fun W hb' hl => Lib.hid (rsame_any e (.mk (litB false) []) cs ((litB false).cells (.slice none 0 0)) W.heap.size W (Nat.le_refl _) ((he.carry hb').mono hl) (leafI W _ (litB false) (litB_ok false) none 0))
  rw [sameLit0 e hok] at HS
  obtain ⟨ha, ka, Aa, ca, qa, rfl, _⟩ := he.form
  clear qa he hok
  unfold Hd.cells at HS ⊢
  generalize isLit e.hd _ = I at *
  have hbw0 : Below w.heap.size w (w.alloc (.cells #[.int .i64 ha.kind, .int .i64 ha.n, .int .i64 ha.m, .string ha.name, .int .i64 ha.vk, .int .i64 ha.vn, .string ha.vs, .int .i64 ha.dev, .string ha.cl, .string ha.at_, .slice Aa ka.length ca] 32)) := (Below.refl _ _).al _
  have he0 : Blk (w.alloc (.cells #[.int .i64 ha.kind, .int .i64 ha.n, .int .i64 ha.m, .string ha.name, .int .i64 ha.vk, .int .i64 ha.vn, .string ha.vs, .int .i64 ha.dev, .string ha.cl, .string ha.at_, .slice Aa ka.length ca] 32)) w.heap.size 32 #[.int .i64 ha.kind, .int .i64 ha.n, .int .i64 ha.m, .string ha.name, .int .i64 ha.vk, .int .i64 ha.vn, .string ha.vs, .int .i64 ha.dev, .string ha.cl, .string ha.at_, .slice Aa ka.length ca] := Blk.new _ _ _
  go_enter Try.func99, Try.ntmps99
  go_upto_region 1 with fail
  generalize w.alloc (.cells #[.int .i64 ha.kind, .int .i64 ha.n, .int .i64 ha.m, .string ha.name, .int .i64 ha.vk, .int .i64 ha.vn, .string ha.vs, .int .i64 ha.dev, .string ha.cl, .string ha.at_, .slice Aa ka.length ca] 32) = W0 at *
  replace HS := fun W (h : Lat W0 W) => HS W ((hbw0.trans (h.mono hbw0.size)).mono hB) (by have := h.size; have := hbw0.size; omega)
  refine wp_rely (by kernel_rfl) (by kernel_rfl) ?_
  repeat
    (apply RelyL.val
     focus (intro ν w' hL hF K hK; first
       | (refine skip_op rfl ?_; exact hK.out _ _ rfl (Lat.refl _))
       | (refine take_op rfl ?_; first | (refine wp_load_blk rfl rfl (he0.lat hL) Try.underlying32 rfl (by kernel_rfl : (Try.prog.info? 32).map (·.size) = some 11) rfl ?_; exact hK.out _ _ rfl (Lat.refl _)))
       | (go_simp; first | exact hK.out _ _ rfl (Lat.refl _) | (go_at_call 51; first | ((with_reducible refine (rflag_f _).mono ?_); rintro r w'' ⟨rfl, hbp⟩; exact hK.out _ _ rfl hbp)) | (go_at_call 36; first | ((with_reducible refine ((HS _ hL).out).mono ?_); rintro r w'' ⟨rfl, hbp⟩; exact hK.out _ _ rfl hbp))))
     simp only [Act.put, List.setIfInBounds_toArray, List.set_cons_zero, List.set_cons_succ, Nat.reduceAdd])
  refine RelyL.done fun ν w1 hL hF => ?_
  have hbw1 := hbw0.th hL
  clear hF
  go_wp2_with fail
  go_ret
  exact ⟨rfl, hbw1⟩
set_option maxRecDepth 100000 in
set_option maxHeartbeats 1000000 in
theorem ris1_any (e : LExpr) (cs : List Value) (B : Nat) (w : World) (hB : B ≤ w.heap.size) (he : IsExpr B w e cs) (hok : okE e) :
    Calls Try.prog 99 #[.agg cs.toArray, .bool true] w fun r w' => r = .returned (.bool (isLit e.hd 1)) ∧ Below w.heap.size w w' := by
  have HS : ∀ W, Below B w W → B ≤ W.heap.size → Hid (Calls Try.prog 36 #[.agg cs.toArray, .agg #[.int .i64 1, .int .i64 0, .int .i64 0, .string { data := #[] }, .int .i64 1, .int .i64 1, .string { data := #[] }, .int .i64 0, .string { data := #[] }, .string { data := #[] }, .slice none 0 0]] W fun r w' => r = .returned (.bool (sameE e (.mk (litB true) []))) ∧ Below W.heap.size W w') :=
    fun W hb' hl => Lib.hid (rsame_any e (.mk (litB true) []) cs ((litB true).cells (.slice none 0 0)) W.heap.size W (Nat.le_refl _) ((he.carry hb').mono hl) (leafI W _ (litB true) (litB_ok true) none 0))
  rw [sameLit1 e hok] at HS
  obtain ⟨ha, ka, Aa, ca, qa, rfl, _⟩ := he.form
  clear qa he hok
  unfold Hd.cells at HS ⊢
  generalize isLit e.hd _ = I at *
  have hbw0 : Below w.heap.size w (w.alloc (.cells #[.int .i64 ha.kind, .int .i64 ha.n, .int .i64 ha.m, .string ha.name, .int .i64 ha.vk, .int .i64 ha.vn, .string ha.vs, .int .i64 ha.dev, .string ha.cl, .string ha.at_, .slice Aa ka.length ca] 32)) := (Below.refl _ _).al _
  have he0 : Blk (w.alloc (.cells #[.int .i64 ha.kind, .int .i64 ha.n, .int .i64 ha.m, .string ha.name, .int .i64 ha.vk, .int .i64 ha.vn, .string ha.vs, .int .i64 ha.dev, .string ha.cl, .string ha.at_, .slice Aa ka.length ca] 32)) w.heap.size 32 #[.int .i64 ha.kind, .int .i64 ha.n, .int .i64 ha.m, .string ha.name, .int .i64 ha.vk, .int .i64 ha.vn, .string ha.vs, .int .i64 ha.dev, .string ha.cl, .string ha.at_, .slice Aa ka.length ca] := Blk.new _ _ _
  go_enter Try.func99, Try.ntmps99
  go_upto_region 1 with fail
  generalize w.alloc (.cells #[.int .i64 ha.kind, .int .i64 ha.n, .int .i64 ha.m, .string ha.name, .int .i64 ha.vk, .int .i64 ha.vn, .string ha.vs, .int .i64 ha.dev, .string ha.cl, .string ha.at_, .slice Aa ka.length ca] 32) = W0 at *
  replace HS := fun W (h : Lat W0 W) => HS W ((hbw0.trans (h.mono hbw0.size)).mono hB) (by have := h.size; have := hbw0.size; omega)
  refine wp_rely (by kernel_rfl) (by kernel_rfl) ?_
  repeat
    (apply RelyL.val
     focus (intro ν w' hL hF K hK; first
       | (refine skip_op rfl ?_; exact hK.out _ _ rfl (Lat.refl _))
       | (refine take_op rfl ?_; first | (refine wp_load_blk rfl rfl (he0.lat hL) Try.underlying32 rfl (by kernel_rfl : (Try.prog.info? 32).map (·.size) = some 11) rfl ?_; exact hK.out _ _ rfl (Lat.refl _)))
       | (go_simp; first | exact hK.out _ _ rfl (Lat.refl _) | (go_at_call 51; first | ((with_reducible refine (rflag_t _).mono ?_); rintro r w'' ⟨rfl, hbp⟩; exact hK.out _ _ rfl hbp)) | (go_at_call 36; first | ((with_reducible refine ((HS _ hL).out).mono ?_); rintro r w'' ⟨rfl, hbp⟩; exact hK.out _ _ rfl hbp))))
     simp only [Act.put, List.setIfInBounds_toArray, List.set_cons_zero, List.set_cons_succ, Nat.reduceAdd])
  refine RelyL.done fun ν w1 hL hF => ?_
  have hbw1 := hbw0.th hL
  clear hF
  go_wp2_with fail
  go_ret
  exact ⟨rfl, hbw1⟩

-- $1 decides $2 its cells $3 bool $4 flag $5 leaf ; $6 other's cells $7 other $8 flag $9 leaf ; ris: $10 ris for decides, $11 for the other (written as A, B)
set_option maxRecDepth 100000 in
set_option maxHeartbeats 4000000 in
theorem rjun0_any (x : LExpr) (v : Value) (ok : Nat → Prop) (w : World) (h0 : ∀ b, w.heap.size ≤ b → ok b) (hx : Ex ok x v w) (hoks : ∀ k ∈ x.kids, okE k) :
    Calls Try.prog 100 #[v, .bool false] w (RetEx ok (junF 0 x) w) := by
  obtain ⟨cs, rfl, he⟩ := hx
  have hx0 := he
  cases he with
  | mk hd ks A c b off cs hok hlen hA hsz hrow hk =>
  have HJ := Lib.hid (junF_eq 0 hd ks)
  generalize junF 0 (.mk hd ks) = R at *
  simp only [LExpr.kids] at hoks
  unfold Hd.cells at hx0 ⊢
  go_enter Try.func100, Try.ntmps100
  go_wp2_with fail
  have hb1 : Below w.heap.size w ((w.alloc (.cells #[.int .i64 hd.kind, .int .i64 hd.n, .int .i64 hd.m, .string hd.name, .int .i64 hd.vk, .int .i64 hd.vn, .string hd.vs, .int .i64 hd.dev, .string hd.cl, .string hd.at_, .slice A ks.length c] 32)).alloc (.cells #[.int .i64 0, .int .i64 0, .int .i64 0, .string { data := #[] }, .int .i64 0, .int .i64 0, .string { data := #[] }, .int .i64 0, .string { data := #[] }, .string { data := #[] }, .slice none 0 0] 32)) := ((Below.refl _ _).al _).al _
  have hx1 : Blk ((w.alloc (.cells #[.int .i64 hd.kind, .int .i64 hd.n, .int .i64 hd.m, .string hd.name, .int .i64 hd.vk, .int .i64 hd.vn, .string hd.vs, .int .i64 hd.dev, .string hd.cl, .string hd.at_, .slice A ks.length c] 32)).alloc (.cells #[.int .i64 0, .int .i64 0, .int .i64 0, .string { data := #[] }, .int .i64 0, .int .i64 0, .string { data := #[] }, .int .i64 0, .string { data := #[] }, .string { data := #[] }, .slice none 0 0] 32)) w.heap.size 32 #[.int .i64 hd.kind, .int .i64 hd.n, .int .i64 hd.m, .string hd.name, .int .i64 hd.vk, .int .i64 hd.vn, .string hd.vs, .int .i64 hd.dev, .string hd.cl, .string hd.at_, .slice A ks.length c] := (Blk.new _ _ _).alloc _
  have hr1 : Blk ((w.alloc (.cells #[.int .i64 hd.kind, .int .i64 hd.n, .int .i64 hd.m, .string hd.name, .int .i64 hd.vk, .int .i64 hd.vn, .string hd.vs, .int .i64 hd.dev, .string hd.cl, .string hd.at_, .slice A ks.length c] 32)).alloc (.cells #[.int .i64 0, .int .i64 0, .int .i64 0, .string { data := #[] }, .int .i64 0, .int .i64 0, .string { data := #[] }, .int .i64 0, .string { data := #[] }, .string { data := #[] }, .slice none 0 0] 32)) (w.heap.size + 1) 32 zero11 := Blk.at1 _ _ _ _
  have hs1 : w.heap.size + 2 ≤ ((w.alloc (.cells #[.int .i64 hd.kind, .int .i64 hd.n, .int .i64 hd.m, .string hd.name, .int .i64 hd.vk, .int .i64 hd.vn, .string hd.vs, .int .i64 hd.dev, .string hd.cl, .string hd.at_, .slice A ks.length c] 32)).alloc (.cells #[.int .i64 0, .int .i64 0, .int .i64 0, .string { data := #[] }, .int .i64 0, .int .i64 0, .string { data := #[] }, .int .i64 0, .string { data := #[] }, .string { data := #[] }, .slice none 0 0] 32)).heap.size := by simp
  have hlk2 : ks.length ≤ 140737488351232 := by omega
  generalize ((w.alloc (.cells #[.int .i64 hd.kind, .int .i64 hd.n, .int .i64 hd.m, .string hd.name, .int .i64 hd.vk, .int .i64 hd.vn, .string hd.vs, .int .i64 hd.dev, .string hd.cl, .string hd.at_, .slice A ks.length c] 32)).alloc (.cells #[.int .i64 0, .int .i64 0, .int .i64 0, .string { data := #[] }, .int .i64 0, .int .i64 0, .string { data := #[] }, .int .i64 0, .string { data := #[] }, .string { data := #[] }, .slice none 0 0] 32)) = WA at *
  go_loopw [5, 6] (fun all i wr => ∃ (j : Nat) (bb : Bool), j ≤ ks.length ∧ i = .int .i64 j ∧ all = .bool bb ∧ Hid (bb = (ks.take j).all (fun k => isLit k.hd (1 - 0)) ∧ (ks.take j).any (fun k => isLit k.hd 0) = false) ∧ Blk wr w.heap.size 32 #[.int .i64 hd.kind, .int .i64 hd.n, .int .i64 hd.m, .string hd.name, .int .i64 hd.vk, .int .i64 hd.vn, .string hd.vs, .int .i64 hd.dev, .string hd.cl, .string hd.at_, .slice A ks.length c] ∧ Blk wr (w.heap.size + 1) 32 zero11 ∧ Below w.heap.size w wr ∧ w.heap.size + 2 ≤ wr.heap.size) (fun _ i _ => ks.length - (intOf i).toNat)
  case atStart => exact ⟨0, true, Nat.zero_le _, rfl, rfl, Lib.hid ⟨by simp, by simp⟩, hx1, hr1, hb1, hs1⟩
  case round =>
    clear hx1 hr1 hb1 hs1
    obtain ⟨j, bb, hjl, rfl, rfl, HA, hx, hr, hbw, hs⟩ := hrel
    have cx := hx.cell
    by_cases hlt : j < ks.length
    · obtain ⟨rfl, hbB⟩ := hA (by omega)
      have hrk := (hrow j hlt)
      obtain ⟨hk', n', Ak, ck, hcs⟩ := (hk j hlt).form
      have hbl := rowAt_lt hrk (by rw [hsz]; omega)
      have HI0 := fun W (hb : Below w.heap.size w W) => Lib.hid (ris0_any ks[j] _ w.heap.size W hb.size ((hk j hlt).toIs.carry hb) (hoks _ (List.getElem_mem hlt)))
      have HI1 := fun W (hb : Below w.heap.size w W) => Lib.hid (ris1_any ks[j] _ w.heap.size W hb.size ((hk j hlt).toIs.carry hb) (hoks _ (List.getElem_mem hlt)))
      replace hrk := hrk.below hbw hbl
      have hhd : ks[j].hd = hk' := hd_of (hk j hlt) hcs
      rw [hcs] at hrk
      rw [hcs, hhd] at HI0 HI1
      have HD := Lib.hid hhd
      have hat := all_take (p := fun k => isLit k.hd (1 - 0)) hlt
      have hnt := any_take (p := fun k => isLit k.hd 0) hlt
      have hao := any_of (p := fun k => isLit k.hd 0) hlt
      simp only [hhd] at hat hnt hao
      have HT := Lib.hid hat
      have HN := Lib.hid hnt
      have HO := Lib.hid hao
      clear hA hrow hk hcs hsz hhd hat hnt hao
      unfold Hd.cells at hrk HI0 HI1
      go_wp2_with (first | (with_reducible refine wpList_load_at rfl 32 _ rfl b (off + j * 11) rfl _ _ hrk Try.underlying32 rfl (by kernel_rfl) ?_) | (refine wpList_load_atG rfl 32 _ rfl b (off + j * 11) rfl _ _ hrk Try.underlying32 rfl (by kernel_rfl) ?_))
      refine ((HI0 wr hbw).out).mono ?_
      rintro r w2 ⟨rfl, hb2⟩
      have hx' := hx.below hb2
      have hr' := hr.below hb2
      have hbw' := hbw.th hb2
      have hs2 := hb2.size
      replace hrk := hrk.below hb2 (by have := hbw.size; omega)
      clear hb2 hx hr cx HI0
      rcases Bool.eq_false_or_eq_true (isLit hk' 0) with h1 | h1
      · rw [h1]
        have hR : R = .mk (litB false) [] := by rw [HJ.out, if_pos (HO.out h1)]; rfl
        have HR := Lib.hid hR
        clear h1 hR HO HN HT HA HJ HD HI1
        go_wp2_with fail
        refine (rflag_f _).mono ?_
        rintro r w3 ⟨rfl, hb3⟩
        have hr2 := hr'.below hb3
        have hr3 := hr2.setRow #[.int .i64 1, .int .i64 0, .int .i64 0, .string { data := #[] }, .int .i64 1, .int .i64 0, .string { data := #[] }, .int .i64 0, .string { data := #[] }, .string { data := #[] }, .slice none 0 0]
        have hbw3 : Below w.heap.size w (w3.setRow (w.heap.size + 1) #[.int .i64 1, .int .i64 0, .int .i64 0, .string { data := #[] }, .int .i64 1, .int .i64 0, .string { data := #[] }, .int .i64 0, .string { data := #[] }, .string { data := #[] }, .slice none 0 0]) := below_setRow (hbw'.th hb3) (by omega) _
        clear hb3
        go_wp2_with (refine wpList_store_row rfl 32 _ _ rfl (w.heap.size + 1) _ rfl rfl 32 _ hr2 (by kernel_rfl : (Try.prog.info? 32).map (·.size) = some 11) rfl (by kernel_rfl) ?_)
        have cR := hr3.cell
        clear hr2
        refine bodyPost_ret (v := ?_) ?_ rfl ?_
        rotate_left
        · simp [results, Try.results100, go_sem, cR]; exact rfl
        rw [HR.out]
        exact ⟨⟨_, rfl, leaf_f _ _⟩, hbw3⟩
      · rw [h1]
        have cx := hx'.cell
        cases bb with
        | false =>
          have HE : Hid (false = (ks.take (j + 1)).all (fun k => isLit k.hd (1 - 0)) ∧ (ks.take (j + 1)).any (fun k => isLit k.hd 0) = false) := Lib.hid ⟨by rw [HT.out, ← HA.out.1]; rfl, by rw [HN.out, HA.out.2, h1]; rfl⟩
          clear h1 HO HN HT HA HJ HD HI1
          go_wp2_with fail
          go_roundw
          case rel => exact ⟨j + 1, false, by omega, by go_num, rfl, HE, hx', hr', hbw', by omega⟩
          case measure => simp [intOf]; omega
        | true =>
          have HE : Hid (isLit hk' (1 - 0) = (ks.take (j + 1)).all (fun k => isLit k.hd (1 - 0)) ∧ (ks.take (j + 1)).any (fun k => isLit k.hd 0) = false) := Lib.hid ⟨by rw [HT.out, ← HA.out.1]; rfl, by rw [HN.out, HA.out.2, h1]; rfl⟩
          clear h1 HO HN HT HA HJ HD
          go_wp2_with (first | (with_reducible refine wpList_load_at rfl 32 _ rfl b (off + j * 11) rfl _ _ hrk Try.underlying32 rfl (by kernel_rfl) ?_) | (refine wpList_load_atG rfl 32 _ rfl b (off + j * 11) rfl _ _ hrk Try.underlying32 rfl (by kernel_rfl) ?_))
          refine ((HI1 w2 hbw').out).mono ?_
          rintro r w3 ⟨rfl, hb3⟩
          replace hx' := hx'.below hb3
          replace hr' := hr'.below hb3
          replace hbw' := hbw'.th hb3
          have hs3 := hb3.size
          clear hb3 cx HI1 hrk
          have cx := hx'.cell
          go_wp2_with fail
          go_roundw
          case rel => exact ⟨j + 1, _, by omega, by go_num, rfl, HE, hx', hr', hbw', by omega⟩
          case measure => simp [intOf]; omega
    · have hj : j = ks.length := by omega
      subst hj
      have hat := HA.out
      rw [List.take_of_length_le (Nat.le_refl _)] at hat
      obtain ⟨ha1, ha2⟩ := hat
      clear HA
      have hr' := hr
      have hbw' := hbw
      cases bb with
      | true =>
        have hR : R = .mk (litB true) [] := by rw [HJ.out, if_neg (by rw [ha2]; decide), if_pos ha1.symm]; rfl
        have HR := Lib.hid hR
        clear hR HJ ha1 ha2 hA hrow hk hsz
        go_wp2_with fail
        refine (rflag_t _).mono ?_
        rintro r w3 ⟨rfl, hb3⟩
        have hr2 := hr'.below hb3
        have hr3 := hr2.setRow #[.int .i64 1, .int .i64 0, .int .i64 0, .string { data := #[] }, .int .i64 1, .int .i64 1, .string { data := #[] }, .int .i64 0, .string { data := #[] }, .string { data := #[] }, .slice none 0 0]
        have hbw3 : Below w.heap.size w (w3.setRow (w.heap.size + 1) #[.int .i64 1, .int .i64 0, .int .i64 0, .string { data := #[] }, .int .i64 1, .int .i64 1, .string { data := #[] }, .int .i64 0, .string { data := #[] }, .string { data := #[] }, .slice none 0 0]) := below_setRow (hbw'.th hb3) (by omega) _
        clear hb3
        go_wp2_with (refine wpList_store_row rfl 32 _ _ rfl (w.heap.size + 1) _ rfl rfl 32 _ hr2 (by kernel_rfl : (Try.prog.info? 32).map (·.size) = some 11) rfl (by kernel_rfl) ?_)
        have cR := hr3.cell
        clear hr2
        refine bodyPost_ret (v := ?_) ?_ rfl ?_
        rotate_left
        · simp [results, Try.results100, go_sem, cR]; exact rfl
        rw [HR.out]
        exact ⟨⟨_, rfl, leaf_t _ _⟩, hbw3⟩
      | false =>
        have hR : R = .mk hd ks := by rw [HJ.out, if_neg (by rw [ha2]; decide), if_neg (by rw [← ha1]; decide)]
        have HR := Lib.hid hR
        clear hR HJ ha1 ha2 hA hrow hk hsz hr hbw
        have hr3 := hr'.setRow #[.int .i64 hd.kind, .int .i64 hd.n, .int .i64 hd.m, .string hd.name, .int .i64 hd.vk, .int .i64 hd.vn, .string hd.vs, .int .i64 hd.dev, .string hd.cl, .string hd.at_, .slice A ks.length c]
        have hbw3 : Below w.heap.size w (wr.setRow (w.heap.size + 1) #[.int .i64 hd.kind, .int .i64 hd.n, .int .i64 hd.m, .string hd.name, .int .i64 hd.vk, .int .i64 hd.vn, .string hd.vs, .int .i64 hd.dev, .string hd.cl, .string hd.at_, .slice A ks.length c]) := below_setRow hbw' (by omega) _
        have he3 := hx0.carry (w' := wr.setRow (w.heap.size + 1) #[.int .i64 hd.kind, .int .i64 hd.n, .int .i64 hd.m, .string hd.name, .int .i64 hd.vk, .int .i64 hd.vn, .string hd.vs, .int .i64 hd.dev, .string hd.cl, .string hd.at_, .slice A ks.length c]) (fun b hb hl => (setRow_other _ _ _ _ (by omega)).trans (hbw'.block b hl))
        go_wp2_with (refine wpList_store_row rfl 32 _ _ rfl (w.heap.size + 1) _ rfl rfl 32 _ hr' (by kernel_rfl : (Try.prog.info? 32).map (·.size) = some 11) rfl (cells_one hd A ks.length c) ?_)
        have cR := hr3.cell
        clear hr' cx
        refine bodyPost_ret (v := ?_) ?_ rfl ?_
        rotate_left
        · simp [results, Try.results100, go_sem, cR]; exact rfl
        rw [HR.out]
        exact ⟨⟨_, rfl, _, rfl, he3⟩, hbw3⟩
set_option maxRecDepth 100000 in
set_option maxHeartbeats 4000000 in
theorem rjun1_any (x : LExpr) (v : Value) (ok : Nat → Prop) (w : World) (h0 : ∀ b, w.heap.size ≤ b → ok b) (hx : Ex ok x v w) (hoks : ∀ k ∈ x.kids, okE k) :
    Calls Try.prog 100 #[v, .bool true] w (RetEx ok (junF 1 x) w) := by
  obtain ⟨cs, rfl, he⟩ := hx
  have hx0 := he
  cases he with
  | mk hd ks A c b off cs hok hlen hA hsz hrow hk =>
  have HJ := Lib.hid (junF_eq 1 hd ks)
  generalize junF 1 (.mk hd ks) = R at *
  simp only [LExpr.kids] at hoks
  unfold Hd.cells at hx0 ⊢
  go_enter Try.func100, Try.ntmps100
  go_wp2_with fail
  have hb1 : Below w.heap.size w ((w.alloc (.cells #[.int .i64 hd.kind, .int .i64 hd.n, .int .i64 hd.m, .string hd.name, .int .i64 hd.vk, .int .i64 hd.vn, .string hd.vs, .int .i64 hd.dev, .string hd.cl, .string hd.at_, .slice A ks.length c] 32)).alloc (.cells #[.int .i64 0, .int .i64 0, .int .i64 0, .string { data := #[] }, .int .i64 0, .int .i64 0, .string { data := #[] }, .int .i64 0, .string { data := #[] }, .string { data := #[] }, .slice none 0 0] 32)) := ((Below.refl _ _).al _).al _
  have hx1 : Blk ((w.alloc (.cells #[.int .i64 hd.kind, .int .i64 hd.n, .int .i64 hd.m, .string hd.name, .int .i64 hd.vk, .int .i64 hd.vn, .string hd.vs, .int .i64 hd.dev, .string hd.cl, .string hd.at_, .slice A ks.length c] 32)).alloc (.cells #[.int .i64 0, .int .i64 0, .int .i64 0, .string { data := #[] }, .int .i64 0, .int .i64 0, .string { data := #[] }, .int .i64 0, .string { data := #[] }, .string { data := #[] }, .slice none 0 0] 32)) w.heap.size 32 #[.int .i64 hd.kind, .int .i64 hd.n, .int .i64 hd.m, .string hd.name, .int .i64 hd.vk, .int .i64 hd.vn, .string hd.vs, .int .i64 hd.dev, .string hd.cl, .string hd.at_, .slice A ks.length c] := (Blk.new _ _ _).alloc _
  have hr1 : Blk ((w.alloc (.cells #[.int .i64 hd.kind, .int .i64 hd.n, .int .i64 hd.m, .string hd.name, .int .i64 hd.vk, .int .i64 hd.vn, .string hd.vs, .int .i64 hd.dev, .string hd.cl, .string hd.at_, .slice A ks.length c] 32)).alloc (.cells #[.int .i64 0, .int .i64 0, .int .i64 0, .string { data := #[] }, .int .i64 0, .int .i64 0, .string { data := #[] }, .int .i64 0, .string { data := #[] }, .string { data := #[] }, .slice none 0 0] 32)) (w.heap.size + 1) 32 zero11 := Blk.at1 _ _ _ _
  have hs1 : w.heap.size + 2 ≤ ((w.alloc (.cells #[.int .i64 hd.kind, .int .i64 hd.n, .int .i64 hd.m, .string hd.name, .int .i64 hd.vk, .int .i64 hd.vn, .string hd.vs, .int .i64 hd.dev, .string hd.cl, .string hd.at_, .slice A ks.length c] 32)).alloc (.cells #[.int .i64 0, .int .i64 0, .int .i64 0, .string { data := #[] }, .int .i64 0, .int .i64 0, .string { data := #[] }, .int .i64 0, .string { data := #[] }, .string { data := #[] }, .slice none 0 0] 32)).heap.size := by simp
  have hlk2 : ks.length ≤ 140737488351232 := by omega
  generalize ((w.alloc (.cells #[.int .i64 hd.kind, .int .i64 hd.n, .int .i64 hd.m, .string hd.name, .int .i64 hd.vk, .int .i64 hd.vn, .string hd.vs, .int .i64 hd.dev, .string hd.cl, .string hd.at_, .slice A ks.length c] 32)).alloc (.cells #[.int .i64 0, .int .i64 0, .int .i64 0, .string { data := #[] }, .int .i64 0, .int .i64 0, .string { data := #[] }, .int .i64 0, .string { data := #[] }, .string { data := #[] }, .slice none 0 0] 32)) = WA at *
  go_loopw [5, 6] (fun all i wr => ∃ (j : Nat) (bb : Bool), j ≤ ks.length ∧ i = .int .i64 j ∧ all = .bool bb ∧ Hid (bb = (ks.take j).all (fun k => isLit k.hd (1 - 1)) ∧ (ks.take j).any (fun k => isLit k.hd 1) = false) ∧ Blk wr w.heap.size 32 #[.int .i64 hd.kind, .int .i64 hd.n, .int .i64 hd.m, .string hd.name, .int .i64 hd.vk, .int .i64 hd.vn, .string hd.vs, .int .i64 hd.dev, .string hd.cl, .string hd.at_, .slice A ks.length c] ∧ Blk wr (w.heap.size + 1) 32 zero11 ∧ Below w.heap.size w wr ∧ w.heap.size + 2 ≤ wr.heap.size) (fun _ i _ => ks.length - (intOf i).toNat)
  case atStart => exact ⟨0, true, Nat.zero_le _, rfl, rfl, Lib.hid ⟨by simp, by simp⟩, hx1, hr1, hb1, hs1⟩
  case round =>
    clear hx1 hr1 hb1 hs1
    obtain ⟨j, bb, hjl, rfl, rfl, HA, hx, hr, hbw, hs⟩ := hrel
    have cx := hx.cell
    by_cases hlt : j < ks.length
    · obtain ⟨rfl, hbB⟩ := hA (by omega)
      have hrk := (hrow j hlt)
      obtain ⟨hk', n', Ak, ck, hcs⟩ := (hk j hlt).form
      have hbl := rowAt_lt hrk (by rw [hsz]; omega)
      have HI0 := fun W (hb : Below w.heap.size w W) => Lib.hid (ris1_any ks[j] _ w.heap.size W hb.size ((hk j hlt).toIs.carry hb) (hoks _ (List.getElem_mem hlt)))
      have HI1 := fun W (hb : Below w.heap.size w W) => Lib.hid (ris0_any ks[j] _ w.heap.size W hb.size ((hk j hlt).toIs.carry hb) (hoks _ (List.getElem_mem hlt)))
      replace hrk := hrk.below hbw hbl
      have hhd : ks[j].hd = hk' := hd_of (hk j hlt) hcs
      rw [hcs] at hrk
      rw [hcs, hhd] at HI0 HI1
      have HD := Lib.hid hhd
      have hat := all_take (p := fun k => isLit k.hd (1 - 1)) hlt
      have hnt := any_take (p := fun k => isLit k.hd 1) hlt
      have hao := any_of (p := fun k => isLit k.hd 1) hlt
      simp only [hhd] at hat hnt hao
      have HT := Lib.hid hat
      have HN := Lib.hid hnt
      have HO := Lib.hid hao
      clear hA hrow hk hcs hsz hhd hat hnt hao
      unfold Hd.cells at hrk HI0 HI1
      go_wp2_with (first | (with_reducible refine wpList_load_at rfl 32 _ rfl b (off + j * 11) rfl _ _ hrk Try.underlying32 rfl (by kernel_rfl) ?_) | (refine wpList_load_atG rfl 32 _ rfl b (off + j * 11) rfl _ _ hrk Try.underlying32 rfl (by kernel_rfl) ?_))
      refine ((HI0 wr hbw).out).mono ?_
      rintro r w2 ⟨rfl, hb2⟩
      have hx' := hx.below hb2
      have hr' := hr.below hb2
      have hbw' := hbw.th hb2
      have hs2 := hb2.size
      replace hrk := hrk.below hb2 (by have := hbw.size; omega)
      clear hb2 hx hr cx HI0
      rcases Bool.eq_false_or_eq_true (isLit hk' 1) with h1 | h1
      · rw [h1]
        have hR : R = .mk (litB true) [] := by rw [HJ.out, if_pos (HO.out h1)]; rfl
        have HR := Lib.hid hR
        clear h1 hR HO HN HT HA HJ HD HI1
        go_wp2_with fail
        refine (rflag_t _).mono ?_
        rintro r w3 ⟨rfl, hb3⟩
        have hr2 := hr'.below hb3
        have hr3 := hr2.setRow #[.int .i64 1, .int .i64 0, .int .i64 0, .string { data := #[] }, .int .i64 1, .int .i64 1, .string { data := #[] }, .int .i64 0, .string { data := #[] }, .string { data := #[] }, .slice none 0 0]
        have hbw3 : Below w.heap.size w (w3.setRow (w.heap.size + 1) #[.int .i64 1, .int .i64 0, .int .i64 0, .string { data := #[] }, .int .i64 1, .int .i64 1, .string { data := #[] }, .int .i64 0, .string { data := #[] }, .string { data := #[] }, .slice none 0 0]) := below_setRow (hbw'.th hb3) (by omega) _
        clear hb3
        go_wp2_with (refine wpList_store_row rfl 32 _ _ rfl (w.heap.size + 1) _ rfl rfl 32 _ hr2 (by kernel_rfl : (Try.prog.info? 32).map (·.size) = some 11) rfl (by kernel_rfl) ?_)
        have cR := hr3.cell
        clear hr2
        refine bodyPost_ret (v := ?_) ?_ rfl ?_
        rotate_left
        · simp [results, Try.results100, go_sem, cR]; exact rfl
        rw [HR.out]
        exact ⟨⟨_, rfl, leaf_t _ _⟩, hbw3⟩
      · rw [h1]
        have cx := hx'.cell
        cases bb with
        | false =>
          have HE : Hid (false = (ks.take (j + 1)).all (fun k => isLit k.hd (1 - 1)) ∧ (ks.take (j + 1)).any (fun k => isLit k.hd 1) = false) := Lib.hid ⟨by rw [HT.out, ← HA.out.1]; rfl, by rw [HN.out, HA.out.2, h1]; rfl⟩
          clear h1 HO HN HT HA HJ HD HI1
          go_wp2_with fail
          go_roundw
          case rel => exact ⟨j + 1, false, by omega, by go_num, rfl, HE, hx', hr', hbw', by omega⟩
          case measure => simp [intOf]; omega
        | true =>
          have HE : Hid (isLit hk' (1 - 1) = (ks.take (j + 1)).all (fun k => isLit k.hd (1 - 1)) ∧ (ks.take (j + 1)).any (fun k => isLit k.hd 1) = false) := Lib.hid ⟨by rw [HT.out, ← HA.out.1]; rfl, by rw [HN.out, HA.out.2, h1]; rfl⟩
          clear h1 HO HN HT HA HJ HD
          go_wp2_with (first | (with_reducible refine wpList_load_at rfl 32 _ rfl b (off + j * 11) rfl _ _ hrk Try.underlying32 rfl (by kernel_rfl) ?_) | (refine wpList_load_atG rfl 32 _ rfl b (off + j * 11) rfl _ _ hrk Try.underlying32 rfl (by kernel_rfl) ?_))
          refine ((HI1 w2 hbw').out).mono ?_
          rintro r w3 ⟨rfl, hb3⟩
          replace hx' := hx'.below hb3
          replace hr' := hr'.below hb3
          replace hbw' := hbw'.th hb3
          have hs3 := hb3.size
          clear hb3 cx HI1 hrk
          have cx := hx'.cell
          go_wp2_with fail
          go_roundw
          case rel => exact ⟨j + 1, _, by omega, by go_num, rfl, HE, hx', hr', hbw', by omega⟩
          case measure => simp [intOf]; omega
    · have hj : j = ks.length := by omega
      subst hj
      have hat := HA.out
      rw [List.take_of_length_le (Nat.le_refl _)] at hat
      obtain ⟨ha1, ha2⟩ := hat
      clear HA
      have hr' := hr
      have hbw' := hbw
      cases bb with
      | true =>
        have hR : R = .mk (litB false) [] := by rw [HJ.out, if_neg (by rw [ha2]; decide), if_pos ha1.symm]; rfl
        have HR := Lib.hid hR
        clear hR HJ ha1 ha2 hA hrow hk hsz
        go_wp2_with fail
        refine (rflag_f _).mono ?_
        rintro r w3 ⟨rfl, hb3⟩
        have hr2 := hr'.below hb3
        have hr3 := hr2.setRow #[.int .i64 1, .int .i64 0, .int .i64 0, .string { data := #[] }, .int .i64 1, .int .i64 0, .string { data := #[] }, .int .i64 0, .string { data := #[] }, .string { data := #[] }, .slice none 0 0]
        have hbw3 : Below w.heap.size w (w3.setRow (w.heap.size + 1) #[.int .i64 1, .int .i64 0, .int .i64 0, .string { data := #[] }, .int .i64 1, .int .i64 0, .string { data := #[] }, .int .i64 0, .string { data := #[] }, .string { data := #[] }, .slice none 0 0]) := below_setRow (hbw'.th hb3) (by omega) _
        clear hb3
        go_wp2_with (refine wpList_store_row rfl 32 _ _ rfl (w.heap.size + 1) _ rfl rfl 32 _ hr2 (by kernel_rfl : (Try.prog.info? 32).map (·.size) = some 11) rfl (by kernel_rfl) ?_)
        have cR := hr3.cell
        clear hr2
        refine bodyPost_ret (v := ?_) ?_ rfl ?_
        rotate_left
        · simp [results, Try.results100, go_sem, cR]; exact rfl
        rw [HR.out]
        exact ⟨⟨_, rfl, leaf_f _ _⟩, hbw3⟩
      | false =>
        have hR : R = .mk hd ks := by rw [HJ.out, if_neg (by rw [ha2]; decide), if_neg (by rw [← ha1]; decide)]
        have HR := Lib.hid hR
        clear hR HJ ha1 ha2 hA hrow hk hsz hr hbw
        have hr3 := hr'.setRow #[.int .i64 hd.kind, .int .i64 hd.n, .int .i64 hd.m, .string hd.name, .int .i64 hd.vk, .int .i64 hd.vn, .string hd.vs, .int .i64 hd.dev, .string hd.cl, .string hd.at_, .slice A ks.length c]
        have hbw3 : Below w.heap.size w (wr.setRow (w.heap.size + 1) #[.int .i64 hd.kind, .int .i64 hd.n, .int .i64 hd.m, .string hd.name, .int .i64 hd.vk, .int .i64 hd.vn, .string hd.vs, .int .i64 hd.dev, .string hd.cl, .string hd.at_, .slice A ks.length c]) := below_setRow hbw' (by omega) _
        have he3 := hx0.carry (w' := wr.setRow (w.heap.size + 1) #[.int .i64 hd.kind, .int .i64 hd.n, .int .i64 hd.m, .string hd.name, .int .i64 hd.vk, .int .i64 hd.vn, .string hd.vs, .int .i64 hd.dev, .string hd.cl, .string hd.at_, .slice A ks.length c]) (fun b hb hl => (setRow_other _ _ _ _ (by omega)).trans (hbw'.block b hl))
        go_wp2_with (refine wpList_store_row rfl 32 _ _ rfl (w.heap.size + 1) _ rfl rfl 32 _ hr' (by kernel_rfl : (Try.prog.info? 32).map (·.size) = some 11) rfl (cells_one hd A ks.length c) ?_)
        have cR := hr3.cell
        clear hr' cx
        refine bodyPost_ret (v := ?_) ?_ rfl ?_
        rotate_left
        · simp [results, Try.results100, go_sem, cR]; exact rfl
        rw [HR.out]
        exact ⟨⟨_, rfl, _, rfl, he3⟩, hbw3⟩

/-- An operation on two integers. -/
def numF (k a b : Int) : LExpr := if k = 10 then .mk (litB (decide (a < b))) [] else .mk (numH (if k = 11 then satI (a + b) else if k = 12 then satI (a - b) else satI (a * b))) []
theorem numF_eq (k a b : Int) : numF k a b = if k = 10 then .mk (litB (decide (a < b))) [] else .mk (numH (if k = 11 then satI (a + b) else if k = 12 then satI (a - b) else satI (a * b))) [] := rfl
set_option maxRecDepth 100000 in
set_option maxHeartbeats 2000000 in
theorem rnumbers_any (hd : Hd) (A : Option Addr) (l c : Nat) (a b : Int) (ha : I64 a) (hb : I64 b) (ok : Nat → Prop) (w : World) :
    Calls Try.prog 101 #[.agg (hd.cells (.slice A l c)).toArray, .int .i64 a, .int .i64 b] w (RetEx ok (numF hd.kind a b) w) := by
  have hJ := numF_eq hd.kind a b
  generalize numF hd.kind a b = R at *
  unfold Hd.cells
  go_enter Try.func101, Try.ntmps101
  go_upto_region 1 with fail
  have hb1 : Below w.heap.size w ((w.alloc (.cells #[.int .i64 hd.kind, .int .i64 hd.n, .int .i64 hd.m, .string hd.name, .int .i64 hd.vk, .int .i64 hd.vn, .string hd.vs, .int .i64 hd.dev, .string hd.cl, .string hd.at_, .slice A l c] 32)).alloc (.cells #[.int .i64 0, .int .i64 0, .int .i64 0, .string { data := #[] }, .int .i64 0, .int .i64 0, .string { data := #[] }, .int .i64 0, .string { data := #[] }, .string { data := #[] }, .slice none 0 0] 32)) := ((Below.refl _ _).al _).al _
  have hx1 : Blk ((w.alloc (.cells #[.int .i64 hd.kind, .int .i64 hd.n, .int .i64 hd.m, .string hd.name, .int .i64 hd.vk, .int .i64 hd.vn, .string hd.vs, .int .i64 hd.dev, .string hd.cl, .string hd.at_, .slice A l c] 32)).alloc (.cells #[.int .i64 0, .int .i64 0, .int .i64 0, .string { data := #[] }, .int .i64 0, .int .i64 0, .string { data := #[] }, .int .i64 0, .string { data := #[] }, .string { data := #[] }, .slice none 0 0] 32)) w.heap.size 32 #[.int .i64 hd.kind, .int .i64 hd.n, .int .i64 hd.m, .string hd.name, .int .i64 hd.vk, .int .i64 hd.vn, .string hd.vs, .int .i64 hd.dev, .string hd.cl, .string hd.at_, .slice A l c] := (Blk.new _ _ _).alloc _
  have hr1 : Blk ((w.alloc (.cells #[.int .i64 hd.kind, .int .i64 hd.n, .int .i64 hd.m, .string hd.name, .int .i64 hd.vk, .int .i64 hd.vn, .string hd.vs, .int .i64 hd.dev, .string hd.cl, .string hd.at_, .slice A l c] 32)).alloc (.cells #[.int .i64 0, .int .i64 0, .int .i64 0, .string { data := #[] }, .int .i64 0, .int .i64 0, .string { data := #[] }, .int .i64 0, .string { data := #[] }, .string { data := #[] }, .slice none 0 0] 32)) (w.heap.size + 1) 32 zero11 := Blk.at1 _ _ _ _
  generalize ((w.alloc (.cells #[.int .i64 hd.kind, .int .i64 hd.n, .int .i64 hd.m, .string hd.name, .int .i64 hd.vk, .int .i64 hd.vn, .string hd.vs, .int .i64 hd.dev, .string hd.cl, .string hd.at_, .slice A l c] 32)).alloc (.cells #[.int .i64 0, .int .i64 0, .int .i64 0, .string { data := #[] }, .int .i64 0, .int .i64 0, .string { data := #[] }, .int .i64 0, .string { data := #[] }, .string { data := #[] }, .slice none 0 0] 32)) = WA at *
  have cx := hx1.cell
  rcases kd10 hd.kind with ⟨k10, k10'⟩ | ⟨k10, k11, k11', k10'⟩ | ⟨k10, k11, k12, k12', k11', k10'⟩ | ⟨k10, k11, k12, k12', k11', k10'⟩
  · rw [if_pos k10'] at hJ
    by_cases hlt : a < b
    · rw [decide_eq_true hlt] at hJ
      have HJ := Lib.hid hJ
      clear hJ
      go_wp2_with fail
      refine (rflag_t _).mono ?_
      have hr' := hr1
      have hbw' := hb1
      rintro r w3 ⟨rfl, hb3⟩
      have hr2 := hr'.below hb3
      have hr3 := hr2.setRow #[.int .i64 1, .int .i64 0, .int .i64 0, .string { data := #[] }, .int .i64 1, .int .i64 1, .string { data := #[] }, .int .i64 0, .string { data := #[] }, .string { data := #[] }, .slice none 0 0]
      have hbw3 : Below w.heap.size w (w3.setRow (w.heap.size + 1) #[.int .i64 1, .int .i64 0, .int .i64 0, .string { data := #[] }, .int .i64 1, .int .i64 1, .string { data := #[] }, .int .i64 0, .string { data := #[] }, .string { data := #[] }, .slice none 0 0]) := below_setRow (hbw'.th hb3) (by omega) _
      clear hb3
      go_wp2_with (refine wpList_store_row rfl 32 _ _ rfl (w.heap.size + 1) _ rfl rfl 32 _ hr2 (by kernel_rfl : (Try.prog.info? 32).map (·.size) = some 11) rfl (by kernel_rfl) ?_)
      have cR := hr3.cell
      clear hr2
      refine bodyPost_ret (v := ?_) ?_ rfl ?_
      rotate_left
      · simp [results, Try.results101, go_sem, cR]; exact rfl
      rw [HJ.out]
      exact ⟨⟨_, rfl, leaf_t _ _⟩, hbw3⟩
    · rw [decide_eq_false hlt] at hJ
      have HJ := Lib.hid hJ
      clear hJ
      go_wp2_with fail
      refine (rflag_f _).mono ?_
      have hr' := hr1
      have hbw' := hb1
      rintro r w3 ⟨rfl, hb3⟩
      have hr2 := hr'.below hb3
      have hr3 := hr2.setRow #[.int .i64 1, .int .i64 0, .int .i64 0, .string { data := #[] }, .int .i64 1, .int .i64 0, .string { data := #[] }, .int .i64 0, .string { data := #[] }, .string { data := #[] }, .slice none 0 0]
      have hbw3 : Below w.heap.size w (w3.setRow (w.heap.size + 1) #[.int .i64 1, .int .i64 0, .int .i64 0, .string { data := #[] }, .int .i64 1, .int .i64 0, .string { data := #[] }, .int .i64 0, .string { data := #[] }, .string { data := #[] }, .slice none 0 0]) := below_setRow (hbw'.th hb3) (by omega) _
      clear hb3
      go_wp2_with (refine wpList_store_row rfl 32 _ _ rfl (w.heap.size + 1) _ rfl rfl 32 _ hr2 (by kernel_rfl : (Try.prog.info? 32).map (·.size) = some 11) rfl (by kernel_rfl) ?_)
      have cR := hr3.cell
      clear hr2
      refine bodyPost_ret (v := ?_) ?_ rfl ?_
      rotate_left
      · simp [results, Try.results101, go_sem, cR]; exact rfl
      rw [HJ.out]
      exact ⟨⟨_, rfl, leaf_f _ _⟩, hbw3⟩
  · rw [if_neg k10', if_pos k11'] at hJ
    have HM := fun w => Lib.hid (rmul_any a b w ha hb)
    have HA := fun w => Lib.hid (radd_any a b w ha hb)
    generalize satI (a * b) = M at *
    generalize hN : satI (a + b) = NN at *
    have hn64 : I64 NN := by rw [← hN]; exact satI_I64 _
    clear hN
    have HJ := Lib.hid hJ
    clear hJ
    go_wp2_with fail
    refine (HM _).out.mono ?_
    rintro r w6 ⟨rfl, rfl⟩
    go_wp2_with fail
    refine (HA _).out.mono ?_
    rintro r w6 ⟨rfl, rfl⟩
    go_wp2_with fail
    refine (rlit_any 2 NN { data := #[] } _).mono ?_
    rintro r w3 ⟨rfl, hb3⟩
    have hr2 := hr1.below hb3
    have hr3 := hr2.setRow ((numH NN).cells (.slice none 0 0)).toArray
    have hbw3 : Below w.heap.size w (w3.setRow (w.heap.size + 1) ((numH NN).cells (.slice none 0 0)).toArray) := below_setRow (hb1.th hb3) (by omega) _
    have hone := cells_one (numH NN) none 0 0
    clear hb3
    simp only [Hd.cells, numH, valH, noStr] at hr3 hbw3 hone ⊢
    go_wp2_with (refine wpList_store_row rfl 32 _ _ rfl (w.heap.size + 1) _ rfl rfl 32 _ hr2 (by kernel_rfl : (Try.prog.info? 32).map (·.size) = some 11) rfl hone ?_)
    have cR := hr3.cell
    refine bodyPost_ret (v := ?_) ?_ rfl ?_
    rotate_left
    · simp [results, Try.results101, go_sem, cR]; exact rfl
    rw [HJ.out]
    exact ⟨⟨_, rfl, _, rfl, leafP _ _ (numH NN) (numH_ok hn64) none 0⟩, hbw3⟩
  · rw [if_neg k10', if_neg k11', if_pos k12'] at hJ
    have HM := fun w => Lib.hid (rmul_any a b w ha hb)
    have HA := fun w => Lib.hid (rsub_any a b w ha hb)
    generalize satI (a * b) = M at *
    generalize hN : satI (a - b) = NN at *
    have hn64 : I64 NN := by rw [← hN]; exact satI_I64 _
    clear hN
    have HJ := Lib.hid hJ
    clear hJ
    go_wp2_with fail
    refine (HM _).out.mono ?_
    rintro r w6 ⟨rfl, rfl⟩
    go_wp2_with fail
    refine (HA _).out.mono ?_
    rintro r w6 ⟨rfl, rfl⟩
    go_wp2_with fail
    refine (rlit_any 2 NN { data := #[] } _).mono ?_
    rintro r w3 ⟨rfl, hb3⟩
    have hr2 := hr1.below hb3
    have hr3 := hr2.setRow ((numH NN).cells (.slice none 0 0)).toArray
    have hbw3 : Below w.heap.size w (w3.setRow (w.heap.size + 1) ((numH NN).cells (.slice none 0 0)).toArray) := below_setRow (hb1.th hb3) (by omega) _
    have hone := cells_one (numH NN) none 0 0
    clear hb3
    simp only [Hd.cells, numH, valH, noStr] at hr3 hbw3 hone ⊢
    go_wp2_with (refine wpList_store_row rfl 32 _ _ rfl (w.heap.size + 1) _ rfl rfl 32 _ hr2 (by kernel_rfl : (Try.prog.info? 32).map (·.size) = some 11) rfl hone ?_)
    have cR := hr3.cell
    refine bodyPost_ret (v := ?_) ?_ rfl ?_
    rotate_left
    · simp [results, Try.results101, go_sem, cR]; exact rfl
    rw [HJ.out]
    exact ⟨⟨_, rfl, _, rfl, leafP _ _ (numH NN) (numH_ok hn64) none 0⟩, hbw3⟩
  · rw [if_neg k10', if_neg k11', if_neg k12'] at hJ
    have HM := fun w => Lib.hid (rmul_any a b w ha hb)
    generalize hN : satI (a * b) = NN at *
    have hn64 : I64 NN := by rw [← hN]; exact satI_I64 _
    clear hN
    have HJ := Lib.hid hJ
    clear hJ
    go_wp2_with fail
    refine (HM _).out.mono ?_
    rintro r w6 ⟨rfl, rfl⟩
    go_wp2_with fail
    refine (rlit_any 2 NN { data := #[] } _).mono ?_
    rintro r w3 ⟨rfl, hb3⟩
    have hr2 := hr1.below hb3
    have hr3 := hr2.setRow ((numH NN).cells (.slice none 0 0)).toArray
    have hbw3 : Below w.heap.size w (w3.setRow (w.heap.size + 1) ((numH NN).cells (.slice none 0 0)).toArray) := below_setRow (hb1.th hb3) (by omega) _
    have hone := cells_one (numH NN) none 0 0
    clear hb3
    simp only [Hd.cells, numH, valH, noStr] at hr3 hbw3 hone ⊢
    go_wp2_with (refine wpList_store_row rfl 32 _ _ rfl (w.heap.size + 1) _ rfl rfl 32 _ hr2 (by kernel_rfl : (Try.prog.info? 32).map (·.size) = some 11) rfl hone ?_)
    have cR := hr3.cell
    refine bodyPost_ret (v := ?_) ?_ rfl ?_
    rotate_left
    · simp [results, Try.results101, go_sem, cR]; exact rfl
    rw [HJ.out]
    exact ⟨⟨_, rfl, _, rfl, leafP _ _ (numH NN) (numH_ok hn64) none 0⟩, hbw3⟩

end Go.Proofs.Ytnelgblmogciiaa
