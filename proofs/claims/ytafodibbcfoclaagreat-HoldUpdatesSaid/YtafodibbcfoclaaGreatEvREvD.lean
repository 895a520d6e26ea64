/- The reference's value of an expression. -/
import Derived.Test.YtafodibbcfoclaaGreatEvREvs
set_option linter.unusedSimpArgs false
set_option linter.unusedVariables false
namespace Go.Proofs.YtafodibbcfoclaaGreat.Ev
open Go.RowKit

theorem infoValue : (Tryz.prog.info? 36).map (fun i => (i.zero, i.size, i.bytes)) = some (some (.agg #[.int .i64 0, .int .i64 0, .string { data := #[] }]), 3, 32) := by kernel_rfl
structure DoneV (w W : World) (v e : Array Value) : Prop where
  low : Below w.heap.size w W
  vb : Blk W w.heap.size 27 v
  eb : Blk W (w.heap.size + 1) 41 e
  rb : Blk W (w.heap.size + 1 + 1) 36 #[.int .i64 0, .int .i64 0, .string { data := #[] }]
  size : w.heap.size + 3 ≤ W.heap.size
theorem DoneV.lat {w W W' : World} {v e : Array Value} (h : DoneV w W v e) (hl : Below W.heap.size W W') : DoneV w W' v e :=
  ⟨h.low.th hl, h.vb.below hl, h.eb.below hl, h.rb.below hl, Nat.le_trans h.size hl.size⟩
theorem DoneV.grown {w W W' : World} {v e : Array Value} {row : Option Nat} (h : DoneV w W v e) (hg : W.grownBy W' row) (hr : ∀ k, row = some k → w.heap.size + 3 ≤ k) : DoneV w W' v e :=
  ⟨h.low.grown hg (by have := h.size; omega) (fun k hk => by have := hr k hk; omega), h.vb.grown hg (fun hc => by have := hr _ hc.symm; omega), h.eb.grown hg (fun hc => by have := hr _ hc.symm; omega), h.rb.grown hg (fun hc => by have := hr _ hc.symm; omega), by have := hg.size; have := h.size; omega⟩
theorem own_later {w w' : World} {base : Nat} {e : TypeId} {n k : Nat} {v : Value} {xs : List Value} (h : w.ownsRow base e n v k xs) (hb : ∀ k, base ≤ k → k < w.heap.size → w'.heap[k]? = w.heap[k]?) : w'.ownsRow base e n v k xs := by
  obtain ⟨hl, ho | ⟨g, cap, cur, hv, hbg, hg, r⟩⟩ := h
  · exact ⟨hl, .inl ho⟩
  · exact ⟨hl, .inr ⟨g, cap, cur, hv, hbg, (hb g hbg (Array.getElem?_eq_some_iff.1 hg).1).trans hg, r⟩⟩
theorem and_one (x : Int) (h0 : 0 ≤ x) (h1 : x ≤ 127) : (bits BinOp.and IntKind.i64 x 1 == 1) = (x % 2 == 1) := by
  have key : ∀ y : Fin 128, (bits BinOp.and IntKind.i64 (y.val : Int) 1 == 1) = ((y.val : Int) % 2 == 1) := by decide +kernel
  have := key ⟨x.toNat, by omega⟩
  simp only [Int.toNat_of_nonneg h0] at this
  exact this
theorem kidsOf' {h : Hd} {n : Nat} (hc : nodeCheck h n = 0) : kidsOk h.kind n := (nodeCheck_kinds hc).2.2
theorem findL_map (V : LView) : ∀ ks : List LExpr, findL V ks = ks.map (findS V)
  | [] => rfl
  | k :: ks => by rw [findL, findL_map V ks, List.map_cons]
theorem findS_mk (V : LView) (h : Hd) (ks : List LExpr) : findS V (.mk h ks) = nodeE V h (ks.map (findS V)) := by rw [findS, findL_map]
theorem ev1 {xs : List EV} (h : xs.length = 1) : ∃ k0, xs = [k0] := List.length_eq_one_iff.1 h
theorem ev2 {xs : List EV} (h : xs.length = 2) : ∃ k0 k1, xs = [k0, k1] := by
  match xs, h with
  | [k0, k1], _ => exact ⟨k0, k1, rfl⟩
theorem ev3 {xs : List EV} (h : xs.length = 3) : ∃ k0 k1 k2, xs = [k0, k1, k2] := by
  match xs, h with
  | [k0, k1, k2], _ => exact ⟨k0, k1, k2, rfl⟩
theorem kinds15 {h : Hd} {n : Nat} (hc : nodeCheck h n = 0) : h.kind = 1 ∨ h.kind = 2 ∨ h.kind = 3 ∨ h.kind = 4 ∨ h.kind = 5 ∨ h.kind = 15 ∨ h.kind = 6 ∨ h.kind = 7 ∨ h.kind = 8 ∨ h.kind = 14 ∨ h.kind = 9 ∨ h.kind = 10 ∨ h.kind = 11 ∨ h.kind = 12 ∨ h.kind = 13 := by
  have := nodeCheck_kinds hc
  omega
/-- The numbers of a mask of days. -/
theorem node_day {h : Hd} {n : Int} (hc : nodeCheck h n = 0) (h5 : h.kind = 5) : 1 ≤ h.n ∧ h.n ≤ 127 := by
  unfold nodeCheck at hc
  by_cases a1 : h.kind < 1 ∨ 15 < h.kind
  · omega
  rw [if_neg a1] at hc
  by_cases a2 : ¬ kidsOk h.kind n ∨ h.spareB = false
  · rw [if_pos a2] at hc; cases hc
  rw [if_neg a2] at hc
  by_cases a3 : h.rangesB = false
  · rw [if_pos a3] at hc; cases hc
  have a4 : h.rangesB = true := by cases hb : h.rangesB with | true => rfl | false => exact absurd hb a3
  have a5 := of_decide_eq_true a4
  unfold rangesP at a5
  omega

-- behind a call that hands back cells: $1 the way to the answer
set_option maxRecDepth 100000 in
set_option maxHeartbeats 16000000 in
theorem rval_any (V : LView) (e : LExpr) : ∀ (vc cs : List Value) (B : Nat) (w : World), B ≤ w.heap.size → IsView B w V vc → IsExpr B w e cs → okE e →
    Calls Tryz.prog 46 #[.agg vc.toArray, .agg cs.toArray] w fun r w' => r = .returned (findS V e).val ∧ Below w.heap.size w w' := by
  induction e using LExpr.ind with | _ hd ks ih => ?_
  intro vc cs B w hB hv he hokE
  rw [okE] at hokE
  obtain ⟨hP, hoks⟩ := hokE
  have hfin : ∀ x ∈ ks.map (findS V), x.fine := fun x hx => by obtain ⟨k, hk, rfl⟩ := List.mem_map.1 hx; exact findS_fine V k (hoks k hk)
  have hRf := findS_mk V hd ks
  cases he with
  | mk _ _ A c b off cs hok hlen hA hsz hrow hk =>
  have h64 : ∀ x ∈ ks.map (findS V), I64 x.n := fun x hx => by
    obtain ⟨k, hk', rfl⟩ := List.mem_map.1 hx
    obtain ⟨i, hi, rfl⟩ := List.getElem_of_mem hk'
    exact findS_I64 V _ B w _ (hk i hi)
  have HV := hv
  obtain ⟨IA, ic, MA, mc, rfl, hI, hM, hm64, hil, hml⟩ := hv
  obtain ⟨kd, n, m, nm, vk, vn, vs, dv, cl, at_⟩ := hd
  have HJ0 := Lib.hid hRf
  generalize findS V (.mk (⟨kd, n, m, nm, vk, vn, vs, dv, cl, at_⟩ : Hd) ks) = R at *
  clear hRf
  unfold Hd.cells
  dsimp only
  go_enter Tryz.func46, Tryz.ntmps46
  go_upto_region 1 with fail
  have hD1 : DoneV w (((w.alloc (.cells #[.slice IA V.items.length ic, .string V.mode, .int .i64 V.minute, .slice MA V.members.length mc] 27)).alloc (.cells #[.int .i64 kd, .int .i64 n, .int .i64 m, .string nm, .int .i64 vk, .int .i64 vn, .string vs, .int .i64 dv, .string cl, .string at_, .slice A ks.length c] 41)).alloc (.cells #[.int .i64 0, .int .i64 0, .string { data := #[] }] 36)) #[.slice IA V.items.length ic, .string V.mode, .int .i64 V.minute, .slice MA V.members.length mc] #[.int .i64 kd, .int .i64 n, .int .i64 m, .string nm, .int .i64 vk, .int .i64 vn, .string vs, .int .i64 dv, .string cl, .string at_, .slice A ks.length c] :=
    ⟨(((Below.refl _ _).al _).al _).al _, ((Blk.new _ _ _).alloc _).alloc _, (Blk.at1 _ _ _ _).alloc _, Blk.at2 _ _ _ _ _, by simp⟩
  generalize (((w.alloc (.cells #[.slice IA V.items.length ic, .string V.mode, .int .i64 V.minute, .slice MA V.members.length mc] 27)).alloc (.cells #[.int .i64 kd, .int .i64 n, .int .i64 m, .string nm, .int .i64 vk, .int .i64 vn, .string vs, .int .i64 dv, .string cl, .string at_, .slice A ks.length c] 41)).alloc (.cells #[.int .i64 0, .int .i64 0, .string { data := #[] }] 36)) = WA at *
  go_wp2_with fail
  go_loopw [5, 6] (fun l i wr => ∃ (j : Nat) (v : Value), j ≤ ks.length ∧ i = .int .i64 j ∧ v = l ∧ wr.ownsRow (w.heap.size + 3) 36 3 v ((ks.take j).map (fun k => (findS V k).cells)).length ((ks.take j).map (fun k => (findS V k).cells)).flatten ∧ DoneV w wr #[.slice IA V.items.length ic, .string V.mode, .int .i64 V.minute, .slice MA V.members.length mc] #[.int .i64 kd, .int .i64 n, .int .i64 m, .string nm, .int .i64 vk, .int .i64 vn, .string vs, .int .i64 dv, .string cl, .string at_, .slice A ks.length c]) (fun _ i _ => ks.length - (intOf i).toNat)
  case atStart => exact ⟨0, .slice none 0 0, Nat.zero_le _, rfl, rfl, World.ownsRow_nil _ _ _ _, hD1⟩
  case round =>
    clear hD1
    obtain ⟨j, v, hjl, rfl, rfl, hown, hD⟩ := hrel
    have hbw := hD.low
    have hV := hD.vb
    have hE := hD.eb
    have hs := hD.size
    by_cases hlt : j < ks.length
    · obtain ⟨rfl, hbB⟩ := hA (by omega)
      have hrk := (hrow j hlt).below hbw (by omega)
      obtain ⟨hk', kk, Ak, ck, hek, hcs, hl'⟩ := (hk j hlt).form
      have hkk := (hk j hlt).carry (hbw.mono hB)
      have hvv := HV.carry (hbw.mono hB)
      have hsz' := hsz j
      rw [hcs] at hrk hkk hsz'
      have HI := Lib.hid (ih j hlt [.slice IA V.items.length ic, .string V.mode, .int .i64 V.minute, .slice MA V.members.length mc] (hk'.cells (.slice Ak kk.length ck)) B)
      have HOK := Lib.hid (hoks _ (List.getElem_mem hlt))
      have hT := Lib.hid (show (ks.take j).map (fun k => (findS V k).cells) ++ [[.int .i64 (findS V ks[j]).k, .int .i64 (findS V ks[j]).n, .string (findS V ks[j]).s]] = (ks.take (j + 1)).map (fun k => (findS V k).cells) by
        rw [List.take_succ_eq_append_getElem hlt, List.map_append]; rfl)
      clear ih hA hrow hk hcs hsz hek hP hoks hfin h64 HJ0 hI hM HV
      generalize findS V ks[j] = x at *
      obtain ⟨xk, xn, xss, xo⟩ := x
      simp only [EV.val] at HI
      dsimp only at hT
      unfold Hd.cells at hrk HI hkk
      have hbwr : b < wr.heap.size := by omega
      have hBwr : B ≤ wr.heap.size := by omega
      have cE := hE.cell
      go_upto_region 5 with fail
      clear cE
      refine wp_rely_tail 9 (by kernel_rfl) (by kernel_rfl) (by decide) (by kernel_rfl) ?_
      simp only [List.take_succ_cons, List.take_zero, List.drop_succ_cons, List.drop_zero]
      apply RelyL.val
      · intro ν w' hL hF K hK
        have cE := (hE.lat hL).cell
        have cV := (hV.lat hL).cell
        go_simp
        exact hK.out _ _ rfl (Lat.refl _)
      simp only [Act.put, List.setIfInBounds_toArray, List.set_cons_zero, List.set_cons_succ, Nat.reduceAdd]
      apply RelyL.val
      · intro ν w' hL hF K hK
        refine take_op rfl ?_
        refine wp_load_blk rfl rfl (hV.lat hL) Tryz.underlying27 rfl (by kernel_rfl : (Tryz.prog.info? 27).map (·.size) = some 4) rfl ?_
        exact hK.out _ _ rfl (Lat.refl _)
      simp only [Act.put, List.setIfInBounds_toArray, List.set_cons_zero, List.set_cons_succ, Nat.reduceAdd]
      apply RelyL.val
      · intro ν w' hL hF K hK
        have cE := (hE.lat hL).cell
        have cV := (hV.lat hL).cell
        go_simp
        exact hK.out _ _ rfl (Lat.refl _)
      simp only [Act.put, List.setIfInBounds_toArray, List.set_cons_zero, List.set_cons_succ, Nat.reduceAdd]
      apply RelyL.val
      · intro ν w' hL hF K hK
        have cE := (hE.lat hL).cell
        have cV := (hV.lat hL).cell
        go_simp
        exact hK.out _ _ rfl (Lat.refl _)
      simp only [Act.put, List.setIfInBounds_toArray, List.set_cons_zero, List.set_cons_succ, Nat.reduceAdd]
      apply RelyL.val
      · intro ν w' hL hF K hK
        have cE := (hE.lat hL).cell
        have cV := (hV.lat hL).cell
        go_simp
        exact hK.out _ _ rfl (Lat.refl _)
      simp only [Act.put, List.setIfInBounds_toArray, List.set_cons_zero, List.set_cons_succ, Nat.reduceAdd]
      apply RelyL.val
      · intro ν w' hL hF K hK
        have cE := (hE.lat hL).cell
        have cV := (hV.lat hL).cell
        go_simp
        exact hK.out _ _ rfl (Lat.refl _)
      simp only [Act.put, List.setIfInBounds_toArray, List.set_cons_zero, List.set_cons_succ, Nat.reduceAdd]
      apply RelyL.val
      · intro ν w' hL hF K hK
        refine take_op rfl ?_
        refine wp_load_at 41 _ rfl b (off + j * 11) rfl _ _ (hrk.below hL hbwr) Tryz.underlying41 rfl (by kernel_rfl : (Tryz.prog.info? 41).map (·.size) = some 11) ?_
        exact hK.out _ _ rfl (Lat.refl _)
      simp only [Act.put, List.setIfInBounds_toArray, List.set_cons_zero, List.set_cons_succ, Nat.reduceAdd]
      apply RelyL.val
      · intro ν w' hL hF K hK
        have HI1 := HI.out w' (Nat.le_trans hBwr hL.size) (hvv.carry (hL.mono hBwr)) (hkk.carry (hL.mono hBwr)) HOK.out
        go_simp
        go_at_call 46
        with_reducible refine HI1.mono ?_
        rintro r w'' ⟨rfl, hb⟩
        exact hK.out _ _ rfl hb
      simp only [Act.put, List.setIfInBounds_toArray, List.set_cons_zero, List.set_cons_succ, Nat.reduceAdd]
      refine RelyL.law (fun v w => ∃ g, v = .slice (some ⟨g, 0, none⟩) 1 1 ∧ Blk w g 36 #[.int .i64 xk, .int .i64 xn, .string xss]) (fun v w1 w2 hl h => by obtain ⟨g, h1, h2⟩ := h; exact ⟨g, h1, h2.lat hl⟩) (fun ν w' hL hF K hK => ?_) ?_
      · clear hF
        go_simp
        exact hK.out _ _ _ rfl ⟨_, rfl, Blk.new _ _ _⟩ (Lat.al _ _)
      simp only [Act.put, List.setIfInBounds_toArray, List.set_cons_zero, List.set_cons_succ, Nat.reduceAdd]
      refine RelyL.done fun ν w5 hL hF => ?_
      have h5 := hF.get 0 rfl
      dsimp only at h5
      generalize ν 8 = x5 at *
      obtain ⟨g5, rfl, hb5⟩ := h5
      clear hF
      have hD5 := hD.lat hL
      have own5 : w5.ownsRow (w.heap.size + 3) 36 3 v ((ks.take j).map (fun k => (findS V k).cells)).length ((ks.take j).map (fun k => (findS V k).cells)).flatten := own_later hown (fun k _ hk => hL.block k hk)
      have hs5 := hL.size
      have hIR : IsRows w5.heap.size w5 3 [[.int .i64 xk, .int .i64 xn, .string xss]] (some ⟨g5, 0, none⟩) := fun _ => ⟨g5, 0, rfl, hb5.lt, fun i hi => by
        match i, hi with
        | 0, _ => simpa using hb5.row⟩
      have hlen5 : ((ks.take j).map (fun k => (findS V k).cells)).length = j := by rw [List.length_map, List.length_take]; omega
      have hlr : ∀ k, v.ownBlock = some k → w.heap.size + 3 ≤ k ∧ k < w5.heap.size := own5.lt
      obtain ⟨i0, hi, hz0, hz1, hz2⟩ := info_parts infoValue
      clear hown hD hbw hV hE HI hkk hvv hL hrk HOK
      go_wp2_with (at_builtin; refine append_rows rfl _ _ 116 rfl (w.heap.size + 3) 36 i0 _ 3 32 Tryz.underlying116 hi hz0 hz1 hz2 rfl (by decide) v ((ks.take j).map (fun k => (findS V k).cells)) rfl own5 (some ⟨g5, 0, none⟩) 1 1 w5.heap.size [[.int .i64 xk, .int .i64 xn, .string xss]] rfl rfl (fun h => by cases h) hIR (by simp) (by simp [Value.oneCell']) (by rw [hlen5]; simp [maxLen]; omega) (by rw [hlen5]; simp; omega) (by omega) ?_; intro v6 w6 own6 hg6; go_must (rw [hT.out] at own6; have hD6 := hD5.grown hg6 (fun k hk => (hlr k hk).1); clear hD5 own5 hb5 hIR hg6 hlr))
      go_roundw
      case rel => exact ⟨j + 1, _, by omega, by go_num, rfl, own6, hD6⟩
      case measure => simp [intOf]; omega
    · have hj : j = ks.length := by omega
      subst hj
      rw [List.take_of_length_le (Nat.le_refl _)] at hown
      have hown2 : wr.ownsRow (w.heap.size + 3) 36 3 v ((ks.map (findS V)).map EV.cells).length ((ks.map (findS V)).map EV.cells).flatten := by
        rw [List.map_map]; exact hown
      obtain ⟨A', c', hv', hir⟩ := ownsRow_rows hown2 (fun r hr => by obtain ⟨x, _, rfl⟩ := List.mem_map.1 hr; rfl) rfl
      subst hv'
      have hxl : (ks.map (findS V)).length = ks.length := by rw [List.length_map]
      have hir0 := hir wr (Nat.le_refl _) (fun _ _ _ => rfl)
      clear hir hown hown2 ih hA hrow hk hsz hoks hs
      generalize ks.map (findS V) = xs at *
      rw [List.length_map]
      have HXL := Lib.hid hxl
      clear hxl
      have cV := hD.vb.cell
      have cE := hD.eb.cell
      have cR := hD.rb.cell
      have fR := hD.rb.free
      have lR := hD.rb.lt
      have hlow := hD.low
      have hbw := hD.low
      have hK := kinds15 hP
      have hko := kidsOf' hP
      dsimp only at hK hko
      rcases hK with rfl | rfl | rfl | rfl | rfl | rfl | rfl | rfl | rfl | rfl | rfl | rfl | rfl | rfl | rfl
      · -- a literal
        have hR : R = ⟨vk, vn, vs, true⟩ := by rw [HJ0.out]; simp [nodeE]
        have HJ := Lib.hid hR
        clear hR HJ0
        go_wp2_with fail
        refine bodyPost_ret (v := ?_) ?_ rfl ?_
        rotate_left
        · simp [results, Tryz.results46, go_sem, cR]; exact rfl
        refine ⟨by rw [HJ.out], ?_⟩
        (repeat (first | exact Below.refl _ _ | assumption | refine Below.al ?_ _ | refine Below.st ?_ (by simp; try omega) _ | refine Below.th ?_ (by assumption)))
      · -- an attribute
        have hR : R = attrE V.items dv cl at_ := by rw [HJ0.out]; simp [nodeE]
        have HQ := Lib.hid (rattr_any V [.slice IA V.items.length ic, .string V.mode, .int .i64 V.minute, .slice MA V.members.length mc] dv cl at_ B wr (by have := hbw.size; omega) (HV.carry (hbw.mono hB)))
        generalize attrE V.items dv cl at_ = Q at *
        obtain ⟨rk, rn, rs, ro⟩ := Q
        have HJ := Lib.hid hR
        clear hR HJ0
        simp only [EV.val] at HQ
        go_wp2_with fail
        refine HQ.out.mono ?_
        clear HQ
        rintro r w2 ⟨rfl, hb2⟩
        replace hD := hD.lat hb2
        clear hb2 cV cE cR fR lR hlow
        have cV := hD.vb.cell
        have cE := hD.eb.cell
        have cR := hD.rb.cell
        have fR := hD.rb.free
        have lR := hD.rb.lt
        have hlow := hD.low
        simp only [EV.val] at *
        go_wp2_with fail
        refine bodyPost_ret (v := ?_) ?_ rfl ?_
        rotate_left
        · simp [results, Tryz.results46, go_sem, cR]; exact rfl
        refine ⟨by rw [HJ.out], ?_⟩
        (repeat (first | exact Below.refl _ _ | assumption | refine Below.al ?_ _ | refine Below.st ?_ (by simp; try omega) _ | refine Below.th ?_ (by assumption)))
      · -- the mode
        rcases Bool.eq_false_or_eq_true (V.mode.toList == nm.toList) with q | q
        · have hm : decide (V.mode = nm) = true := (toList_beq _ _).symm.trans q
          have hR : R = truthE true := by rw [HJ0.out, ← hm]; simp [nodeE]
          have HJ := Lib.hid hR
          clear hR HJ0 hm
          go_wp2_with fail
          refine (rtruth_any true _).mono ?_
          rintro r w2 ⟨rfl, hb2⟩
          replace hD := hD.lat hb2
          clear hb2 cV cE cR fR lR hlow
          have cV := hD.vb.cell
          have cE := hD.eb.cell
          have cR := hD.rb.cell
          have fR := hD.rb.free
          have lR := hD.rb.lt
          have hlow := hD.low
          simp only [EV.val] at *
          go_wp2_with fail
          refine bodyPost_ret (v := ?_) ?_ rfl ?_
          rotate_left
          · simp [results, Tryz.results46, go_sem, cR]; exact rfl
          refine ⟨by rw [HJ.out]; rfl, ?_⟩
          (repeat (first | exact Below.refl _ _ | assumption | refine Below.al ?_ _ | refine Below.st ?_ (by simp; try omega) _ | refine Below.th ?_ (by assumption)))
        · have hm : decide (V.mode = nm) = false := (toList_beq _ _).symm.trans q
          have hR : R = truthE false := by rw [HJ0.out, ← hm]; simp [nodeE]
          have HJ := Lib.hid hR
          clear hR HJ0 hm
          go_wp2_with fail
          refine (rtruth_any false _).mono ?_
          rintro r w2 ⟨rfl, hb2⟩
          replace hD := hD.lat hb2
          clear hb2 cV cE cR fR lR hlow
          have cV := hD.vb.cell
          have cE := hD.eb.cell
          have cR := hD.rb.cell
          have fR := hD.rb.free
          have lR := hD.rb.lt
          have hlow := hD.low
          simp only [EV.val] at *
          go_wp2_with fail
          refine bodyPost_ret (v := ?_) ?_ rfl ?_
          rotate_left
          · simp [results, Tryz.results46, go_sem, cR]; exact rfl
          refine ⟨by rw [HJ.out]; rfl, ?_⟩
          (repeat (first | exact Below.refl _ _ | assumption | refine Below.al ?_ _ | refine Below.st ?_ (by simp; try omega) _ | refine Below.th ?_ (by assumption)))
      · -- the time
        by_cases hm : V.minute < 0
        · have q : decide (V.minute < 0) = true := by simpa using hm
          have hR : R = unknownE := by rw [HJ0.out]; simp [nodeE, hm]
          have HJ := Lib.hid hR
          clear hR HJ0
          go_wp2_with fail
          refine bodyPost_ret (v := ?_) ?_ rfl ?_
          rotate_left
          · simp [results, Tryz.results46, go_sem, cR]; exact rfl
          refine ⟨by rw [HJ.out]; rfl, ?_⟩
          (repeat (first | exact Below.refl _ _ | assumption | refine Below.al ?_ _ | refine Below.st ?_ (by simp; try omega) _ | refine Below.th ?_ (by assumption)))
        · have q : decide (V.minute < 0) = false := by simpa using hm
          have hR : R = truthE (decide (duringP (ofDayI V.minute) n m)) := by rw [HJ0.out]; simp [nodeE, hm]
          have HW := fun w => Lib.hid (rwithin_any (ofDayI V.minute) n m w)
          generalize decide (duringP (ofDayI V.minute) n m) = D at *
          generalize hOD : ofDayI V.minute = OD at *
          have HO := fun w => Lib.hid (rofDay_any V.minute w)
          rw [hOD] at HO
          have HTr := fun w => Lib.hid (rtruth_any D w)
          have HJ := Lib.hid hR
          clear hR HJ0 hOD
          go_upto_region 18 with fail
          clear cV cE cR fR lR hlow
          have hV := hD.vb
          have hE := hD.eb
          refine wp_rely_tail 9 (by kernel_rfl) (by kernel_rfl) (by decide) (by kernel_rfl) ?_
          simp only [List.take_succ_cons, List.take_zero, List.drop_succ_cons, List.drop_zero]
          apply RelyL.val
          · intro ν w' hL hF K hK
            have cE := (hE.lat hL).cell
            have cV := (hV.lat hL).cell
            go_simp
            exact hK.out _ _ rfl (Lat.refl _)
          simp only [Act.put, List.setIfInBounds_toArray, List.set_cons_zero, List.set_cons_succ, Nat.reduceAdd]
          apply RelyL.val
          · intro ν w' hL hF K hK
            have cE := (hE.lat hL).cell
            have cV := (hV.lat hL).cell
            go_simp
            exact hK.out _ _ rfl (Lat.refl _)
          simp only [Act.put, List.setIfInBounds_toArray, List.set_cons_zero, List.set_cons_succ, Nat.reduceAdd]
          apply RelyL.val
          · intro ν w' hL hF K hK
            go_simp
            go_at_call 73
            refine (HO w').out.mono ?_
            rintro r w'' ⟨rfl, rfl⟩
            exact hK.out _ _ rfl (Lat.refl _)
          simp only [Act.put, List.setIfInBounds_toArray, List.set_cons_zero, List.set_cons_succ, Nat.reduceAdd]
          apply RelyL.val
          · intro ν w' hL hF K hK
            have cE := (hE.lat hL).cell
            have cV := (hV.lat hL).cell
            go_simp
            exact hK.out _ _ rfl (Lat.refl _)
          simp only [Act.put, List.setIfInBounds_toArray, List.set_cons_zero, List.set_cons_succ, Nat.reduceAdd]
          apply RelyL.val
          · intro ν w' hL hF K hK
            have cE := (hE.lat hL).cell
            have cV := (hV.lat hL).cell
            go_simp
            exact hK.out _ _ rfl (Lat.refl _)
          simp only [Act.put, List.setIfInBounds_toArray, List.set_cons_zero, List.set_cons_succ, Nat.reduceAdd]
          apply RelyL.val
          · intro ν w' hL hF K hK
            have cE := (hE.lat hL).cell
            have cV := (hV.lat hL).cell
            go_simp
            exact hK.out _ _ rfl (Lat.refl _)
          simp only [Act.put, List.setIfInBounds_toArray, List.set_cons_zero, List.set_cons_succ, Nat.reduceAdd]
          apply RelyL.val
          · intro ν w' hL hF K hK
            have cE := (hE.lat hL).cell
            have cV := (hV.lat hL).cell
            go_simp
            exact hK.out _ _ rfl (Lat.refl _)
          simp only [Act.put, List.setIfInBounds_toArray, List.set_cons_zero, List.set_cons_succ, Nat.reduceAdd]
          apply RelyL.val
          · intro ν w' hL hF K hK
            go_simp
            go_at_call 72
            refine (HW w').out.mono ?_
            rintro r w'' ⟨rfl, rfl⟩
            exact hK.out _ _ rfl (Lat.refl _)
          simp only [Act.put, List.setIfInBounds_toArray, List.set_cons_zero, List.set_cons_succ, Nat.reduceAdd]
          apply RelyL.val
          · intro ν w' hL hF K hK
            go_simp
            go_at_call 36
            refine (HTr w').out.mono ?_
            rintro r w'' ⟨rfl, hb⟩
            exact hK.out _ _ rfl hb
          simp only [Act.put, List.setIfInBounds_toArray, List.set_cons_zero, List.set_cons_succ, Nat.reduceAdd]
          refine RelyL.done fun ν w5 hL hF => ?_
          clear hF
          replace hD := hD.lat hL
          clear hV hE hL
          have cV := hD.vb.cell
          have cE := hD.eb.cell
          have cR := hD.rb.cell
          have fR := hD.rb.free
          have lR := hD.rb.lt
          have hlow := hD.low
          go_wp2_with fail
          refine bodyPost_ret (v := ?_) ?_ rfl ?_
          rotate_left
          · simp [results, Tryz.results46, go_sem, cR]; exact rfl
          refine ⟨by rw [HJ.out]; rfl, ?_⟩
          (repeat (first | exact Below.refl _ _ | assumption | refine Below.al ?_ _ | refine Below.st ?_ (by simp; try omega) _ | refine Below.th ?_ (by assumption)))
      · -- the day
        by_cases hm : V.minute < 0
        · have q : decide (V.minute < 0) = true := by simpa using hm
          have hR : R = unknownE := by rw [HJ0.out]; simp [nodeE, hm]
          have HJ := Lib.hid hR
          clear hR HJ0
          go_wp2_with fail
          refine bodyPost_ret (v := ?_) ?_ rfl ?_
          rotate_left
          · simp [results, Tryz.results46, go_sem, cR]; exact rfl
          refine ⟨by rw [HJ.out]; rfl, ?_⟩
          (repeat (first | exact Below.refl _ _ | assumption | refine Below.al ?_ _ | refine Below.st ?_ (by simp; try omega) _ | refine Below.th ?_ (by assumption)))
        · have q : decide (V.minute < 0) = false := by simpa using hm
          have hR : R = truthE (dayB n V.minute) := by rw [HJ0.out]; simp [nodeE, hm]
          have hwd : 0 ≤ weekdayI V.minute ∧ weekdayI V.minute < 7 := by unfold weekdayI minI; omega
          obtain ⟨hn1, hn2⟩ := node_day hP rfl
          simp only at hn1 hn2
          have hdv : 0 ≤ n / 2 ^ (weekdayI V.minute).toNat ∧ n / 2 ^ (weekdayI V.minute).toNat ≤ 127 := by
            have hp : (1 : Int) ≤ 2 ^ (weekdayI V.minute).toNat := by
              have := Nat.one_le_two_pow (n := (weekdayI V.minute).toNat)
              exact_mod_cast this
            refine ⟨Int.ediv_nonneg (by omega) (by omega), ?_⟩
            exact Int.le_trans (Int.ediv_le_self _ (by omega)) (by omega)
          have hday : dayB n V.minute = (n / 2 ^ (weekdayI V.minute).toNat % 2 == 1) := by
            unfold dayB; exact and_one _ hdv.1 hdv.2
          rw [hday] at hR
          have HO := fun w => Lib.hid (rweekday_any V.minute w)
          generalize weekdayI V.minute = WD at *
          have HJ := Lib.hid hR
          clear hR HJ0 hday
          go_upto_region 19 with fail
          clear cV cE cR fR lR hlow
          have hV := hD.vb
          have hE := hD.eb
          refine wp_rely_tail 9 (by kernel_rfl) (by kernel_rfl) (by decide) (by kernel_rfl) ?_
          simp only [List.take_succ_cons, List.take_zero, List.drop_succ_cons, List.drop_zero]
          apply RelyL.val
          · intro ν w' hL hF K hK
            have cE := (hE.lat hL).cell
            have cV := (hV.lat hL).cell
            go_simp
            exact hK.out _ _ rfl (Lat.refl _)
          simp only [Act.put, List.setIfInBounds_toArray, List.set_cons_zero, List.set_cons_succ, Nat.reduceAdd]
          apply RelyL.val
          · intro ν w' hL hF K hK
            have cE := (hE.lat hL).cell
            have cV := (hV.lat hL).cell
            go_simp
            exact hK.out _ _ rfl (Lat.refl _)
          simp only [Act.put, List.setIfInBounds_toArray, List.set_cons_zero, List.set_cons_succ, Nat.reduceAdd]
          apply RelyL.val
          · intro ν w' hL hF K hK
            have cE := (hE.lat hL).cell
            have cV := (hV.lat hL).cell
            go_simp
            exact hK.out _ _ rfl (Lat.refl _)
          simp only [Act.put, List.setIfInBounds_toArray, List.set_cons_zero, List.set_cons_succ, Nat.reduceAdd]
          apply RelyL.val
          · intro ν w' hL hF K hK
            have cE := (hE.lat hL).cell
            have cV := (hV.lat hL).cell
            go_simp
            exact hK.out _ _ rfl (Lat.refl _)
          simp only [Act.put, List.setIfInBounds_toArray, List.set_cons_zero, List.set_cons_succ, Nat.reduceAdd]
          apply RelyL.val
          · intro ν w' hL hF K hK
            go_simp
            go_at_call 74
            refine (HO w').out.mono ?_
            rintro r w'' ⟨rfl, rfl⟩
            exact hK.out _ _ rfl (Lat.refl _)
          simp only [Act.put, List.setIfInBounds_toArray, List.set_cons_zero, List.set_cons_succ, Nat.reduceAdd]
          apply RelyL.val
          · intro ν w' hL hF K hK
            have cE := (hE.lat hL).cell
            have cV := (hV.lat hL).cell
            go_simp
            exact hK.out _ _ rfl (Lat.refl _)
          simp only [Act.put, List.setIfInBounds_toArray, List.set_cons_zero, List.set_cons_succ, Nat.reduceAdd]
          apply RelyL.val
          · intro ν w' hL hF K hK
            have cE := (hE.lat hL).cell
            have cV := (hV.lat hL).cell
            go_simp
            exact hK.out _ _ rfl (Lat.refl _)
          simp only [Act.put, List.setIfInBounds_toArray, List.set_cons_zero, List.set_cons_succ, Nat.reduceAdd]
          apply RelyL.val
          · intro ν w' hL hF K hK
            have cE := (hE.lat hL).cell
            have cV := (hV.lat hL).cell
            go_simp
            exact hK.out _ _ rfl (Lat.refl _)
          simp only [Act.put, List.setIfInBounds_toArray, List.set_cons_zero, List.set_cons_succ, Nat.reduceAdd]
          apply RelyL.val
          · intro ν w' hL hF K hK
            go_simp
            go_at_call 36
            refine ((fun w => Lib.hid (rtruth_any _ w)) w').out.mono ?_
            rintro r w'' ⟨rfl, hb⟩
            exact hK.out _ _ rfl hb
          simp only [Act.put, List.setIfInBounds_toArray, List.set_cons_zero, List.set_cons_succ, Nat.reduceAdd]
          refine RelyL.done fun ν w5 hL hF => ?_
          clear hF
          replace hD := hD.lat hL
          clear hV hE hL
          have cV := hD.vb.cell
          have cE := hD.eb.cell
          have cR := hD.rb.cell
          have fR := hD.rb.free
          have lR := hD.rb.lt
          have hlow := hD.low
          go_wp2_with fail
          refine bodyPost_ret (v := ?_) ?_ rfl ?_
          rotate_left
          · simp [results, Tryz.results46, go_sem, cR]; exact rfl
          refine ⟨by rw [HJ.out]; rfl, ?_⟩
          (repeat (first | exact Below.refl _ _ | assumption | refine Below.al ?_ _ | refine Below.st ?_ (by simp; try omega) _ | refine Below.th ?_ (by assumption)))
      · -- somebody at home
        have hR : R = truthE (homeB V.members n) := by rw [HJ0.out]; simp [nodeE]
        have HQ := Lib.hid (rhome_any V [.slice IA V.items.length ic, .string V.mode, .int .i64 V.minute, .slice MA V.members.length mc] n B wr (by have := hbw.size; omega) (HV.carry (hbw.mono hB)))
        generalize homeB V.members n = D at *
        have HJ := Lib.hid hR
        clear hR HJ0
        go_wp2_with fail
        refine HQ.out.mono ?_
        clear HQ
        rintro r w2 ⟨rfl, hb2⟩
        replace hD := hD.lat hb2
        clear hb2 cV cE cR fR lR hlow
        have cV := hD.vb.cell
        have cE := hD.eb.cell
        have cR := hD.rb.cell
        have fR := hD.rb.free
        have lR := hD.rb.lt
        have hlow := hD.low
        go_wp2_with fail
        refine (rtruth_any D _).mono ?_
        rintro r w2 ⟨rfl, hb2⟩
        replace hD := hD.lat hb2
        clear hb2 cV cE cR fR lR hlow
        have cV := hD.vb.cell
        have cE := hD.eb.cell
        have cR := hD.rb.cell
        have fR := hD.rb.free
        have lR := hD.rb.lt
        have hlow := hD.low
        simp only [EV.val] at *
        go_wp2_with fail
        refine bodyPost_ret (v := ?_) ?_ rfl ?_
        rotate_left
        · simp [results, Tryz.results46, go_sem, cR]; exact rfl
        refine ⟨by rw [HJ.out]; rfl, ?_⟩
        (repeat (first | exact Below.refl _ _ | assumption | refine Below.al ?_ _ | refine Below.st ?_ (by simp; try omega) _ | refine Below.th ?_ (by assumption)))
      · -- not
        obtain ⟨x0, rfl⟩ := ev1 (xs := xs) (by have hxl := HXL.out; rcases hko with h | h | h | h | h <;> omega)
        obtain ⟨f0a, f0b, f0c⟩ := hfin x0 (by simp)
        obtain ⟨b', off', rfl, hbl, hrow'⟩ := hir0 (by simp)
        obtain ⟨k0, n0, s0, o0⟩ := x0
        have r0 := hrow' 0 (by simp)
        simp only [List.map_cons, List.map_nil, List.getElem_cons_zero, EV.cells, Nat.zero_mul, Nat.add_zero] at r0
        have r00 := r0 0 _ rfl
        have r01 := r0 1 _ rfl
        simp only [Nat.add_zero] at r00
        clear hrow' hir0 r0 hfin h64
        simp only at f0a f0b f0c
        simp only [List.length_cons, List.length_nil, Nat.reduceAdd] at *
        by_cases hk1 : k0 = 1
        · subst hk1
          have hR : R = truthE (decide (n0 = 0)) := by rw [HJ0.out]; simp [nodeE, f0a]
          have q1 : (n0 == 0) = decide (n0 = 0) := by rw [Bool.eq_iff_iff]; simp
          have HJ := Lib.hid hR
          clear hR HJ0
          go_wp2_with fail
          refine (rtruth_any _ _).mono ?_
          rintro r w2 ⟨rfl, hb2⟩
          replace hD := hD.lat hb2
          clear hb2 cV cE cR fR lR hlow
          have cV := hD.vb.cell
          have cE := hD.eb.cell
          have cR := hD.rb.cell
          have fR := hD.rb.free
          have lR := hD.rb.lt
          have hlow := hD.low
          simp only [EV.val] at *
          go_wp2_with fail
          refine bodyPost_ret (v := ?_) ?_ rfl ?_
          rotate_left
          · simp [results, Tryz.results46, go_sem, cR]; exact rfl
          refine ⟨by rw [HJ.out, ← q1]; rfl, ?_⟩
          (repeat (first | exact Below.refl _ _ | assumption | refine Below.al ?_ _ | refine Below.st ?_ (by simp; try omega) _ | refine Below.th ?_ (by assumption)))
        · obtain ⟨q1, q2, q3⟩ := ine hk1
          have hR : R = unknownE := by rw [HJ0.out]; simp [nodeE, hk1]
          have HJ := Lib.hid hR
          clear hR HJ0
          go_wp2_with fail
          refine bodyPost_ret (v := ?_) ?_ rfl ?_
          rotate_left
          · simp [results, Tryz.results46, go_sem, cR]; exact rfl
          refine ⟨by rw [HJ.out]; rfl, ?_⟩
          (repeat (first | exact Below.refl _ _ | assumption | refine Below.al ?_ _ | refine Below.st ?_ (by simp; try omega) _ | refine Below.th ?_ (by assumption)))
      · -- and
        have hR : R = junE 0 xs false := by rw [HJ0.out]; simp [nodeE]
        have HQ := Lib.hid (rchain0_any xs A' c' wr.heap.size wr (Nat.le_refl _) hir0 (by have hxl := HXL.out; omega) hfin)
        generalize junE 0 xs false = Q at *
        obtain ⟨rk, rn, rs, ro⟩ := Q
        have HJ := Lib.hid hR
        clear hR HJ0
        simp only [EV.val] at HQ
        go_wp2_with fail
        refine HQ.out.mono ?_
        clear HQ
        rintro r w2 ⟨rfl, hb2⟩
        replace hD := hD.lat hb2
        clear hb2 cV cE cR fR lR hlow
        have cV := hD.vb.cell
        have cE := hD.eb.cell
        have cR := hD.rb.cell
        have fR := hD.rb.free
        have lR := hD.rb.lt
        have hlow := hD.low
        simp only [EV.val] at *
        go_wp2_with fail
        refine bodyPost_ret (v := ?_) ?_ rfl ?_
        rotate_left
        · simp [results, Tryz.results46, go_sem, cR]; exact rfl
        refine ⟨by rw [HJ.out], ?_⟩
        (repeat (first | exact Below.refl _ _ | assumption | refine Below.al ?_ _ | refine Below.st ?_ (by simp; try omega) _ | refine Below.th ?_ (by assumption)))
      · -- or
        have hR : R = junE 1 xs false := by rw [HJ0.out]; simp [nodeE]
        have HQ := Lib.hid (rchain1_any xs A' c' wr.heap.size wr (Nat.le_refl _) hir0 (by have hxl := HXL.out; omega) hfin)
        generalize junE 1 xs false = Q at *
        obtain ⟨rk, rn, rs, ro⟩ := Q
        have HJ := Lib.hid hR
        clear hR HJ0
        simp only [EV.val] at HQ
        go_wp2_with fail
        refine HQ.out.mono ?_
        clear HQ
        rintro r w2 ⟨rfl, hb2⟩
        replace hD := hD.lat hb2
        clear hb2 cV cE cR fR lR hlow
        have cV := hD.vb.cell
        have cE := hD.eb.cell
        have cR := hD.rb.cell
        have fR := hD.rb.free
        have lR := hD.rb.lt
        have hlow := hD.low
        simp only [EV.val] at *
        go_wp2_with fail
        refine bodyPost_ret (v := ?_) ?_ rfl ?_
        rotate_left
        · simp [results, Tryz.results46, go_sem, cR]; exact rfl
        refine ⟨by rw [HJ.out], ?_⟩
        (repeat (first | exact Below.refl _ _ | assumption | refine Below.al ?_ _ | refine Below.st ?_ (by simp; try omega) _ | refine Below.th ?_ (by assumption)))
      · -- if
        obtain ⟨x0, x1, x2, rfl⟩ := ev3 (xs := xs) (by have hxl := HXL.out; rcases hko with h | h | h | h | h <;> omega)
        obtain ⟨f0a, f0b, f0c⟩ := hfin x0 (by simp)
        obtain ⟨b', off', rfl, hbl, hrow'⟩ := hir0 (by simp)
        obtain ⟨k0, n0, s0, o0⟩ := x0
        obtain ⟨k1, n1, s1, o1⟩ := x1
        obtain ⟨k2, n2, s2, o2⟩ := x2
        have r0 := hrow' 0 (by simp)
        have r1 := hrow' 1 (by simp)
        have r2 := hrow' 2 (by simp)
        simp only [List.map_cons, List.map_nil, List.getElem_cons_zero, List.getElem_cons_succ, EV.cells, Nat.zero_mul, Nat.one_mul, Nat.add_zero, Nat.reduceMul] at r0 r1 r2
        have r00 := r0 0 _ rfl
        have r01 := r0 1 _ rfl
        simp only [Nat.add_zero] at r00
        clear hrow' hir0 r0 hfin h64
        simp only at f0a f0b f0c
        simp only [List.length_cons, List.length_nil, Nat.reduceAdd] at *
        by_cases hk1 : k0 = 1
        · subst hk1
          rcases (f0c rfl).1 with rfl | rfl
          · have hR : R = ⟨k2, n2, s2, o2⟩ := by rw [HJ0.out]; simp [nodeE, f0a]
            have HJ := Lib.hid hR
            clear hR HJ0 r1
            go_wp2_with (with_reducible refine wpList_load_at rfl 36 _ rfl b' (off' + 6) rfl _ _ r2 Tryz.underlying36 rfl (by kernel_rfl) ?_)
            refine bodyPost_ret (v := ?_) ?_ rfl ?_
            rotate_left
            · simp [results, Tryz.results46, go_sem, cR]; exact rfl
            refine ⟨by rw [HJ.out], ?_⟩
            (repeat (first | exact Below.refl _ _ | assumption | refine Below.al ?_ _ | refine Below.st ?_ (by simp; try omega) _ | refine Below.th ?_ (by assumption)))
          · have hR : R = ⟨k1, n1, s1, o1⟩ := by rw [HJ0.out]; simp [nodeE, f0a]
            have HJ := Lib.hid hR
            clear hR HJ0 r2
            go_wp2_with (with_reducible refine wpList_load_at rfl 36 _ rfl b' (off' + 3) rfl _ _ r1 Tryz.underlying36 rfl (by kernel_rfl) ?_)
            refine bodyPost_ret (v := ?_) ?_ rfl ?_
            rotate_left
            · simp [results, Tryz.results46, go_sem, cR]; exact rfl
            refine ⟨by rw [HJ.out], ?_⟩
            (repeat (first | exact Below.refl _ _ | assumption | refine Below.al ?_ _ | refine Below.st ?_ (by simp; try omega) _ | refine Below.th ?_ (by assumption)))
        · obtain ⟨q1, q2, q3⟩ := ine hk1
          have hR : R = unknownE := by rw [HJ0.out]; simp [nodeE, hk1]
          have HJ := Lib.hid hR
          clear hR HJ0
          go_wp2_with fail
          refine bodyPost_ret (v := ?_) ?_ rfl ?_
          rotate_left
          · simp [results, Tryz.results46, go_sem, cR]; exact rfl
          refine ⟨by rw [HJ.out]; rfl, ?_⟩
          (repeat (first | exact Below.refl _ _ | assumption | refine Below.al ?_ _ | refine Below.st ?_ (by simp; try omega) _ | refine Below.th ?_ (by assumption)))
      · -- equal
        obtain ⟨x0, x1, rfl⟩ := ev2 (xs := xs) (by have hxl := HXL.out; rcases hko with h | h | h | h | h <;> omega)
        obtain ⟨f0a, f0b, f0c⟩ := hfin x0 (by simp)
        obtain ⟨f1a, f1b, f1c⟩ := hfin x1 (by simp)
        have g0 := h64 x0 (by simp)
        have g1 := h64 x1 (by simp)
        obtain ⟨b', off', rfl, hbl, hrow'⟩ := hir0 (by simp)
        obtain ⟨k0, n0, s0, o0⟩ := x0
        obtain ⟨k1, n1, s1, o1⟩ := x1
        have r0 := hrow' 0 (by simp)
        have r1 := hrow' 1 (by simp)
        simp only [List.map_cons, List.map_nil, List.getElem_cons_zero, List.getElem_cons_succ, EV.cells, Nat.zero_mul, Nat.one_mul, Nat.add_zero, Nat.reduceMul] at r0 r1
        have r00 := r0 0 _ rfl
        have r10 := r1 0 _ rfl
        simp only [Nat.add_zero] at r00 r10
        clear hrow' hir0 hfin h64
        simp only at f0a f0b f0c f1a f1b f1c g0 g1
        simp only [List.length_cons, List.length_nil, Nat.reduceAdd] at *
        by_cases hk0 : k0 = 0
        · subst hk0
          have hR : R = unknownE := by rw [HJ0.out]; simp [nodeE, f0a]
          have HJ := Lib.hid hR
          clear hR HJ0 r0 r1
          go_wp2_with fail
          refine bodyPost_ret (v := ?_) ?_ rfl ?_
          rotate_left
          · simp [results, Tryz.results46, go_sem, cR]; exact rfl
          refine ⟨by rw [HJ.out]; rfl, ?_⟩
          (repeat (first | exact Below.refl _ _ | assumption | refine Below.al ?_ _ | refine Below.st ?_ (by simp; try omega) _ | refine Below.th ?_ (by assumption)))
        · obtain ⟨q1, q2, q3⟩ := ine hk0
          by_cases hk1 : k1 = 0
          · subst hk1
            have hR : R = unknownE := by rw [HJ0.out]; simp [nodeE, f1a]
            have HJ := Lib.hid hR
            clear hR HJ0 r0 r1
            go_wp2_with fail
            refine bodyPost_ret (v := ?_) ?_ rfl ?_
            rotate_left
            · simp [results, Tryz.results46, go_sem, cR]; exact rfl
            refine ⟨by rw [HJ.out]; rfl, ?_⟩
            (repeat (first | exact Below.refl _ _ | assumption | refine Below.al ?_ _ | refine Below.st ?_ (by simp; try omega) _ | refine Below.th ?_ (by assumption)))
          · obtain ⟨q4, q5, q6⟩ := ine hk1
            have hR : R = truthE (decide (k0 = k1 ∧ n0 = n1 ∧ s0 = s1)) := by rw [HJ0.out]; simp [nodeE, opE, f0a, f1a, hk0, hk1]
            clear HJ0
            have hbl' : b' < wr.heap.size := hbl
            by_cases e1 : k0 = k1
            · by_cases e2 : n0 = n1
              · by_cases e3 : s0 = s1
                · have hE : decide (k0 = k1 ∧ n0 = n1 ∧ s0 = s1) = true := by simp [e1, e2, e3]
                  rw [hE] at hR
                  have HJ := Lib.hid hR
                  clear hR hE
                  subst e1 e2 e3
                  go_upto_region 33 with fail
                  clear cV cE cR fR lR hlow
                  have hV := hD.vb
                  have hE := hD.eb
                  refine wp_rely_tail 8 (by kernel_rfl) (by kernel_rfl) (by decide) (by kernel_rfl) ?_
                  simp only [List.take_succ_cons, List.take_zero, List.drop_succ_cons, List.drop_zero]
                  apply RelyL.val
                  · intro ν w' hL hF K hK
                    have cE := (hE.lat hL).cell
                    have cV := (hV.lat hL).cell
                    go_simp
                    exact hK.out _ _ rfl (Lat.refl _)
                  simp only [Act.put, List.setIfInBounds_toArray, List.set_cons_zero, List.set_cons_succ, Nat.reduceAdd]
                  apply RelyL.val
                  · intro ν w' hL hF K hK
                    have cE := (hE.lat hL).cell
                    have cV := (hV.lat hL).cell
                    go_simp
                    exact hK.out _ _ rfl (Lat.refl _)
                  simp only [Act.put, List.setIfInBounds_toArray, List.set_cons_zero, List.set_cons_succ, Nat.reduceAdd]
                  apply RelyL.val
                  · intro ν w' hL hF K hK
                    refine take_op rfl ?_
                    refine wp_load_at 36 _ rfl b' (off') rfl _ _ (r0.below hL hbl') Tryz.underlying36 rfl (by kernel_rfl) ?_
                    exact hK.out _ _ rfl (Lat.refl _)
                  simp only [Act.put, List.setIfInBounds_toArray, List.set_cons_zero, List.set_cons_succ, Nat.reduceAdd]
                  apply RelyL.val
                  · intro ν w' hL hF K hK
                    have cE := (hE.lat hL).cell
                    have cV := (hV.lat hL).cell
                    go_simp
                    exact hK.out _ _ rfl (Lat.refl _)
                  simp only [Act.put, List.setIfInBounds_toArray, List.set_cons_zero, List.set_cons_succ, Nat.reduceAdd]
                  apply RelyL.val
                  · intro ν w' hL hF K hK
                    have cE := (hE.lat hL).cell
                    have cV := (hV.lat hL).cell
                    go_simp
                    exact hK.out _ _ rfl (Lat.refl _)
                  simp only [Act.put, List.setIfInBounds_toArray, List.set_cons_zero, List.set_cons_succ, Nat.reduceAdd]
                  apply RelyL.val
                  · intro ν w' hL hF K hK
                    refine take_op rfl ?_
                    refine wp_load_at 36 _ rfl b' (off' + 3) rfl _ _ (r1.below hL hbl') Tryz.underlying36 rfl (by kernel_rfl) ?_
                    exact hK.out _ _ rfl (Lat.refl _)
                  simp only [Act.put, List.setIfInBounds_toArray, List.set_cons_zero, List.set_cons_succ, Nat.reduceAdd]
                  apply RelyL.val
                  · intro ν w' hL hF K hK
                    have cE := (hE.lat hL).cell
                    have cV := (hV.lat hL).cell
                    go_simp
                    exact hK.out _ _ rfl (Lat.refl _)
                  simp only [Act.put, List.setIfInBounds_toArray, List.set_cons_zero, List.set_cons_succ, Nat.reduceAdd]
                  apply RelyL.val
                  · intro ν w' hL hF K hK
                    go_simp
                    go_at_call 36
                    refine ((fun w => Lib.hid (rtruth_any true w)) w').out.mono ?_
                    rintro r w'' ⟨rfl, hb⟩
                    exact hK.out _ _ rfl hb
                  simp only [Act.put, List.setIfInBounds_toArray, List.set_cons_zero, List.set_cons_succ, Nat.reduceAdd]
                  refine RelyL.done fun ν w5 hL hF => ?_
                  clear hF
                  replace hD := hD.lat hL
                  clear hV hE hL
                  have cV := hD.vb.cell
                  have cE := hD.eb.cell
                  have cR := hD.rb.cell
                  have fR := hD.rb.free
                  have lR := hD.rb.lt
                  have hlow := hD.low
                  go_wp2_with fail
                  refine bodyPost_ret (v := ?_) ?_ rfl ?_
                  rotate_left
                  · simp [results, Tryz.results46, go_sem, cR]; exact rfl
                  refine ⟨by rw [HJ.out]; rfl, ?_⟩
                  (repeat (first | exact Below.refl _ _ | assumption | refine Below.al ?_ _ | refine Below.st ?_ (by simp; try omega) _ | refine Below.th ?_ (by assumption)))
                · have hE : decide (k0 = k1 ∧ n0 = n1 ∧ s0 = s1) = false := by simp [e3]
                  rw [hE] at hR
                  have HJ := Lib.hid hR
                  clear hR hE
                  subst e1 e2
                  obtain ⟨g1, g2, g3⟩ := sne e3
                  go_upto_region 33 with fail
                  clear cV cE cR fR lR hlow
                  have hV := hD.vb
                  have hE := hD.eb
                  refine wp_rely_tail 8 (by kernel_rfl) (by kernel_rfl) (by decide) (by kernel_rfl) ?_
                  simp only [List.take_succ_cons, List.take_zero, List.drop_succ_cons, List.drop_zero]
                  apply RelyL.val
                  · intro ν w' hL hF K hK
                    have cE := (hE.lat hL).cell
                    have cV := (hV.lat hL).cell
                    go_simp
                    exact hK.out _ _ rfl (Lat.refl _)
                  simp only [Act.put, List.setIfInBounds_toArray, List.set_cons_zero, List.set_cons_succ, Nat.reduceAdd]
                  apply RelyL.val
                  · intro ν w' hL hF K hK
                    have cE := (hE.lat hL).cell
                    have cV := (hV.lat hL).cell
                    go_simp
                    exact hK.out _ _ rfl (Lat.refl _)
                  simp only [Act.put, List.setIfInBounds_toArray, List.set_cons_zero, List.set_cons_succ, Nat.reduceAdd]
                  apply RelyL.val
                  · intro ν w' hL hF K hK
                    refine take_op rfl ?_
                    refine wp_load_at 36 _ rfl b' (off') rfl _ _ (r0.below hL hbl') Tryz.underlying36 rfl (by kernel_rfl) ?_
                    exact hK.out _ _ rfl (Lat.refl _)
                  simp only [Act.put, List.setIfInBounds_toArray, List.set_cons_zero, List.set_cons_succ, Nat.reduceAdd]
                  apply RelyL.val
                  · intro ν w' hL hF K hK
                    have cE := (hE.lat hL).cell
                    have cV := (hV.lat hL).cell
                    go_simp
                    exact hK.out _ _ rfl (Lat.refl _)
                  simp only [Act.put, List.setIfInBounds_toArray, List.set_cons_zero, List.set_cons_succ, Nat.reduceAdd]
                  apply RelyL.val
                  · intro ν w' hL hF K hK
                    have cE := (hE.lat hL).cell
                    have cV := (hV.lat hL).cell
                    go_simp
                    exact hK.out _ _ rfl (Lat.refl _)
                  simp only [Act.put, List.setIfInBounds_toArray, List.set_cons_zero, List.set_cons_succ, Nat.reduceAdd]
                  apply RelyL.val
                  · intro ν w' hL hF K hK
                    refine take_op rfl ?_
                    refine wp_load_at 36 _ rfl b' (off' + 3) rfl _ _ (r1.below hL hbl') Tryz.underlying36 rfl (by kernel_rfl) ?_
                    exact hK.out _ _ rfl (Lat.refl _)
                  simp only [Act.put, List.setIfInBounds_toArray, List.set_cons_zero, List.set_cons_succ, Nat.reduceAdd]
                  apply RelyL.val
                  · intro ν w' hL hF K hK
                    have cE := (hE.lat hL).cell
                    have cV := (hV.lat hL).cell
                    go_simp
                    exact hK.out _ _ rfl (Lat.refl _)
                  simp only [Act.put, List.setIfInBounds_toArray, List.set_cons_zero, List.set_cons_succ, Nat.reduceAdd]
                  apply RelyL.val
                  · intro ν w' hL hF K hK
                    go_simp
                    go_at_call 36
                    refine ((fun w => Lib.hid (rtruth_any false w)) w').out.mono ?_
                    rintro r w'' ⟨rfl, hb⟩
                    exact hK.out _ _ rfl hb
                  simp only [Act.put, List.setIfInBounds_toArray, List.set_cons_zero, List.set_cons_succ, Nat.reduceAdd]
                  refine RelyL.done fun ν w5 hL hF => ?_
                  clear hF
                  replace hD := hD.lat hL
                  clear hV hE hL
                  have cV := hD.vb.cell
                  have cE := hD.eb.cell
                  have cR := hD.rb.cell
                  have fR := hD.rb.free
                  have lR := hD.rb.lt
                  have hlow := hD.low
                  go_wp2_with fail
                  refine bodyPost_ret (v := ?_) ?_ rfl ?_
                  rotate_left
                  · simp [results, Tryz.results46, go_sem, cR]; exact rfl
                  refine ⟨by rw [HJ.out]; rfl, ?_⟩
                  (repeat (first | exact Below.refl _ _ | assumption | refine Below.al ?_ _ | refine Below.st ?_ (by simp; try omega) _ | refine Below.th ?_ (by assumption)))
              · have hE : decide (k0 = k1 ∧ n0 = n1 ∧ s0 = s1) = false := by simp [e2]
                rw [hE] at hR
                have HJ := Lib.hid hR
                clear hR hE
                subst e1
                obtain ⟨g1, g2, g3⟩ := ine e2
                go_upto_region 33 with fail
                clear cV cE cR fR lR hlow
                have hV := hD.vb
                have hE := hD.eb
                refine wp_rely_tail 8 (by kernel_rfl) (by kernel_rfl) (by decide) (by kernel_rfl) ?_
                simp only [List.take_succ_cons, List.take_zero, List.drop_succ_cons, List.drop_zero]
                apply RelyL.val
                · intro ν w' hL hF K hK
                  have cE := (hE.lat hL).cell
                  have cV := (hV.lat hL).cell
                  go_simp
                  exact hK.out _ _ rfl (Lat.refl _)
                simp only [Act.put, List.setIfInBounds_toArray, List.set_cons_zero, List.set_cons_succ, Nat.reduceAdd]
                apply RelyL.val
                · intro ν w' hL hF K hK
                  have cE := (hE.lat hL).cell
                  have cV := (hV.lat hL).cell
                  go_simp
                  exact hK.out _ _ rfl (Lat.refl _)
                simp only [Act.put, List.setIfInBounds_toArray, List.set_cons_zero, List.set_cons_succ, Nat.reduceAdd]
                apply RelyL.val
                · intro ν w' hL hF K hK
                  refine take_op rfl ?_
                  refine wp_load_at 36 _ rfl b' (off') rfl _ _ (r0.below hL hbl') Tryz.underlying36 rfl (by kernel_rfl) ?_
                  exact hK.out _ _ rfl (Lat.refl _)
                simp only [Act.put, List.setIfInBounds_toArray, List.set_cons_zero, List.set_cons_succ, Nat.reduceAdd]
                apply RelyL.val
                · intro ν w' hL hF K hK
                  have cE := (hE.lat hL).cell
                  have cV := (hV.lat hL).cell
                  go_simp
                  exact hK.out _ _ rfl (Lat.refl _)
                simp only [Act.put, List.setIfInBounds_toArray, List.set_cons_zero, List.set_cons_succ, Nat.reduceAdd]
                apply RelyL.val
                · intro ν w' hL hF K hK
                  have cE := (hE.lat hL).cell
                  have cV := (hV.lat hL).cell
                  go_simp
                  exact hK.out _ _ rfl (Lat.refl _)
                simp only [Act.put, List.setIfInBounds_toArray, List.set_cons_zero, List.set_cons_succ, Nat.reduceAdd]
                apply RelyL.val
                · intro ν w' hL hF K hK
                  refine take_op rfl ?_
                  refine wp_load_at 36 _ rfl b' (off' + 3) rfl _ _ (r1.below hL hbl') Tryz.underlying36 rfl (by kernel_rfl) ?_
                  exact hK.out _ _ rfl (Lat.refl _)
                simp only [Act.put, List.setIfInBounds_toArray, List.set_cons_zero, List.set_cons_succ, Nat.reduceAdd]
                apply RelyL.val
                · intro ν w' hL hF K hK
                  have cE := (hE.lat hL).cell
                  have cV := (hV.lat hL).cell
                  go_simp
                  exact hK.out _ _ rfl (Lat.refl _)
                simp only [Act.put, List.setIfInBounds_toArray, List.set_cons_zero, List.set_cons_succ, Nat.reduceAdd]
                apply RelyL.val
                · intro ν w' hL hF K hK
                  go_simp
                  go_at_call 36
                  refine ((fun w => Lib.hid (rtruth_any false w)) w').out.mono ?_
                  rintro r w'' ⟨rfl, hb⟩
                  exact hK.out _ _ rfl hb
                simp only [Act.put, List.setIfInBounds_toArray, List.set_cons_zero, List.set_cons_succ, Nat.reduceAdd]
                refine RelyL.done fun ν w5 hL hF => ?_
                clear hF
                replace hD := hD.lat hL
                clear hV hE hL
                have cV := hD.vb.cell
                have cE := hD.eb.cell
                have cR := hD.rb.cell
                have fR := hD.rb.free
                have lR := hD.rb.lt
                have hlow := hD.low
                go_wp2_with fail
                refine bodyPost_ret (v := ?_) ?_ rfl ?_
                rotate_left
                · simp [results, Tryz.results46, go_sem, cR]; exact rfl
                refine ⟨by rw [HJ.out]; rfl, ?_⟩
                (repeat (first | exact Below.refl _ _ | assumption | refine Below.al ?_ _ | refine Below.st ?_ (by simp; try omega) _ | refine Below.th ?_ (by assumption)))
            · have hE : decide (k0 = k1 ∧ n0 = n1 ∧ s0 = s1) = false := by simp [e1]
              rw [hE] at hR
              have HJ := Lib.hid hR
              clear hR hE
              obtain ⟨g1, g2, g3⟩ := ine e1
              go_upto_region 33 with fail
              clear cV cE cR fR lR hlow
              have hV := hD.vb
              have hE := hD.eb
              refine wp_rely_tail 8 (by kernel_rfl) (by kernel_rfl) (by decide) (by kernel_rfl) ?_
              simp only [List.take_succ_cons, List.take_zero, List.drop_succ_cons, List.drop_zero]
              apply RelyL.val
              · intro ν w' hL hF K hK
                have cE := (hE.lat hL).cell
                have cV := (hV.lat hL).cell
                go_simp
                exact hK.out _ _ rfl (Lat.refl _)
              simp only [Act.put, List.setIfInBounds_toArray, List.set_cons_zero, List.set_cons_succ, Nat.reduceAdd]
              apply RelyL.val
              · intro ν w' hL hF K hK
                have cE := (hE.lat hL).cell
                have cV := (hV.lat hL).cell
                go_simp
                exact hK.out _ _ rfl (Lat.refl _)
              simp only [Act.put, List.setIfInBounds_toArray, List.set_cons_zero, List.set_cons_succ, Nat.reduceAdd]
              apply RelyL.val
              · intro ν w' hL hF K hK
                refine take_op rfl ?_
                refine wp_load_at 36 _ rfl b' (off') rfl _ _ (r0.below hL hbl') Tryz.underlying36 rfl (by kernel_rfl) ?_
                exact hK.out _ _ rfl (Lat.refl _)
              simp only [Act.put, List.setIfInBounds_toArray, List.set_cons_zero, List.set_cons_succ, Nat.reduceAdd]
              apply RelyL.val
              · intro ν w' hL hF K hK
                have cE := (hE.lat hL).cell
                have cV := (hV.lat hL).cell
                go_simp
                exact hK.out _ _ rfl (Lat.refl _)
              simp only [Act.put, List.setIfInBounds_toArray, List.set_cons_zero, List.set_cons_succ, Nat.reduceAdd]
              apply RelyL.val
              · intro ν w' hL hF K hK
                have cE := (hE.lat hL).cell
                have cV := (hV.lat hL).cell
                go_simp
                exact hK.out _ _ rfl (Lat.refl _)
              simp only [Act.put, List.setIfInBounds_toArray, List.set_cons_zero, List.set_cons_succ, Nat.reduceAdd]
              apply RelyL.val
              · intro ν w' hL hF K hK
                refine take_op rfl ?_
                refine wp_load_at 36 _ rfl b' (off' + 3) rfl _ _ (r1.below hL hbl') Tryz.underlying36 rfl (by kernel_rfl) ?_
                exact hK.out _ _ rfl (Lat.refl _)
              simp only [Act.put, List.setIfInBounds_toArray, List.set_cons_zero, List.set_cons_succ, Nat.reduceAdd]
              apply RelyL.val
              · intro ν w' hL hF K hK
                have cE := (hE.lat hL).cell
                have cV := (hV.lat hL).cell
                go_simp
                exact hK.out _ _ rfl (Lat.refl _)
              simp only [Act.put, List.setIfInBounds_toArray, List.set_cons_zero, List.set_cons_succ, Nat.reduceAdd]
              apply RelyL.val
              · intro ν w' hL hF K hK
                go_simp
                go_at_call 36
                refine ((fun w => Lib.hid (rtruth_any false w)) w').out.mono ?_
                rintro r w'' ⟨rfl, hb⟩
                exact hK.out _ _ rfl hb
              simp only [Act.put, List.setIfInBounds_toArray, List.set_cons_zero, List.set_cons_succ, Nat.reduceAdd]
              refine RelyL.done fun ν w5 hL hF => ?_
              clear hF
              replace hD := hD.lat hL
              clear hV hE hL
              have cV := hD.vb.cell
              have cE := hD.eb.cell
              have cR := hD.rb.cell
              have fR := hD.rb.free
              have lR := hD.rb.lt
              have hlow := hD.low
              go_wp2_with fail
              refine bodyPost_ret (v := ?_) ?_ rfl ?_
              rotate_left
              · simp [results, Tryz.results46, go_sem, cR]; exact rfl
              refine ⟨by rw [HJ.out]; rfl, ?_⟩
              (repeat (first | exact Below.refl _ _ | assumption | refine Below.al ?_ _ | refine Below.st ?_ (by simp; try omega) _ | refine Below.th ?_ (by assumption)))
      · obtain ⟨x0, x1, rfl⟩ := ev2 (xs := xs) (by have hxl := HXL.out; rcases hko with h | h | h | h | h <;> omega)
        obtain ⟨f0a, f0b, f0c⟩ := hfin x0 (by simp)
        obtain ⟨f1a, f1b, f1c⟩ := hfin x1 (by simp)
        have g0 := h64 x0 (by simp)
        have g1 := h64 x1 (by simp)
        obtain ⟨b', off', rfl, hbl, hrow'⟩ := hir0 (by simp)
        obtain ⟨k0, n0, s0, o0⟩ := x0
        obtain ⟨k1, n1, s1, o1⟩ := x1
        have r0 := hrow' 0 (by simp)
        have r1 := hrow' 1 (by simp)
        simp only [List.map_cons, List.map_nil, List.getElem_cons_zero, List.getElem_cons_succ, EV.cells, Nat.zero_mul, Nat.one_mul, Nat.add_zero, Nat.reduceMul] at r0 r1
        have r00 := r0 0 _ rfl
        have r10 := r1 0 _ rfl
        simp only [Nat.add_zero] at r00 r10
        clear hrow' hir0 hfin h64
        simp only at f0a f0b f0c f1a f1b f1c g0 g1
        simp only [List.length_cons, List.length_nil, Nat.reduceAdd] at *
        have hR : R = opE 10 k0 n0 s0 k1 n1 s1 := by
          rw [HJ0.out]
          simp only [nodeE, Int.reduceEq, if_false, if_true, List.getD_cons_zero, List.getD_cons_succ]
          split
          · rename_i h
            rw [opE, if_neg (by omega), if_pos]
            rcases h with h | h
            · rw [f0a] at h; simp at h; omega
            · rw [f1a] at h; simp at h; omega
          · rfl
        have HQ := fun w => Lib.hid (rints_any 10 k0 n0 s0 k1 n1 s1 w (by omega) g0 g1)
        generalize opE 10 k0 n0 s0 k1 n1 s1 = Q at *
        obtain ⟨rk, rn, rs, ro⟩ := Q
        have HJ := Lib.hid hR
        clear hR HJ0
        simp only [EV.val] at HQ
        have hbl' : b' < wr.heap.size := hbl
        go_upto_region 38 with fail
        clear cV cE cR fR lR hlow
        have hV := hD.vb
        have hE := hD.eb
        refine wp_rely_tail 9 (by kernel_rfl) (by kernel_rfl) (by decide) (by kernel_rfl) ?_
        simp only [List.take_succ_cons, List.take_zero, List.drop_succ_cons, List.drop_zero]
        apply RelyL.val
        · intro ν w' hL hF K hK
          have cE := (hE.lat hL).cell
          have cV := (hV.lat hL).cell
          go_simp
          exact hK.out _ _ rfl (Lat.refl _)
        simp only [Act.put, List.setIfInBounds_toArray, List.set_cons_zero, List.set_cons_succ, Nat.reduceAdd]
        apply RelyL.val
        · intro ν w' hL hF K hK
          have cE := (hE.lat hL).cell
          have cV := (hV.lat hL).cell
          go_simp
          exact hK.out _ _ rfl (Lat.refl _)
        simp only [Act.put, List.setIfInBounds_toArray, List.set_cons_zero, List.set_cons_succ, Nat.reduceAdd]
        apply RelyL.val
        · intro ν w' hL hF K hK
          have cE := (hE.lat hL).cell
          have cV := (hV.lat hL).cell
          go_simp
          exact hK.out _ _ rfl (Lat.refl _)
        simp only [Act.put, List.setIfInBounds_toArray, List.set_cons_zero, List.set_cons_succ, Nat.reduceAdd]
        apply RelyL.val
        · intro ν w' hL hF K hK
          have cE := (hE.lat hL).cell
          have cV := (hV.lat hL).cell
          go_simp
          exact hK.out _ _ rfl (Lat.refl _)
        simp only [Act.put, List.setIfInBounds_toArray, List.set_cons_zero, List.set_cons_succ, Nat.reduceAdd]
        apply RelyL.val
        · intro ν w' hL hF K hK
          refine take_op rfl ?_
          refine wp_load_at 36 _ rfl b' (off') rfl _ _ (r0.below hL hbl') Tryz.underlying36 rfl (by kernel_rfl) ?_
          exact hK.out _ _ rfl (Lat.refl _)
        simp only [Act.put, List.setIfInBounds_toArray, List.set_cons_zero, List.set_cons_succ, Nat.reduceAdd]
        apply RelyL.val
        · intro ν w' hL hF K hK
          have cE := (hE.lat hL).cell
          have cV := (hV.lat hL).cell
          go_simp
          exact hK.out _ _ rfl (Lat.refl _)
        simp only [Act.put, List.setIfInBounds_toArray, List.set_cons_zero, List.set_cons_succ, Nat.reduceAdd]
        apply RelyL.val
        · intro ν w' hL hF K hK
          have cE := (hE.lat hL).cell
          have cV := (hV.lat hL).cell
          go_simp
          exact hK.out _ _ rfl (Lat.refl _)
        simp only [Act.put, List.setIfInBounds_toArray, List.set_cons_zero, List.set_cons_succ, Nat.reduceAdd]
        apply RelyL.val
        · intro ν w' hL hF K hK
          refine take_op rfl ?_
          refine wp_load_at 36 _ rfl b' (off' + 3) rfl _ _ (r1.below hL hbl') Tryz.underlying36 rfl (by kernel_rfl) ?_
          exact hK.out _ _ rfl (Lat.refl _)
        simp only [Act.put, List.setIfInBounds_toArray, List.set_cons_zero, List.set_cons_succ, Nat.reduceAdd]
        apply RelyL.val
        · intro ν w' hL hF K hK
          go_simp
          go_at_call 77
          refine (HQ w').out.mono ?_
          rintro r w'' ⟨rfl, hb⟩
          exact hK.out _ _ rfl hb
        simp only [Act.put, List.setIfInBounds_toArray, List.set_cons_zero, List.set_cons_succ, Nat.reduceAdd]
        refine RelyL.done fun ν w5 hL hF => ?_
        clear hF
        replace hD := hD.lat hL
        clear hV hE hL
        have cV := hD.vb.cell
        have cE := hD.eb.cell
        have cR := hD.rb.cell
        have fR := hD.rb.free
        have lR := hD.rb.lt
        have hlow := hD.low
        go_wp2_with fail
        refine bodyPost_ret (v := ?_) ?_ rfl ?_
        rotate_left
        · simp [results, Tryz.results46, go_sem, cR]; exact rfl
        refine ⟨by rw [HJ.out], ?_⟩
        (repeat (first | exact Below.refl _ _ | assumption | refine Below.al ?_ _ | refine Below.st ?_ (by simp; try omega) _ | refine Below.th ?_ (by assumption)))
      · obtain ⟨x0, x1, rfl⟩ := ev2 (xs := xs) (by have hxl := HXL.out; rcases hko with h | h | h | h | h <;> omega)
        obtain ⟨f0a, f0b, f0c⟩ := hfin x0 (by simp)
        obtain ⟨f1a, f1b, f1c⟩ := hfin x1 (by simp)
        have g0 := h64 x0 (by simp)
        have g1 := h64 x1 (by simp)
        obtain ⟨b', off', rfl, hbl, hrow'⟩ := hir0 (by simp)
        obtain ⟨k0, n0, s0, o0⟩ := x0
        obtain ⟨k1, n1, s1, o1⟩ := x1
        have r0 := hrow' 0 (by simp)
        have r1 := hrow' 1 (by simp)
        simp only [List.map_cons, List.map_nil, List.getElem_cons_zero, List.getElem_cons_succ, EV.cells, Nat.zero_mul, Nat.one_mul, Nat.add_zero, Nat.reduceMul] at r0 r1
        have r00 := r0 0 _ rfl
        have r10 := r1 0 _ rfl
        simp only [Nat.add_zero] at r00 r10
        clear hrow' hir0 hfin h64
        simp only at f0a f0b f0c f1a f1b f1c g0 g1
        simp only [List.length_cons, List.length_nil, Nat.reduceAdd] at *
        have hR : R = opE 11 k0 n0 s0 k1 n1 s1 := by
          rw [HJ0.out]
          simp only [nodeE, Int.reduceEq, if_false, if_true, List.getD_cons_zero, List.getD_cons_succ]
          split
          · rename_i h
            rw [opE, if_neg (by omega), if_pos]
            rcases h with h | h
            · rw [f0a] at h; simp at h; omega
            · rw [f1a] at h; simp at h; omega
          · rfl
        have HQ := fun w => Lib.hid (rints_any 11 k0 n0 s0 k1 n1 s1 w (by omega) g0 g1)
        generalize opE 11 k0 n0 s0 k1 n1 s1 = Q at *
        obtain ⟨rk, rn, rs, ro⟩ := Q
        have HJ := Lib.hid hR
        clear hR HJ0
        simp only [EV.val] at HQ
        have hbl' : b' < wr.heap.size := hbl
        go_upto_region 38 with fail
        clear cV cE cR fR lR hlow
        have hV := hD.vb
        have hE := hD.eb
        refine wp_rely_tail 9 (by kernel_rfl) (by kernel_rfl) (by decide) (by kernel_rfl) ?_
        simp only [List.take_succ_cons, List.take_zero, List.drop_succ_cons, List.drop_zero]
        apply RelyL.val
        · intro ν w' hL hF K hK
          have cE := (hE.lat hL).cell
          have cV := (hV.lat hL).cell
          go_simp
          exact hK.out _ _ rfl (Lat.refl _)
        simp only [Act.put, List.setIfInBounds_toArray, List.set_cons_zero, List.set_cons_succ, Nat.reduceAdd]
        apply RelyL.val
        · intro ν w' hL hF K hK
          have cE := (hE.lat hL).cell
          have cV := (hV.lat hL).cell
          go_simp
          exact hK.out _ _ rfl (Lat.refl _)
        simp only [Act.put, List.setIfInBounds_toArray, List.set_cons_zero, List.set_cons_succ, Nat.reduceAdd]
        apply RelyL.val
        · intro ν w' hL hF K hK
          have cE := (hE.lat hL).cell
          have cV := (hV.lat hL).cell
          go_simp
          exact hK.out _ _ rfl (Lat.refl _)
        simp only [Act.put, List.setIfInBounds_toArray, List.set_cons_zero, List.set_cons_succ, Nat.reduceAdd]
        apply RelyL.val
        · intro ν w' hL hF K hK
          have cE := (hE.lat hL).cell
          have cV := (hV.lat hL).cell
          go_simp
          exact hK.out _ _ rfl (Lat.refl _)
        simp only [Act.put, List.setIfInBounds_toArray, List.set_cons_zero, List.set_cons_succ, Nat.reduceAdd]
        apply RelyL.val
        · intro ν w' hL hF K hK
          refine take_op rfl ?_
          refine wp_load_at 36 _ rfl b' (off') rfl _ _ (r0.below hL hbl') Tryz.underlying36 rfl (by kernel_rfl) ?_
          exact hK.out _ _ rfl (Lat.refl _)
        simp only [Act.put, List.setIfInBounds_toArray, List.set_cons_zero, List.set_cons_succ, Nat.reduceAdd]
        apply RelyL.val
        · intro ν w' hL hF K hK
          have cE := (hE.lat hL).cell
          have cV := (hV.lat hL).cell
          go_simp
          exact hK.out _ _ rfl (Lat.refl _)
        simp only [Act.put, List.setIfInBounds_toArray, List.set_cons_zero, List.set_cons_succ, Nat.reduceAdd]
        apply RelyL.val
        · intro ν w' hL hF K hK
          have cE := (hE.lat hL).cell
          have cV := (hV.lat hL).cell
          go_simp
          exact hK.out _ _ rfl (Lat.refl _)
        simp only [Act.put, List.setIfInBounds_toArray, List.set_cons_zero, List.set_cons_succ, Nat.reduceAdd]
        apply RelyL.val
        · intro ν w' hL hF K hK
          refine take_op rfl ?_
          refine wp_load_at 36 _ rfl b' (off' + 3) rfl _ _ (r1.below hL hbl') Tryz.underlying36 rfl (by kernel_rfl) ?_
          exact hK.out _ _ rfl (Lat.refl _)
        simp only [Act.put, List.setIfInBounds_toArray, List.set_cons_zero, List.set_cons_succ, Nat.reduceAdd]
        apply RelyL.val
        · intro ν w' hL hF K hK
          go_simp
          go_at_call 77
          refine (HQ w').out.mono ?_
          rintro r w'' ⟨rfl, hb⟩
          exact hK.out _ _ rfl hb
        simp only [Act.put, List.setIfInBounds_toArray, List.set_cons_zero, List.set_cons_succ, Nat.reduceAdd]
        refine RelyL.done fun ν w5 hL hF => ?_
        clear hF
        replace hD := hD.lat hL
        clear hV hE hL
        have cV := hD.vb.cell
        have cE := hD.eb.cell
        have cR := hD.rb.cell
        have fR := hD.rb.free
        have lR := hD.rb.lt
        have hlow := hD.low
        go_wp2_with fail
        refine bodyPost_ret (v := ?_) ?_ rfl ?_
        rotate_left
        · simp [results, Tryz.results46, go_sem, cR]; exact rfl
        refine ⟨by rw [HJ.out], ?_⟩
        (repeat (first | exact Below.refl _ _ | assumption | refine Below.al ?_ _ | refine Below.st ?_ (by simp; try omega) _ | refine Below.th ?_ (by assumption)))
      · obtain ⟨x0, x1, rfl⟩ := ev2 (xs := xs) (by have hxl := HXL.out; rcases hko with h | h | h | h | h <;> omega)
        obtain ⟨f0a, f0b, f0c⟩ := hfin x0 (by simp)
        obtain ⟨f1a, f1b, f1c⟩ := hfin x1 (by simp)
        have g0 := h64 x0 (by simp)
        have g1 := h64 x1 (by simp)
        obtain ⟨b', off', rfl, hbl, hrow'⟩ := hir0 (by simp)
        obtain ⟨k0, n0, s0, o0⟩ := x0
        obtain ⟨k1, n1, s1, o1⟩ := x1
        have r0 := hrow' 0 (by simp)
        have r1 := hrow' 1 (by simp)
        simp only [List.map_cons, List.map_nil, List.getElem_cons_zero, List.getElem_cons_succ, EV.cells, Nat.zero_mul, Nat.one_mul, Nat.add_zero, Nat.reduceMul] at r0 r1
        have r00 := r0 0 _ rfl
        have r10 := r1 0 _ rfl
        simp only [Nat.add_zero] at r00 r10
        clear hrow' hir0 hfin h64
        simp only at f0a f0b f0c f1a f1b f1c g0 g1
        simp only [List.length_cons, List.length_nil, Nat.reduceAdd] at *
        have hR : R = opE 12 k0 n0 s0 k1 n1 s1 := by
          rw [HJ0.out]
          simp only [nodeE, Int.reduceEq, if_false, if_true, List.getD_cons_zero, List.getD_cons_succ]
          split
          · rename_i h
            rw [opE, if_neg (by omega), if_pos]
            rcases h with h | h
            · rw [f0a] at h; simp at h; omega
            · rw [f1a] at h; simp at h; omega
          · rfl
        have HQ := fun w => Lib.hid (rints_any 12 k0 n0 s0 k1 n1 s1 w (by omega) g0 g1)
        generalize opE 12 k0 n0 s0 k1 n1 s1 = Q at *
        obtain ⟨rk, rn, rs, ro⟩ := Q
        have HJ := Lib.hid hR
        clear hR HJ0
        simp only [EV.val] at HQ
        have hbl' : b' < wr.heap.size := hbl
        go_upto_region 38 with fail
        clear cV cE cR fR lR hlow
        have hV := hD.vb
        have hE := hD.eb
        refine wp_rely_tail 9 (by kernel_rfl) (by kernel_rfl) (by decide) (by kernel_rfl) ?_
        simp only [List.take_succ_cons, List.take_zero, List.drop_succ_cons, List.drop_zero]
        apply RelyL.val
        · intro ν w' hL hF K hK
          have cE := (hE.lat hL).cell
          have cV := (hV.lat hL).cell
          go_simp
          exact hK.out _ _ rfl (Lat.refl _)
        simp only [Act.put, List.setIfInBounds_toArray, List.set_cons_zero, List.set_cons_succ, Nat.reduceAdd]
        apply RelyL.val
        · intro ν w' hL hF K hK
          have cE := (hE.lat hL).cell
          have cV := (hV.lat hL).cell
          go_simp
          exact hK.out _ _ rfl (Lat.refl _)
        simp only [Act.put, List.setIfInBounds_toArray, List.set_cons_zero, List.set_cons_succ, Nat.reduceAdd]
        apply RelyL.val
        · intro ν w' hL hF K hK
          have cE := (hE.lat hL).cell
          have cV := (hV.lat hL).cell
          go_simp
          exact hK.out _ _ rfl (Lat.refl _)
        simp only [Act.put, List.setIfInBounds_toArray, List.set_cons_zero, List.set_cons_succ, Nat.reduceAdd]
        apply RelyL.val
        · intro ν w' hL hF K hK
          have cE := (hE.lat hL).cell
          have cV := (hV.lat hL).cell
          go_simp
          exact hK.out _ _ rfl (Lat.refl _)
        simp only [Act.put, List.setIfInBounds_toArray, List.set_cons_zero, List.set_cons_succ, Nat.reduceAdd]
        apply RelyL.val
        · intro ν w' hL hF K hK
          refine take_op rfl ?_
          refine wp_load_at 36 _ rfl b' (off') rfl _ _ (r0.below hL hbl') Tryz.underlying36 rfl (by kernel_rfl) ?_
          exact hK.out _ _ rfl (Lat.refl _)
        simp only [Act.put, List.setIfInBounds_toArray, List.set_cons_zero, List.set_cons_succ, Nat.reduceAdd]
        apply RelyL.val
        · intro ν w' hL hF K hK
          have cE := (hE.lat hL).cell
          have cV := (hV.lat hL).cell
          go_simp
          exact hK.out _ _ rfl (Lat.refl _)
        simp only [Act.put, List.setIfInBounds_toArray, List.set_cons_zero, List.set_cons_succ, Nat.reduceAdd]
        apply RelyL.val
        · intro ν w' hL hF K hK
          have cE := (hE.lat hL).cell
          have cV := (hV.lat hL).cell
          go_simp
          exact hK.out _ _ rfl (Lat.refl _)
        simp only [Act.put, List.setIfInBounds_toArray, List.set_cons_zero, List.set_cons_succ, Nat.reduceAdd]
        apply RelyL.val
        · intro ν w' hL hF K hK
          refine take_op rfl ?_
          refine wp_load_at 36 _ rfl b' (off' + 3) rfl _ _ (r1.below hL hbl') Tryz.underlying36 rfl (by kernel_rfl) ?_
          exact hK.out _ _ rfl (Lat.refl _)
        simp only [Act.put, List.setIfInBounds_toArray, List.set_cons_zero, List.set_cons_succ, Nat.reduceAdd]
        apply RelyL.val
        · intro ν w' hL hF K hK
          go_simp
          go_at_call 77
          refine (HQ w').out.mono ?_
          rintro r w'' ⟨rfl, hb⟩
          exact hK.out _ _ rfl hb
        simp only [Act.put, List.setIfInBounds_toArray, List.set_cons_zero, List.set_cons_succ, Nat.reduceAdd]
        refine RelyL.done fun ν w5 hL hF => ?_
        clear hF
        replace hD := hD.lat hL
        clear hV hE hL
        have cV := hD.vb.cell
        have cE := hD.eb.cell
        have cR := hD.rb.cell
        have fR := hD.rb.free
        have lR := hD.rb.lt
        have hlow := hD.low
        go_wp2_with fail
        refine bodyPost_ret (v := ?_) ?_ rfl ?_
        rotate_left
        · simp [results, Tryz.results46, go_sem, cR]; exact rfl
        refine ⟨by rw [HJ.out], ?_⟩
        (repeat (first | exact Below.refl _ _ | assumption | refine Below.al ?_ _ | refine Below.st ?_ (by simp; try omega) _ | refine Below.th ?_ (by assumption)))
      · obtain ⟨x0, x1, rfl⟩ := ev2 (xs := xs) (by have hxl := HXL.out; rcases hko with h | h | h | h | h <;> omega)
        obtain ⟨f0a, f0b, f0c⟩ := hfin x0 (by simp)
        obtain ⟨f1a, f1b, f1c⟩ := hfin x1 (by simp)
        have g0 := h64 x0 (by simp)
        have g1 := h64 x1 (by simp)
        obtain ⟨b', off', rfl, hbl, hrow'⟩ := hir0 (by simp)
        obtain ⟨k0, n0, s0, o0⟩ := x0
        obtain ⟨k1, n1, s1, o1⟩ := x1
        have r0 := hrow' 0 (by simp)
        have r1 := hrow' 1 (by simp)
        simp only [List.map_cons, List.map_nil, List.getElem_cons_zero, List.getElem_cons_succ, EV.cells, Nat.zero_mul, Nat.one_mul, Nat.add_zero, Nat.reduceMul] at r0 r1
        have r00 := r0 0 _ rfl
        have r10 := r1 0 _ rfl
        simp only [Nat.add_zero] at r00 r10
        clear hrow' hir0 hfin h64
        simp only at f0a f0b f0c f1a f1b f1c g0 g1
        simp only [List.length_cons, List.length_nil, Nat.reduceAdd] at *
        have hR : R = opE 13 k0 n0 s0 k1 n1 s1 := by
          rw [HJ0.out]
          simp only [nodeE, Int.reduceEq, if_false, if_true, List.getD_cons_zero, List.getD_cons_succ]
          split
          · rename_i h
            rw [opE, if_neg (by omega), if_pos]
            rcases h with h | h
            · rw [f0a] at h; simp at h; omega
            · rw [f1a] at h; simp at h; omega
          · rfl
        have HQ := fun w => Lib.hid (rints_any 13 k0 n0 s0 k1 n1 s1 w (by omega) g0 g1)
        generalize opE 13 k0 n0 s0 k1 n1 s1 = Q at *
        obtain ⟨rk, rn, rs, ro⟩ := Q
        have HJ := Lib.hid hR
        clear hR HJ0
        simp only [EV.val] at HQ
        have hbl' : b' < wr.heap.size := hbl
        go_upto_region 38 with fail
        clear cV cE cR fR lR hlow
        have hV := hD.vb
        have hE := hD.eb
        refine wp_rely_tail 9 (by kernel_rfl) (by kernel_rfl) (by decide) (by kernel_rfl) ?_
        simp only [List.take_succ_cons, List.take_zero, List.drop_succ_cons, List.drop_zero]
        apply RelyL.val
        · intro ν w' hL hF K hK
          have cE := (hE.lat hL).cell
          have cV := (hV.lat hL).cell
          go_simp
          exact hK.out _ _ rfl (Lat.refl _)
        simp only [Act.put, List.setIfInBounds_toArray, List.set_cons_zero, List.set_cons_succ, Nat.reduceAdd]
        apply RelyL.val
        · intro ν w' hL hF K hK
          have cE := (hE.lat hL).cell
          have cV := (hV.lat hL).cell
          go_simp
          exact hK.out _ _ rfl (Lat.refl _)
        simp only [Act.put, List.setIfInBounds_toArray, List.set_cons_zero, List.set_cons_succ, Nat.reduceAdd]
        apply RelyL.val
        · intro ν w' hL hF K hK
          have cE := (hE.lat hL).cell
          have cV := (hV.lat hL).cell
          go_simp
          exact hK.out _ _ rfl (Lat.refl _)
        simp only [Act.put, List.setIfInBounds_toArray, List.set_cons_zero, List.set_cons_succ, Nat.reduceAdd]
        apply RelyL.val
        · intro ν w' hL hF K hK
          have cE := (hE.lat hL).cell
          have cV := (hV.lat hL).cell
          go_simp
          exact hK.out _ _ rfl (Lat.refl _)
        simp only [Act.put, List.setIfInBounds_toArray, List.set_cons_zero, List.set_cons_succ, Nat.reduceAdd]
        apply RelyL.val
        · intro ν w' hL hF K hK
          refine take_op rfl ?_
          refine wp_load_at 36 _ rfl b' (off') rfl _ _ (r0.below hL hbl') Tryz.underlying36 rfl (by kernel_rfl) ?_
          exact hK.out _ _ rfl (Lat.refl _)
        simp only [Act.put, List.setIfInBounds_toArray, List.set_cons_zero, List.set_cons_succ, Nat.reduceAdd]
        apply RelyL.val
        · intro ν w' hL hF K hK
          have cE := (hE.lat hL).cell
          have cV := (hV.lat hL).cell
          go_simp
          exact hK.out _ _ rfl (Lat.refl _)
        simp only [Act.put, List.setIfInBounds_toArray, List.set_cons_zero, List.set_cons_succ, Nat.reduceAdd]
        apply RelyL.val
        · intro ν w' hL hF K hK
          have cE := (hE.lat hL).cell
          have cV := (hV.lat hL).cell
          go_simp
          exact hK.out _ _ rfl (Lat.refl _)
        simp only [Act.put, List.setIfInBounds_toArray, List.set_cons_zero, List.set_cons_succ, Nat.reduceAdd]
        apply RelyL.val
        · intro ν w' hL hF K hK
          refine take_op rfl ?_
          refine wp_load_at 36 _ rfl b' (off' + 3) rfl _ _ (r1.below hL hbl') Tryz.underlying36 rfl (by kernel_rfl) ?_
          exact hK.out _ _ rfl (Lat.refl _)
        simp only [Act.put, List.setIfInBounds_toArray, List.set_cons_zero, List.set_cons_succ, Nat.reduceAdd]
        apply RelyL.val
        · intro ν w' hL hF K hK
          go_simp
          go_at_call 77
          refine (HQ w').out.mono ?_
          rintro r w'' ⟨rfl, hb⟩
          exact hK.out _ _ rfl hb
        simp only [Act.put, List.setIfInBounds_toArray, List.set_cons_zero, List.set_cons_succ, Nat.reduceAdd]
        refine RelyL.done fun ν w5 hL hF => ?_
        clear hF
        replace hD := hD.lat hL
        clear hV hE hL
        have cV := hD.vb.cell
        have cE := hD.eb.cell
        have cR := hD.rb.cell
        have fR := hD.rb.free
        have lR := hD.rb.lt
        have hlow := hD.low
        go_wp2_with fail
        refine bodyPost_ret (v := ?_) ?_ rfl ?_
        rotate_left
        · simp [results, Tryz.results46, go_sem, cR]; exact rfl
        refine ⟨by rw [HJ.out], ?_⟩
        (repeat (first | exact Below.refl _ _ | assumption | refine Below.al ?_ _ | refine Below.st ?_ (by simp; try omega) _ | refine Below.th ?_ (by assumption)))

end Go.Proofs.YtafodibbcfoclaaGreat.Ev
