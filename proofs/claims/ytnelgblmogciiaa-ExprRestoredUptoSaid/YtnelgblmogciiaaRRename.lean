/- Renaming, by the reference. -/
import Derived.Test.YtnelgblmogciiaaRename
set_option linter.unusedSimpArgs false
set_option linter.unusedVariables false
namespace Go.Proofs.Ytnelgblmogciiaa
open Go.RowKit

theorem renE_mk (f t : Int) (h : Hd) (ks : List LExpr) : renE f t (.mk h ks) = .mk (renH f t h) (ks.map (renE f t)) := by
  rw [renE, rebE, rebL_eq, renN]; rfl
theorem okH {kd n m vk vn dv : Int} {nm vs cl at_ : ByteArray} (h : (⟨kd, n, m, nm, vk, vn, vs, dv, cl, at_⟩ : Hd).ok) {t : Int} (ht : I64 t) : (⟨kd, n, m, nm, vk, vn, vs, t, cl, at_⟩ : Hd).ok := by
  obtain ⟨a, b, c, d, e, g⟩ := h
  constructor <;> assumption
-- $1 the cells of the box's head, $2 those of the new head, $3 the new head's fact 'ok', $4 the new head
set_option maxRecDepth 100000 in
set_option maxHeartbeats 8000000 in
theorem rrename_any (f t : Int) (ht : I64 t) (e : LExpr) : ∀ (cs : List Value) (B : Nat) (w : World), B ≤ w.heap.size → IsExpr B w e cs →
    Calls Try.prog 40 #[.agg cs.toArray, .int .i64 f, .int .i64 t] w (RetEx (w.heap.size ≤ ·) (renE f t e) w) := by
  induction e using LExpr.ind with | _ hd ks ih => ?_
  intro cs B w hB he
  cases he with
  | mk _ _ A c b off cs hok hlen hA hsz hrow hk =>
  rw [renE_mk]
  obtain ⟨kd, n, m, nm, vk, vn, vs, dv, cl, at_⟩ := hd
  unfold Hd.cells
  dsimp only
  by_cases hkd : kd = 2
  · subst hkd
    by_cases hv : dv = f
    · obtain rfl : f = dv := hv.symm
      have q2 : (f == f) = true := by simp
      have e1 : renH f t ⟨2, n, m, nm, vk, vn, vs, f, cl, at_⟩ = ⟨2, n, m, nm, vk, vn, vs, t, cl, at_⟩ := if_pos ⟨rfl, rfl⟩
      rw [e1]
      go_enter Try.func40, Try.ntmps40
      go_upto_region 5 with fail
      have hb1 : Below w.heap.size w (((w.alloc (.cells #[.int .i64 2, .int .i64 n, .int .i64 m, .string nm, .int .i64 vk, .int .i64 vn, .string vs, .int .i64 f, .string cl, .string at_, .slice A ks.length c] 32)).alloc (.cells #[.int .i64 0, .int .i64 0, .int .i64 0, .string { data := #[] }, .int .i64 0, .int .i64 0, .string { data := #[] }, .int .i64 0, .string { data := #[] }, .string { data := #[] }, .slice none 0 0] 32)).alloc (.cells #[.int .i64 2, .int .i64 n, .int .i64 m, .string nm, .int .i64 vk, .int .i64 vn, .string vs, .int .i64 t, .string cl, .string at_, .slice none 0 0] 32)) := (((Below.refl _ _).al _).al _).al _
      have hx1 : Blk (((w.alloc (.cells #[.int .i64 2, .int .i64 n, .int .i64 m, .string nm, .int .i64 vk, .int .i64 vn, .string vs, .int .i64 f, .string cl, .string at_, .slice A ks.length c] 32)).alloc (.cells #[.int .i64 0, .int .i64 0, .int .i64 0, .string { data := #[] }, .int .i64 0, .int .i64 0, .string { data := #[] }, .int .i64 0, .string { data := #[] }, .string { data := #[] }, .slice none 0 0] 32)).alloc (.cells #[.int .i64 2, .int .i64 n, .int .i64 m, .string nm, .int .i64 vk, .int .i64 vn, .string vs, .int .i64 t, .string cl, .string at_, .slice none 0 0] 32)) w.heap.size 32 #[.int .i64 2, .int .i64 n, .int .i64 m, .string nm, .int .i64 vk, .int .i64 vn, .string vs, .int .i64 f, .string cl, .string at_, .slice A ks.length c] := ((Blk.new _ _ _).alloc _).alloc _
      have hr1 : Blk (((w.alloc (.cells #[.int .i64 2, .int .i64 n, .int .i64 m, .string nm, .int .i64 vk, .int .i64 vn, .string vs, .int .i64 f, .string cl, .string at_, .slice A ks.length c] 32)).alloc (.cells #[.int .i64 0, .int .i64 0, .int .i64 0, .string { data := #[] }, .int .i64 0, .int .i64 0, .string { data := #[] }, .int .i64 0, .string { data := #[] }, .string { data := #[] }, .slice none 0 0] 32)).alloc (.cells #[.int .i64 2, .int .i64 n, .int .i64 m, .string nm, .int .i64 vk, .int .i64 vn, .string vs, .int .i64 t, .string cl, .string at_, .slice none 0 0] 32)) (w.heap.size + 1) 32 zero11 := (Blk.at1 _ _ _ _).alloc _
      have ho1 : Blk (((w.alloc (.cells #[.int .i64 2, .int .i64 n, .int .i64 m, .string nm, .int .i64 vk, .int .i64 vn, .string vs, .int .i64 f, .string cl, .string at_, .slice A ks.length c] 32)).alloc (.cells #[.int .i64 0, .int .i64 0, .int .i64 0, .string { data := #[] }, .int .i64 0, .int .i64 0, .string { data := #[] }, .int .i64 0, .string { data := #[] }, .string { data := #[] }, .slice none 0 0] 32)).alloc (.cells #[.int .i64 2, .int .i64 n, .int .i64 m, .string nm, .int .i64 vk, .int .i64 vn, .string vs, .int .i64 t, .string cl, .string at_, .slice none 0 0] 32)) (w.heap.size + 1 + 1) 32 #[.int .i64 2, .int .i64 n, .int .i64 m, .string nm, .int .i64 vk, .int .i64 vn, .string vs, .int .i64 t, .string cl, .string at_, .slice none 0 0] := Blk.at2 _ _ _ _ _
      have hs1 : w.heap.size + 3 ≤ (((w.alloc (.cells #[.int .i64 2, .int .i64 n, .int .i64 m, .string nm, .int .i64 vk, .int .i64 vn, .string vs, .int .i64 f, .string cl, .string at_, .slice A ks.length c] 32)).alloc (.cells #[.int .i64 0, .int .i64 0, .int .i64 0, .string { data := #[] }, .int .i64 0, .int .i64 0, .string { data := #[] }, .int .i64 0, .string { data := #[] }, .string { data := #[] }, .slice none 0 0] 32)).alloc (.cells #[.int .i64 2, .int .i64 n, .int .i64 m, .string nm, .int .i64 vk, .int .i64 vn, .string vs, .int .i64 t, .string cl, .string at_, .slice none 0 0] 32)).heap.size := by simp
      generalize (((w.alloc (.cells #[.int .i64 2, .int .i64 n, .int .i64 m, .string nm, .int .i64 vk, .int .i64 vn, .string vs, .int .i64 f, .string cl, .string at_, .slice A ks.length c] 32)).alloc (.cells #[.int .i64 0, .int .i64 0, .int .i64 0, .string { data := #[] }, .int .i64 0, .int .i64 0, .string { data := #[] }, .int .i64 0, .string { data := #[] }, .string { data := #[] }, .slice none 0 0] 32)).alloc (.cells #[.int .i64 2, .int .i64 n, .int .i64 m, .string nm, .int .i64 vk, .int .i64 vn, .string vs, .int .i64 t, .string cl, .string at_, .slice none 0 0] 32)) = WA at *
      go_wp2_with fail
      go_loopw [8] (fun i wr => ∃ (j : Nat) (v : Value), j ≤ ks.length ∧ i = .int .i64 j ∧ OwnEx wr (w.heap.size + 3) ((ks.map (renE f t)).take j) v ∧ Blk wr w.heap.size 32 #[.int .i64 2, .int .i64 n, .int .i64 m, .string nm, .int .i64 vk, .int .i64 vn, .string vs, .int .i64 f, .string cl, .string at_, .slice A ks.length c] ∧ Blk wr (w.heap.size + 1 + 1) 32 #[.int .i64 2, .int .i64 n, .int .i64 m, .string nm, .int .i64 vk, .int .i64 vn, .string vs, .int .i64 t, .string cl, .string at_, v] ∧ Blk wr (w.heap.size + 1) 32 zero11 ∧ Below w.heap.size w wr ∧ w.heap.size + 3 ≤ wr.heap.size) (fun i _ => ks.length - (intOf i).toNat)
      case atStart => exact ⟨0, .slice none 0 0, Nat.zero_le _, rfl, OwnEx.nil _ _, hx1, ho1, hr1, hb1, hs1⟩
      case round =>
        clear hx1 hr1 ho1 hb1 hs1
        obtain ⟨j, v, hjl, rfl, hown, hx, ho, hr, hbw, hs⟩ := hrel
        have cx := hx.cell
        by_cases hlt : j < ks.length
        · obtain ⟨rfl, hbB⟩ := hA (by omega)
          have hrk := (hrow j hlt).below hbw (by omega)
          obtain ⟨hk', kk, Ak, ck, hek, hcs, hl'⟩ := (hk j hlt).form
          have hkk := (hk j hlt).carry (hbw.mono hB)
          have hsz' := hsz j
          rw [hcs] at hrk hkk hsz'
          have HI := Lib.hid (ih j hlt (hk'.cells (.slice Ak kk.length ck)))
          clear ih hA hrow hk hcs hsz hek
          unfold Hd.cells at hrk HI hkk
          have hbwr : b < wr.heap.size := by omega
          have hBwr : B ≤ wr.heap.size := by omega
          go_upto_region 8 with fail
          clear cx
          refine wp_rely_tail 11 (by kernel_rfl) (by kernel_rfl) (by decide) (by kernel_rfl) ?_
          simp only [List.take_succ_cons, List.take_zero, List.drop_succ_cons, List.drop_zero]
          apply RelyL.val
          · intro ν w' hL hF K hK
            have cx := (hx.lat hL).cell
            have co := (ho.lat hL).cell
            go_simp
            exact hK.out _ _ rfl (Lat.refl _)
          simp only [Act.put, List.setIfInBounds_toArray, List.set_cons_zero, List.set_cons_succ, Nat.reduceAdd]
          apply RelyL.val
          · intro ν w' hL hF K hK
            have cx := (hx.lat hL).cell
            have co := (ho.lat hL).cell
            go_simp
            exact hK.out _ _ rfl (Lat.refl _)
          simp only [Act.put, List.setIfInBounds_toArray, List.set_cons_zero, List.set_cons_succ, Nat.reduceAdd]
          apply RelyL.val
          · intro ν w' hL hF K hK
            have cx := (hx.lat hL).cell
            have co := (ho.lat hL).cell
            go_simp
            exact hK.out _ _ rfl (Lat.refl _)
          simp only [Act.put, List.setIfInBounds_toArray, List.set_cons_zero, List.set_cons_succ, Nat.reduceAdd]
          apply RelyL.val
          · intro ν w' hL hF K hK
            have cx := (hx.lat hL).cell
            have co := (ho.lat hL).cell
            go_simp
            exact hK.out _ _ rfl (Lat.refl _)
          simp only [Act.put, List.setIfInBounds_toArray, List.set_cons_zero, List.set_cons_succ, Nat.reduceAdd]
          apply RelyL.val
          · intro ν w' hL hF K hK
            have cx := (hx.lat hL).cell
            have co := (ho.lat hL).cell
            go_simp
            exact hK.out _ _ rfl (Lat.refl _)
          simp only [Act.put, List.setIfInBounds_toArray, List.set_cons_zero, List.set_cons_succ, Nat.reduceAdd]
          apply RelyL.val
          · intro ν w' hL hF K hK
            have cx := (hx.lat hL).cell
            have co := (ho.lat hL).cell
            go_simp
            exact hK.out _ _ rfl (Lat.refl _)
          simp only [Act.put, List.setIfInBounds_toArray, List.set_cons_zero, List.set_cons_succ, Nat.reduceAdd]
          apply RelyL.val
          · intro ν w' hL hF K hK
            refine take_op rfl ?_
            refine wp_load_at 32 _ rfl b (off + j * 11) rfl _ _ (hrk.below hL hbwr) Try.underlying32 rfl (by kernel_rfl : (Try.prog.info? 32).map (·.size) = some 11) ?_
            exact hK.out _ _ rfl (Lat.refl _)
          simp only [Act.put, List.setIfInBounds_toArray, List.set_cons_zero, List.set_cons_succ, Nat.reduceAdd]
          apply RelyL.val
          · intro ν w' hL hF K hK
            have cx := (hx.lat hL).cell
            have co := (ho.lat hL).cell
            go_simp
            exact hK.out _ _ rfl (Lat.refl _)
          simp only [Act.put, List.setIfInBounds_toArray, List.set_cons_zero, List.set_cons_succ, Nat.reduceAdd]
          apply RelyL.val
          · intro ν w' hL hF K hK
            have cx := (hx.lat hL).cell
            have co := (ho.lat hL).cell
            go_simp
            exact hK.out _ _ rfl (Lat.refl _)
          simp only [Act.put, List.setIfInBounds_toArray, List.set_cons_zero, List.set_cons_succ, Nat.reduceAdd]
          refine RelyL.law (Ex (wr.heap.size ≤ ·) (renE f t ks[j])) (fun v w1 w2 hl h => Ex.lat h hl) (fun ν w' hL hF K hK => ?_) ?_
          · have HI1 := HI.out w'.heap.size w' (Nat.le_refl _) (hkk.lat hBwr hL)
            go_simp
            go_at_call 40
            with_reducible refine HI1.mono ?_
            rintro r w'' ⟨⟨v', rfl, hv'⟩, hb⟩
            exact hK.out _ _ _ rfl (hv'.mono (fun b hb' _ => Nat.le_trans hL.size hb')) hb
          simp only [Act.put, List.setIfInBounds_toArray, List.set_cons_zero, List.set_cons_succ, Nat.reduceAdd]
          refine RelyL.law (fun v w => ∃ g cs', v = .slice (some ⟨g, 0, none⟩) 1 1 ∧ Blk w g 32 cs'.toArray ∧ IsExprP (wr.heap.size ≤ ·) w (renE f t ks[j]) cs') (fun v w1 w2 hl h => by obtain ⟨g, cs', h1, h2, h3⟩ := h; exact ⟨g, cs', h1, h2.lat hl, h3.lat hl⟩) (fun ν w' hL hF K hK => ?_) ?_
          · have h4 := hF.get 0 rfl (by kernel_rfl)
            dsimp only at h4
            generalize ν 9 = x4 at *
            obtain ⟨cs', rfl, he'⟩ := h4
            obtain ⟨hd2, k2, A2, c2, hcs2⟩ := he'.form
            subst hcs2
            clear hF
            unfold Hd.cells at *
            go_simp
            exact hK.out _ _ _ rfl ⟨_, _, rfl, Blk.new _ _ _, he'.lat (Lat.al _ _)⟩ (Lat.al _ _)
          simp only [Act.put, List.setIfInBounds_toArray, List.set_cons_zero, List.set_cons_succ, Nat.reduceAdd]
          refine RelyL.done fun ν w5 hL hF => ?_
          have h5 := hF.get 0 rfl
          dsimp only at h5
          generalize ν 9 = x4 at *
          generalize ν 10 = x5 at *
          obtain ⟨g5, cs5, rfl, hb5, he5⟩ := h5
          clear hF
          have hx5 := hx.lat hL
          have ho5 := ho.lat hL
          have hr5 := hr.lat hL
          have own5 := hown.lat hL
          have hbw5 := hbw.th hL
          have hs5 := hL.size
          have hlen5 : ((ks.map (renE f t)).take j).length = j := by rw [List.length_take, List.length_map]; omega
          have hb8 : (((ks.map (renE f t)).take j).length + 1) * 136 ≤ 140737488351232 := by rw [hlen5]; omega
          have he5' : IsExprP (fun b => w.heap.size + 3 ≤ b ∧ some b ≠ v.ownBlock) w5 (renE f t ks[j]) cs5 := he5.mono (fun b hb hl => ⟨by omega, fun hc => by have := (hown.size b hc.symm).2; omega⟩)
          have hnx : some w.heap.size ≠ v.ownBlock := fun hc => by have := (hown.size _ hc.symm).1; omega
          have hno : some (w.heap.size + 1 + 1) ≠ v.ownBlock := fun hc => by have := (hown.size _ hc.symm).1; omega
          have hnr : some (w.heap.size + 1) ≠ v.ownBlock := fun hc => by have := (hown.size _ hc.symm).1; omega
          have hbo : ∀ k, v.ownBlock = some k → w.heap.size ≤ k := fun k hc => by have := (hown.size _ hc).1; omega
          have htk : (ks.map (renE f t)).take j ++ [renE f t ks[j]] = (ks.map (renE f t)).take (j + 1) := by
            rw [List.take_succ_eq_append_getElem (by simpa using hlt)]; simp
          have HTK := Lib.hid htk
          have hl6 : ((ks.map (renE f t)).take (j + 1)).length = j + 1 := by rw [List.length_take, List.length_map]; omega
          have HL6 := Lib.hid hl6
          clear hl6 hx ho hr hown hbw HI hkk hL he5 hlen5 htk hrk
          go_wp2_with (at_builtin; refine append_ex rfl _ _ rfl (w.heap.size + 3) _ v rfl own5 g5 1 _ cs5 rfl 32 hb5 he5' hb8 (by omega) ?_; intro v6 w6 own6 hg6; go_must (have hx6 := hx5.grown hg6 hnx; have ho6 := ho5.grown hg6 hno; have hr6 := hr5.grown hg6 hnr; have hbw6 := hbw5.grown hg6 (by omega) hbo; have hs6 := hg6.size; have cx6 := ho6.cell; have fx6 := ho6.free; rw [HTK.out] at own6; obtain ⟨A6, c6, hv6⟩ := own6.slice; rw [HL6.out] at hv6; subst hv6; clear HL6 own5 hb5 he5' hx5 ho5 hr5 hbw5 hg6 hnx hno hnr hbo HTK))
          go_roundw
          case rel =>
            refine ⟨j + 1, _, by omega, by go_num, own6.carry (fun k hk _ => heap_setCell_other _ _ _ _ (by dsimp only; omega)), hx6.far (by omega) 10 _, ho6.set 10 _, hr6.far (by omega) 10 _, hbw6.setCell (p := ⟨w.heap.size + 1 + 1, 10, none⟩) (by dsimp only; omega) _, by simp; omega⟩
          case measure => simp [intOf]; omega
        · have hj : j = ks.length := by omega
          subst hj
          have hall : (ks.map (renE f t)).take ks.length = ks.map (renE f t) := List.take_of_length_le (by simp)
          rw [hall] at hown
          obtain ⟨A', c', hv⟩ := hown.slice
          rw [List.length_map] at hv
          subst hv
          have hnode := hown.node ⟨2, n, m, nm, vk, vn, vs, t, cl, at_⟩ (okH hok ht) (by simpa using hlen)
          clear hown hA hrow hk ih hall hsz
          have co := ho.cell
          have hr3 := hr.setRow #[.int .i64 2, .int .i64 n, .int .i64 m, .string nm, .int .i64 vk, .int .i64 vn, .string vs, .int .i64 t, .string cl, .string at_, .slice A' ks.length c']
          have he3 : IsExprP (w.heap.size ≤ ·) (wr.setRow (w.heap.size + 1) #[.int .i64 2, .int .i64 n, .int .i64 m, .string nm, .int .i64 vk, .int .i64 vn, .string vs, .int .i64 t, .string cl, .string at_, .slice A' ks.length c']) _ _ :=
            (hnode.carry (fun b hb _ => setRow_other _ _ _ _ (by omega))).mono (fun b hb _ => by omega)
          have hbw3 : Below w.heap.size w (wr.setRow (w.heap.size + 1) #[.int .i64 2, .int .i64 n, .int .i64 m, .string nm, .int .i64 vk, .int .i64 vn, .string vs, .int .i64 t, .string cl, .string at_, .slice A' ks.length c']) := below_setRow hbw (by omega) _
          clear hnode
          unfold Hd.cells at he3
          go_wp2_with (refine wpList_store_row rfl 32 _ _ rfl (w.heap.size + 1) _ rfl rfl 32 _ hr (by kernel_rfl : (Try.prog.info? 32).map (·.size) = some 11) rfl (cells_one ⟨2, n, m, nm, vk, vn, vs, t, cl, at_⟩ A' ks.length c') ?_)
          have cR := hr3.cell
          refine bodyPost_ret (v := ?_) ?_ rfl ?_
          rotate_left
          · simp [results, Try.results40, go_sem, cR]; exact rfl
          exact ⟨⟨_, rfl, _, rfl, he3⟩, hbw3⟩
    · have q2 : (dv == f) = false := by simpa using hv
      have e1 : renH f t ⟨2, n, m, nm, vk, vn, vs, dv, cl, at_⟩ = ⟨2, n, m, nm, vk, vn, vs, dv, cl, at_⟩ := if_neg (fun h => hv h.2)
      rw [e1]
      go_enter Try.func40, Try.ntmps40
      go_upto_region 5 with fail
      have hb1 : Below w.heap.size w (((w.alloc (.cells #[.int .i64 2, .int .i64 n, .int .i64 m, .string nm, .int .i64 vk, .int .i64 vn, .string vs, .int .i64 dv, .string cl, .string at_, .slice A ks.length c] 32)).alloc (.cells #[.int .i64 0, .int .i64 0, .int .i64 0, .string { data := #[] }, .int .i64 0, .int .i64 0, .string { data := #[] }, .int .i64 0, .string { data := #[] }, .string { data := #[] }, .slice none 0 0] 32)).alloc (.cells #[.int .i64 2, .int .i64 n, .int .i64 m, .string nm, .int .i64 vk, .int .i64 vn, .string vs, .int .i64 dv, .string cl, .string at_, .slice none 0 0] 32)) := (((Below.refl _ _).al _).al _).al _
      have hx1 : Blk (((w.alloc (.cells #[.int .i64 2, .int .i64 n, .int .i64 m, .string nm, .int .i64 vk, .int .i64 vn, .string vs, .int .i64 dv, .string cl, .string at_, .slice A ks.length c] 32)).alloc (.cells #[.int .i64 0, .int .i64 0, .int .i64 0, .string { data := #[] }, .int .i64 0, .int .i64 0, .string { data := #[] }, .int .i64 0, .string { data := #[] }, .string { data := #[] }, .slice none 0 0] 32)).alloc (.cells #[.int .i64 2, .int .i64 n, .int .i64 m, .string nm, .int .i64 vk, .int .i64 vn, .string vs, .int .i64 dv, .string cl, .string at_, .slice none 0 0] 32)) w.heap.size 32 #[.int .i64 2, .int .i64 n, .int .i64 m, .string nm, .int .i64 vk, .int .i64 vn, .string vs, .int .i64 dv, .string cl, .string at_, .slice A ks.length c] := ((Blk.new _ _ _).alloc _).alloc _
      have hr1 : Blk (((w.alloc (.cells #[.int .i64 2, .int .i64 n, .int .i64 m, .string nm, .int .i64 vk, .int .i64 vn, .string vs, .int .i64 dv, .string cl, .string at_, .slice A ks.length c] 32)).alloc (.cells #[.int .i64 0, .int .i64 0, .int .i64 0, .string { data := #[] }, .int .i64 0, .int .i64 0, .string { data := #[] }, .int .i64 0, .string { data := #[] }, .string { data := #[] }, .slice none 0 0] 32)).alloc (.cells #[.int .i64 2, .int .i64 n, .int .i64 m, .string nm, .int .i64 vk, .int .i64 vn, .string vs, .int .i64 dv, .string cl, .string at_, .slice none 0 0] 32)) (w.heap.size + 1) 32 zero11 := (Blk.at1 _ _ _ _).alloc _
      have ho1 : Blk (((w.alloc (.cells #[.int .i64 2, .int .i64 n, .int .i64 m, .string nm, .int .i64 vk, .int .i64 vn, .string vs, .int .i64 dv, .string cl, .string at_, .slice A ks.length c] 32)).alloc (.cells #[.int .i64 0, .int .i64 0, .int .i64 0, .string { data := #[] }, .int .i64 0, .int .i64 0, .string { data := #[] }, .int .i64 0, .string { data := #[] }, .string { data := #[] }, .slice none 0 0] 32)).alloc (.cells #[.int .i64 2, .int .i64 n, .int .i64 m, .string nm, .int .i64 vk, .int .i64 vn, .string vs, .int .i64 dv, .string cl, .string at_, .slice none 0 0] 32)) (w.heap.size + 1 + 1) 32 #[.int .i64 2, .int .i64 n, .int .i64 m, .string nm, .int .i64 vk, .int .i64 vn, .string vs, .int .i64 dv, .string cl, .string at_, .slice none 0 0] := Blk.at2 _ _ _ _ _
      have hs1 : w.heap.size + 3 ≤ (((w.alloc (.cells #[.int .i64 2, .int .i64 n, .int .i64 m, .string nm, .int .i64 vk, .int .i64 vn, .string vs, .int .i64 dv, .string cl, .string at_, .slice A ks.length c] 32)).alloc (.cells #[.int .i64 0, .int .i64 0, .int .i64 0, .string { data := #[] }, .int .i64 0, .int .i64 0, .string { data := #[] }, .int .i64 0, .string { data := #[] }, .string { data := #[] }, .slice none 0 0] 32)).alloc (.cells #[.int .i64 2, .int .i64 n, .int .i64 m, .string nm, .int .i64 vk, .int .i64 vn, .string vs, .int .i64 dv, .string cl, .string at_, .slice none 0 0] 32)).heap.size := by simp
      generalize (((w.alloc (.cells #[.int .i64 2, .int .i64 n, .int .i64 m, .string nm, .int .i64 vk, .int .i64 vn, .string vs, .int .i64 dv, .string cl, .string at_, .slice A ks.length c] 32)).alloc (.cells #[.int .i64 0, .int .i64 0, .int .i64 0, .string { data := #[] }, .int .i64 0, .int .i64 0, .string { data := #[] }, .int .i64 0, .string { data := #[] }, .string { data := #[] }, .slice none 0 0] 32)).alloc (.cells #[.int .i64 2, .int .i64 n, .int .i64 m, .string nm, .int .i64 vk, .int .i64 vn, .string vs, .int .i64 dv, .string cl, .string at_, .slice none 0 0] 32)) = WA at *
      go_wp2_with fail
      go_loopw [8] (fun i wr => ∃ (j : Nat) (v : Value), j ≤ ks.length ∧ i = .int .i64 j ∧ OwnEx wr (w.heap.size + 3) ((ks.map (renE f t)).take j) v ∧ Blk wr w.heap.size 32 #[.int .i64 2, .int .i64 n, .int .i64 m, .string nm, .int .i64 vk, .int .i64 vn, .string vs, .int .i64 dv, .string cl, .string at_, .slice A ks.length c] ∧ Blk wr (w.heap.size + 1 + 1) 32 #[.int .i64 2, .int .i64 n, .int .i64 m, .string nm, .int .i64 vk, .int .i64 vn, .string vs, .int .i64 dv, .string cl, .string at_, v] ∧ Blk wr (w.heap.size + 1) 32 zero11 ∧ Below w.heap.size w wr ∧ w.heap.size + 3 ≤ wr.heap.size) (fun i _ => ks.length - (intOf i).toNat)
      case atStart => exact ⟨0, .slice none 0 0, Nat.zero_le _, rfl, OwnEx.nil _ _, hx1, ho1, hr1, hb1, hs1⟩
      case round =>
        clear hx1 hr1 ho1 hb1 hs1
        obtain ⟨j, v, hjl, rfl, hown, hx, ho, hr, hbw, hs⟩ := hrel
        have cx := hx.cell
        by_cases hlt : j < ks.length
        · obtain ⟨rfl, hbB⟩ := hA (by omega)
          have hrk := (hrow j hlt).below hbw (by omega)
          obtain ⟨hk', kk, Ak, ck, hek, hcs, hl'⟩ := (hk j hlt).form
          have hkk := (hk j hlt).carry (hbw.mono hB)
          have hsz' := hsz j
          rw [hcs] at hrk hkk hsz'
          have HI := Lib.hid (ih j hlt (hk'.cells (.slice Ak kk.length ck)))
          clear ih hA hrow hk hcs hsz hek
          unfold Hd.cells at hrk HI hkk
          have hbwr : b < wr.heap.size := by omega
          have hBwr : B ≤ wr.heap.size := by omega
          go_upto_region 8 with fail
          clear cx
          refine wp_rely_tail 11 (by kernel_rfl) (by kernel_rfl) (by decide) (by kernel_rfl) ?_
          simp only [List.take_succ_cons, List.take_zero, List.drop_succ_cons, List.drop_zero]
          apply RelyL.val
          · intro ν w' hL hF K hK
            have cx := (hx.lat hL).cell
            have co := (ho.lat hL).cell
            go_simp
            exact hK.out _ _ rfl (Lat.refl _)
          simp only [Act.put, List.setIfInBounds_toArray, List.set_cons_zero, List.set_cons_succ, Nat.reduceAdd]
          apply RelyL.val
          · intro ν w' hL hF K hK
            have cx := (hx.lat hL).cell
            have co := (ho.lat hL).cell
            go_simp
            exact hK.out _ _ rfl (Lat.refl _)
          simp only [Act.put, List.setIfInBounds_toArray, List.set_cons_zero, List.set_cons_succ, Nat.reduceAdd]
          apply RelyL.val
          · intro ν w' hL hF K hK
            have cx := (hx.lat hL).cell
            have co := (ho.lat hL).cell
            go_simp
            exact hK.out _ _ rfl (Lat.refl _)
          simp only [Act.put, List.setIfInBounds_toArray, List.set_cons_zero, List.set_cons_succ, Nat.reduceAdd]
          apply RelyL.val
          · intro ν w' hL hF K hK
            have cx := (hx.lat hL).cell
            have co := (ho.lat hL).cell
            go_simp
            exact hK.out _ _ rfl (Lat.refl _)
          simp only [Act.put, List.setIfInBounds_toArray, List.set_cons_zero, List.set_cons_succ, Nat.reduceAdd]
          apply RelyL.val
          · intro ν w' hL hF K hK
            have cx := (hx.lat hL).cell
            have co := (ho.lat hL).cell
            go_simp
            exact hK.out _ _ rfl (Lat.refl _)
          simp only [Act.put, List.setIfInBounds_toArray, List.set_cons_zero, List.set_cons_succ, Nat.reduceAdd]
          apply RelyL.val
          · intro ν w' hL hF K hK
            have cx := (hx.lat hL).cell
            have co := (ho.lat hL).cell
            go_simp
            exact hK.out _ _ rfl (Lat.refl _)
          simp only [Act.put, List.setIfInBounds_toArray, List.set_cons_zero, List.set_cons_succ, Nat.reduceAdd]
          apply RelyL.val
          · intro ν w' hL hF K hK
            refine take_op rfl ?_
            refine wp_load_at 32 _ rfl b (off + j * 11) rfl _ _ (hrk.below hL hbwr) Try.underlying32 rfl (by kernel_rfl : (Try.prog.info? 32).map (·.size) = some 11) ?_
            exact hK.out _ _ rfl (Lat.refl _)
          simp only [Act.put, List.setIfInBounds_toArray, List.set_cons_zero, List.set_cons_succ, Nat.reduceAdd]
          apply RelyL.val
          · intro ν w' hL hF K hK
            have cx := (hx.lat hL).cell
            have co := (ho.lat hL).cell
            go_simp
            exact hK.out _ _ rfl (Lat.refl _)
          simp only [Act.put, List.setIfInBounds_toArray, List.set_cons_zero, List.set_cons_succ, Nat.reduceAdd]
          apply RelyL.val
          · intro ν w' hL hF K hK
            have cx := (hx.lat hL).cell
            have co := (ho.lat hL).cell
            go_simp
            exact hK.out _ _ rfl (Lat.refl _)
          simp only [Act.put, List.setIfInBounds_toArray, List.set_cons_zero, List.set_cons_succ, Nat.reduceAdd]
          refine RelyL.law (Ex (wr.heap.size ≤ ·) (renE f t ks[j])) (fun v w1 w2 hl h => Ex.lat h hl) (fun ν w' hL hF K hK => ?_) ?_
          · have HI1 := HI.out w'.heap.size w' (Nat.le_refl _) (hkk.lat hBwr hL)
            go_simp
            go_at_call 40
            with_reducible refine HI1.mono ?_
            rintro r w'' ⟨⟨v', rfl, hv'⟩, hb⟩
            exact hK.out _ _ _ rfl (hv'.mono (fun b hb' _ => Nat.le_trans hL.size hb')) hb
          simp only [Act.put, List.setIfInBounds_toArray, List.set_cons_zero, List.set_cons_succ, Nat.reduceAdd]
          refine RelyL.law (fun v w => ∃ g cs', v = .slice (some ⟨g, 0, none⟩) 1 1 ∧ Blk w g 32 cs'.toArray ∧ IsExprP (wr.heap.size ≤ ·) w (renE f t ks[j]) cs') (fun v w1 w2 hl h => by obtain ⟨g, cs', h1, h2, h3⟩ := h; exact ⟨g, cs', h1, h2.lat hl, h3.lat hl⟩) (fun ν w' hL hF K hK => ?_) ?_
          · have h4 := hF.get 0 rfl (by kernel_rfl)
            dsimp only at h4
            generalize ν 9 = x4 at *
            obtain ⟨cs', rfl, he'⟩ := h4
            obtain ⟨hd2, k2, A2, c2, hcs2⟩ := he'.form
            subst hcs2
            clear hF
            unfold Hd.cells at *
            go_simp
            exact hK.out _ _ _ rfl ⟨_, _, rfl, Blk.new _ _ _, he'.lat (Lat.al _ _)⟩ (Lat.al _ _)
          simp only [Act.put, List.setIfInBounds_toArray, List.set_cons_zero, List.set_cons_succ, Nat.reduceAdd]
          refine RelyL.done fun ν w5 hL hF => ?_
          have h5 := hF.get 0 rfl
          dsimp only at h5
          generalize ν 9 = x4 at *
          generalize ν 10 = x5 at *
          obtain ⟨g5, cs5, rfl, hb5, he5⟩ := h5
          clear hF
          have hx5 := hx.lat hL
          have ho5 := ho.lat hL
          have hr5 := hr.lat hL
          have own5 := hown.lat hL
          have hbw5 := hbw.th hL
          have hs5 := hL.size
          have hlen5 : ((ks.map (renE f t)).take j).length = j := by rw [List.length_take, List.length_map]; omega
          have hb8 : (((ks.map (renE f t)).take j).length + 1) * 136 ≤ 140737488351232 := by rw [hlen5]; omega
          have he5' : IsExprP (fun b => w.heap.size + 3 ≤ b ∧ some b ≠ v.ownBlock) w5 (renE f t ks[j]) cs5 := he5.mono (fun b hb hl => ⟨by omega, fun hc => by have := (hown.size b hc.symm).2; omega⟩)
          have hnx : some w.heap.size ≠ v.ownBlock := fun hc => by have := (hown.size _ hc.symm).1; omega
          have hno : some (w.heap.size + 1 + 1) ≠ v.ownBlock := fun hc => by have := (hown.size _ hc.symm).1; omega
          have hnr : some (w.heap.size + 1) ≠ v.ownBlock := fun hc => by have := (hown.size _ hc.symm).1; omega
          have hbo : ∀ k, v.ownBlock = some k → w.heap.size ≤ k := fun k hc => by have := (hown.size _ hc).1; omega
          have htk : (ks.map (renE f t)).take j ++ [renE f t ks[j]] = (ks.map (renE f t)).take (j + 1) := by
            rw [List.take_succ_eq_append_getElem (by simpa using hlt)]; simp
          have HTK := Lib.hid htk
          have hl6 : ((ks.map (renE f t)).take (j + 1)).length = j + 1 := by rw [List.length_take, List.length_map]; omega
          have HL6 := Lib.hid hl6
          clear hl6 hx ho hr hown hbw HI hkk hL he5 hlen5 htk hrk
          go_wp2_with (at_builtin; refine append_ex rfl _ _ rfl (w.heap.size + 3) _ v rfl own5 g5 1 _ cs5 rfl 32 hb5 he5' hb8 (by omega) ?_; intro v6 w6 own6 hg6; go_must (have hx6 := hx5.grown hg6 hnx; have ho6 := ho5.grown hg6 hno; have hr6 := hr5.grown hg6 hnr; have hbw6 := hbw5.grown hg6 (by omega) hbo; have hs6 := hg6.size; have cx6 := ho6.cell; have fx6 := ho6.free; rw [HTK.out] at own6; obtain ⟨A6, c6, hv6⟩ := own6.slice; rw [HL6.out] at hv6; subst hv6; clear HL6 own5 hb5 he5' hx5 ho5 hr5 hbw5 hg6 hnx hno hnr hbo HTK))
          go_roundw
          case rel =>
            refine ⟨j + 1, _, by omega, by go_num, own6.carry (fun k hk _ => heap_setCell_other _ _ _ _ (by dsimp only; omega)), hx6.far (by omega) 10 _, ho6.set 10 _, hr6.far (by omega) 10 _, hbw6.setCell (p := ⟨w.heap.size + 1 + 1, 10, none⟩) (by dsimp only; omega) _, by simp; omega⟩
          case measure => simp [intOf]; omega
        · have hj : j = ks.length := by omega
          subst hj
          have hall : (ks.map (renE f t)).take ks.length = ks.map (renE f t) := List.take_of_length_le (by simp)
          rw [hall] at hown
          obtain ⟨A', c', hv⟩ := hown.slice
          rw [List.length_map] at hv
          subst hv
          have hnode := hown.node ⟨2, n, m, nm, vk, vn, vs, dv, cl, at_⟩ hok (by simpa using hlen)
          clear hown hA hrow hk ih hall hsz
          have co := ho.cell
          have hr3 := hr.setRow #[.int .i64 2, .int .i64 n, .int .i64 m, .string nm, .int .i64 vk, .int .i64 vn, .string vs, .int .i64 dv, .string cl, .string at_, .slice A' ks.length c']
          have he3 : IsExprP (w.heap.size ≤ ·) (wr.setRow (w.heap.size + 1) #[.int .i64 2, .int .i64 n, .int .i64 m, .string nm, .int .i64 vk, .int .i64 vn, .string vs, .int .i64 dv, .string cl, .string at_, .slice A' ks.length c']) _ _ :=
            (hnode.carry (fun b hb _ => setRow_other _ _ _ _ (by omega))).mono (fun b hb _ => by omega)
          have hbw3 : Below w.heap.size w (wr.setRow (w.heap.size + 1) #[.int .i64 2, .int .i64 n, .int .i64 m, .string nm, .int .i64 vk, .int .i64 vn, .string vs, .int .i64 dv, .string cl, .string at_, .slice A' ks.length c']) := below_setRow hbw (by omega) _
          clear hnode
          unfold Hd.cells at he3
          go_wp2_with (refine wpList_store_row rfl 32 _ _ rfl (w.heap.size + 1) _ rfl rfl 32 _ hr (by kernel_rfl : (Try.prog.info? 32).map (·.size) = some 11) rfl (cells_one ⟨2, n, m, nm, vk, vn, vs, dv, cl, at_⟩ A' ks.length c') ?_)
          have cR := hr3.cell
          refine bodyPost_ret (v := ?_) ?_ rfl ?_
          rotate_left
          · simp [results, Try.results40, go_sem, cR]; exact rfl
          exact ⟨⟨_, rfl, _, rfl, he3⟩, hbw3⟩
  · have q1 : (kd == 2) = false := by simpa using hkd
    have e1 : renH f t ⟨kd, n, m, nm, vk, vn, vs, dv, cl, at_⟩ = ⟨kd, n, m, nm, vk, vn, vs, dv, cl, at_⟩ := if_neg (fun h => hkd h.1)
    rw [e1]
    go_enter Try.func40, Try.ntmps40
    go_upto_region 5 with fail
    have hb1 : Below w.heap.size w (((w.alloc (.cells #[.int .i64 kd, .int .i64 n, .int .i64 m, .string nm, .int .i64 vk, .int .i64 vn, .string vs, .int .i64 dv, .string cl, .string at_, .slice A ks.length c] 32)).alloc (.cells #[.int .i64 0, .int .i64 0, .int .i64 0, .string { data := #[] }, .int .i64 0, .int .i64 0, .string { data := #[] }, .int .i64 0, .string { data := #[] }, .string { data := #[] }, .slice none 0 0] 32)).alloc (.cells #[.int .i64 kd, .int .i64 n, .int .i64 m, .string nm, .int .i64 vk, .int .i64 vn, .string vs, .int .i64 dv, .string cl, .string at_, .slice none 0 0] 32)) := (((Below.refl _ _).al _).al _).al _
    have hx1 : Blk (((w.alloc (.cells #[.int .i64 kd, .int .i64 n, .int .i64 m, .string nm, .int .i64 vk, .int .i64 vn, .string vs, .int .i64 dv, .string cl, .string at_, .slice A ks.length c] 32)).alloc (.cells #[.int .i64 0, .int .i64 0, .int .i64 0, .string { data := #[] }, .int .i64 0, .int .i64 0, .string { data := #[] }, .int .i64 0, .string { data := #[] }, .string { data := #[] }, .slice none 0 0] 32)).alloc (.cells #[.int .i64 kd, .int .i64 n, .int .i64 m, .string nm, .int .i64 vk, .int .i64 vn, .string vs, .int .i64 dv, .string cl, .string at_, .slice none 0 0] 32)) w.heap.size 32 #[.int .i64 kd, .int .i64 n, .int .i64 m, .string nm, .int .i64 vk, .int .i64 vn, .string vs, .int .i64 dv, .string cl, .string at_, .slice A ks.length c] := ((Blk.new _ _ _).alloc _).alloc _
    have hr1 : Blk (((w.alloc (.cells #[.int .i64 kd, .int .i64 n, .int .i64 m, .string nm, .int .i64 vk, .int .i64 vn, .string vs, .int .i64 dv, .string cl, .string at_, .slice A ks.length c] 32)).alloc (.cells #[.int .i64 0, .int .i64 0, .int .i64 0, .string { data := #[] }, .int .i64 0, .int .i64 0, .string { data := #[] }, .int .i64 0, .string { data := #[] }, .string { data := #[] }, .slice none 0 0] 32)).alloc (.cells #[.int .i64 kd, .int .i64 n, .int .i64 m, .string nm, .int .i64 vk, .int .i64 vn, .string vs, .int .i64 dv, .string cl, .string at_, .slice none 0 0] 32)) (w.heap.size + 1) 32 zero11 := (Blk.at1 _ _ _ _).alloc _
    have ho1 : Blk (((w.alloc (.cells #[.int .i64 kd, .int .i64 n, .int .i64 m, .string nm, .int .i64 vk, .int .i64 vn, .string vs, .int .i64 dv, .string cl, .string at_, .slice A ks.length c] 32)).alloc (.cells #[.int .i64 0, .int .i64 0, .int .i64 0, .string { data := #[] }, .int .i64 0, .int .i64 0, .string { data := #[] }, .int .i64 0, .string { data := #[] }, .string { data := #[] }, .slice none 0 0] 32)).alloc (.cells #[.int .i64 kd, .int .i64 n, .int .i64 m, .string nm, .int .i64 vk, .int .i64 vn, .string vs, .int .i64 dv, .string cl, .string at_, .slice none 0 0] 32)) (w.heap.size + 1 + 1) 32 #[.int .i64 kd, .int .i64 n, .int .i64 m, .string nm, .int .i64 vk, .int .i64 vn, .string vs, .int .i64 dv, .string cl, .string at_, .slice none 0 0] := Blk.at2 _ _ _ _ _
    have hs1 : w.heap.size + 3 ≤ (((w.alloc (.cells #[.int .i64 kd, .int .i64 n, .int .i64 m, .string nm, .int .i64 vk, .int .i64 vn, .string vs, .int .i64 dv, .string cl, .string at_, .slice A ks.length c] 32)).alloc (.cells #[.int .i64 0, .int .i64 0, .int .i64 0, .string { data := #[] }, .int .i64 0, .int .i64 0, .string { data := #[] }, .int .i64 0, .string { data := #[] }, .string { data := #[] }, .slice none 0 0] 32)).alloc (.cells #[.int .i64 kd, .int .i64 n, .int .i64 m, .string nm, .int .i64 vk, .int .i64 vn, .string vs, .int .i64 dv, .string cl, .string at_, .slice none 0 0] 32)).heap.size := by simp
    generalize (((w.alloc (.cells #[.int .i64 kd, .int .i64 n, .int .i64 m, .string nm, .int .i64 vk, .int .i64 vn, .string vs, .int .i64 dv, .string cl, .string at_, .slice A ks.length c] 32)).alloc (.cells #[.int .i64 0, .int .i64 0, .int .i64 0, .string { data := #[] }, .int .i64 0, .int .i64 0, .string { data := #[] }, .int .i64 0, .string { data := #[] }, .string { data := #[] }, .slice none 0 0] 32)).alloc (.cells #[.int .i64 kd, .int .i64 n, .int .i64 m, .string nm, .int .i64 vk, .int .i64 vn, .string vs, .int .i64 dv, .string cl, .string at_, .slice none 0 0] 32)) = WA at *
    go_wp2_with fail
    go_loopw [8] (fun i wr => ∃ (j : Nat) (v : Value), j ≤ ks.length ∧ i = .int .i64 j ∧ OwnEx wr (w.heap.size + 3) ((ks.map (renE f t)).take j) v ∧ Blk wr w.heap.size 32 #[.int .i64 kd, .int .i64 n, .int .i64 m, .string nm, .int .i64 vk, .int .i64 vn, .string vs, .int .i64 dv, .string cl, .string at_, .slice A ks.length c] ∧ Blk wr (w.heap.size + 1 + 1) 32 #[.int .i64 kd, .int .i64 n, .int .i64 m, .string nm, .int .i64 vk, .int .i64 vn, .string vs, .int .i64 dv, .string cl, .string at_, v] ∧ Blk wr (w.heap.size + 1) 32 zero11 ∧ Below w.heap.size w wr ∧ w.heap.size + 3 ≤ wr.heap.size) (fun i _ => ks.length - (intOf i).toNat)
    case atStart => exact ⟨0, .slice none 0 0, Nat.zero_le _, rfl, OwnEx.nil _ _, hx1, ho1, hr1, hb1, hs1⟩
    case round =>
      clear hx1 hr1 ho1 hb1 hs1
      obtain ⟨j, v, hjl, rfl, hown, hx, ho, hr, hbw, hs⟩ := hrel
      have cx := hx.cell
      by_cases hlt : j < ks.length
      · obtain ⟨rfl, hbB⟩ := hA (by omega)
        have hrk := (hrow j hlt).below hbw (by omega)
        obtain ⟨hk', kk, Ak, ck, hek, hcs, hl'⟩ := (hk j hlt).form
        have hkk := (hk j hlt).carry (hbw.mono hB)
        have hsz' := hsz j
        rw [hcs] at hrk hkk hsz'
        have HI := Lib.hid (ih j hlt (hk'.cells (.slice Ak kk.length ck)))
        clear ih hA hrow hk hcs hsz hek
        unfold Hd.cells at hrk HI hkk
        have hbwr : b < wr.heap.size := by omega
        have hBwr : B ≤ wr.heap.size := by omega
        go_upto_region 8 with fail
        clear cx
        refine wp_rely_tail 11 (by kernel_rfl) (by kernel_rfl) (by decide) (by kernel_rfl) ?_
        simp only [List.take_succ_cons, List.take_zero, List.drop_succ_cons, List.drop_zero]
        apply RelyL.val
        · intro ν w' hL hF K hK
          have cx := (hx.lat hL).cell
          have co := (ho.lat hL).cell
          go_simp
          exact hK.out _ _ rfl (Lat.refl _)
        simp only [Act.put, List.setIfInBounds_toArray, List.set_cons_zero, List.set_cons_succ, Nat.reduceAdd]
        apply RelyL.val
        · intro ν w' hL hF K hK
          have cx := (hx.lat hL).cell
          have co := (ho.lat hL).cell
          go_simp
          exact hK.out _ _ rfl (Lat.refl _)
        simp only [Act.put, List.setIfInBounds_toArray, List.set_cons_zero, List.set_cons_succ, Nat.reduceAdd]
        apply RelyL.val
        · intro ν w' hL hF K hK
          have cx := (hx.lat hL).cell
          have co := (ho.lat hL).cell
          go_simp
          exact hK.out _ _ rfl (Lat.refl _)
        simp only [Act.put, List.setIfInBounds_toArray, List.set_cons_zero, List.set_cons_succ, Nat.reduceAdd]
        apply RelyL.val
        · intro ν w' hL hF K hK
          have cx := (hx.lat hL).cell
          have co := (ho.lat hL).cell
          go_simp
          exact hK.out _ _ rfl (Lat.refl _)
        simp only [Act.put, List.setIfInBounds_toArray, List.set_cons_zero, List.set_cons_succ, Nat.reduceAdd]
        apply RelyL.val
        · intro ν w' hL hF K hK
          have cx := (hx.lat hL).cell
          have co := (ho.lat hL).cell
          go_simp
          exact hK.out _ _ rfl (Lat.refl _)
        simp only [Act.put, List.setIfInBounds_toArray, List.set_cons_zero, List.set_cons_succ, Nat.reduceAdd]
        apply RelyL.val
        · intro ν w' hL hF K hK
          have cx := (hx.lat hL).cell
          have co := (ho.lat hL).cell
          go_simp
          exact hK.out _ _ rfl (Lat.refl _)
        simp only [Act.put, List.setIfInBounds_toArray, List.set_cons_zero, List.set_cons_succ, Nat.reduceAdd]
        apply RelyL.val
        · intro ν w' hL hF K hK
          refine take_op rfl ?_
          refine wp_load_at 32 _ rfl b (off + j * 11) rfl _ _ (hrk.below hL hbwr) Try.underlying32 rfl (by kernel_rfl : (Try.prog.info? 32).map (·.size) = some 11) ?_
          exact hK.out _ _ rfl (Lat.refl _)
        simp only [Act.put, List.setIfInBounds_toArray, List.set_cons_zero, List.set_cons_succ, Nat.reduceAdd]
        apply RelyL.val
        · intro ν w' hL hF K hK
          have cx := (hx.lat hL).cell
          have co := (ho.lat hL).cell
          go_simp
          exact hK.out _ _ rfl (Lat.refl _)
        simp only [Act.put, List.setIfInBounds_toArray, List.set_cons_zero, List.set_cons_succ, Nat.reduceAdd]
        apply RelyL.val
        · intro ν w' hL hF K hK
          have cx := (hx.lat hL).cell
          have co := (ho.lat hL).cell
          go_simp
          exact hK.out _ _ rfl (Lat.refl _)
        simp only [Act.put, List.setIfInBounds_toArray, List.set_cons_zero, List.set_cons_succ, Nat.reduceAdd]
        refine RelyL.law (Ex (wr.heap.size ≤ ·) (renE f t ks[j])) (fun v w1 w2 hl h => Ex.lat h hl) (fun ν w' hL hF K hK => ?_) ?_
        · have HI1 := HI.out w'.heap.size w' (Nat.le_refl _) (hkk.lat hBwr hL)
          go_simp
          go_at_call 40
          with_reducible refine HI1.mono ?_
          rintro r w'' ⟨⟨v', rfl, hv'⟩, hb⟩
          exact hK.out _ _ _ rfl (hv'.mono (fun b hb' _ => Nat.le_trans hL.size hb')) hb
        simp only [Act.put, List.setIfInBounds_toArray, List.set_cons_zero, List.set_cons_succ, Nat.reduceAdd]
        refine RelyL.law (fun v w => ∃ g cs', v = .slice (some ⟨g, 0, none⟩) 1 1 ∧ Blk w g 32 cs'.toArray ∧ IsExprP (wr.heap.size ≤ ·) w (renE f t ks[j]) cs') (fun v w1 w2 hl h => by obtain ⟨g, cs', h1, h2, h3⟩ := h; exact ⟨g, cs', h1, h2.lat hl, h3.lat hl⟩) (fun ν w' hL hF K hK => ?_) ?_
        · have h4 := hF.get 0 rfl (by kernel_rfl)
          dsimp only at h4
          generalize ν 9 = x4 at *
          obtain ⟨cs', rfl, he'⟩ := h4
          obtain ⟨hd2, k2, A2, c2, hcs2⟩ := he'.form
          subst hcs2
          clear hF
          unfold Hd.cells at *
          go_simp
          exact hK.out _ _ _ rfl ⟨_, _, rfl, Blk.new _ _ _, he'.lat (Lat.al _ _)⟩ (Lat.al _ _)
        simp only [Act.put, List.setIfInBounds_toArray, List.set_cons_zero, List.set_cons_succ, Nat.reduceAdd]
        refine RelyL.done fun ν w5 hL hF => ?_
        have h5 := hF.get 0 rfl
        dsimp only at h5
        generalize ν 9 = x4 at *
        generalize ν 10 = x5 at *
        obtain ⟨g5, cs5, rfl, hb5, he5⟩ := h5
        clear hF
        have hx5 := hx.lat hL
        have ho5 := ho.lat hL
        have hr5 := hr.lat hL
        have own5 := hown.lat hL
        have hbw5 := hbw.th hL
        have hs5 := hL.size
        have hlen5 : ((ks.map (renE f t)).take j).length = j := by rw [List.length_take, List.length_map]; omega
        have hb8 : (((ks.map (renE f t)).take j).length + 1) * 136 ≤ 140737488351232 := by rw [hlen5]; omega
        have he5' : IsExprP (fun b => w.heap.size + 3 ≤ b ∧ some b ≠ v.ownBlock) w5 (renE f t ks[j]) cs5 := he5.mono (fun b hb hl => ⟨by omega, fun hc => by have := (hown.size b hc.symm).2; omega⟩)
        have hnx : some w.heap.size ≠ v.ownBlock := fun hc => by have := (hown.size _ hc.symm).1; omega
        have hno : some (w.heap.size + 1 + 1) ≠ v.ownBlock := fun hc => by have := (hown.size _ hc.symm).1; omega
        have hnr : some (w.heap.size + 1) ≠ v.ownBlock := fun hc => by have := (hown.size _ hc.symm).1; omega
        have hbo : ∀ k, v.ownBlock = some k → w.heap.size ≤ k := fun k hc => by have := (hown.size _ hc).1; omega
        have htk : (ks.map (renE f t)).take j ++ [renE f t ks[j]] = (ks.map (renE f t)).take (j + 1) := by
          rw [List.take_succ_eq_append_getElem (by simpa using hlt)]; simp
        have HTK := Lib.hid htk
        have hl6 : ((ks.map (renE f t)).take (j + 1)).length = j + 1 := by rw [List.length_take, List.length_map]; omega
        have HL6 := Lib.hid hl6
        clear hl6 hx ho hr hown hbw HI hkk hL he5 hlen5 htk hrk
        go_wp2_with (at_builtin; refine append_ex rfl _ _ rfl (w.heap.size + 3) _ v rfl own5 g5 1 _ cs5 rfl 32 hb5 he5' hb8 (by omega) ?_; intro v6 w6 own6 hg6; go_must (have hx6 := hx5.grown hg6 hnx; have ho6 := ho5.grown hg6 hno; have hr6 := hr5.grown hg6 hnr; have hbw6 := hbw5.grown hg6 (by omega) hbo; have hs6 := hg6.size; have cx6 := ho6.cell; have fx6 := ho6.free; rw [HTK.out] at own6; obtain ⟨A6, c6, hv6⟩ := own6.slice; rw [HL6.out] at hv6; subst hv6; clear HL6 own5 hb5 he5' hx5 ho5 hr5 hbw5 hg6 hnx hno hnr hbo HTK))
        go_roundw
        case rel =>
          refine ⟨j + 1, _, by omega, by go_num, own6.carry (fun k hk _ => heap_setCell_other _ _ _ _ (by dsimp only; omega)), hx6.far (by omega) 10 _, ho6.set 10 _, hr6.far (by omega) 10 _, hbw6.setCell (p := ⟨w.heap.size + 1 + 1, 10, none⟩) (by dsimp only; omega) _, by simp; omega⟩
        case measure => simp [intOf]; omega
      · have hj : j = ks.length := by omega
        subst hj
        have hall : (ks.map (renE f t)).take ks.length = ks.map (renE f t) := List.take_of_length_le (by simp)
        rw [hall] at hown
        obtain ⟨A', c', hv⟩ := hown.slice
        rw [List.length_map] at hv
        subst hv
        have hnode := hown.node ⟨kd, n, m, nm, vk, vn, vs, dv, cl, at_⟩ hok (by simpa using hlen)
        clear hown hA hrow hk ih hall hsz
        have co := ho.cell
        have hr3 := hr.setRow #[.int .i64 kd, .int .i64 n, .int .i64 m, .string nm, .int .i64 vk, .int .i64 vn, .string vs, .int .i64 dv, .string cl, .string at_, .slice A' ks.length c']
        have he3 : IsExprP (w.heap.size ≤ ·) (wr.setRow (w.heap.size + 1) #[.int .i64 kd, .int .i64 n, .int .i64 m, .string nm, .int .i64 vk, .int .i64 vn, .string vs, .int .i64 dv, .string cl, .string at_, .slice A' ks.length c']) _ _ :=
          (hnode.carry (fun b hb _ => setRow_other _ _ _ _ (by omega))).mono (fun b hb _ => by omega)
        have hbw3 : Below w.heap.size w (wr.setRow (w.heap.size + 1) #[.int .i64 kd, .int .i64 n, .int .i64 m, .string nm, .int .i64 vk, .int .i64 vn, .string vs, .int .i64 dv, .string cl, .string at_, .slice A' ks.length c']) := below_setRow hbw (by omega) _
        clear hnode
        unfold Hd.cells at he3
        go_wp2_with (refine wpList_store_row rfl 32 _ _ rfl (w.heap.size + 1) _ rfl rfl 32 _ hr (by kernel_rfl : (Try.prog.info? 32).map (·.size) = some 11) rfl (cells_one ⟨kd, n, m, nm, vk, vn, vs, dv, cl, at_⟩ A' ks.length c') ?_)
        have cR := hr3.cell
        refine bodyPost_ret (v := ?_) ?_ rfl ?_
        rotate_left
        · simp [results, Try.results40, go_sem, cR]; exact rfl
        exact ⟨⟨_, rfl, _, rfl, he3⟩, hbw3⟩

end Go.Proofs.Ytnelgblmogciiaa
