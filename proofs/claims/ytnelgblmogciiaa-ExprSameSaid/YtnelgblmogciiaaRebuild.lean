/- The rebuilding of an expression, whatever is changed. -/
import Derived.Test.YtnelgblmogciiaaShapes
import Derived.Laws.EntriesVeiled
set_option linter.unusedSimpArgs false
set_option linter.unusedVariables false
namespace Go.Proofs.Ytnelgblmogciiaa
open Go.RowKit

section
variable (chg : LExpr → LExpr)
mutual
/-- The tree in which each node was changed, after its kids. -/
def rebE : LExpr → LExpr
  | .mk h ks => chg (.mk h (rebL ks))
def rebL : List LExpr → List LExpr
  | [] => []
  | k :: ks => rebE k :: rebL ks
end
theorem rebL_eq : ∀ ks : List LExpr, rebL chg ks = ks.map (rebE chg)
  | [] => rfl
  | k :: ks => by rw [rebL, rebL_eq ks, List.map_cons]
end

/-- Of each node, by itself and by the number of its kids, P holds. -/
def allN (P : Hd → Nat → Prop) : LExpr → Prop
  | .mk h ks => P h ks.length ∧ ∀ k ∈ ks, allN P k

/-- What hands back an expression. -/
def RetEx (ok : Nat → Prop) (e : LExpr) (w : World) (r : Ending) (w' : World) : Prop := (∃ v', r = .returned v' ∧ Ex ok e v' w') ∧ Below w.heap.size w w'

set_option maxRecDepth 100000 in
set_option maxHeartbeats 4000000 in
theorem rebuild_any (chg : LExpr → LExpr) (P : Hd → Nat → Prop) (g : Nat) (caps : Array Value) (hcall : ∀ (args : Array Value) (w : World), (callFunc g args).run Try.prog w = .ok (.enter g args) w) (e : LExpr) :
    ∀ (cs : List Value) (B : Nat) (w : World), B ≤ w.heap.size → IsExpr B w e cs → allN P e →
    (∀ W, Below w.heap.size w W → ∀ (x : LExpr) (v : Value) (ok : Nat → Prop), P x.hd x.kids.length → (∀ b, W.heap.size ≤ b → ok b) → Ex ok x v W → Calls Try.prog g (#[v] ++ caps) W (RetEx ok (chg x) W)) →
    Calls Try.prog 59 #[.agg cs.toArray, .func (.func g) #[] caps] w (RetEx (w.heap.size ≤ ·) (rebE chg e) w) := by
  induction e using LExpr.ind with | _ hd ks ih => ?_
  intro cs B w hB he hP hchg
  rw [allN] at hP
  obtain ⟨hP1, hP2⟩ := hP
  cases he with
  | mk _ _ A c b off cs hok hlen hA hsz hrow hk =>
  have HCH := Lib.hid hchg
  have HP1 := Lib.hid hP1
  clear hchg hP1
  rw [rebE, rebL_eq]
  go_enter Try.func59, Try.ntmps59
  unfold Hd.cells
  go_wp2_with fail
  have hb1 : Below w.heap.size w ((w.alloc (.cells #[.int .i64 hd.kind, .int .i64 hd.n, .int .i64 hd.m, .string hd.name, .int .i64 hd.vk, .int .i64 hd.vn, .string hd.vs, .int .i64 hd.dev, .string hd.cl, .string hd.at_, .slice none 0 0] 32)).alloc (.cells #[.int .i64 0, .int .i64 0, .int .i64 0, .string { data := #[] }, .int .i64 0, .int .i64 0, .string { data := #[] }, .int .i64 0, .string { data := #[] }, .string { data := #[] }, .slice none 0 0] 32)) := ((Below.refl _ _).al _).al _
  have hx1 : Blk ((w.alloc (.cells #[.int .i64 hd.kind, .int .i64 hd.n, .int .i64 hd.m, .string hd.name, .int .i64 hd.vk, .int .i64 hd.vn, .string hd.vs, .int .i64 hd.dev, .string hd.cl, .string hd.at_, .slice none 0 0] 32)).alloc (.cells #[.int .i64 0, .int .i64 0, .int .i64 0, .string { data := #[] }, .int .i64 0, .int .i64 0, .string { data := #[] }, .int .i64 0, .string { data := #[] }, .string { data := #[] }, .slice none 0 0] 32)) w.heap.size 32 #[.int .i64 hd.kind, .int .i64 hd.n, .int .i64 hd.m, .string hd.name, .int .i64 hd.vk, .int .i64 hd.vn, .string hd.vs, .int .i64 hd.dev, .string hd.cl, .string hd.at_, .slice none 0 0] := (Blk.new _ _ _).alloc _
  have hr1 : Blk ((w.alloc (.cells #[.int .i64 hd.kind, .int .i64 hd.n, .int .i64 hd.m, .string hd.name, .int .i64 hd.vk, .int .i64 hd.vn, .string hd.vs, .int .i64 hd.dev, .string hd.cl, .string hd.at_, .slice none 0 0] 32)).alloc (.cells #[.int .i64 0, .int .i64 0, .int .i64 0, .string { data := #[] }, .int .i64 0, .int .i64 0, .string { data := #[] }, .int .i64 0, .string { data := #[] }, .string { data := #[] }, .slice none 0 0] 32)) (w.heap.size + 1) 32 zero11 := Blk.at1 _ _ _ _
  have hs1 : w.heap.size + 2 ≤ ((w.alloc (.cells #[.int .i64 hd.kind, .int .i64 hd.n, .int .i64 hd.m, .string hd.name, .int .i64 hd.vk, .int .i64 hd.vn, .string hd.vs, .int .i64 hd.dev, .string hd.cl, .string hd.at_, .slice none 0 0] 32)).alloc (.cells #[.int .i64 0, .int .i64 0, .int .i64 0, .string { data := #[] }, .int .i64 0, .int .i64 0, .string { data := #[] }, .int .i64 0, .string { data := #[] }, .string { data := #[] }, .slice none 0 0] 32)).heap.size := by simp
  have hlk2 : ks.length ≤ 140737488351232 := by omega
  generalize ((w.alloc (.cells #[.int .i64 hd.kind, .int .i64 hd.n, .int .i64 hd.m, .string hd.name, .int .i64 hd.vk, .int .i64 hd.vn, .string hd.vs, .int .i64 hd.dev, .string hd.cl, .string hd.at_, .slice none 0 0] 32)).alloc (.cells #[.int .i64 0, .int .i64 0, .int .i64 0, .string { data := #[] }, .int .i64 0, .int .i64 0, .string { data := #[] }, .int .i64 0, .string { data := #[] }, .string { data := #[] }, .slice none 0 0] 32)) = WA at *
  go_loopw [7, 13] (fun _ i wr => ∃ (j : Nat) (v : Value), j ≤ ks.length ∧ i = .int .i64 j ∧ OwnEx wr (w.heap.size + 2) ((ks.map (rebE chg)).take j) v ∧ Blk wr w.heap.size 32 #[.int .i64 hd.kind, .int .i64 hd.n, .int .i64 hd.m, .string hd.name, .int .i64 hd.vk, .int .i64 hd.vn, .string hd.vs, .int .i64 hd.dev, .string hd.cl, .string hd.at_, v] ∧ Blk wr (w.heap.size + 1) 32 zero11 ∧ Below w.heap.size w wr ∧ w.heap.size + 2 ≤ wr.heap.size) (fun _ i _ => ks.length - (intOf i).toNat)
  case atStart => exact ⟨0, .slice none 0 0, Nat.zero_le _, rfl, OwnEx.nil _ _, hx1, hr1, hb1, hs1⟩
  case round =>
    clear hx1 hr1 hb1 hs1
    obtain ⟨j, v, hjl, rfl, hown, hx, hr, hbw, hs⟩ := hrel
    by_cases hlt : j < ks.length
    · obtain ⟨rfl, hbB⟩ := hA (by omega)
      have hrk := (hrow j hlt).below hbw (by omega)
      obtain ⟨hk', kk, Ak, ck, hek, hcs, hl'⟩ := (hk j hlt).form
      have hkk := (hk j hlt).carry (hbw.mono hB)
      have hsz' := hsz j
      rw [hcs] at hrk hkk hsz'
      have hkk2 := hkk.lat (Nat.le_trans hB (by omega)) (Lat.al wr (.cells #[.int .i64 hk'.kind, .int .i64 hk'.n, .int .i64 hk'.m, .string hk'.name, .int .i64 hk'.vk, .int .i64 hk'.vn, .string hk'.vs, .int .i64 hk'.dev, .string hk'.cl, .string hk'.at_, .slice Ak kk.length ck] 32))
      have HI := Lib.hid (ih j hlt (hk'.cells (.slice Ak kk.length ck)) )
      have HPK := Lib.hid (hP2 ks[j] (List.getElem_mem hlt))
      clear ih hA hrow hk hcs hsz hek
      unfold Hd.cells at hrk
      go_upto_region 6 with (with_reducible refine wpList_load_at rfl 32 _ rfl b (off + j * 11) rfl _ _ hrk Try.underlying32 rfl (by kernel_rfl) ?_)
      have hkb := Blk.new wr 32 #[.int .i64 hk'.kind, .int .i64 hk'.n, .int .i64 hk'.m, .string hk'.name, .int .i64 hk'.vk, .int .i64 hk'.vn, .string hk'.vs, .int .i64 hk'.dev, .string hk'.cl, .string hk'.at_, .slice Ak kk.length ck]
      have hx' := hx.alloc (.cells #[.int .i64 hk'.kind, .int .i64 hk'.n, .int .i64 hk'.m, .string hk'.name, .int .i64 hk'.vk, .int .i64 hk'.vn, .string hk'.vs, .int .i64 hk'.dev, .string hk'.cl, .string hk'.at_, .slice Ak kk.length ck] 32)
      have hr' := hr.alloc (.cells #[.int .i64 hk'.kind, .int .i64 hk'.n, .int .i64 hk'.m, .string hk'.name, .int .i64 hk'.vk, .int .i64 hk'.vn, .string hk'.vs, .int .i64 hk'.dev, .string hk'.cl, .string hk'.at_, .slice Ak kk.length ck] 32)
      have hown' := hown.lat (Lat.al wr (.cells #[.int .i64 hk'.kind, .int .i64 hk'.n, .int .i64 hk'.m, .string hk'.name, .int .i64 hk'.vk, .int .i64 hk'.vn, .string hk'.vs, .int .i64 hk'.dev, .string hk'.cl, .string hk'.at_, .slice Ak kk.length ck] 32))
      have hbw' := hbw.al (.cells #[.int .i64 hk'.kind, .int .i64 hk'.n, .int .i64 hk'.m, .string hk'.name, .int .i64 hk'.vk, .int .i64 hk'.vn, .string hk'.vs, .int .i64 hk'.dev, .string hk'.cl, .string hk'.at_, .slice Ak kk.length ck] 32)
      have hsz2 : wr.heap.size < (wr.alloc (.cells #[.int .i64 hk'.kind, .int .i64 hk'.n, .int .i64 hk'.m, .string hk'.name, .int .i64 hk'.vk, .int .i64 hk'.vn, .string hk'.vs, .int .i64 hk'.dev, .string hk'.cl, .string hk'.at_, .slice Ak kk.length ck] 32)).heap.size := by simp
      unfold Hd.cells at HI hkk2
      clear hkk hrk hx hr hown hbw
      generalize wr.alloc (.cells #[.int .i64 hk'.kind, .int .i64 hk'.n, .int .i64 hk'.m, .string hk'.name, .int .i64 hk'.vk, .int .i64 hk'.vn, .string hk'.vs, .int .i64 hk'.dev, .string hk'.cl, .string hk'.at_, .slice Ak kk.length ck] 32) = W0 at *
      generalize wr.heap.size = g7 at *
      refine wp_rely_tail 6 (by kernel_rfl) (by kernel_rfl) (by decide) (by kernel_rfl) ?_
      simp only [List.take_succ_cons, List.take_zero, List.drop_succ_cons, List.drop_zero]
      apply RelyL.val
      · intro ν w' hL hF K hK
        go_simp
        exact hK.out _ _ rfl (Lat.refl _)
      simp only [Act.put, List.setIfInBounds_toArray, List.set_cons_zero, List.set_cons_succ, Nat.reduceAdd]
      apply RelyL.val
      · intro ν w' hL hF K hK
        have cx := (hx'.lat hL).cell
        go_simp
        exact hK.out _ _ rfl (Lat.refl _)
      simp only [Act.put, List.setIfInBounds_toArray, List.set_cons_zero, List.set_cons_succ, Nat.reduceAdd]
      apply RelyL.val
      · intro ν w' hL hF K hK
        refine take_op rfl ?_
        refine wp_load_blk rfl rfl (hkb.lat hL) Try.underlying32 rfl (by kernel_rfl : (Try.prog.info? 32).map (·.size) = some 11) rfl ?_
        exact hK.out _ _ rfl (Lat.refl _)
      simp only [Act.put, List.setIfInBounds_toArray, List.set_cons_zero, List.set_cons_succ, Nat.reduceAdd]
      apply RelyL.val
      · intro ν w' hL hF K hK
        go_simp
        exact hK.out _ _ rfl (Lat.refl _)
      simp only [Act.put, List.setIfInBounds_toArray, List.set_cons_zero, List.set_cons_succ, Nat.reduceAdd]
      refine RelyL.law (Ex (W0.heap.size ≤ ·) (rebE chg ks[j])) (fun v w1 w2 hl h => Ex.lat h hl) (fun ν w' hL hF K hK => ?_) ?_
      · have HI1 := HI.out W0.heap.size w' hL.size (hkk2.carry hL) HPK.out (fun W hb => HCH.out W (hbw'.trans (((hL.trans hb)).mono hbw'.size)))
        go_simp
        refine HI1.mono ?_
        rintro r w'' ⟨⟨v', rfl, hv'⟩, hb⟩
        exact hK.out _ _ _ rfl (hv'.mono (fun b hb' _ => Nat.le_trans hL.size hb')) hb
      simp only [Act.put, List.setIfInBounds_toArray, List.set_cons_zero, List.set_cons_succ, Nat.reduceAdd]
      refine RelyL.law (fun v w => ∃ g cs', v = .slice (some ⟨g, 0, none⟩) 1 1 ∧ Blk w g 32 cs'.toArray ∧ IsExprP (W0.heap.size ≤ ·) w (rebE chg ks[j]) cs') (fun v w1 w2 hl h => by obtain ⟨g, cs', h1, h2, h3⟩ := h; exact ⟨g, cs', h1, h2.lat hl, h3.lat hl⟩) (fun ν w' hL hF K hK => ?_) ?_
      · have h4 := hF.get 0 rfl (by kernel_rfl)
        dsimp only at h4
        generalize ν 4 = x4 at *
        obtain ⟨cs', rfl, he'⟩ := h4
        obtain ⟨hd2, k2, A2, c2, hcs2⟩ := he'.form
        subst hcs2
        clear hF
        unfold Hd.cells at *
        go_simp
        exact hK.out _ _ _ rfl ⟨_, _, rfl, Blk.new _ _ _, he'.lat (Lat.al _ _)⟩ (Lat.al _ _)
      simp only [Act.put, List.setIfInBounds_toArray, List.set_cons_zero, List.set_cons_succ, Nat.reduceAdd]
      refine RelyL.done fun ν w5 hL hF => ?_
      have h5 := hF.get 0 rfl
      dsimp only at h5
      generalize ν 4 = x4 at *
      generalize ν 5 = x5 at *
      obtain ⟨g5, cs5, rfl, hb5, he5⟩ := h5
      clear hF
      have hx5 := hx'.lat hL
      have hr5 := hr'.lat hL
      have own5 := hown'.lat hL
      have hbw5 := hbw'.th hL
      have hs5 := hL.size
      have hlen5 : ((ks.map (rebE chg)).take j).length = j := by rw [List.length_take, List.length_map]; omega
      have hb8 : (((ks.map (rebE chg)).take j).length + 1) * 136 ≤ 140737488351232 := by rw [hlen5]; omega
      have he5' : IsExprP (fun b => w.heap.size + 2 ≤ b ∧ some b ≠ v.ownBlock) w5 (rebE chg ks[j]) cs5 := he5.mono (fun b hb hl => ⟨by omega, fun hc => by have := (hown'.size b hc.symm).2; omega⟩)
      have hnx : some w.heap.size ≠ v.ownBlock := fun hc => by have := (hown'.size _ hc.symm).1; omega
      have hnr : some (w.heap.size + 1) ≠ v.ownBlock := fun hc => by have := (hown'.size _ hc.symm).1; omega
      have hbo : ∀ k, v.ownBlock = some k → w.heap.size ≤ k := fun k hc => by have := (hown'.size _ hc).1; omega
      have htk : (ks.map (rebE chg)).take j ++ [rebE chg ks[j]] = (ks.map (rebE chg)).take (j + 1) := by
        rw [List.take_succ_eq_append_getElem (by simpa using hlt)]; simp
      have HTK := Lib.hid htk
      have hl6 : ((ks.map (rebE chg)).take (j + 1)).length = j + 1 := by rw [List.length_take, List.length_map]; omega
      have HL6 := Lib.hid hl6
      clear hl6
      clear hkb hx' hr' hown' hbw' HI hkk2 hL he5 hlen5 htk
      go_wp2_with (at_builtin; refine append_ex rfl _ _ rfl (w.heap.size + 2) _ v rfl own5 g5 1 _ cs5 rfl 32 hb5 he5' hb8 (by omega) ?_; intro v6 w6 own6 hg6; go_must (have hx6 := hx5.grown hg6 hnx; have hr6 := hr5.grown hg6 hnr; have hbw6 := hbw5.grown hg6 (by omega) hbo; have hs6 := hg6.size; have cx6 := hx6.cell; have fx6 := hx6.free; rw [HTK.out] at own6; obtain ⟨A6, c6, hv6⟩ := own6.slice; rw [HL6.out] at hv6; subst hv6; clear HL6 own5 hb5 he5' hx5 hr5 hbw5 hg6 hnx hnr hbo HTK))
      go_roundw
      case rel =>
        refine ⟨j + 1, _, by omega, by go_num, own6.carry (fun k hk _ => heap_setCell_other _ _ _ _ (by dsimp only; omega)), hx6.set 10 _, hr6.far (by omega) 10 _, hbw6.setCell (p := ⟨w.heap.size, 10, none⟩) (Nat.le_refl _) _, by simp; omega⟩
      case measure => simp [intOf]; omega
    · have hj : j = ks.length := by omega
      subst hj
      have hall : (ks.map (rebE chg)).take ks.length = ks.map (rebE chg) := List.take_of_length_le (by simp)
      rw [hall] at hown
      obtain ⟨A', c', hv⟩ := hown.slice
      rw [List.length_map] at hv
      subst hv
      have hnode := hown.node hd hok (by simpa using hlen)
      clear hown hA hrow hk ih hall hsz
      have cx := hx.cell
      have hl1 := hx.lt
      have hl2 := hr.lt
      unfold Hd.cells at hnode
      have HQ := HCH.out wr hbw _ _ (w.heap.size + 2 ≤ ·) (by simpa [LExpr.hd, LExpr.kids] using HP1.out) (fun b hb => Nat.le_trans hs hb) ⟨_, rfl, hnode⟩
      clear HCH hnode
      have HQ2 := Lib.hid HQ
      clear HQ
      go_wp2_with fail
      refine HQ2.out.mono ?_
      rintro r w2 ⟨⟨v', rfl, hv'⟩, hb2⟩
      obtain ⟨cs', rfl, he'⟩ := hv'
      obtain ⟨hd2, k2, A2, c2, hcs2⟩ := he'.form
      subst hcs2
      have hr2 := hr.below hb2
      have hbw2 := hbw.th hb2
      have hr3 := hr2.setRow (hd2.cells (.slice A2 k2 c2)).toArray
      have he3 : IsExprP (w.heap.size ≤ ·) (w2.setRow (w.heap.size + 1) (hd2.cells (.slice A2 k2 c2)).toArray) (chg (.mk hd (ks.map (rebE chg)))) (hd2.cells (.slice A2 k2 c2)) :=
        (he'.carry (fun b hb _ => setRow_other _ _ _ _ (by omega))).mono (fun b hb _ => by omega)
      have hbw3 : Below w.heap.size w (w2.setRow (w.heap.size + 1) (hd2.cells (.slice A2 k2 c2)).toArray) := below_setRow hbw2 (by omega) _
      clear HQ2 cx hx hr hbw hb2 he' hl1 hl2
      unfold Hd.cells at hr2 hr3 he3 hbw3 ⊢
      go_wp2_with (refine wpList_store_row rfl 32 _ _ rfl (w.heap.size + 1) _ rfl rfl 32 _ hr2 (by kernel_rfl : (Try.prog.info? 32).map (·.size) = some 11) rfl (cells_one hd2 A2 k2 c2) ?_)
      have cR := hr3.cell
      clear hr2 hr3
      refine bodyPost_ret (v := ?_) ?_ rfl ?_
      rotate_left
      · simp [results, Try.results59, go_sem, cR]; exact rfl
      exact ⟨⟨_, rfl, _, rfl, he3⟩, hbw3⟩

end Go.Proofs.Ytnelgblmogciiaa
