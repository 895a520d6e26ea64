/- Folding: an expression. -/
import Derived.Test.YtnelgblmogciiaaFold4
set_option linter.unusedSimpArgs false
set_option linter.unusedVariables false
namespace Go.Proofs.Ytnelgblmogciiaa
open Go.RowKit


theorem rebE_id (e : LExpr) : rebE (fun x => x) e = e := by
  induction e using LExpr.ind with | _ hd ks ih => ?_
  rw [rebE, rebL_eq]
  congr 1
  refine List.ext_getElem (by simp) (fun i h1 h2 => ?_)
  rw [List.getElem_map]
  exact ih i h2
theorem allN_true (e : LExpr) : allN (fun _ _ => True) e := by
  induction e using LExpr.ind with | _ hd ks ih => ?_
  rw [allN]
  exact ⟨trivial, fun k hk => by obtain ⟨i, hi, rfl⟩ := List.getElem_of_mem hk; exact ih i hi⟩
theorem okE_all (e : LExpr) : okE e → allN (fun h n => nodeCheck h n = 0) e := by
  induction e using LExpr.ind with | _ hd ks ih => ?_
  intro h
  rw [okE] at h
  rw [allN]
  exact ⟨h.1, fun k hk => by
    have := h.2 k hk
    obtain ⟨i, hi, rfl⟩ := List.getElem_of_mem hk
    exact ih i hi this⟩

/-- An expression, folded. -/
def foldE (e : LExpr) : LExpr := if checkE e = 0 then rebE foldN e else e

set_option maxRecDepth 100000 in
set_option maxHeartbeats 2000000 in
theorem fold_any (e : LExpr) (cs : List Value) (B : Nat) (w : World) (hB0 : B ≤ w.heap.size) (he : IsExpr B w e cs) : Calls Try.prog 37 #[.agg cs.toArray] w (RetEx (w.heap.size ≤ ·) (foldE e) w) := by
  have hc1 : ∀ (args : Array Value) (w : World), (callFunc 60 args).run Try.prog w = .ok (.enter 60 args) w := fun args w => by kernel_rfl
  have hc2 : ∀ (args : Array Value) (w : World), (callFunc 61 args).run Try.prog w = .ok (.enter 61 args) w := fun args w => by kernel_rfl
  have HC := fun W (hb : Below B w W) (hl : B ≤ W.heap.size) => Lib.hid (checkE_any e cs B W hl (he.carry hb))
  have H1 := fun W (hb : Below B w W) (hl : B ≤ W.heap.size) => Lib.hid (rebuild_any (fun x => x) (fun _ _ => True) 60 #[] hc1 e cs B W hl (he.carry hb) (allN_true e) (fun W' _ x v ok _ h0 hx => fold1_any x v ok W' h0 hx))
  have H2 := fun W (h0 : checkE e = 0) (hb : Below B w W) (hl : B ≤ W.heap.size) => Lib.hid (rebuild_any foldN (fun h n => nodeCheck h n = 0) 61 #[] hc2 e cs B W hl (he.carry hb) (okE_all e (checkE_okE h0)) (fun W' _ x v ok hp h0 hx => fold2_any x v ok W' hp h0 hx))
  clear hc1 hc2
  have HJ := Lib.hid (show foldE e = if checkE e = 0 then rebE foldN e else e from rfl)
  generalize foldE e = R at *
  obtain ⟨hd, ks, A, c, _, rfl, _⟩ := he.form
  unfold Hd.cells at HC H1 H2 ⊢
  go_enter Try.func37, Try.ntmps37
  go_upto_region 1 with fail
  have hB := Begun.start w #[.int .i64 hd.kind, .int .i64 hd.n, .int .i64 hd.m, .string hd.name, .int .i64 hd.vk, .int .i64 hd.vn, .string hd.vs, .int .i64 hd.dev, .string hd.cl, .string hd.at_, .slice A ks.length c]
  generalize ((w.alloc (.cells #[.int .i64 hd.kind, .int .i64 hd.n, .int .i64 hd.m, .string hd.name, .int .i64 hd.vk, .int .i64 hd.vn, .string hd.vs, .int .i64 hd.dev, .string hd.cl, .string hd.at_, .slice A ks.length c] 32)).alloc (.cells #[.int .i64 0, .int .i64 0, .int .i64 0, .string { data := #[] }, .int .i64 0, .int .i64 0, .string { data := #[] }, .int .i64 0, .string { data := #[] }, .string { data := #[] }, .slice none 0 0] 32)) = W1 at *
  have cx := hB.box.cell
  have lx := hB.box.lt
  have HC1 := HC W1 (hB.low.mono hB0) (Nat.le_trans hB0 hB.low.size)
  go_wp2_with fail
  refine HC1.out.mono ?_
  rintro r w1 ⟨rfl, hb1⟩
  clear HC HC1
  replace hB := hB.lat hb1
  clear hb1
  have cx := hB.box.cell
  have lx := hB.box.lt
  have hsz1 := hB.size
  have HH1 := H1 w1 (hB.low.mono hB0) (Nat.le_trans hB0 hB.low.size)
  have HH2 := fun h0 => H2 w1 h0 (hB.low.mono hB0) (Nat.le_trans hB0 hB.low.size)
  clear H1 H2
  rw [checkE_is]
  by_cases h0 : checkE e = 0
  · have q0 : (checkE e != 0) = false := by rw [h0]; decide
    have q1 : (checkE e == 0) = true := by rw [h0]; decide
    have hR : R = rebE foldN e := by rw [HJ.out, if_pos h0]
    have HR := Lib.hid hR
    have HQ := HH2 h0
    clear HH1 HH2 hR h0 HJ
    generalize checkE e = CE at *
    go_wp2_with fail
    refine HQ.out.mono ?_
    clear HQ
    rintro r w3 ⟨⟨v', rfl, cs', rfl, he'⟩, hb3⟩
    obtain ⟨hd2, k2, A2, c2, hcs2⟩ := he'.form
    subst hcs2
    replace hB := hB.lat hb3
    have hr3 := hB.res.setRow (hd2.cells (.slice A2 k2 c2)).toArray
    have he3 := hB.back (ok := (w.heap.size ≤ ·)) (he'.mono (fun b hb _ => ⟨by omega, .inr (Nat.le_trans hsz1 hb)⟩)) (hd2.cells (.slice A2 k2 c2)).toArray
    have hbw3 := hB.done (hd2.cells (.slice A2 k2 c2)).toArray
    clear he' cx hb3
    unfold Hd.cells at hr3 he3 hbw3 ⊢
    go_wp2_with (refine wpList_store_row rfl 32 _ _ rfl (w.heap.size + 1) _ rfl rfl 32 _ hB.res (by kernel_rfl : (Try.prog.info? 32).map (·.size) = some 11) rfl (cells_one hd2 A2 k2 c2) ?_)
    have cR := hr3.cell
    refine bodyPost_ret (v := ?_) ?_ rfl ?_
    rotate_left
    · simp [results, Try.results37, go_sem, cR]; exact rfl
    rw [HR.out]
    exact ⟨⟨_, rfl, _, rfl, he3⟩, hbw3⟩
  · have q0 : (checkE e != 0) = true := by simpa using h0
    have q1 : (checkE e == 0) = false := by simpa using h0
    have hR : R = rebE (fun x => x) e := by rw [HJ.out, if_neg h0, rebE_id]
    have HR := Lib.hid hR
    clear HH2 hR h0 HJ
    generalize checkE e = CE at *
    go_wp2_with fail
    refine HH1.out.mono ?_
    clear HH1
    rintro r w3 ⟨⟨v', rfl, cs', rfl, he'⟩, hb3⟩
    obtain ⟨hd2, k2, A2, c2, hcs2⟩ := he'.form
    subst hcs2
    replace hB := hB.lat hb3
    have hr3 := hB.res.setRow (hd2.cells (.slice A2 k2 c2)).toArray
    have he3 := hB.back (ok := (w.heap.size ≤ ·)) (he'.mono (fun b hb _ => ⟨by omega, .inr (Nat.le_trans hsz1 hb)⟩)) (hd2.cells (.slice A2 k2 c2)).toArray
    have hbw3 := hB.done (hd2.cells (.slice A2 k2 c2)).toArray
    clear he' cx hb3
    unfold Hd.cells at hr3 he3 hbw3 ⊢
    go_wp2_with (refine wpList_store_row rfl 32 _ _ rfl (w.heap.size + 1) _ rfl rfl 32 _ hB.res (by kernel_rfl : (Try.prog.info? 32).map (·.size) = some 11) rfl (cells_one hd2 A2 k2 c2) ?_)
    have cR := hr3.cell
    refine bodyPost_ret (v := ?_) ?_ rfl ?_
    rotate_left
    · simp [results, Try.results37, go_sem, cR]; exact rfl
    rw [HR.out]
    exact ⟨⟨_, rfl, _, rfl, he3⟩, hbw3⟩

end Go.Proofs.Ytnelgblmogciiaa
