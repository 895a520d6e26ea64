/- Guard: the item of a key, the value that a lock forces. -/
import Derived.Test.YtmgalnbacenbbaaGreatGFind
set_option linter.unusedSimpArgs false
set_option linter.unusedVariables false
namespace Go.Proofs.YtmgalnbacenbbaaGreat
open Go.RowKit

/-- What Get hands back. -/
def gotI (l : List LItem) (k : LKey) : Value := .tuple #[.agg (iC (getI l k)).toArray, .bool (hasI l k)]
/-- What forced and forces hand back. -/
def gotV (l : List LItem) (k : LKey) : Value := .tuple #[.agg (vC (getI l k).val).toArray, .bool (hasI l k)]
theorem lat_row {w w1 : World} {g : Nat} {t : TypeId} {cs : Array Value} (h : Blk w1 g t cs) (C : Array Value) (hg : w.heap.size ≤ g) (hl : Lat w w1) : Lat w (w1.setRow g C) := Below.trans hl (lat_setRow C hg)
set_option maxRecDepth 100000 in
set_option maxHeartbeats 1000000 in
theorem get_any (l : List LItem) (A : Option Addr) (c : Nat) (k : LKey) (w : World) (hx : EI.Rd w l (.slice A l.length c)) (hbig : l.length ≤ 1000000) :
    Calls Tryz.prog 52 #[.slice A l.length c, .agg (kC k).toArray] w fun r w' => r = .returned (gotI l k) ∧ Lat w w' := by
  have HR : Hid (gotI l k = .tuple #[.agg (iC ((l.find? (isK k)).getD i0)).toArray, .bool (l.find? (isK k)).isSome]) := Lib.hid rfl
  have HI := fun w' (hl : Lat w w') => Lib.hid (dindex_any l A c k w' (hx.lat hl) hbig)
  generalize gotI l k = R at *
  have hL0 : ∀ o1 o2, Lat w ((w.alloc o1).alloc o2) := fun o1 o2 => (Lat.al w o1).trans (Lat.al _ _)
  obtain ⟨k1, k2, k3⟩ := k
  simp only [kC] at HI ⊢
  have hb := (Blk.at1 w (.cells #[.int .i64 k1, .string k2, .string k3] 34) 51 #[.int .i64 0, .string { data := #[] }, .string { data := #[] }, .int .i64 0, .int .i64 0, .string { data := #[] }, .int .i64 0])
  go_enter Tryz.func52, Tryz.ntmps52
  go_wp2_with fail
  refine (HI _ (hL0 _ _)).out.mono ?_
  rintro r w1 ⟨⟨z, rfl, hz⟩, hl1⟩
  have hL1 := (hL0 _ _).trans hl1
  have hb1 := hb.lat hl1
  clear hb HI
  rcases hz.find with ⟨rfl, hf⟩ | ⟨j, hj, rfl, hf⟩
  · have HF := Lib.hid hf
    clear hz hf
    go_wp2_with (refine wpList_store_row rfl 51 _ _ rfl (w.heap.size + 1) _ rfl rfl 51 _ hb1 (by kernel_rfl : (Tryz.prog.info? 51).map (·.size) = some 7) rfl (by kernel_rfl) ?_)
    have cR := (hb1.setRow #[.int .i64 0, .string { data := #[] }, .string { data := #[] }, .int .i64 0, .int .i64 0, .string { data := #[] }, .int .i64 0]).cell
    refine bodyPost_ret (v := ?_) ?_ rfl ?_
    rotate_left
    · simp [results, Tryz.results52, go_sem, cR]; exact rfl
    rw [HR.out, HF.out]
    exact ⟨rfl, lat_row hb1 _ (by omega) hL1⟩
  · have HF := Lib.hid hf
    clear hz hf
    obtain ⟨b, off, hA, hbb, hr1'⟩ := (hx.lat hL1).row j hj
    subst hA
    have hr1 : RowAt w1 b (off + j * 7) (iC l[j]) := hr1'
    clear hr1'
    generalize l[j] = X at *
    obtain ⟨⟨x1, x2, x3⟩, ⟨x4, x5, x6⟩, x7⟩ := X
    simp only [iC, kC, vC, List.cons_append, List.nil_append] at hr1
    go_wp2_with (first | (with_reducible refine wpList_load_at rfl 51 _ rfl b (off + j * 7) rfl _ _ hr1 Tryz.underlying51 rfl (by kernel_rfl) ?_) | (refine wpList_store_row rfl 51 _ _ rfl (w.heap.size + 1) _ rfl rfl 51 _ hb1 (by kernel_rfl : (Tryz.prog.info? 51).map (·.size) = some 7) rfl (by kernel_rfl) ?_))
    have cR := (hb1.setRow #[.int .i64 x1, .string x2, .string x3, .int .i64 x4, .int .i64 x5, .string x6, .int .i64 x7]).cell
    refine bodyPost_ret (v := ?_) ?_ rfl ?_
    rotate_left
    · simp [results, Tryz.results52, go_sem, cR]; exact rfl
    rw [HR.out, HF.out]
    exact ⟨rfl, lat_row hb1 _ (by omega) hL1⟩
set_option maxRecDepth 100000 in
set_option maxHeartbeats 1000000 in
theorem rget_any (l : List LItem) (A : Option Addr) (c : Nat) (k : LKey) (w : World) (hx : EI.Rd w l (.slice A l.length c)) (hbig : l.length ≤ 1000000) :
    Calls Tryz.prog 69 #[.slice A l.length c, .agg (kC k).toArray] w fun r w' => r = .returned (gotI l k) ∧ Lat w w' := by
  have HR : Hid (gotI l k = .tuple #[.agg (iC ((l.find? (isK k)).getD i0)).toArray, .bool (l.find? (isK k)).isSome]) := Lib.hid rfl
  have HI := fun w' (hl : Lat w w') => Lib.hid (rindexI_any l A c k w' (hx.lat hl) hbig)
  generalize gotI l k = R at *
  have hL0 : ∀ o1 o2, Lat w ((w.alloc o1).alloc o2) := fun o1 o2 => (Lat.al w o1).trans (Lat.al _ _)
  obtain ⟨k1, k2, k3⟩ := k
  simp only [kC] at HI ⊢
  have hb := (Blk.at1 w (.cells #[.int .i64 k1, .string k2, .string k3] 34) 51 #[.int .i64 0, .string { data := #[] }, .string { data := #[] }, .int .i64 0, .int .i64 0, .string { data := #[] }, .int .i64 0])
  go_enter Tryz.func69, Tryz.ntmps69
  go_wp2_with fail
  refine (HI _ (hL0 _ _)).out.mono ?_
  rintro r w1 ⟨⟨z, rfl, hz⟩, hl1⟩
  have hL1 := (hL0 _ _).trans hl1
  have hb1 := hb.lat hl1
  clear hb HI
  rcases hz.find with ⟨rfl, hf⟩ | ⟨j, hj, rfl, hf⟩
  · have HF := Lib.hid hf
    clear hz hf
    go_wp2_with (refine wpList_store_row rfl 51 _ _ rfl (w.heap.size + 1) _ rfl rfl 51 _ hb1 (by kernel_rfl : (Tryz.prog.info? 51).map (·.size) = some 7) rfl (by kernel_rfl) ?_)
    have cR := (hb1.setRow #[.int .i64 0, .string { data := #[] }, .string { data := #[] }, .int .i64 0, .int .i64 0, .string { data := #[] }, .int .i64 0]).cell
    refine bodyPost_ret (v := ?_) ?_ rfl ?_
    rotate_left
    · simp [results, Tryz.results69, go_sem, cR]; exact rfl
    rw [HR.out, HF.out]
    exact ⟨rfl, lat_row hb1 _ (by omega) hL1⟩
  · have HF := Lib.hid hf
    clear hz hf
    obtain ⟨b, off, hA, hbb, hr1'⟩ := (hx.lat hL1).row j hj
    subst hA
    have hr1 : RowAt w1 b (off + j * 7) (iC l[j]) := hr1'
    clear hr1'
    generalize l[j] = X at *
    obtain ⟨⟨x1, x2, x3⟩, ⟨x4, x5, x6⟩, x7⟩ := X
    simp only [iC, kC, vC, List.cons_append, List.nil_append] at hr1
    go_wp2_with (first | (with_reducible refine wpList_load_at rfl 51 _ rfl b (off + j * 7) rfl _ _ hr1 Tryz.underlying51 rfl (by kernel_rfl) ?_) | (refine wpList_store_row rfl 51 _ _ rfl (w.heap.size + 1) _ rfl rfl 51 _ hb1 (by kernel_rfl : (Tryz.prog.info? 51).map (·.size) = some 7) rfl (by kernel_rfl) ?_))
    have cR := (hb1.setRow #[.int .i64 x1, .string x2, .string x3, .int .i64 x4, .int .i64 x5, .string x6, .int .i64 x7]).cell
    refine bodyPost_ret (v := ?_) ?_ rfl ?_
    rotate_left
    · simp [results, Tryz.results69, go_sem, cR]; exact rfl
    rw [HR.out, HF.out]
    exact ⟨rfl, lat_row hb1 _ (by omega) hL1⟩
set_option maxRecDepth 100000 in
set_option maxHeartbeats 1000000 in
theorem forced_any (r : LkR) (l : LLock) (k : LKey) (w : World) (hs : r.Says w l) (hbig : l.force.length ≤ 1000000) :
    Calls Tryz.prog 24 #[.agg (lkC r).toArray, .agg (kC k).toArray] w fun e w' => e = .returned (gotV l.force k) ∧ Lat w w' := by
  have hfn := Says.fn hs
  have HI := fun w' (hl : Lat w w') => Lib.hid (get_any l.force r.FA r.Fc k w' (by have := (hs.force).lat hl; rw [hfn] at this; exact this) hbig)
  rw [← hfn] at HI
  have HR : Hid (gotV l.force k = .tuple #[.agg (vC (getI l.force k).val).toArray, .bool (hasI l.force k)]) := Lib.hid rfl
  generalize gotV l.force k = R at *
  unfold gotI at HI
  generalize getI l.force k = X at *
  generalize hasI l.force k = B at *
  clear hs hbig hfn
  obtain ⟨a1, a2, ⟨b1, b2, b3, b4, ⟨b5, b6, b7⟩, ⟨b8, b9, b10⟩, b11, b12, b13⟩, a3, a4, a5, a6, a7, a8, a9⟩ := r
  obtain ⟨⟨x1, x2, x3⟩, ⟨x4, x5, x6⟩, x7⟩ := X
  obtain ⟨k1, k2, k3⟩ := k
  simp only [lkC, whC, iC, kC, vC, List.cons_append, List.nil_append] at *
  have hL0 : ∀ o1 o2 o3, Lat w (((w.alloc o1).alloc o2).alloc o3) := fun o1 o2 o3 => ((Lat.al w o1).trans (Lat.al _ _)).trans (Lat.al _ _)
  have hb := (Blk.at2 w (.cells #[.string a1, .int .i64 a2, .int .i64 b1, .int .i64 b2, .int .i64 b3, .string b4, .int .i64 b5, .int .i64 b6, .string b7, .int .i64 b8, .string b9, .string b10, .slice b11 b12 b13, .bool a3, .slice a4 a5 a6, .slice a7 a8 a9] 40) (.cells #[.int .i64 k1, .string k2, .string k3] 34) 32 #[.int .i64 0, .int .i64 0, .string { data := #[] }])
  go_enter Tryz.func24, Tryz.ntmps24
  go_wp2_with fail
  refine (HI _ (hL0 _ _ _)).out.mono ?_
  rintro e w1 ⟨rfl, hl1⟩
  have hL1 := (hL0 _ _ _).trans hl1
  have hb1 := hb.lat hl1
  have hb2 := hb1.alloc (.cells #[.int .i64 x1, .string x2, .string x3, .int .i64 x4, .int .i64 x5, .string x6, .int .i64 x7] 51)
  have hL2 := hL1.trans (Lat.al w1 (.cells #[.int .i64 x1, .string x2, .string x3, .int .i64 x4, .int .i64 x5, .string x6, .int .i64 x7] 51))
  clear hb HI hb1 hL1
  go_wp2_with (refine wpList_store_row rfl 32 _ _ rfl (w.heap.size + 1 + 1) _ rfl rfl 32 _ hb2 (by kernel_rfl : (Tryz.prog.info? 32).map (·.size) = some 3) rfl (by kernel_rfl) ?_)
  have cR := (hb2.setRow #[.int .i64 x4, .int .i64 x5, .string x6]).cell
  refine bodyPost_ret (v := ?_) ?_ rfl ?_
  rotate_left
  · simp [results, Tryz.results24, go_sem, cR]; exact rfl
  rw [HR.out]
  exact ⟨rfl, lat_row hb2 _ (by omega) hL2⟩
set_option maxRecDepth 100000 in
set_option maxHeartbeats 1000000 in
theorem forces_any (r : LkR) (l : LLock) (k : LKey) (w : World) (hs : r.Says w l) (hbig : l.force.length ≤ 1000000) :
    Calls Tryz.prog 45 #[.agg (lkC r).toArray, .agg (kC k).toArray] w fun e w' => e = .returned (gotV l.force k) ∧ Lat w w' := by
  have hfn := Says.fn hs
  have HI := fun w' (hl : Lat w w') => Lib.hid (rget_any l.force r.FA r.Fc k w' (by have := (hs.force).lat hl; rw [hfn] at this; exact this) hbig)
  rw [← hfn] at HI
  have HR : Hid (gotV l.force k = .tuple #[.agg (vC (getI l.force k).val).toArray, .bool (hasI l.force k)]) := Lib.hid rfl
  generalize gotV l.force k = R at *
  unfold gotI at HI
  generalize getI l.force k = X at *
  generalize hasI l.force k = B at *
  clear hs hbig hfn
  obtain ⟨a1, a2, ⟨b1, b2, b3, b4, ⟨b5, b6, b7⟩, ⟨b8, b9, b10⟩, b11, b12, b13⟩, a3, a4, a5, a6, a7, a8, a9⟩ := r
  obtain ⟨⟨x1, x2, x3⟩, ⟨x4, x5, x6⟩, x7⟩ := X
  obtain ⟨k1, k2, k3⟩ := k
  simp only [lkC, whC, iC, kC, vC, List.cons_append, List.nil_append] at *
  have hL0 : ∀ o1 o2 o3, Lat w (((w.alloc o1).alloc o2).alloc o3) := fun o1 o2 o3 => ((Lat.al w o1).trans (Lat.al _ _)).trans (Lat.al _ _)
  have hb := (Blk.at2 w (.cells #[.string a1, .int .i64 a2, .int .i64 b1, .int .i64 b2, .int .i64 b3, .string b4, .int .i64 b5, .int .i64 b6, .string b7, .int .i64 b8, .string b9, .string b10, .slice b11 b12 b13, .bool a3, .slice a4 a5 a6, .slice a7 a8 a9] 40) (.cells #[.int .i64 k1, .string k2, .string k3] 34) 32 #[.int .i64 0, .int .i64 0, .string { data := #[] }])
  go_enter Tryz.func45, Tryz.ntmps45
  go_wp2_with fail
  refine (HI _ (hL0 _ _ _)).out.mono ?_
  rintro e w1 ⟨rfl, hl1⟩
  have hL1 := (hL0 _ _ _).trans hl1
  have hb1 := hb.lat hl1
  have hb2 := hb1.alloc (.cells #[.int .i64 x1, .string x2, .string x3, .int .i64 x4, .int .i64 x5, .string x6, .int .i64 x7] 51)
  have hL2 := hL1.trans (Lat.al w1 (.cells #[.int .i64 x1, .string x2, .string x3, .int .i64 x4, .int .i64 x5, .string x6, .int .i64 x7] 51))
  clear hb HI hb1 hL1
  go_wp2_with (refine wpList_store_row rfl 32 _ _ rfl (w.heap.size + 1 + 1) _ rfl rfl 32 _ hb2 (by kernel_rfl : (Tryz.prog.info? 32).map (·.size) = some 3) rfl (by kernel_rfl) ?_)
  have cR := (hb2.setRow #[.int .i64 x4, .int .i64 x5, .string x6]).cell
  refine bodyPost_ret (v := ?_) ?_ rfl ?_
  rotate_left
  · simp [results, Tryz.results45, go_sem, cR]; exact rfl
  rw [HR.out]
  exact ⟨rfl, lat_row hb2 _ (by omega) hL2⟩
end Go.Proofs.YtmgalnbacenbbaaGreat
