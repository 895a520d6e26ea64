/- Hold: the reference's literal; the law's rule. Hold: the law's rule: a hold rule with a constant condition. -/
import Derived.Test.YtafodibbcfoclaaGreatHMem
import Derived.Test.YtafodibbcfoclaaGreatHUpd
namespace Go.Proofs.YtafodibbcfoclaaGreat
section
set_option linter.unusedSimpArgs false
set_option linter.unusedVariables false
open Go.RowKit

def flH (b : Bool) : Ev.Hd := ⟨1, 0, 0, noStr, 1, if b then 1 else 0, noStr, 0, noStr, noStr⟩
def litC (vk vn : Int) (vs : ByteArray) : List Value := [.int .i64 1, .int .i64 0, .int .i64 0, .string noStr, .int .i64 vk, .int .i64 vn, .string vs, .int .i64 0, .string noStr, .string noStr, .slice none 0 0]
theorem litC_one (vk vn : Int) (vs : ByteArray) : (litC vk vn vs).toArray.all (·.oneCell') = true := by simp [litC, Value.oneCell']
set_option maxHeartbeats 1000000 in
theorem rlit_any (vk vn : Int) (vs : ByteArray) (w : World) : Calls Tryz.prog 37 #[.agg #[.int .i64 vk, .int .i64 vn, .string vs]] w fun r w' => r = .returned (.agg (litC vk vn vs).toArray) ∧ Lat w w' := by
  have hL : ∀ a b, Lat w ((w.alloc a).alloc b) := fun a b => (Lat.al _ _).trans (Lat.al _ _)
  go_enter Tryz.func37, Tryz.ntmps37
  go_wp2_with fail
  refine bodyPost_ret (v := ?_) ?_ rfl ?_
  rotate_left
  · simp [results, Tryz.results37, go_sem]; exact rfl
  exact ⟨by simp [litC, noStr]; try rfl, hL _ _⟩
set_option maxHeartbeats 1000000 in
theorem rflag_any (b : Bool) (w : World) : Calls Tryz.prog 26 #[.bool b] w fun r w' => r = .returned (.agg (litC 1 (if b then 1 else 0) noStr).toArray) ∧ Lat w w' := by
  cases b
  · go_enter Tryz.func26, Tryz.ntmps26
    go_wp2_with fail
    refine (rlit_any _ _ _ _).mono ?_
    rintro r w2 ⟨rfl, hb2⟩
    have hR := (Blk.new w 41 #[.int .i64 0, .int .i64 0, .int .i64 0, .string { data := #[] }, .int .i64 0, .int .i64 0, .string { data := #[] }, .int .i64 0, .string { data := #[] }, .string { data := #[] }, .slice none 0 0]).lat hb2
    have hr3 := hR.setRow (litC 1 0 noStr).toArray
    have hbw3 : Lat w (w2.setRow w.heap.size (litC 1 0 noStr).toArray) := below_setRow ((Lat.al w (.cells #[.int .i64 0, .int .i64 0, .int .i64 0, .string { data := #[] }, .int .i64 0, .int .i64 0, .string { data := #[] }, .int .i64 0, .string { data := #[] }, .string { data := #[] }, .slice none 0 0] 41)).trans hb2) (Nat.le_refl _) _
    clear hb2
    simp only [litC, noStr] at hr3 hbw3 ⊢
    go_wp2_with (refine wpList_store_row rfl 41 _ _ rfl w.heap.size _ rfl rfl 41 _ hR (by kernel_rfl : (Tryz.prog.info? 41).map (·.size) = some 11) rfl (litC_one 1 0 noStr) ?_)
    have cR := hr3.cell
    refine bodyPost_ret (v := ?_) ?_ rfl ?_
    rotate_left
    · simp [results, Tryz.results26, go_sem, cR]; exact rfl
    exact ⟨rfl, hbw3⟩
  · go_enter Tryz.func26, Tryz.ntmps26
    go_wp2_with fail
    refine (rlit_any _ _ _ _).mono ?_
    rintro r w2 ⟨rfl, hb2⟩
    have hR := (Blk.new w 41 #[.int .i64 0, .int .i64 0, .int .i64 0, .string { data := #[] }, .int .i64 0, .int .i64 0, .string { data := #[] }, .int .i64 0, .string { data := #[] }, .string { data := #[] }, .slice none 0 0]).lat hb2
    have hr3 := hR.setRow (litC 1 1 noStr).toArray
    have hbw3 : Lat w (w2.setRow w.heap.size (litC 1 1 noStr).toArray) := below_setRow ((Lat.al w (.cells #[.int .i64 0, .int .i64 0, .int .i64 0, .string { data := #[] }, .int .i64 0, .int .i64 0, .string { data := #[] }, .int .i64 0, .string { data := #[] }, .string { data := #[] }, .slice none 0 0] 41)).trans hb2) (Nat.le_refl _) _
    clear hb2
    simp only [litC, noStr] at hr3 hbw3 ⊢
    go_wp2_with (refine wpList_store_row rfl 41 _ _ rfl w.heap.size _ rfl rfl 41 _ hR (by kernel_rfl : (Tryz.prog.info? 41).map (·.size) = some 11) rfl (litC_one 1 1 noStr) ?_)
    have cR := hr3.cell
    refine bodyPost_ret (v := ?_) ?_ rfl ?_
    rotate_left
    · simp [results, Tryz.results26, go_sem, cR]; exact rfl
    exact ⟨rfl, hbw3⟩
end
end Go.Proofs.YtafodibbcfoclaaGreat

namespace Go.Proofs.YtafodibbcfoclaaGreat
section
set_option linter.unusedSimpArgs false
set_option linter.unusedVariables false
open Go.RowKit

def flE (b : Bool) : Ev.LExpr := .mk (flH b) []
def V0 : Ev.LView := ⟨[], noStr, 0, []⟩
def trR (tm : Int) : TrR := ⟨6, 0, noStr, noStr, 0, noStr, noStr, noStr, tm, 0⟩
def ruR (n : ByteArray) (g : Nat) (b : Bool) : RlR := ⟨n, 0, some ⟨g, 0, none⟩, 1, 1, flH b, none, 0, 0, none, 0, 0⟩
def ruL (n : ByteArray) (tm : Int) (b : Bool) : LRule := ⟨n, [trR tm], flE b⟩
theorem true_fl (b : Bool) : Ev.isTrue (Ev.evalE V0 (flE b)) = b := by
  cases b <;> rfl
theorem flE_is (b : Bool) (B : Nat) (w : World) : Ev.IsExpr B w (flE b) (litC 1 (if b then 1 else 0) noStr) := by
  refine Ev.IsExpr.mk (flH b) [] none 0 0 0 (fun _ => litC 0 0 noStr) ⟨?_, ?_, ?_, ?_, ?_, ?_⟩ (by simp) (fun h => by simp at h) (fun i => rfl) (fun i hi => by simp at hi) (fun i hi => by simp at hi)
  all_goals (cases b <;> (unfold Ev.I64; decide))
theorem ruSays {w : World} {n : ByteArray} {tm : Int} {b : Bool} {g : Nat} (hn : n.size ≤ maxLen) (hg : Blk w g 73 (gC (trR tm)).toArray) : (ruR n g b).Says w (ruL n tm b) :=
  ⟨rfl, hn, Elt.Rd.blk (E := EG) (ys := [trR tm]) (by simp only [List.map_cons, List.map_nil, List.flatten_cons, List.flatten_nil, List.append_nil]; exact hg) 1, flE_is b _ w⟩
theorem holds_one (R : RlR) (n : ByteArray) (tm : Int) (b : Bool) : holdsP [(R, ruL n tm b)] = [((R, ruL n tm b), lim tm)] := by rfl
theorem upd_one (R : RlR) (n : ByteArray) (tm : Int) (b : Bool) (tl : List LTim) (now : Int) : updP V0 [((R, ruL n tm b), lim tm)] tl now = if b then [(findT tl R.name).getD ⟨R.name, lim now, false⟩] else [] := by
  unfold updP upd1 trueB
  simp only [List.flatMap_cons, List.flatMap_nil, List.append_nil]
  rw [show (ruL n tm b).ife = flE b from rfl, true_fl]
theorem rC_one (x : RlR) : (rC x).toArray.all (·.oneCell') = true := by simp [rC, Value.oneCell']
set_option maxRecDepth 100000 in
set_option maxHeartbeats 2000000 in
theorem rule_any (n : ByteArray) (tm : Int) (b : Bool) (w : World) : Calls Tryz.prog 11 #[.string n, .int .i64 tm, .bool b] w fun r w' => (∃ g, r = .returned (.agg (rC (ruR n g b)).toArray) ∧ Blk w' g 73 (gC (trR tm)).toArray) ∧ Lat w w' := by
  have HF := fun w => Lib.hid (rflag_any b w)
  have hone := rC_one (ruR n (w.heap.size + 1) b)
  have hbt := Blk.at1 w (.cells #[.string { data := #[] }, .int .i64 0, .slice none 0 0, .int .i64 0, .int .i64 0, .int .i64 0, .string { data := #[] }, .int .i64 0, .int .i64 0, .string { data := #[] }, .int .i64 0, .string { data := #[] }, .string { data := #[] }, .slice none 0 0, .slice none 0 0] 44) 73 (gC (trR tm)).toArray
  have hbr := (Blk.new w 44 #[.string { data := #[] }, .int .i64 0, .slice none 0 0, .int .i64 0, .int .i64 0, .int .i64 0, .string { data := #[] }, .int .i64 0, .int .i64 0, .string { data := #[] }, .int .i64 0, .string { data := #[] }, .string { data := #[] }, .slice none 0 0, .slice none 0 0]).alloc (.cells (gC (trR tm)).toArray 73)
  have hL : Lat w ((w.alloc (.cells #[.string { data := #[] }, .int .i64 0, .slice none 0 0, .int .i64 0, .int .i64 0, .int .i64 0, .string { data := #[] }, .int .i64 0, .int .i64 0, .string { data := #[] }, .int .i64 0, .string { data := #[] }, .string { data := #[] }, .slice none 0 0, .slice none 0 0] 44)).alloc (.cells (gC (trR tm)).toArray 73)) := (Lat.al _ _).trans (Lat.al _ _)
  simp only [gC, trR, noStr] at hbt hbr hL
  cases b
  · go_enter Tryz.func11, Tryz.ntmps11
    go_wp2_with fail
    refine (HF _).out.mono ?_
    rintro r w2 ⟨rfl, hl2⟩
    have hbt2 := hbt.lat hl2
    have hR := hbr.lat hl2
    have hL2 := hL.trans hl2
    have hr3 := hR.setRow (rC (ruR n (w.heap.size + 1) false)).toArray
    have hbt3 := hbt2.apart (g' := w.heap.size) (rC (ruR n (w.heap.size + 1) false)).toArray (by omega)
    have hL3 : Lat w (w2.setRow w.heap.size (rC (ruR n (w.heap.size + 1) false)).toArray) := below_setRow hL2 (Nat.le_refl _) _
    clear HF hbt hbr hL hl2 hbt2 hL2
    simp only [rC, ruR, flH, litC, noStr, Bool.false_eq_true, if_false, if_true] at hr3 hbt3 hL3 hone ⊢
    go_wp2_with (refine wpList_store_row rfl 44 _ _ rfl w.heap.size _ rfl rfl 44 _ hR (by kernel_rfl : (Tryz.prog.info? 44).map (·.size) = some 15) rfl hone ?_)
    have cR := hr3.cell
    refine bodyPost_ret (v := ?_) ?_ rfl ?_
    rotate_left
    · simp [results, Tryz.results11, go_sem, cR]; exact rfl
    exact ⟨⟨w.heap.size + 1, rfl, hbt3⟩, hL3⟩
  · go_enter Tryz.func11, Tryz.ntmps11
    go_wp2_with fail
    refine (HF _).out.mono ?_
    rintro r w2 ⟨rfl, hl2⟩
    have hbt2 := hbt.lat hl2
    have hR := hbr.lat hl2
    have hL2 := hL.trans hl2
    have hr3 := hR.setRow (rC (ruR n (w.heap.size + 1) true)).toArray
    have hbt3 := hbt2.apart (g' := w.heap.size) (rC (ruR n (w.heap.size + 1) true)).toArray (by omega)
    have hL3 : Lat w (w2.setRow w.heap.size (rC (ruR n (w.heap.size + 1) true)).toArray) := below_setRow hL2 (Nat.le_refl _) _
    clear HF hbt hbr hL hl2 hbt2 hL2
    simp only [rC, ruR, flH, litC, noStr, Bool.false_eq_true, if_false, if_true] at hr3 hbt3 hL3 hone ⊢
    go_wp2_with (refine wpList_store_row rfl 44 _ _ rfl w.heap.size _ rfl rfl 44 _ hR (by kernel_rfl : (Tryz.prog.info? 44).map (·.size) = some 15) rfl hone ?_)
    have cR := hr3.cell
    refine bodyPost_ret (v := ?_) ?_ rfl ?_
    rotate_left
    · simp [results, Tryz.results11, go_sem, cR]; exact rfl
    exact ⟨⟨w.heap.size + 1, rfl, hbt3⟩, hL3⟩
end
end Go.Proofs.YtafodibbcfoclaaGreat
