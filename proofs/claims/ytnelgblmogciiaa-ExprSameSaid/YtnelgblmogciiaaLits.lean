/- Literals by the reference. -/
import Derived.Test.YtnelgblmogciiaaFold5
import Derived.Test.YtnelgblmogciiaaKeysA
import Derived.Test.YtnelgblmogciiaaSameR
import Derived.Test.YtnelgblmogciiaaSameQ
set_option linter.unusedSimpArgs false
set_option linter.unusedVariables false
namespace Go.Proofs.Ytnelgblmogciiaa
open Go.RowKit

/-- A literal's fields. -/
def valH (vk vn : Int) (vs : ByteArray) : Hd := ⟨1, 0, 0, noStr, vk, vn, vs, 0, noStr, noStr⟩
set_option maxHeartbeats 1000000 in
theorem rlit_any (vk vn : Int) (vs : ByteArray) (w : World) : Calls Try.prog 91 #[.agg #[.int .i64 vk, .int .i64 vn, .string vs]] w fun r w' => r = .returned (.agg ((valH vk vn vs).cells (.slice none 0 0)).toArray) ∧ Below w.heap.size w w' := by
  go_enter Try.func91, Try.ntmps91
  go_wp2_with fail
  refine bodyPost_ret (v := ?_) ?_ rfl ?_
  rotate_left
  · simp [results, Try.results91, go_sem]; exact rfl
  refine ⟨by simp [Hd.cells, valH, noStr]; try rfl, ?_⟩
  (repeat (first | exact Below.refl _ _ | refine Below.al ?_ _ | refine Below.st ?_ (by simp; try omega) _ | refine Below.setRow ?_ ?_ ?_ | refine Below.th ?_ (by assumption)))

set_option maxHeartbeats 1000000 in
theorem number28_any (n : Int) (w : World) : Calls Try.prog 52 #[.int .i64 n] w fun r w' => r = .returned (.agg ((valH 2 n noStr).cells (.slice none 0 0)).toArray) ∧ Below w.heap.size w w' := by
  go_enter Try.func52, Try.ntmps52
  go_wp2_with fail
  refine (rlit_any _ _ _ _).mono ?_
  rintro r w2 ⟨rfl, hb2⟩
  have hR := (Blk.new w 32 #[.int .i64 0, .int .i64 0, .int .i64 0, .string { data := #[] }, .int .i64 0, .int .i64 0, .string { data := #[] }, .int .i64 0, .string { data := #[] }, .string { data := #[] }, .slice none 0 0]).below hb2
  have hr3 := hR.setRow (Hd.cells (valH 2 n noStr) (.slice none 0 0)).toArray
  have hbw3 : Below w.heap.size w (w2.setRow w.heap.size (Hd.cells (valH 2 n noStr) (.slice none 0 0)).toArray) := below_setRow (((Below.refl _ _).al _).th hb2) (Nat.le_refl _) _
  clear hb2
  simp only [Hd.cells, valH, noStr] at hr3 hbw3 ⊢
  go_wp2_with (refine wpList_store_row rfl 32 _ _ rfl w.heap.size _ rfl rfl 32 _ hR (by kernel_rfl : (Try.prog.info? 32).map (·.size) = some 11) rfl (cells_one (valH 2 n noStr) none 0 0) ?_)
  have cR := hr3.cell

  refine bodyPost_ret (v := ?_) ?_ rfl ?_
  rotate_left
  · simp [results, Try.results52, go_sem, cR]; exact rfl
  exact ⟨rfl, hbw3⟩
set_option maxHeartbeats 1000000 in
theorem rflag_any (b : Bool) (w : World) : Calls Try.prog 51 #[.bool b] w fun r w' => r = .returned (.agg ((litB b).cells (.slice none 0 0)).toArray) ∧ Below w.heap.size w w' := by
  have e : litB b = valH 1 (if b then 1 else 0) noStr := rfl
  rw [e]
  cases b
  · go_enter Try.func51, Try.ntmps51
    go_wp2_with fail
    refine (rlit_any _ _ _ _).mono ?_
    rintro r w2 ⟨rfl, hb2⟩
    have hR := (Blk.new w 32 #[.int .i64 0, .int .i64 0, .int .i64 0, .string { data := #[] }, .int .i64 0, .int .i64 0, .string { data := #[] }, .int .i64 0, .string { data := #[] }, .string { data := #[] }, .slice none 0 0]).below hb2
    have hr3 := hR.setRow (Hd.cells (valH 1 0 noStr) (.slice none 0 0)).toArray
    have hbw3 : Below w.heap.size w (w2.setRow w.heap.size (Hd.cells (valH 1 0 noStr) (.slice none 0 0)).toArray) := below_setRow (((Below.refl _ _).al _).th hb2) (Nat.le_refl _) _
    clear hb2
    simp only [Hd.cells, valH, noStr] at hr3 hbw3 ⊢
    go_wp2_with (refine wpList_store_row rfl 32 _ _ rfl w.heap.size _ rfl rfl 32 _ hR (by kernel_rfl : (Try.prog.info? 32).map (·.size) = some 11) rfl (cells_one (valH 1 0 noStr) none 0 0) ?_)
    have cR := hr3.cell

    refine bodyPost_ret (v := ?_) ?_ rfl ?_
    rotate_left
    · simp [results, Try.results51, go_sem, cR]; exact rfl
    exact ⟨rfl, hbw3⟩
  · go_enter Try.func51, Try.ntmps51
    go_wp2_with fail
    refine (rlit_any _ _ _ _).mono ?_
    rintro r w2 ⟨rfl, hb2⟩
    have hR := (Blk.new w 32 #[.int .i64 0, .int .i64 0, .int .i64 0, .string { data := #[] }, .int .i64 0, .int .i64 0, .string { data := #[] }, .int .i64 0, .string { data := #[] }, .string { data := #[] }, .slice none 0 0]).below hb2
    have hr3 := hR.setRow (Hd.cells (valH 1 1 noStr) (.slice none 0 0)).toArray
    have hbw3 : Below w.heap.size w (w2.setRow w.heap.size (Hd.cells (valH 1 1 noStr) (.slice none 0 0)).toArray) := below_setRow (((Below.refl _ _).al _).th hb2) (Nat.le_refl _) _
    clear hb2
    simp only [Hd.cells, valH, noStr] at hr3 hbw3 ⊢
    go_wp2_with (refine wpList_store_row rfl 32 _ _ rfl w.heap.size _ rfl rfl 32 _ hR (by kernel_rfl : (Try.prog.info? 32).map (·.size) = some 11) rfl (cells_one (valH 1 1 noStr) none 0 0) ?_)
    have cR := hr3.cell

    refine bodyPost_ret (v := ?_) ?_ rfl ?_
    rotate_left
    · simp [results, Try.results51, go_sem, cR]; exact rfl
    exact ⟨rfl, hbw3⟩
end Go.Proofs.Ytnelgblmogciiaa
