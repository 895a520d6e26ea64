/- The keys of an expression that reads at most one. -/
import Derived.Test.YtnelgblmogciiaaWalkM
import Derived.Test.YtnelgblmogciiaaFlat
import Derived.Test.YtnelgblmogciiaaRely4
import Derived.Test.YtnelgblmogciiaaCheck
set_option linter.unusedSimpArgs false
set_option linter.unusedVariables false
namespace Go.Proofs.Ytnelgblmogciiaa
open Go.RowKit

theorem infoKey : (Try.prog.info? 29).map (fun i => (i.zero, i.size, i.bytes)) = some (some (.agg #[.int .i64 0, .string { data := #[] }, .string { data := #[] }]), 3, 40) := by kernel_rfl

set_option maxRecDepth 100000 in
set_option maxHeartbeats 1000000 in
theorem insert0_any (w : World) (g : Nat) (d : Int) (cl at_ : ByteArray) (hb : Blk w g 29 #[.int .i64 d, .string cl, .string at_]) :
    Calls Try.prog 57 #[.slice none 0 0, .int .i64 0, .slice (some ⟨g, 0, none⟩) 1 1] w fun r w' => (∃ A c, r = .returned (.slice A 1 c)) ∧ Below w.heap.size w w' := by
  obtain ⟨i0, hi, hz0, hz1, hz2⟩ := info_parts infoKey
  have hown0 : w.ownsRow w.heap.size 29 3 (.slice none 0 0) 0 [] := ⟨rfl, .inl ⟨rfl, rfl⟩⟩
  have hr : IsRows w.heap.size w 3 [[.int .i64 d, .string cl, .string at_]] (some ⟨g, 0, none⟩) := fun _ => ⟨g, 0, rfl, hb.lt, fun i hi => by
    have : i = 0 := by simpa using hi
    subst this
    intro j v hj
    simp only [Nat.zero_mul, Nat.add_zero, Nat.zero_add, List.getElem_cons_zero] at hj ⊢
    rw [cell_of_row _ _ _ _ _ _ hb, ← Array.getElem?_toList]; exact hj⟩
  go_enter Try.func57, Try.ntmps57
  go_wp2_with (at_builtin; refine append_rows rfl _ _ 48 rfl w.heap.size 29 i0 _ 3 40 Try.underlying48 hi hz0 hz1 hz2 rfl (by decide) _ [] rfl hown0 (some ⟨g, 0, none⟩) 1 1 w.heap.size [[.int .i64 d, .string cl, .string at_]] rfl rfl (by intro h; cases h) hr (by simp) (by simp [Value.oneCell']) (by simp [maxLen]) (by simp) (Nat.le_refl _) ?_; intro v1 w3 hown1 hg1; go_must (have hB3 := (Below.refl w.heap.size w).grown hg1 (by simp) (fun k hk => by cases hk); obtain ⟨A2, c2, rfl, hr2⟩ := ownsRow_rows hown1 (by simp) rfl))
  go_ret
  exact ⟨⟨_, _, rfl⟩, hB3⟩
end Go.Proofs.Ytnelgblmogciiaa
