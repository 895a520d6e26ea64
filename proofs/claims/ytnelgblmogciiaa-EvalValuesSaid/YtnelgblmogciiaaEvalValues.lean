/- EvalValues: the statement. -/
import Derived.Test.YtnelgblmogciiaaEvVal
import Derived.Test.YtnelgblmogciiaaArgs
namespace Go.Proofs.Ytnelgblmogciiaa.evalValues
open Go.ChangeShapes Go.WideShapes Go.ChangeAt Go.RowKit
set_option linter.unusedVariables false
set_option linter.unusedSimpArgs false

set_option maxRecDepth 100000 in
theorem lifted (os : Os) (started : os.Started) (H : Type) (enc : TypeId × Value → H) :
    ReturnsInHanded {} Try.checked os 3 .any (Rows.evalValuesSpec.pre6 enc Try.prog Try.f3 Rows.evalValuesRow.domain false) (Rows.evalValuesSpec.post enc Try.prog Try.f3 false true false false) := by
  refine returnsInHanded_of_change_sized (C := Try.checked) own started (by kernel_rfl) Try.func3
    (ChangeSpec.witness6 (enc := enc) (C := Try.checked) false ⟨#[], #[.agg #[.slice none 0 0, .string { data := #[] }, .int .i64 0, .slice none 0 0], .agg #[.int .i64 0, .int .i64 0, .int .i64 0, .string { data := #[] }, .int .i64 0, .int .i64 0, .string { data := #[] }, .int .i64 0, .string { data := #[] }, .string { data := #[] }, .slice none 0 0]], []⟩ 8 (by kernel_rfl) (by kernel_rfl) (by kernel_rfl) (by kernel_rfl)) ?_
  intro W base args ds gs before hval0 hW hcnd hwt _
  have hlt := hW.lt
  have hW' := hW
  obtain ⟨p, q, hA0, hV, rfl, hfz, hnd⟩ := hW
  have hA : DataW.TrodAll enc Try.prog W 0 (fun _ => true) true Try.f3.params.toList args.toList ds p := hA0
  have hwt' : (DataW.weightsEach Try.prog (Try.f3.params.toList ++ Rows.evalValuesSpec.plain.varTypes Try.prog) (ds ++ gs)).all (· ≤ reachBytes) = true := hwt
  rw [Try.params3] at hA hwt'
  obtain ⟨v0, vs0, d0, ds0, p0, q0, hargs, rfl, rfl, h0, r0⟩ := trodAll_cons hA
  obtain ⟨v1, vs1, d1, ds1, p1, q1, rfl, rfl, rfl, h1, r1⟩ := trodAll_cons r0
  obtain ⟨rfl, rfl, rfl⟩ := trodAll_nil r1
  obtain rfl : args = #[v0, v1] := by cases args; simp_all
  obtain ⟨rfl, rfl⟩ := trodVars_none hV
  simp only [List.all_eq_true, decide_eq_true_eq, List.cons_append, List.nil_append, DataW.weightsEach, List.mem_append] at hwt'
  obtain ⟨x0, cs0, rfl, he0⟩ := arg_view h0 (fun n hn => hwt' n (.inl hn))
  obtain ⟨x1, cs1, rfl, he1⟩ := arg_expr h1 (fun n hn => hwt' n (.inr (.inl hn)))
  clear hA0 hval0
  simp only [List.append_nil] at hW' hlt
  refine (evalValues_any x0 x1 cs0 cs1 W.heap.size W (Nat.le_refl _) he0 he1).mono fun e W' ⟨he, hg⟩ => ?_
  subst he
  exact ⟨_, rfl, post_of_below (pa := p0 ++ (p1)) (pv := []) hW' (fun _ _ _ => (trodAll_cons_mk (shut_bool Try.underlying4 _) trodAll_mk0))
    (by
      have t0 := Below.trod laid can25 row25 h0 hg (fun x hx => hlt x (by simp [hx]))
      have t1 := Below.trod laid can32 row32 h1 hg (fun x hx => hlt x (by simp [hx]))
      have := trodAll_cons_mk t0 (trodAll_cons_mk t1 trodAll_mk0)
      first | exact this | (simp only [List.append_nil, List.nil_append] at this; exact this)) rfl (by simp) hg⟩

theorem over : Rows.evalValuesRow.holds Try.pinned (OpenSpec.ofChange Rows.evalValuesSpec) :=
  OpenClaim.holds_of_wide 3 Try.f3 rfl rfl rfl rfl rfl rfl rfl ⟨rfl, rfl, rfl, rfl, rfl⟩ rfl rfl rfl rfl rfl (by kernel_rfl) Try.func3 (by kernel_rfl)
    (of_decide_eq_true (by kernel_rfl)) (by unfold Func.isWrapper; first | (rw [if_pos (by decide +kernel)]; kernel_rfl) | (rw [if_neg (by decide +kernel)]; exact ⟨rfl, rfl⟩))
    (fun os started H enc _ => lifted os started H enc)

theorem proved : Rows.EvalValuesSaid := over
end Go.Proofs.Ytnelgblmogciiaa.evalValues
