/- SchedChanges of the weekly schedules answers true for every input: the statement. It has no conditions. -/
import Derived.Test.YtdhccaninopicaaSLaws4
import Derived.Test.YtdhccaninopicaaSArgs
namespace Go.Proofs.Ytdhccaninopicaa.schedChanges
open Go.ChangeShapes Go.WideShapes Go.ChangeAt Go.RowKit
set_option linter.unusedVariables false
set_option linter.unusedSimpArgs false

set_option maxRecDepth 100000 in
theorem lifted (os : Os) (started : os.Started) (H : Type) (enc : TypeId × Value → H) :
    ReturnsInHanded {} Try.checked os 10 .any (Rows.schedChangesSpec.pre6 enc Try.prog Try.f10 Rows.schedChangesRow.domain false) (Rows.schedChangesSpec.post enc Try.prog Try.f10 false true false false) := by
  refine returnsInHanded_of_change_sized (C := Try.checked) own started (by kernel_rfl) Try.func10
    (ChangeSpec.witness6 (enc := enc) (C := Try.checked) false ⟨#[], #[.slice none 0 0, .int .i64 0], []⟩ 8 (by kernel_rfl) (by kernel_rfl) (by kernel_rfl) (by kernel_rfl)) ?_
  intro W base args ds gs before hval0 hW hcnd hwt _
  have hval : ∀ (j : Nat) t v, Try.f10.params[j]? = some t → args[j]? = some v → Value.okWide Try.prog W .any base t v := hval0
  have hlt := hW.lt
  have hW' := hW
  obtain ⟨p, q, hA0, hV, rfl, hfz, hnd⟩ := hW
  have hA : DataW.TrodAll enc Try.prog W 0 (fun _ => true) true Try.f10.params.toList args.toList ds p := hA0
  have hwt' : (DataW.weightsEach Try.prog (Try.f10.params.toList ++ Rows.schedChangesSpec.plain.varTypes Try.prog) (ds ++ gs)).all (· ≤ reachBytes) = true := hwt
  rw [Try.params10] at hA hwt' hval
  obtain ⟨v0, vs0, d0, ds0, p0, q0, hargs, rfl, rfl, h0, r0⟩ := trodAll_cons hA
  obtain ⟨v1, vs1, d1, ds1, p1, q1, rfl, rfl, rfl, h1, r1⟩ := trodAll_cons r0
  obtain ⟨rfl, rfl, rfl⟩ := trodAll_nil r1
  obtain rfl : args = #[v0, v1] := by cases args; simp_all
  obtain ⟨rfl, rfl⟩ := trodVars_none hV
  simp only [List.all_eq_true, decide_eq_true_eq, List.cons_append, List.nil_append, DataW.weightsEach, List.mem_append] at hwt'
  obtain ⟨x0, A0, c0, rfl, he0, hl0, hn0⟩ := arg_spans (hval 0 _ v0 rfl rfl) h0 (fun n hn => hwt' n (.inl hn))
  obtain ⟨x1, rfl, rfl, rfl, w1⟩ := open_int Try.underlying3 (hval 1 3 v1 rfl rfl) h1
  clear hA0 hval0
  simp only [List.append_nil] at hW' hlt
  refine (changes_law x0 x1 A0 c0 W.heap.size W (Nat.le_refl _) he0 hl0 (i64_of_wf w1)).mono fun e W' hpost => ?_
  obtain ⟨he, hg⟩ := hpost
  subst he
  exact ⟨_, rfl, post_of_below (pa := p0) (pv := []) hW' (fun _ _ _ => (trodAll_cons_mk (shut_bool Try.underlying4 _) trodAll_mk0))
    (by
      have t0 := Below.trod laid canL rowL h0 hg (fun x hx => hlt x (by simp [hx]))
      have := trodAll_cons_mk t0 (trodAll_cons_mk (shut_int Try.underlying3 w1) trodAll_mk0)
      first | exact this | (simp only [List.append_nil, List.nil_append] at this; exact this)) rfl (by simp) hg⟩

theorem over : Rows.schedChangesRow.holds Try.pinned (OpenSpec.ofChange Rows.schedChangesSpec) :=
  OpenClaim.holds_of_wide 10 Try.f10 rfl rfl rfl rfl rfl rfl rfl ⟨rfl, rfl, rfl, rfl, rfl⟩ rfl rfl rfl rfl rfl (by kernel_rfl) Try.func10 (by kernel_rfl)
    (of_decide_eq_true (by kernel_rfl)) (by unfold Func.isWrapper; first | (rw [if_pos (by decide +kernel)]; kernel_rfl) | (rw [if_neg (by decide +kernel)]; exact ⟨rfl, rfl⟩))
    (fun os started H enc _ => lifted os started H enc)

theorem proved : Rows.SchedChangesSaid := over
end Go.Proofs.Ytdhccaninopicaa.schedChanges
