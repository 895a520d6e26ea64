/- HoldAsks answers true for every input: the statement. -/
import Derived.Test.YtafodibbcfoclaaHLawAsks
import Derived.Test.YtafodibbcfoclaaHReadR
namespace Go.Proofs.Ytafodibbcfoclaa.holdAsks
open Go.ChangeShapes Go.WideShapes Go.ChangeAt Go.RowKit
set_option linter.unusedVariables false
set_option linter.unusedSimpArgs false

set_option maxRecDepth 100000 in
theorem lifted (os : Os) (started : os.Started) (H : Type) (enc : TypeId × Value → H) :
    ReturnsInHanded {} Try.checked os 3 .any (Rows.holdAsksSpec.pre6 enc Try.prog Try.f3 Rows.holdAsksRow.domain false) (Rows.holdAsksSpec.post enc Try.prog Try.f3 false true false false) := by
  refine returnsInHanded_of_change_sized (C := Try.checked) own started (by kernel_rfl) Try.func3
    (ChangeSpec.witness6 (enc := enc) (C := Try.checked) false ⟨#[], #[.slice none 0 0, .slice none 0 0, .int .i64 0], []⟩ 8 (by kernel_rfl) (by kernel_rfl) (by kernel_rfl) (by kernel_rfl)) ?_
  intro W base args ds gs before hval0 hW hcnd hwt _
  have hval : ∀ (j : Nat) t v, Try.f3.params[j]? = some t → args[j]? = some v → Value.okWide Try.prog W .any base t v := hval0
  have hlt := hW.lt
  have hW' := hW
  obtain ⟨p, q, hA0, hV, rfl, hfz, hnd⟩ := hW
  have hA : DataW.TrodAll enc Try.prog W 0 (fun _ => true) true Try.f3.params.toList args.toList ds p := hA0
  have hwt' : (DataW.weightsEach Try.prog (Try.f3.params.toList ++ Rows.holdAsksSpec.plain.varTypes Try.prog) (ds ++ gs)).all (· ≤ reachBytes) = true := hwt
  rw [Try.params3] at hA hval hwt'
  obtain ⟨v0, vs0, d0, ds0, p0, q0, hargs, rfl, rfl, h0, r0⟩ := trodAll_cons hA
  obtain ⟨v1, vs1, d1, ds1, p1, q1, rfl, rfl, rfl, h1, r1⟩ := trodAll_cons r0
  obtain ⟨v2, vs2, d2, ds2, p2, q2, rfl, rfl, rfl, h2, r2⟩ := trodAll_cons r1
  obtain ⟨rfl, rfl, rfl⟩ := trodAll_nil r2
  obtain rfl : args = #[v0, v1, v2] := by cases args; simp_all
  obtain ⟨rfl, rfl⟩ := trodVars_none hV
  simp only [List.all_eq_true, decide_eq_true_eq, List.cons_append, List.nil_append, DataW.weightsEach, List.mem_append] at hwt'
  obtain ⟨x0, A0, c0, rfl, e0⟩ := arg_timers (hval 0 _ v0 rfl rfl) h0
  obtain ⟨x1, A1, c1, rfl, e1⟩ := arg_rules (hval 1 _ v1 rfl rfl) h1 (fun n hn => hwt' n (.inr (.inl hn)))
  obtain ⟨x2, rfl, rfl, rfl, w2⟩ := open_int Try.underlying3 (hval 2 _ v2 rfl rfl) h2
  clear hA0 hval0
  simp only [List.append_nil, List.nil_append] at hW' hlt
  refine (lawAsks x0 A0 c0 x1 A1 c1 x2 W e0 e1).mono fun e W' hpost => ?_
  obtain ⟨he, hg⟩ := hpost
  subst he
  exact ⟨_, rfl, post_of_below (pa := p0 ++ (p1)) (pv := []) hW' (fun _ _ _ => (trodAll_cons_mk (shut_bool Try.underlying4 _) trodAll_mk0))
    (by
      have t0 := Below.trod laid canTS rowTS h0 hg (fun x hx => hlt x (by simp [hx]))
      have t1 := Below.trod laid canRS rowRS h1 hg (fun x hx => hlt x (by simp [hx]))
      have := trodAll_cons_mk t0 (trodAll_cons_mk t1 (trodAll_cons_mk (shut_int Try.underlying3 w2) trodAll_mk0))
      first | exact this | (simp only [List.append_nil, List.nil_append] at this; exact this)) rfl (by simp) hg⟩

theorem over : Rows.holdAsksRow.holds Try.pinned (OpenSpec.ofChange Rows.holdAsksSpec) :=
  OpenClaim.holds_of_wide 3 Try.f3 rfl rfl rfl rfl rfl rfl rfl ⟨rfl, rfl, rfl, rfl, rfl⟩ rfl rfl rfl rfl rfl (by kernel_rfl) Try.func3 (by kernel_rfl)
    (of_decide_eq_true (by kernel_rfl)) (by unfold Func.isWrapper; first | (rw [if_pos (by decide +kernel)]; kernel_rfl) | (rw [if_neg (by decide +kernel)]; exact ⟨rfl, rfl⟩))
    (fun os started H enc _ => lifted os started H enc)

theorem proved : Rows.HoldAsksSaid := over
end Go.Proofs.Ytafodibbcfoclaa.holdAsks
