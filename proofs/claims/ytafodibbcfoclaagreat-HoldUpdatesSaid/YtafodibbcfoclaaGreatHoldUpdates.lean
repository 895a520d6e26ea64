/- HoldUpdates answers true for every input: the statement. -/
import Derived.Test.YtafodibbcfoclaaGreatHLawUpds
import Derived.Test.YtafodibbcfoclaaGreatHReads
import Derived.Test.YtafodibbcfoclaaGreatHView
namespace Go.Proofs.YtafodibbcfoclaaGreat.holdUpdates
open Go.ChangeShapes Go.WideShapes Go.ChangeAt Go.RowKit
set_option linter.unusedVariables false
set_option linter.unusedSimpArgs false

set_option maxRecDepth 100000 in
theorem lifted (os : Os) (started : os.Started) (H : Type) (enc : TypeId × Value → H) :
    ReturnsInHanded {} Tryz.checked os 3 .any (Rows.holdUpdatesSpec.pre6 enc Tryz.prog Tryz.f3 Rows.holdUpdatesRow.domain false) (Rows.holdUpdatesSpec.post enc Tryz.prog Tryz.f3 false true false false) := by
  refine returnsInHanded_of_change_sized (C := Tryz.checked) own started (by kernel_rfl) Tryz.func3
    (ChangeSpec.witness6 (enc := enc) (C := Tryz.checked) false ⟨#[], #[.slice none 0 0, .slice none 0 0, .agg #[.slice none 0 0, .string { data := #[] }, .int .i64 0, .slice none 0 0], .int .i64 0], []⟩ 8 (by kernel_rfl) (by kernel_rfl) (by kernel_rfl) (by kernel_rfl)) ?_
  intro W base args ds gs before hval0 hW hcnd hwt _
  have hval : ∀ (j : Nat) t v, Tryz.f3.params[j]? = some t → args[j]? = some v → Value.okWide Tryz.prog W .any base t v := hval0
  have hlt := hW.lt
  have hW' := hW
  obtain ⟨p, q, hA0, hV, rfl, hfz, hnd⟩ := hW
  have hA : DataW.TrodAll enc Tryz.prog W 0 (fun _ => true) true Tryz.f3.params.toList args.toList ds p := hA0
  have hwt' : (DataW.weightsEach Tryz.prog (Tryz.f3.params.toList ++ Rows.holdUpdatesSpec.plain.varTypes Tryz.prog) (ds ++ gs)).all (· ≤ reachBytes) = true := hwt
  rw [Tryz.params3] at hA hval hwt'
  obtain ⟨v0, vs0, d0, ds0, p0, q0, hargs, rfl, rfl, h0, r0⟩ := trodAll_cons hA
  obtain ⟨v1, vs1, d1, ds1, p1, q1, rfl, rfl, rfl, h1, r1⟩ := trodAll_cons r0
  obtain ⟨v2, vs2, d2, ds2, p2, q2, rfl, rfl, rfl, h2, r2⟩ := trodAll_cons r1
  obtain ⟨v3, vs3, d3, ds3, p3, q3, rfl, rfl, rfl, h3, r3⟩ := trodAll_cons r2
  obtain ⟨rfl, rfl, rfl⟩ := trodAll_nil r3
  obtain rfl : args = #[v0, v1, v2, v3] := by cases args; simp_all
  obtain ⟨rfl, rfl⟩ := trodVars_none hV
  simp only [List.all_eq_true, decide_eq_true_eq, List.cons_append, List.nil_append, DataW.weightsEach, List.mem_append] at hwt'
  obtain ⟨x0, A0, c0, rfl, e0⟩ := arg_timers (hval 0 _ v0 rfl rfl) h0
  obtain ⟨x1, A1, c1, rfl, e1⟩ := arg_rules (hval 1 _ v1 rfl rfl) h1 (fun n hn => hwt' n (.inr (.inl hn)))
  obtain ⟨x2, y2, rfl, e2⟩ := arg_view h2 (fun n hn => hwt' n (.inr (.inr (.inl hn))))
  obtain ⟨x3, rfl, rfl, rfl, w3⟩ := open_int Tryz.underlying3 (hval 3 _ v3 rfl rfl) h3
  clear hA0 hval0
  simp only [List.append_nil, List.nil_append] at hW' hlt
  refine (lawUpdates x0 A0 c0 x1 A1 c1 x2 y2 x3 W e0 e1 e2).mono fun e W' hpost => ?_
  obtain ⟨he, hg⟩ := hpost
  subst he
  exact ⟨_, rfl, post_of_below (pa := p0 ++ (p1 ++ (p2))) (pv := []) hW' (fun _ _ _ => (trodAll_cons_mk (shut_bool Tryz.underlying4 _) trodAll_mk0))
    (by
      have t0 := Below.trod laid canTS rowTS h0 hg (fun x hx => hlt x (by simp [hx]))
      have t1 := Below.trod laid canRS rowRS h1 hg (fun x hx => hlt x (by simp [hx]))
      have t2 := Below.trod laid canVw rowVw h2 hg (fun x hx => hlt x (by simp [hx]))
      have := trodAll_cons_mk t0 (trodAll_cons_mk t1 (trodAll_cons_mk t2 (trodAll_cons_mk (shut_int Tryz.underlying3 w3) trodAll_mk0)))
      first | exact this | (simp only [List.append_nil, List.nil_append] at this; exact this)) rfl (by simp) hg⟩

theorem over : Rows.holdUpdatesRow.holds Tryz.pinned (OpenSpec.ofChange Rows.holdUpdatesSpec) :=
  OpenClaim.holds_of_wide 3 Tryz.f3 rfl rfl rfl rfl rfl rfl rfl ⟨rfl, rfl, rfl, rfl, rfl⟩ rfl rfl rfl rfl rfl (by kernel_rfl) Tryz.func3 (by kernel_rfl)
    (of_decide_eq_true (by kernel_rfl)) (by unfold Func.isWrapper; first | (rw [if_pos (by decide +kernel)]; kernel_rfl) | (rw [if_neg (by decide +kernel)]; exact ⟨rfl, rfl⟩))
    (fun os started H enc _ => lifted os started H enc)

theorem proved : Rows.HoldUpdatesSaid := over
end Go.Proofs.YtafodibbcfoclaaGreat.holdUpdates
