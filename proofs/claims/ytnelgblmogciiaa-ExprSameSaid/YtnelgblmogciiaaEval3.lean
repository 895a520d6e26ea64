/- Operations on two values. -/
import Derived.Test.YtnelgblmogciiaaEval2
set_option linter.unusedSimpArgs false
set_option linter.unusedVariables false
namespace Go.Proofs.Ytnelgblmogciiaa
open Go.RowKit

/-- An operation on two values. -/
def opE (kind : Int) (k1 n1 : Int) (s1 : ByteArray) (k2 n2 : Int) (s2 : ByteArray) : EV :=
  if kind = 9 then truthE (decide (k1 = k2 ∧ n1 = n2 ∧ s1 = s2))
  else if k1 ≠ 2 ∨ k2 ≠ 2 then unknownE
  else if kind = 10 then truthE (decide (n1 < n2))
  else if kind = 11 then ⟨2, satI (n1 + n2), noStr, true⟩
  else if kind = 12 then ⟨2, satI (n1 - n2), noStr, true⟩
  else ⟨2, satI (n1 * n2), noStr, true⟩

theorem fin_res {x y : EV} (h : y = x) : Ending.returned x.res = .returned y.res := by rw [h]
theorem or_ne_of {k1 k2 : Int} {b : Bool} (h : ((k1 != 2) || (k2 != 2)) = b) : (k1 ≠ 2 ∨ k2 ≠ 2) ↔ b = true := by subst h; simp

set_option maxHeartbeats 1000000 in
theorem operation_any (kind k1 n1 : Int) (s1 : ByteArray) (k2 n2 : Int) (s2 : ByteArray) (w : World) (h1 : I64 n1) (h2 : I64 n2) :
    Calls Try.prog 76 #[.int .i64 kind, .agg #[.int .i64 k1, .int .i64 n1, .string s1], .agg #[.int .i64 k2, .int .i64 n2, .string s2]] w fun r w' => r = .returned (opE kind k1 n1 s1 k2 n2 s2).res ∧ Below w.heap.size w w' := by
  go_enter Try.func76, Try.ntmps76
  go_wp2_with (first | (go_at_call 96; refine (add_any _ _ _ h1 h2).mono ?_; rintro r w2 ⟨rfl, rfl⟩) | (go_at_call 97; refine (sub_any _ _ _ h1 h2).mono ?_; rintro r w2 ⟨rfl, rfl⟩) | (go_at_call 98; refine (mul_any _ _ _ h1 h2).mono ?_; rintro r w2 ⟨rfl, rfl⟩))
  all_goals try exact bodyPost_ret (v := .tuple #[.agg #[.int .i64 2, .int .i64 _, .string noStr], .bool true]) (by simp [results, Try.results76, go_sem, noStr]; try rfl) rfl ⟨by simp only [opE]; grind, by (repeat (first | exact Below.refl _ _ | refine Below.al ?_ _ | refine Below.st ?_ (by simp; omega) _)); done⟩
  all_goals try (refine (unknown_any _).mono ?_; rintro r w2 ⟨rfl, hb2⟩)
  all_goals try (refine (truth_any _ _).mono ?_; rintro r w2 ⟨rfl, hb2⟩)
  all_goals first
    | (have hR := ((Blk.at2 w _ _ _ _).alloc _).below hb2
       have cR := hR.cell
       have fR := hR.free)
    | (have hR := ((Blk.at2 w _ _ _ _)).below hb2
       have cR := hR.cell
       have fR := hR.free)
    | skip
  all_goals go_wp2_with fail
  all_goals
    refine bodyPost_ret (v := ?_) ?_ rfl ?_
    rotate_left
    · simp [results, Try.results76, go_sem, cR]; exact rfl
    refine ⟨?_, ?_⟩
    rotate_left
    · have hs := hR.lt
      (repeat (first | exact Below.refl _ _ | refine Below.al ?_ _ | refine Below.st ?_ (by simp; omega) _ | refine Below.th ?_ (by assumption))); done
    · first
        | (refine fin_res (x := truthE true) ?_; unfold opE; go_tidy; (try simp only [toList_inj] at *); grind)
        | (refine fin_res (x := truthE false) ?_; unfold opE; go_tidy; (try simp only [toList_inj] at *); grind)
        | (refine fin_res (x := truthE (decide (n1 < n2))) ?_; unfold opE; go_tidy; grind)
        | (refine fin_res (x := unknownE) ?_; unfold opE; go_tidy; grind)
end Go.Proofs.Ytnelgblmogciiaa
