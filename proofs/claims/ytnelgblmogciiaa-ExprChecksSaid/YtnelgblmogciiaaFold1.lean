/- Folding: the small functions. -/
import Derived.Test.YtnelgblmogciiaaRebuild
import Derived.Test.YtnelgblmogciiaaCheck
set_option linter.unusedSimpArgs false
set_option linter.unusedVariables false
namespace Go.Proofs.Ytnelgblmogciiaa
open Go.RowKit


/-- Is a node a literal boolean with this number? -/
def isLit (h : Hd) (n : Int) : Bool := decide (h.kind = 1 ∧ h.vk = 1 ∧ h.vn = n)
/-- Is it a literal integer? -/
def isNum (h : Hd) : Bool := decide (h.kind = 1 ∧ h.vk = 2)

set_option maxHeartbeats 1000000 in
theorem is_any (h : Hd) (A : Option Addr) (l c : Nat) (n : Int) (w : World) : Calls Try.prog 62 #[.agg (h.cells (.slice A l c)).toArray, .int .i64 n] w fun r w' => r = .returned (.bool (isLit h n)) ∧ Below w.heap.size w w' := by
  obtain ⟨k, n', m, nm, vk, vn, vs, dv, cl, at_⟩ := h
  simp only [isLit, Hd.cells]
  by_cases h1 : k = 1
  · by_cases h2 : vk = 1
    · subst h1 h2
      go_enter Try.func62, Try.ntmps62
      go_wp2_with fail
      go_ret
      exact ⟨ret_bool (by rw [Bool.eq_iff_iff]; simp), (Below.refl _ _).al _⟩
    · subst h1
      have q : (vk == 1) = false := by simpa using h2
      go_enter Try.func62, Try.ntmps62
      go_wp2_with fail
      go_ret
      exact ⟨ret_bool (by simp [h2]), (Below.refl _ _).al _⟩
  · have q : (k == 1) = false := by simpa using h1
    go_enter Try.func62, Try.ntmps62
    go_wp2_with fail
    go_ret
    exact ⟨ret_bool (by simp [h1]), (Below.refl _ _).al _⟩

set_option maxHeartbeats 1000000 in
theorem number_any (h : Hd) (A : Option Addr) (l c : Nat) (w : World) : Calls Try.prog 95 #[.agg (h.cells (.slice A l c)).toArray] w fun r w' => r = .returned (.bool (isNum h)) ∧ Below w.heap.size w w' := by
  obtain ⟨k, n', m, nm, vk, vn, vs, dv, cl, at_⟩ := h
  simp only [isNum, Hd.cells]
  by_cases h1 : k = 1
  · subst h1
    go_enter Try.func95, Try.ntmps95
    go_wp2_with fail
    go_ret
    exact ⟨ret_bool (by simp; rfl), (Below.refl _ _).al _⟩
  · have q : (k == 1) = false := by simpa using h1
    go_enter Try.func95, Try.ntmps95
    go_wp2_with fail
    go_ret
    exact ⟨ret_bool (by simp [h1]), (Below.refl _ _).al _⟩

def litB (b : Bool) : Hd := litH (if b then 1 else 0)

set_option maxHeartbeats 1000000 in
theorem literal_any (b : Bool) (w : World) : Calls Try.prog 63 #[.bool b] w fun r w' => r = .returned (.agg ((litB b).cells (.slice none 0 0)).toArray) ∧ Below w.heap.size w w' := by
  cases b
  all_goals
    go_enter Try.func63, Try.ntmps63
    go_wp2_with fail
    refine bodyPost_ret (v := ?_) ?_ rfl ?_
    rotate_left
    · simp [results, Try.results63, go_sem]; exact rfl
    refine ⟨by simp [Hd.cells, litB, litH, noStr]; try rfl, ?_⟩
    (repeat (first | exact Below.refl _ _ | refine Below.al ?_ _ | refine Below.st ?_ (by simp; try omega) _ | refine Below.th ?_ (by assumption)))

/-- A leaf reads as an expression. -/
theorem leafP (ok : Nat → Prop) (W : World) (h : Hd) (hok : h.ok) (A : Option Addr) (c : Nat) : IsExprP ok W (.mk h []) (h.cells (.slice A 0 c)) :=
  .mk h [] A c 0 0 (fun _ => List.replicate 11 undef) hok (by simp) (fun h0 => by simp at h0) (fun _ => by simp) (fun i hi => by simp at hi) (fun i hi => by simp at hi)
theorem litB_ok (b : Bool) : (litB b).ok := by unfold litB; split <;> exact litH_ok (by unfold I64; decide)

set_option maxHeartbeats 1000000 in
theorem fold1_any (x : LExpr) (v : Value) (ok : Nat → Prop) (w : World) (h0 : ∀ b, w.heap.size ≤ b → ok b) (hx : Ex ok x v w) : Calls Try.prog 60 (#[v] ++ #[]) w (RetEx ok x w) := by
  obtain ⟨cs, rfl, he⟩ := hx
  obtain ⟨hd, k, A, c, hcs⟩ := he.form
  subst hcs
  unfold Hd.cells at *
  simp only [Array.append_empty]
  have he' := fun o1 o2 => (he.lat (Lat.al w o1)).lat (Lat.al _ o2)
  go_enter Try.func60, Try.ntmps60
  go_wp2_with fail
  refine bodyPost_ret (v := ?_) ?_ rfl ?_
  rotate_left
  · simp [results, Try.results60, go_sem]; exact rfl
  exact ⟨⟨_, rfl, _, rfl, he' _ _⟩, ((Below.refl _ _).al _).al _⟩

end Go.Proofs.Ytnelgblmogciiaa
