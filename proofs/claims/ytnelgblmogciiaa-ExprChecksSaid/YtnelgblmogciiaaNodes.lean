/- Contracts of the functions that check one node of an expression. Contracts of the functions that check one node of an expression, continued. The check of one node, by the program and by the reference. -/
import Derived.Test.YtnelgblmogciiaaGround
namespace Go.Proofs.Ytnelgblmogciiaa
section
set_option linter.unusedSimpArgs false
set_option linter.unusedVariables false
open Go.RowKit

/-- Can a kind have a number of kids? -/
def kidsOk (k n : Int) : Prop :=
  (k = 6 ∧ n = 1) ∨ ((k = 7 ∨ k = 8) ∧ 2 ≤ n ∧ n ≤ 8) ∨ (9 ≤ k ∧ k ≤ 13 ∧ n = 2) ∨ (k = 14 ∧ n = 3) ∨ (¬ (6 ≤ k ∧ k ≤ 14) ∧ n = 0)
instance (k n : Int) : Decidable (kidsOk k n) := by unfold kidsOk; infer_instance

set_option maxHeartbeats 1000000 in
theorem kids_any (k n : Int) (w : World) : Calls Try.prog 86 #[.int .i64 k, .int .i64 n] w fun e w' => e = .returned (.bool (decide (kidsOk k n))) ∧ w = w' := by
  go_enter Try.func86, Try.ntmps86
  go_wp2_with fail
  all_goals go_ret
  all_goals (refine ⟨ret_bool (bool_is ?_), rfl⟩; unfold kidsOk; (try simp only [beq_iff_eq, bne_iff_ne, Bool.not_eq_true', beq_eq_false_iff_ne, bne_eq_false_iff_eq, ne_eq, decide_eq_decide, decide_eq_true_eq, decide_eq_false_iff_not, Bool.not_eq_eq_eq_not, Bool.not_true, Bool.not_false, Bool.and_eq_true, Bool.or_eq_true, Bool.and_eq_false_iff, Bool.or_eq_false_iff, List.isEmpty_iff, List.isEmpty_eq_false_iff, Bool.false_eq_true, false_iff, true_iff, toList_nil] at *); omega)

/-- Has a node no field that its kind does not have? -/
structure Hd.spare (h : Hd) : Prop where
  n : h.kind = 4 ∨ h.kind = 5 ∨ h.kind = 15 ∨ h.n = 0
  m : h.kind = 4 ∨ h.m = 0
  name : h.kind = 3 ∨ h.name.size = 0
  val : h.kind = 1 ∨ (h.vk = 0 ∧ h.vn = 0 ∧ h.vs.size = 0)
  key : h.kind = 2 ∨ (h.dev = 0 ∧ h.cl.size = 0 ∧ h.at_.size = 0)

def spareP (k n m nm vk vn vs dv cl at_ : Int) : Prop :=
  (k = 4 ∨ k = 5 ∨ k = 15 ∨ n = 0) ∧ (k = 4 ∨ m = 0) ∧ (k = 3 ∨ nm = 0) ∧ (k = 1 ∨ (vk = 0 ∧ vn = 0 ∧ vs = 0)) ∧ (k = 2 ∨ (dv = 0 ∧ cl = 0 ∧ at_ = 0))
instance (k n m nm vk vn vs dv cl at_ : Int) : Decidable (spareP k n m nm vk vn vs dv cl at_) := by unfold spareP; infer_instance
def Hd.spareB (h : Hd) : Bool := decide (spareP h.kind h.n h.m h.name.size h.vk h.vn h.vs.size h.dev h.cl.size h.at_.size)

set_option maxHeartbeats 2000000 in
theorem spare_any (h : Hd) (A : Option Addr) (l c : Nat) (w : World) : Calls Try.prog 87 #[.agg (h.cells (.slice A l c)).toArray] w fun e w' => e = .returned (.bool (!h.spareB)) ∧ Below w.heap.size w w' := by
  obtain ⟨k, n, m, nm, vk, vn, vs, dv, cl, at_⟩ := h
  simp only [Hd.spareB, Hd.cells]
  go_enter Try.func87, Try.ntmps87
  go_wp2_with fail
  all_goals go_ret
  all_goals refine ⟨ret_bool ?_, ?_⟩
  rotate_left
  all_goals first | (((repeat (refine Below.al ?_ _)); exact Below.refl _ _)) | (go_tidy; refine bool_isNot ?_; simp only [beq_iff_eq, bne_iff_ne, Bool.not_eq_true', beq_eq_false_iff_ne, bne_eq_false_iff_eq, ne_eq, decide_eq_decide, decide_eq_true_eq, decide_eq_false_iff_not, Bool.not_eq_eq_eq_not, Bool.not_true, Bool.not_false, Bool.and_eq_true, Bool.or_eq_true, Bool.and_eq_false_iff, Bool.or_eq_false_iff, List.isEmpty_iff, List.isEmpty_eq_false_iff, Bool.false_eq_true, false_iff, true_iff, toList_nil] at *; unfold spareP; first | omega | trace_state)
end

section
set_option linter.unusedSimpArgs false
set_option linter.unusedVariables false
open Go.RowKit

def kidsLo (k : Int) : Int := if k = 6 then 1 else if k = 7 ∨ k = 8 then 2 else if 9 ≤ k ∧ k ≤ 13 then 2 else if k = 14 then 3 else 0
def kidsHi (k : Int) : Int := if k = 6 then 1 else if k = 7 ∨ k = 8 then 8 else if 9 ≤ k ∧ k ≤ 13 then 2 else if k = 14 then 3 else 0
theorem kidsOk_iff (k n : Int) : kidsOk k n ↔ kidsLo k ≤ n ∧ n ≤ kidsHi k := by
  unfold kidsOk kidsLo kidsHi; repeat' split <;> omega
theorem ret_two {k k' : IntKind} {a b a' b' : Int} (h : a = b) (h' : a' = b') : Ending.returned (.tuple #[.int k a, .int k' a']) = .returned (.tuple #[.int k b, .int k' b']) := by rw [h, h']

set_option maxHeartbeats 1000000 in
theorem rkids_any (k : Int) (w : World) : Calls Try.prog 109 #[.int .i64 k] w fun e w' => e = .returned (.tuple #[.int .i64 (kidsLo k), .int .i64 (kidsHi k)]) ∧ w = w' := by
  go_enter Try.func109, Try.ntmps109
  go_wp2_with fail
  all_goals go_ret2
  all_goals (refine ⟨ret_two ?_ ?_, rfl⟩ <;> (simp only [kidsLo, kidsHi]; (try simp only [beq_iff_eq, bne_iff_ne, Bool.not_eq_true', beq_eq_false_iff_ne, bne_eq_false_iff_eq, ne_eq, decide_eq_decide, decide_eq_true_eq, decide_eq_false_iff_not, Bool.not_eq_eq_eq_not, Bool.not_true, Bool.not_false, Bool.and_eq_true, Bool.or_eq_true, Bool.and_eq_false_iff, Bool.or_eq_false_iff, List.isEmpty_iff, List.isEmpty_eq_false_iff, Bool.false_eq_true, false_iff, true_iff, toList_nil] at *); repeat' split <;> omega))

set_option maxHeartbeats 2000000 in
theorem rspare_any (h : Hd) (A : Option Addr) (l c : Nat) (w : World) : Calls Try.prog 110 #[.agg (h.cells (.slice A l c)).toArray] w fun e w' => e = .returned (.bool h.spareB) ∧ Below w.heap.size w w' := by
  obtain ⟨k, n, m, nm, vk, vn, vs, dv, cl, at_⟩ := h
  simp only [Hd.spareB, Hd.cells]
  go_enter Try.func110, Try.ntmps110
  go_wp2_with fail
  all_goals go_ret
  all_goals refine ⟨ret_bool ?_, ?_⟩
  rotate_left
  all_goals first | (((repeat (refine Below.al ?_ _)); exact Below.refl _ _)) | (go_tidy; refine bool_is ?_; simp only [beq_iff_eq, bne_iff_ne, Bool.not_eq_true', beq_eq_false_iff_ne, bne_eq_false_iff_eq, ne_eq, decide_eq_decide, decide_eq_true_eq, decide_eq_false_iff_not, Bool.not_eq_eq_eq_not, Bool.not_true, Bool.not_false, Bool.and_eq_true, Bool.or_eq_true, Bool.and_eq_false_iff, Bool.or_eq_false_iff, List.isEmpty_iff, List.isEmpty_eq_false_iff, Bool.false_eq_true, false_iff, true_iff, toList_nil] at *; unfold spareP; omega)

/-- Are the numbers of a node in range? -/
def rangesP (k n m dv : Int) : Prop :=
  (k = 4 → 0 ≤ n ∧ n ≤ 1439 ∧ 0 ≤ m ∧ m ≤ 1439) ∧ (k = 5 → 1 ≤ n ∧ n ≤ 127) ∧ (k = 15 → 0 ≤ n ∧ n ≤ 4) ∧ (k = 2 → 1 ≤ dv ∧ dv ≤ 250)
instance (k n m dv : Int) : Decidable (rangesP k n m dv) := by unfold rangesP; infer_instance
def Hd.rangesB (h : Hd) : Bool := decide (rangesP h.kind h.n h.m h.dev)

set_option maxHeartbeats 2000000 in
theorem ranges_any (h : Hd) (A : Option Addr) (l c : Nat) (w : World) : Calls Try.prog 88 #[.agg (h.cells (.slice A l c)).toArray] w fun e w' => e = .returned (.bool h.rangesB) ∧ Below w.heap.size w w' := by
  obtain ⟨k, n, m, nm, vk, vn, vs, dv, cl, at_⟩ := h
  simp only [Hd.rangesB, Hd.cells]
  go_enter Try.func88, Try.ntmps88
  go_wp2_with fail
  all_goals go_ret
  all_goals refine ⟨ret_bool ?_, ?_⟩
  rotate_left
  all_goals first | (((repeat (refine Below.al ?_ _)); exact Below.refl _ _)) | (go_tidy; refine bool_is ?_; (try simp only [beq_iff_eq, bne_iff_ne, Bool.not_eq_true', beq_eq_false_iff_ne, bne_eq_false_iff_eq, ne_eq, decide_eq_decide, decide_eq_true_eq, decide_eq_false_iff_not, Bool.not_eq_eq_eq_not, Bool.not_true, Bool.not_false, Bool.and_eq_true, Bool.or_eq_true, Bool.and_eq_false_iff, Bool.or_eq_false_iff, List.isEmpty_iff, List.isEmpty_eq_false_iff, Bool.false_eq_true, false_iff, true_iff, toList_nil] at *); unfold rangesP; first | omega | trace_state)
end

section
set_option linter.unusedSimpArgs false
set_option linter.unusedVariables false
open Go.RowKit

/-- What a node's check comes to. -/
def nodeCheck (h : Hd) (len : Int) : Int :=
  if h.kind < 1 ∨ 15 < h.kind then 7 else
  if ¬ kidsOk h.kind len ∨ h.spareB = false then 1 else
  if h.rangesB = false then 2 else
  if h.kind = 3 ∧ validName h.name = false then 10 else
  if h.kind = 2 ∧ (validName h.cl = false ∨ validName h.at_ = false) then 10 else
  if h.kind = 1 ∧ valCheck h.vk h.vn h.vs ≠ 0 then valCheck h.vk h.vn h.vs else
  if h.kind = 1 ∧ h.vk = 0 then 7 else 0

set_option maxHeartbeats 2000000 in
theorem node_any (h : Hd) (A : Option Addr) (l c : Nat) (w : World) (hl : l ≤ 2000000000000) : Calls Try.prog 50 #[.agg (h.cells (.slice A l c)).toArray] w fun e w' => e = .returned (.int .i64 (nodeCheck h l)) ∧ Below w.heap.size w w' := by
  obtain ⟨k, n, m, nm, vk, vn, vs, dv, cl, at_⟩ := h
  simp only [Hd.cells]
  go_enter Try.func50, Try.ntmps50
  go_wp2_with (first | (go_at_call 86; refine (kids_any _ _ _).mono ?_; rintro r w2 ⟨rfl, rfl⟩) | (go_at_call 87; refine (spare_any ⟨k, n, m, nm, vk, vn, vs, dv, cl, at_⟩ A l c _).mono ?_; rintro r w2 ⟨rfl, hb2⟩; have hc2 := (bcell hb2).1; have hz2 := hb2.size; (try simp only [World.size_alloc] at hz2); have hs2 : w.heap.size < w2.heap.size := by omega) | (go_at_call 88; refine (ranges_any ⟨k, n, m, nm, vk, vn, vs, dv, cl, at_⟩ A l c _).mono ?_; rintro r w2 ⟨rfl, hb2⟩; have hc2 := (bcell hb2).1; have hz2 := hb2.size; (try simp only [World.size_alloc] at hz2); have hs2 : w.heap.size < w2.heap.size := by omega) | (go_at_call 89; refine (validName_any _ _).mono ?_; rintro r w2 ⟨rfl, hb2⟩; have hc2 := (bcell hb2).1; have hz2 := hb2.size; (try simp only [World.size_alloc] at hz2); have hs2 : w.heap.size < w2.heap.size := by omega) | (go_at_call 90; refine (valCheck_any _ _ _ _).mono ?_; rintro r w2 ⟨rfl, hb2⟩; have hc2 := (bcell hb2).1; have hz2 := hb2.size; (try simp only [World.size_alloc] at hz2); have hs2 : w.heap.size < w2.heap.size := by omega))
  all_goals go_ret
  all_goals refine ⟨ret_int ?_, ?_⟩
  rotate_left
  all_goals first | ((repeat (first | exact Below.refl _ _ | refine Below.al ?_ _ | refine Below.th ?_ (by assumption))); done) | (go_tidy; unfold nodeCheck; grind)

set_option maxRecDepth 100000 in
set_option maxHeartbeats 2000000 in
theorem rnode_any (h : Hd) (A : Option Addr) (l c : Nat) (w : World) (hl : l ≤ 2000000000000) : Calls Try.prog 84 #[.agg (h.cells (.slice A l c)).toArray] w fun e w' => e = .returned (.int .i64 (nodeCheck h l)) ∧ Below w.heap.size w w' := by
  have hk := Lib.hid (kidsOk_iff h.kind l)
  have hr : h.rangesB = decide (rangesP h.kind h.n h.m h.dev) := rfl
  have HR := Lib.hid hr
  clear hr
  obtain ⟨k, n, m, nm, vk, vn, vs, dv, cl, at_⟩ := h
  simp only [Hd.cells]
  go_enter Try.func84, Try.ntmps84
  go_wp2_with (first | (go_at_call 109; refine (rkids_any _ _).mono ?_; rintro r w2 ⟨rfl, rfl⟩) | (go_at_call 110; refine (rspare_any ⟨k, n, m, nm, vk, vn, vs, dv, cl, at_⟩ A l c _).mono ?_; rintro r w2 ⟨rfl, hb2⟩; have hc2 := (bcell hb2).1; have hz2 := hb2.size; (try simp only [World.size_alloc] at hz2); have hs2 : w.heap.size < w2.heap.size := by omega) | (go_at_call 111; refine (rvalidName_any _ _).mono ?_; rintro r w2 ⟨rfl, rfl⟩) | (go_at_call 104; refine (rvalCheck_any _ _ _ _).mono ?_; rintro r w2 ⟨rfl, hb2⟩; have hc2 := (bcell hb2).1; have hz2 := hb2.size; (try simp only [World.size_alloc] at hz2); have hs2 : w.heap.size < w2.heap.size := by omega))
  all_goals go_ret
  all_goals refine ⟨ret_int ?_, ?_⟩
  rotate_left
  all_goals first | ((repeat (first | exact Below.refl _ _ | refine Below.al ?_ _ | refine Below.th ?_ (by assumption))); done) | (go_tidy; have hk := hk.out; have hr := HR.out; unfold nodeCheck; unfold rangesP at hr; grind)
end

end Go.Proofs.Ytnelgblmogciiaa
