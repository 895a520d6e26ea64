/- The check of one node, by the program and by the reference. -/
import Derived.Test.YtnelgblmogciiaaNode2
set_option linter.unusedSimpArgs false
set_option linter.unusedVariables false
namespace Go.Proofs.Ytnelgblmogciiaa
open Go.RowKit

/-- What a node's check comes to. -/
def nodeCheck (h : Hd) (len : Int) : Int :=
  if h.kind < 1 ∨ 15 < h.kind then 7 else
  if ¬ kidsOk h.kind len ∨ h.spareB = false then 1 else
  if h.rangesB = false then 2 else
  if h.kind = 3 ∧ validName h.name = false then 10 else
  if h.kind = 2 ∧ (validName h.cl = false ∨ validName h.at_ = false) then 10 else
  if h.kind = 1 ∧ valCheck h.vk h.vn h.vs ≠ 0 then valCheck h.vk h.vn h.vs else
  if h.kind = 1 ∧ h.vk = 0 then 7 else 0

set_option maxHeartbeats 2000000 in
theorem node_any (h : Hd) (A : Option Addr) (l c : Nat) (w : World) (hl : l ≤ 2000000000000) : Calls Try.prog 50 #[.agg (h.cells (.slice A l c)).toArray] w fun e w' => e = .returned (.int .i64 (nodeCheck h l)) ∧ Below w.heap.size w w' := by
  obtain ⟨k, n, m, nm, vk, vn, vs, dv, cl, at_⟩ := h
  simp only [Hd.cells]
  go_enter Try.func50, Try.ntmps50
  go_wp2_with (first | (go_at_call 86; refine (kids_any _ _ _).mono ?_; rintro r w2 ⟨rfl, rfl⟩) | (go_at_call 87; refine (spare_any ⟨k, n, m, nm, vk, vn, vs, dv, cl, at_⟩ A l c _).mono ?_; rintro r w2 ⟨rfl, hb2⟩; have hc2 := (bcell hb2).1; have hz2 := hb2.size; (try simp only [World.size_alloc] at hz2); have hs2 : w.heap.size < w2.heap.size := by omega) | (go_at_call 88; refine (ranges_any ⟨k, n, m, nm, vk, vn, vs, dv, cl, at_⟩ A l c _).mono ?_; rintro r w2 ⟨rfl, hb2⟩; have hc2 := (bcell hb2).1; have hz2 := hb2.size; (try simp only [World.size_alloc] at hz2); have hs2 : w.heap.size < w2.heap.size := by omega) | (go_at_call 89; refine (validName_any _ _).mono ?_; rintro r w2 ⟨rfl, hb2⟩; have hc2 := (bcell hb2).1; have hz2 := hb2.size; (try simp only [World.size_alloc] at hz2); have hs2 : w.heap.size < w2.heap.size := by omega) | (go_at_call 90; refine (valCheck_any _ _ _ _).mono ?_; rintro r w2 ⟨rfl, hb2⟩; have hc2 := (bcell hb2).1; have hz2 := hb2.size; (try simp only [World.size_alloc] at hz2); have hs2 : w.heap.size < w2.heap.size := by omega))
  all_goals go_ret
  all_goals refine ⟨ret_int ?_, ?_⟩
  rotate_left
  all_goals first | ((repeat (first | exact Below.refl _ _ | refine Below.al ?_ _ | refine Below.th ?_ (by assumption))); done) | (go_tidy; unfold nodeCheck; grind)

set_option maxRecDepth 100000 in
set_option maxHeartbeats 2000000 in
theorem rnode_any (h : Hd) (A : Option Addr) (l c : Nat) (w : World) (hl : l ≤ 2000000000000) : Calls Try.prog 84 #[.agg (h.cells (.slice A l c)).toArray] w fun e w' => e = .returned (.int .i64 (nodeCheck h l)) ∧ Below w.heap.size w w' := by
  have hk := Lib.hid (kidsOk_iff h.kind l)
  have hr : h.rangesB = decide (rangesP h.kind h.n h.m h.dev) := rfl
  have HR := Lib.hid hr
  clear hr
  obtain ⟨k, n, m, nm, vk, vn, vs, dv, cl, at_⟩ := h
  simp only [Hd.cells]
  go_enter Try.func84, Try.ntmps84
  go_wp2_with (first | (go_at_call 109; refine (rkids_any _ _).mono ?_; rintro r w2 ⟨rfl, rfl⟩) | (go_at_call 110; refine (rspare_any ⟨k, n, m, nm, vk, vn, vs, dv, cl, at_⟩ A l c _).mono ?_; rintro r w2 ⟨rfl, hb2⟩; have hc2 := (bcell hb2).1; have hz2 := hb2.size; (try simp only [World.size_alloc] at hz2); have hs2 : w.heap.size < w2.heap.size := by omega) | (go_at_call 111; refine (rvalidName_any _ _).mono ?_; rintro r w2 ⟨rfl, rfl⟩) | (go_at_call 104; refine (rvalCheck_any _ _ _ _).mono ?_; rintro r w2 ⟨rfl, hb2⟩; have hc2 := (bcell hb2).1; have hz2 := hb2.size; (try simp only [World.size_alloc] at hz2); have hs2 : w.heap.size < w2.heap.size := by omega))
  all_goals go_ret
  all_goals refine ⟨ret_int ?_, ?_⟩
  rotate_left
  all_goals first | ((repeat (first | exact Below.refl _ _ | refine Below.al ?_ _ | refine Below.th ?_ (by assumption))); done) | (go_tidy; have hk := hk.out; have hr := HR.out; unfold nodeCheck; unfold rangesP at hr; grind)

end Go.Proofs.Ytnelgblmogciiaa
