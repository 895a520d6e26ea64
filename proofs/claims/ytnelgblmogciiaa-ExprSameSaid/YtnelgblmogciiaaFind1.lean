/- The value of an expression: the kinds without kids. -/
import Derived.Test.YtnelgblmogciiaaEval3
import Derived.Deep.RegionHeld3
set_option linter.unusedSimpArgs false
set_option linter.unusedVariables false
namespace Go.Proofs.Ytnelgblmogciiaa
open Go.RowKit

/-- And (which 0 decides) or or (1). -/
def junE (d : Int) : List EV → Bool → EV
  | [], opened => if opened then unknownE else truthE (decide (d = 0))
  | x :: l, opened => if x.ok = false ∨ x.k ≠ 1 then junE d l true else if x.n = d then truthE (decide (d = 1)) else junE d l opened
/-- The number of a weekday's bit in a mask. -/
def dayB (n m : Int) : Bool := bits BinOp.and IntKind.i64 (n / 2 ^ (weekdayI m).toNat) 1 == 1
/-- The value of a node, from its kids' values. -/
def nodeE (V : LView) (h : Hd) (xs : List EV) : EV :=
  if h.kind = 1 then ⟨h.vk, h.vn, h.vs, true⟩
  else if h.kind = 2 then attrE V.items h.dev h.cl h.at_
  else if h.kind = 3 then truthE (decide (V.mode = h.name))
  else if h.kind = 4 then (if V.minute < 0 then unknownE else truthE (decide (duringP (ofDayI V.minute) h.n h.m)))
  else if h.kind = 5 then (if V.minute < 0 then unknownE else truthE (dayB h.n V.minute))
  else if h.kind = 15 then truthE (homeB V.members h.n)
  else if h.kind = 6 then (if (xs.getD 0 unknownE).ok = false ∨ (xs.getD 0 unknownE).k ≠ 1 then unknownE else truthE (decide ((xs.getD 0 unknownE).n = 0)))
  else if h.kind = 7 then junE 0 xs false
  else if h.kind = 8 then junE 1 xs false
  else if h.kind = 14 then (if (xs.getD 0 unknownE).ok = false ∨ (xs.getD 0 unknownE).k ≠ 1 then unknownE else if (xs.getD 0 unknownE).n = 1 then xs.getD 1 unknownE else xs.getD 2 unknownE)
  else if (xs.getD 0 unknownE).ok = false ∨ (xs.getD 1 unknownE).ok = false then unknownE
  else opE h.kind (xs.getD 0 unknownE).k (xs.getD 0 unknownE).n (xs.getD 0 unknownE).s (xs.getD 1 unknownE).k (xs.getD 1 unknownE).n (xs.getD 1 unknownE).s

mutual
/-- The value of an expression. -/
def findS (V : LView) : LExpr → EV
  | .mk h ks => nodeE V h (findL V ks)
def findL (V : LView) : List LExpr → List EV
  | [] => []
  | k :: ks => findS V k :: findL V ks
end

/-- What find answers at an expression. -/
def FindOk (V : LView) (e : LExpr) : Prop := ∀ (vc cs : List Value) (B : Nat) (w : World), B ≤ w.heap.size → IsView B w V vc → IsExpr B w e cs →
    Calls Try.prog 44 #[.agg vc.toArray, .agg cs.toArray] w fun r w' => r = .returned (findS V e).res ∧ Below w.heap.size w w'

set_option maxRecDepth 100000 in
set_option maxHeartbeats 1000000 in
theorem find_lit (V : LView) (h : Hd) (ks : List LExpr) (hk : h.kind = 1) : FindOk V (.mk h ks) := by
  intro vc cs B w hB hv he
  obtain ⟨hd, ks', A, c, hh, rfl, hlen⟩ := he.form
  cases hh
  obtain ⟨IA, ic, MA, mc, rfl, _⟩ := hv
  clear he
  go_enter Try.func44, Try.ntmps44
  unfold Hd.cells
  rw [hk]
  go_wp2_with fail
  refine bodyPost_ret (v := ?_) ?_ rfl ?_
  rotate_left
  · simp [results, Try.results44, go_sem]; exact rfl
  refine ⟨fin_res (x := ⟨h.vk, h.vn, h.vs, true⟩) ?_, ?_⟩
  · simp only [findS, nodeE, if_pos hk]
  · repeat (first | exact Below.refl _ _ | refine Below.al ?_ _ | refine Below.st ?_ (by simp; omega) _)

set_option maxRecDepth 100000 in
set_option maxHeartbeats 1000000 in
theorem find_attr (V : LView) (h : Hd) (ks : List LExpr) (hk : h.kind = 2) : FindOk V (.mk h ks) := by
  intro vc cs B w hB hv he
  obtain ⟨hd, ks', A, c, hh, rfl, hlen⟩ := he.form
  cases hh
  have HA := fun o1 o2 o3 => Lib.hid (attribute_any V vc h.dev h.cl h.at_ B (((w.alloc o1).alloc o2).alloc o3) (by simp; omega) (hv.carry ((((Below.refl B w).alloc hB o1).alloc (by simp; omega) o2).alloc (by simp; omega) o3)))
  have hs : findS V (.mk h ks) = attrE V.items h.dev h.cl h.at_ := by simp [findS, nodeE, hk]
  rw [hs]
  generalize attrE V.items h.dev h.cl h.at_ = R at *
  obtain ⟨IA, ic, MA, mc, rfl, _⟩ := hv
  clear he hs
  go_enter Try.func44, Try.ntmps44
  unfold Hd.cells
  rw [hk]
  go_wp2_with fail
  refine (HA _ _ _).out.mono ?_
  rintro r w2 ⟨rfl, hb2⟩
  have hR := ((Blk.at2 w _ _ _ _)).below hb2
  have cR := hR.cell
  have fR := hR.free
  have hs := hR.lt
  clear HA
  go_wp2_with fail
  refine bodyPost_ret (v := ?_) ?_ rfl ?_
  rotate_left
  · simp [results, Try.results44, go_sem, cR]; exact rfl
  refine ⟨rfl, ?_⟩
  (repeat (first | exact Below.refl _ _ | refine Below.al ?_ _ | refine Below.st ?_ (by simp; omega) _ | refine Below.th ?_ (by assumption)))

set_option maxRecDepth 100000 in
set_option maxHeartbeats 1000000 in
theorem find_mode (V : LView) (h : Hd) (ks : List LExpr) (hk : h.kind = 3) : FindOk V (.mk h ks) := by
  intro vc cs B w hB hv he
  obtain ⟨hd, ks', A, c, hh, rfl, hlen⟩ := he.form
  cases hh
  have hs : findS V (.mk h ks) = truthE (decide (V.mode = h.name)) := by simp [findS, nodeE, hk]
  rw [hs, ← toList_beq]
  obtain ⟨IA, ic, MA, mc, rfl, _⟩ := hv
  clear he hs
  go_enter Try.func44, Try.ntmps44
  unfold Hd.cells
  rw [hk]
  go_wp2_with fail
  refine (truth_any _ _).mono ?_
  rintro r w2 ⟨rfl, hb2⟩
  have hR := ((Blk.at2 w _ _ _ _)).below hb2
  have cR := hR.cell
  have fR := hR.free
  have hs := hR.lt
  go_wp2_with fail
  refine bodyPost_ret (v := ?_) ?_ rfl ?_
  rotate_left
  · simp [results, Try.results44, go_sem, cR]; exact rfl
  refine ⟨rfl, ?_⟩
  (repeat (first | exact Below.refl _ _ | refine Below.al ?_ _ | refine Below.st ?_ (by simp; omega) _ | refine Below.th ?_ (by assumption)))

set_option maxRecDepth 100000 in
set_option maxHeartbeats 1000000 in
theorem find_home (V : LView) (h : Hd) (ks : List LExpr) (hk : h.kind = 15) : FindOk V (.mk h ks) := by
  intro vc cs B w hB hv he
  obtain ⟨hd, ks', A, c, hh, rfl, hlen⟩ := he.form
  cases hh
  have hs : findS V (.mk h ks) = truthE (homeB V.members h.n) := by simp [findS, nodeE, hk]
  rw [hs]
  obtain ⟨IA, ic, MA, mc, rfl, _, hM, _, _, hml⟩ := hv
  have HA := fun o1 o2 o3 => Lib.hid (home_any V.members MA mc h.n B (((w.alloc o1).alloc o2).alloc o3) (by simp; omega) (hM.carry ((((Below.refl B w).alloc hB o1).alloc (by simp; omega) o2).alloc (by simp; omega) o3)) hml)
  clear he hs
  go_enter Try.func44, Try.ntmps44
  unfold Hd.cells
  rw [hk]
  go_wp2_with fail
  refine (HA _ _ _).out.mono ?_
  rintro r w1 ⟨rfl, hb1⟩
  have hR1 := ((Blk.at2 w _ _ _ _)).below hb1
  clear HA
  go_wp2_with fail
  refine (truth_any _ _).mono ?_
  rintro r w2 ⟨rfl, hb2⟩
  have hR := hR1.below hb2
  have cR := hR.cell
  have fR := hR.free
  have hs := hR.lt
  go_wp2_with fail
  refine bodyPost_ret (v := ?_) ?_ rfl ?_
  rotate_left
  · simp [results, Try.results44, go_sem, cR]; exact rfl
  refine ⟨rfl, ?_⟩
  (repeat (first | exact Below.refl _ _ | refine Below.al ?_ _ | refine Below.st ?_ (by simp; omega) _ | refine Below.th ?_ (by assumption)))

end Go.Proofs.Ytnelgblmogciiaa
