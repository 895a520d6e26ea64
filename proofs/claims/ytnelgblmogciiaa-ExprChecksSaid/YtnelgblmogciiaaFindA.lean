/- The value of an expression: the kinds without kids. The value of an expression: times and days. The iterator over the values of kids. And, or: a range over the iterator. -/
import Derived.Test.YtnelgblmogciiaaEvals
import Derived.Deep.RegionHeld3
import Derived.RangeFuncNested
import Derived.RangeFuncLeaves
import Derived.OwnWalkIn
import Derived.TacticsInMore
import Derived.LoopNIn
import Derived.LoopIn
import Derived.BigFrameIn
import Derived.Shelf.Abstract
namespace Go.Proofs.Ytnelgblmogciiaa
section
set_option linter.unusedSimpArgs false
set_option linter.unusedVariables false
open Go.RowKit

/-- And (which 0 decides) or or (1). -/
def junE (d : Int) : List EV → Bool → EV
  | [], opened => if opened then unknownE else truthE (decide (d = 0))
  | x :: l, opened => if x.ok = false ∨ x.k ≠ 1 then junE d l true else if x.n = d then truthE (decide (d = 1)) else junE d l opened
/-- The number of a weekday's bit in a mask. -/
def dayB (n m : Int) : Bool := bits BinOp.and IntKind.i64 (n / 2 ^ (weekdayI m).toNat) 1 == 1
/-- The value of a node, from its kids' values. -/
def nodeE (V : LView) (h : Hd) (xs : List EV) : EV :=
  if h.kind = 1 then ⟨h.vk, h.vn, h.vs, true⟩
  else if h.kind = 2 then attrE V.items h.dev h.cl h.at_
  else if h.kind = 3 then truthE (decide (V.mode = h.name))
  else if h.kind = 4 then (if V.minute < 0 then unknownE else truthE (decide (duringP (ofDayI V.minute) h.n h.m)))
  else if h.kind = 5 then (if V.minute < 0 then unknownE else truthE (dayB h.n V.minute))
  else if h.kind = 15 then truthE (homeB V.members h.n)
  else if h.kind = 6 then (if (xs.getD 0 unknownE).ok = false ∨ (xs.getD 0 unknownE).k ≠ 1 then unknownE else truthE (decide ((xs.getD 0 unknownE).n = 0)))
  else if h.kind = 7 then junE 0 xs false
  else if h.kind = 8 then junE 1 xs false
  else if h.kind = 14 then (if (xs.getD 0 unknownE).ok = false ∨ (xs.getD 0 unknownE).k ≠ 1 then unknownE else if (xs.getD 0 unknownE).n = 1 then xs.getD 1 unknownE else xs.getD 2 unknownE)
  else if (xs.getD 0 unknownE).ok = false ∨ (xs.getD 1 unknownE).ok = false then unknownE
  else opE h.kind (xs.getD 0 unknownE).k (xs.getD 0 unknownE).n (xs.getD 0 unknownE).s (xs.getD 1 unknownE).k (xs.getD 1 unknownE).n (xs.getD 1 unknownE).s

mutual
/-- The value of an expression. -/
def findS (V : LView) : LExpr → EV
  | .mk h ks => nodeE V h (findL V ks)
def findL (V : LView) : List LExpr → List EV
  | [] => []
  | k :: ks => findS V k :: findL V ks
end

/-- What find answers at an expression. -/
def FindOk (V : LView) (e : LExpr) : Prop := ∀ (vc cs : List Value) (B : Nat) (w : World), B ≤ w.heap.size → IsView B w V vc → IsExpr B w e cs →
    Calls Try.prog 44 #[.agg vc.toArray, .agg cs.toArray] w fun r w' => r = .returned (findS V e).res ∧ Below w.heap.size w w'

set_option maxRecDepth 100000 in
set_option maxHeartbeats 1000000 in
theorem find_lit (V : LView) (h : Hd) (ks : List LExpr) (hk : h.kind = 1) : FindOk V (.mk h ks) := by
  intro vc cs B w hB hv he
  obtain ⟨hd, ks', A, c, hh, rfl, hlen⟩ := he.form
  cases hh
  obtain ⟨IA, ic, MA, mc, rfl, _⟩ := hv
  clear he
  go_enter Try.func44, Try.ntmps44
  unfold Hd.cells
  rw [hk]
  go_wp2_with fail
  refine bodyPost_ret (v := ?_) ?_ rfl ?_
  rotate_left
  · simp [results, Try.results44, go_sem]; exact rfl
  refine ⟨fin_res (x := ⟨h.vk, h.vn, h.vs, true⟩) ?_, ?_⟩
  · simp only [findS, nodeE, if_pos hk]
  · repeat (first | exact Below.refl _ _ | refine Below.al ?_ _ | refine Below.st ?_ (by simp; omega) _)

set_option maxRecDepth 100000 in
set_option maxHeartbeats 1000000 in
theorem find_attr (V : LView) (h : Hd) (ks : List LExpr) (hk : h.kind = 2) : FindOk V (.mk h ks) := by
  intro vc cs B w hB hv he
  obtain ⟨hd, ks', A, c, hh, rfl, hlen⟩ := he.form
  cases hh
  have HA := fun o1 o2 o3 => Lib.hid (attribute_any V vc h.dev h.cl h.at_ B (((w.alloc o1).alloc o2).alloc o3) (by simp; omega) (hv.carry ((((Below.refl B w).alloc hB o1).alloc (by simp; omega) o2).alloc (by simp; omega) o3)))
  have hs : findS V (.mk h ks) = attrE V.items h.dev h.cl h.at_ := by simp [findS, nodeE, hk]
  rw [hs]
  generalize attrE V.items h.dev h.cl h.at_ = R at *
  obtain ⟨IA, ic, MA, mc, rfl, _⟩ := hv
  clear he hs
  go_enter Try.func44, Try.ntmps44
  unfold Hd.cells
  rw [hk]
  go_wp2_with fail
  refine (HA _ _ _).out.mono ?_
  rintro r w2 ⟨rfl, hb2⟩
  have hR := ((Blk.at2 w _ _ _ _)).below hb2
  have cR := hR.cell
  have fR := hR.free
  have hs := hR.lt
  clear HA
  go_wp2_with fail
  refine bodyPost_ret (v := ?_) ?_ rfl ?_
  rotate_left
  · simp [results, Try.results44, go_sem, cR]; exact rfl
  refine ⟨rfl, ?_⟩
  (repeat (first | exact Below.refl _ _ | refine Below.al ?_ _ | refine Below.st ?_ (by simp; omega) _ | refine Below.th ?_ (by assumption)))

set_option maxRecDepth 100000 in
set_option maxHeartbeats 1000000 in
theorem find_mode (V : LView) (h : Hd) (ks : List LExpr) (hk : h.kind = 3) : FindOk V (.mk h ks) := by
  intro vc cs B w hB hv he
  obtain ⟨hd, ks', A, c, hh, rfl, hlen⟩ := he.form
  cases hh
  have hs : findS V (.mk h ks) = truthE (decide (V.mode = h.name)) := by simp [findS, nodeE, hk]
  rw [hs, ← toList_beq]
  obtain ⟨IA, ic, MA, mc, rfl, _⟩ := hv
  clear he hs
  go_enter Try.func44, Try.ntmps44
  unfold Hd.cells
  rw [hk]
  go_wp2_with fail
  refine (truth_any _ _).mono ?_
  rintro r w2 ⟨rfl, hb2⟩
  have hR := ((Blk.at2 w _ _ _ _)).below hb2
  have cR := hR.cell
  have fR := hR.free
  have hs := hR.lt
  go_wp2_with fail
  refine bodyPost_ret (v := ?_) ?_ rfl ?_
  rotate_left
  · simp [results, Try.results44, go_sem, cR]; exact rfl
  refine ⟨rfl, ?_⟩
  (repeat (first | exact Below.refl _ _ | refine Below.al ?_ _ | refine Below.st ?_ (by simp; omega) _ | refine Below.th ?_ (by assumption)))

set_option maxRecDepth 100000 in
set_option maxHeartbeats 1000000 in
theorem find_home (V : LView) (h : Hd) (ks : List LExpr) (hk : h.kind = 15) : FindOk V (.mk h ks) := by
  intro vc cs B w hB hv he
  obtain ⟨hd, ks', A, c, hh, rfl, hlen⟩ := he.form
  cases hh
  have hs : findS V (.mk h ks) = truthE (homeB V.members h.n) := by simp [findS, nodeE, hk]
  rw [hs]
  obtain ⟨IA, ic, MA, mc, rfl, _, hM, _, _, hml⟩ := hv
  have HA := fun o1 o2 o3 => Lib.hid (home_any V.members MA mc h.n B (((w.alloc o1).alloc o2).alloc o3) (by simp; omega) (hM.carry ((((Below.refl B w).alloc hB o1).alloc (by simp; omega) o2).alloc (by simp; omega) o3)) hml)
  clear he hs
  go_enter Try.func44, Try.ntmps44
  unfold Hd.cells
  rw [hk]
  go_wp2_with fail
  refine (HA _ _ _).out.mono ?_
  rintro r w1 ⟨rfl, hb1⟩
  have hR1 := ((Blk.at2 w _ _ _ _)).below hb1
  clear HA
  go_wp2_with fail
  refine (truth_any _ _).mono ?_
  rintro r w2 ⟨rfl, hb2⟩
  have hR := hR1.below hb2
  have cR := hR.cell
  have fR := hR.free
  have hs := hR.lt
  go_wp2_with fail
  refine bodyPost_ret (v := ?_) ?_ rfl ?_
  rotate_left
  · simp [results, Try.results44, go_sem, cR]; exact rfl
  refine ⟨rfl, ?_⟩
  (repeat (first | exact Below.refl _ _ | refine Below.al ?_ _ | refine Below.st ?_ (by simp; omega) _ | refine Below.th ?_ (by assumption)))
end

section
set_option linter.unusedSimpArgs false
set_option linter.unusedVariables false
open Go.RowKit

/-- What find holds of its own: its copies of the view and of the expression, and its result. -/
def Own (w : World) (vcs ecs : Array Value) (w' : World) : Prop :=
  Below w.heap.size w w' ∧ Blk w' w.heap.size 25 vcs ∧ Blk w' (w.heap.size + 1) 32 ecs ∧ ∃ R, Blk w' (w.heap.size + 1 + 1) 27 R ∧ R.size = 3
theorem Own.al {w w' : World} {vcs ecs : Array Value} (h : Own w vcs ecs w') (o : Obj) : Own w vcs ecs (w'.alloc o) := by
  obtain ⟨h1, h2, h3, R, h4, h5⟩ := h
  exact ⟨h1.al o, h2.alloc o, h3.alloc o, R, h4.alloc o, h5⟩
theorem Own.dr {w w' : World} {vcs ecs : Array Value} (h : Own w vcs ecs w') : Own w vcs ecs w'.drew := by
  obtain ⟨h1, h2, h3, R, h4, h5⟩ := h
  exact ⟨h1.dr, h2, h3, R, h4, h5⟩
theorem Own.th {w w' w2 : World} {vcs ecs : Array Value} (h : Own w vcs ecs w') (hb : Below w'.heap.size w' w2) : Own w vcs ecs w2 := by
  obtain ⟨h1, h2, h3, R, h4, h5⟩ := h
  exact ⟨h1.th hb, h2.below hb, h3.below hb, R, h4.below hb, h5⟩
theorem Own.new (w : World) (vcs ecs : Array Value) (x y z : Value) : Own w vcs ecs (((w.alloc (.cells vcs 25)).alloc (.cells ecs 32)).alloc (.cells #[x, y, z] 27)) :=
  ⟨(((Below.refl _ _).al _).al _).al _, ((Blk.new _ _ _).alloc _).alloc _, (Blk.at1 _ _ _ _).alloc _, _, Blk.at2 _ _ _ _ _, rfl⟩
theorem Own.cv {w w' : World} {vcs ecs : Array Value} (h : Own w vcs ecs w') (i : Nat) : w'.cell? ⟨w.heap.size, i, none⟩ = vcs[i]? := h.2.1.cell i
theorem Own.ce {w w' : World} {vcs ecs : Array Value} (h : Own w vcs ecs w') (i : Nat) : w'.cell? ⟨w.heap.size + 1, i, none⟩ = ecs[i]? := h.2.2.1.cell i
theorem Own.fr {w w' : World} {vcs ecs : Array Value} (h : Own w vcs ecs w') (i : Nat) : w'.frozen? ⟨w.heap.size + 1 + 1, i, none⟩ = false := by
  obtain ⟨h1, h2, h3, R, h4, h5⟩ := h
  exact h4.free i
/-- What a cell holds. -/
def cellOf (w : World) (b i : Nat) : Value := (w.cell? ⟨b, i, none⟩).getD undef
theorem Own.rc {w w' : World} {vcs ecs : Array Value} (h : Own w vcs ecs w') (i : Nat) (hi : i < 3) : w'.cell? ⟨w.heap.size + 1 + 1, i, none⟩ = some (cellOf w' (w.heap.size + 1 + 1) i) := by
  obtain ⟨h1, h2, h3, R, h4, h5⟩ := h
  have := h4.cell i
  rw [Array.getElem?_eq_getElem (by omega)] at this
  rw [cellOf, this]; rfl
theorem Own.st {w w' : World} {vcs ecs : Array Value} (h : Own w vcs ecs w') (i : Nat) (u : Value) : Own w vcs ecs (w'.setCell ⟨w.heap.size + 1 + 1, i, none⟩ u) := by
  obtain ⟨h1, h2, h3, R, h4, h5⟩ := h
  exact ⟨h1.st (by simp; omega) u, h2.far (by omega) i u, h3.far (by omega) i u, _, h4.set i u, by simpa using h5⟩

set_option maxRecDepth 100000 in
set_option maxHeartbeats 1000000 in
theorem find_time (V : LView) (h : Hd) (ks : List LExpr) (hk : h.kind = 4) : FindOk V (.mk h ks) := by
  intro vc cs B w hB hv he
  obtain ⟨hd, ks', A, c, hh, rfl, hlen⟩ := he.form
  cases hh
  have hs : findS V (.mk h ks) = (if V.minute < 0 then unknownE else truthE (decide (duringP (ofDayI V.minute) h.n h.m))) := by simp [findS, nodeE, hk]
  rw [hs]
  obtain ⟨IA, ic, MA, mc, rfl, _⟩ := hv
  clear he hs
  by_cases hm : V.minute < 0
  · rw [if_pos hm]
    go_enter Try.func44, Try.ntmps44
    unfold Hd.cells
    rw [hk]
    go_wp2_with fail
    refine (unknown_any _).mono ?_
    rintro r w2 ⟨rfl, hb2⟩
    have hR := ((Blk.at2 w _ _ _ _)).below hb2
    have cR := hR.cell
    have fR := hR.free
    have hs := hR.lt
    go_wp2_with fail
    refine bodyPost_ret (v := ?_) ?_ rfl ?_
    rotate_left
    · simp [results, Try.results44, go_sem, cR]; exact rfl
    refine ⟨rfl, ?_⟩
    (repeat (first | exact Below.refl _ _ | refine Below.al ?_ _ | refine Below.st ?_ (by simp; omega) _ | refine Below.th ?_ (by assumption)))
  · rw [if_neg hm]
    go_enter Try.func44, Try.ntmps44
    unfold Hd.cells
    rw [hk]
    go_wp2_with fail
    have hO0 := Own.new w #[.slice IA V.items.length ic, .string V.mode, .int .i64 V.minute, .slice MA V.members.length mc] #[.int .i64 4, .int .i64 h.n, .int .i64 h.m, .string h.name, .int .i64 h.vk, .int .i64 h.vn, .string h.vs, .int .i64 h.dev, .string h.cl, .string h.at_, .slice A ks.length c] (.int .i64 0) (.int .i64 0) (.string { data := #[] })
    have own_all : ∀ w', Own w #[.slice IA V.items.length ic, .string V.mode, .int .i64 V.minute, .slice MA V.members.length mc] #[.int .i64 4, .int .i64 h.n, .int .i64 h.m, .string h.name, .int .i64 h.vk, .int .i64 h.vn, .string h.vs, .int .i64 h.dev, .string h.cl, .string h.at_, .slice A ks.length c] w' → (fun w' => w'.cell? ⟨w.heap.size, 2, none⟩ = some (.int .i64 V.minute) ∧ w'.cell? ⟨w.heap.size + 1, 1, none⟩ = some (.int .i64 h.n) ∧ w'.cell? ⟨w.heap.size + 1, 2, none⟩ = some (.int .i64 h.m) ∧ Own w #[.slice IA V.items.length ic, .string V.mode, .int .i64 V.minute, .slice MA V.members.length mc] #[.int .i64 4, .int .i64 h.n, .int .i64 h.m, .string h.name, .int .i64 h.vk, .int .i64 h.vn, .string h.vs, .int .i64 h.dev, .string h.cl, .string h.at_, .slice A ks.length c] w' ∧ w'.frozen? ⟨w.heap.size + 1 + 1, 0, none⟩ = false ∧ w'.frozen? ⟨w.heap.size + 1 + 1, 1, none⟩ = false ∧ w'.frozen? ⟨w.heap.size + 1 + 1, 2, none⟩ = false ∧ w'.cell? ⟨w.heap.size + 1 + 1, 0, none⟩ = some (cellOf w' (w.heap.size + 1 + 1) 0) ∧ w'.cell? ⟨w.heap.size + 1 + 1, 1, none⟩ = some (cellOf w' (w.heap.size + 1 + 1) 1) ∧ w'.cell? ⟨w.heap.size + 1 + 1, 2, none⟩ = some (cellOf w' (w.heap.size + 1 + 1) 2)) w' :=
      fun w' hO => ⟨Own.cv hO 2, Own.ce hO 1, Own.ce hO 2, hO, Own.fr hO 0, Own.fr hO 1, Own.fr hO 2, hO.rc 0 (by omega), hO.rc 1 (by omega), hO.rc 2 (by omega)⟩
    go_region_held3 (fun w' => w'.cell? ⟨w.heap.size, 2, none⟩ = some (.int .i64 V.minute) ∧ w'.cell? ⟨w.heap.size + 1, 1, none⟩ = some (.int .i64 h.n) ∧ w'.cell? ⟨w.heap.size + 1, 2, none⟩ = some (.int .i64 h.m) ∧ Own w #[.slice IA V.items.length ic, .string V.mode, .int .i64 V.minute, .slice MA V.members.length mc] #[.int .i64 4, .int .i64 h.n, .int .i64 h.m, .string h.name, .int .i64 h.vk, .int .i64 h.vn, .string h.vs, .int .i64 h.dev, .string h.cl, .string h.at_, .slice A ks.length c] w' ∧ w'.frozen? ⟨w.heap.size + 1 + 1, 0, none⟩ = false ∧ w'.frozen? ⟨w.heap.size + 1 + 1, 1, none⟩ = false ∧ w'.frozen? ⟨w.heap.size + 1 + 1, 2, none⟩ = false ∧ w'.cell? ⟨w.heap.size + 1 + 1, 0, none⟩ = some (cellOf w' (w.heap.size + 1 + 1) 0) ∧ w'.cell? ⟨w.heap.size + 1 + 1, 1, none⟩ = some (cellOf w' (w.heap.size + 1 + 1) 1) ∧ w'.cell? ⟨w.heap.size + 1 + 1, 2, none⟩ = some (cellOf w' (w.heap.size + 1 + 1) 2))
      (first | (exact own_all _ (Own.dr hO0)) | (exact own_all _ (Own.th (by first | assumption | exact Own.dr hO0) hb2)) | (exact own_all _ (Own.st (Own.st (Own.st (by first | assumption | exact Own.th (by first | assumption | exact Own.dr hO0) hb2) _ _) _ _) _ _)))
      (first | (go_at_call 71; refine (ofDay_any _ _).mono ?_; rintro r w' ⟨rfl, rfl⟩) | (go_at_call 70; refine (during_any _ _ _ _).mono ?_; rintro r w' ⟨rfl, rfl⟩) | (go_at_call 69; refine (truth_any _ _).mono ?_; rintro r w' ⟨rfl, hb2⟩))
    have hR : Blk w' (w.heap.size + 1 + 1) 27 #[.int .i64 0, .int .i64 0, .string { data := #[] }] := by
      refine Blk.below ?_ hb2
      exact Blk.at2 w _ _ _ _
    have cR := hR.cell
    have fR := hR.free
    have hs := hR.lt
    go_wp2_with fail
    refine bodyPost_ret (v := ?_) ?_ rfl ?_
    rotate_left
    · simp [results, Try.results44, go_sem, cR]; exact rfl
    refine ⟨rfl, ?_⟩
    (repeat (first | exact Below.refl _ _ | refine Below.al ?_ _ | refine Below.st ?_ (by simp; omega) _ | refine Below.th ?_ (by assumption) | refine Below.dr ?_))

set_option maxRecDepth 100000 in
set_option maxHeartbeats 1000000 in
theorem find_day (V : LView) (h : Hd) (ks : List LExpr) (hk : h.kind = 5) : FindOk V (.mk h ks) := by
  intro vc cs B w hB hv he
  obtain ⟨hd, ks', A, c, hh, rfl, hlen⟩ := he.form
  cases hh
  have hs : findS V (.mk h ks) = (if V.minute < 0 then unknownE else truthE (dayB h.n V.minute)) := by simp [findS, nodeE, hk]
  rw [hs]
  have hwd : 0 ≤ weekdayI V.minute ∧ weekdayI V.minute < 7 := by unfold weekdayI minI; omega
  obtain ⟨IA, ic, MA, mc, rfl, _⟩ := hv
  clear he hs
  by_cases hm : V.minute < 0
  · rw [if_pos hm]
    go_enter Try.func44, Try.ntmps44
    unfold Hd.cells
    rw [hk]
    go_wp2_with fail
    refine (unknown_any _).mono ?_
    rintro r w2 ⟨rfl, hb2⟩
    have hR := ((Blk.at2 w _ _ _ _)).below hb2
    have cR := hR.cell
    have fR := hR.free
    have hs := hR.lt
    go_wp2_with fail
    refine bodyPost_ret (v := ?_) ?_ rfl ?_
    rotate_left
    · simp [results, Try.results44, go_sem, cR]; exact rfl
    refine ⟨rfl, ?_⟩
    (repeat (first | exact Below.refl _ _ | refine Below.al ?_ _ | refine Below.st ?_ (by simp; omega) _ | refine Below.th ?_ (by assumption)))
  · rw [if_neg hm]
    go_enter Try.func44, Try.ntmps44
    unfold Hd.cells
    rw [hk]
    go_wp2_with fail
    have hO0 := Own.new w #[.slice IA V.items.length ic, .string V.mode, .int .i64 V.minute, .slice MA V.members.length mc] #[.int .i64 5, .int .i64 h.n, .int .i64 h.m, .string h.name, .int .i64 h.vk, .int .i64 h.vn, .string h.vs, .int .i64 h.dev, .string h.cl, .string h.at_, .slice A ks.length c] (.int .i64 0) (.int .i64 0) (.string { data := #[] })
    have own_all : ∀ w', Own w #[.slice IA V.items.length ic, .string V.mode, .int .i64 V.minute, .slice MA V.members.length mc] #[.int .i64 5, .int .i64 h.n, .int .i64 h.m, .string h.name, .int .i64 h.vk, .int .i64 h.vn, .string h.vs, .int .i64 h.dev, .string h.cl, .string h.at_, .slice A ks.length c] w' → (fun w' => w'.cell? ⟨w.heap.size, 2, none⟩ = some (.int .i64 V.minute) ∧ w'.cell? ⟨w.heap.size + 1, 1, none⟩ = some (.int .i64 h.n) ∧ w'.cell? ⟨w.heap.size + 1, 2, none⟩ = some (.int .i64 h.m) ∧ Own w #[.slice IA V.items.length ic, .string V.mode, .int .i64 V.minute, .slice MA V.members.length mc] #[.int .i64 5, .int .i64 h.n, .int .i64 h.m, .string h.name, .int .i64 h.vk, .int .i64 h.vn, .string h.vs, .int .i64 h.dev, .string h.cl, .string h.at_, .slice A ks.length c] w' ∧ w'.frozen? ⟨w.heap.size + 1 + 1, 0, none⟩ = false ∧ w'.frozen? ⟨w.heap.size + 1 + 1, 1, none⟩ = false ∧ w'.frozen? ⟨w.heap.size + 1 + 1, 2, none⟩ = false ∧ w'.cell? ⟨w.heap.size + 1 + 1, 0, none⟩ = some (cellOf w' (w.heap.size + 1 + 1) 0) ∧ w'.cell? ⟨w.heap.size + 1 + 1, 1, none⟩ = some (cellOf w' (w.heap.size + 1 + 1) 1) ∧ w'.cell? ⟨w.heap.size + 1 + 1, 2, none⟩ = some (cellOf w' (w.heap.size + 1 + 1) 2)) w' :=
      fun w' hO => ⟨Own.cv hO 2, Own.ce hO 1, Own.ce hO 2, hO, Own.fr hO 0, Own.fr hO 1, Own.fr hO 2, hO.rc 0 (by omega), hO.rc 1 (by omega), hO.rc 2 (by omega)⟩
    go_region_held3 (fun w' => w'.cell? ⟨w.heap.size, 2, none⟩ = some (.int .i64 V.minute) ∧ w'.cell? ⟨w.heap.size + 1, 1, none⟩ = some (.int .i64 h.n) ∧ w'.cell? ⟨w.heap.size + 1, 2, none⟩ = some (.int .i64 h.m) ∧ Own w #[.slice IA V.items.length ic, .string V.mode, .int .i64 V.minute, .slice MA V.members.length mc] #[.int .i64 5, .int .i64 h.n, .int .i64 h.m, .string h.name, .int .i64 h.vk, .int .i64 h.vn, .string h.vs, .int .i64 h.dev, .string h.cl, .string h.at_, .slice A ks.length c] w' ∧ w'.frozen? ⟨w.heap.size + 1 + 1, 0, none⟩ = false ∧ w'.frozen? ⟨w.heap.size + 1 + 1, 1, none⟩ = false ∧ w'.frozen? ⟨w.heap.size + 1 + 1, 2, none⟩ = false ∧ w'.cell? ⟨w.heap.size + 1 + 1, 0, none⟩ = some (cellOf w' (w.heap.size + 1 + 1) 0) ∧ w'.cell? ⟨w.heap.size + 1 + 1, 1, none⟩ = some (cellOf w' (w.heap.size + 1 + 1) 1) ∧ w'.cell? ⟨w.heap.size + 1 + 1, 2, none⟩ = some (cellOf w' (w.heap.size + 1 + 1) 2))
      (first | (exact own_all _ (Own.dr hO0)) | (exact own_all _ (Own.th (by first | assumption | exact Own.dr hO0) hb2)) | (exact own_all _ (Own.st (Own.st (Own.st (by first | assumption | exact Own.th (by first | assumption | exact Own.dr hO0) hb2) _ _) _ _) _ _)))
      (first | (go_at_call 72; refine (weekday_any _ _).mono ?_; rintro r w' ⟨rfl, rfl⟩) | (go_at_call 69; refine (truth_any _ _).mono ?_; rintro r w' ⟨rfl, hb2⟩))
    have hR : Blk w' (w.heap.size + 1 + 1) 27 #[.int .i64 0, .int .i64 0, .string { data := #[] }] := by
      refine Blk.below ?_ hb2
      exact Blk.at2 w _ _ _ _
    have cR := hR.cell
    have fR := hR.free
    have hs := hR.lt
    go_wp2_with fail
    refine bodyPost_ret (v := ?_) ?_ rfl ?_
    rotate_left
    · simp [results, Try.results44, go_sem, cR]; exact rfl
    refine ⟨rfl, ?_⟩
    (repeat (first | exact Below.refl _ _ | refine Below.al ?_ _ | refine Below.st ?_ (by simp; omega) _ | refine Below.th ?_ (by assumption) | refine Below.dr ?_))
end

section
set_option linter.unusedSimpArgs false
set_option linter.unusedVariables false
open Go.RowKit

theorem _root_.Go.RowKit.Below.grows {w w' : World} (h : Below w.heap.size w w') : w.grownBy w' none := ⟨h.os, h.tape, h.output, h.size, fun k hk _ => h.block k hk⟩

section
variable {P : Program} {F : Fence} {n : Nat}
theorem wpListIn_load_at {ops : Array Oper} {rest : List Oper} {o : Oper} {a : Act} {w : World} {Q : Exit → Act → World → Prop} (hgd : o.guard = none) (ty : TypeId) (x : Operand) (ho : o.op = .load ty x)
    (b off : Nat) (hx : a.eval x = .pointer (some ⟨b, off, none⟩)) (cs : List Value) (d : TypeDesc) (h : RowAt w b off cs)
    (hu : P.underlying ty = some d) (hd : (match d with | .struct _ | .array _ _ => true | _ => false) = true) (hi : (P.info? ty).map (·.size) = some cs.length)
    (hK : wpListIn F n P ops Q rest (a.put o.dst (.agg cs.toArray)) w) : wpListIn F n P ops Q (o :: rest) a w :=
  wpListIn_plain hgd fun K hK' => by
    unfold Oper.wpIn
    refine ⟨fun f hf => by simp [Oper.about, ho] at hf, ?_⟩
    rw [Oper.semAt_eq _ _ _ (fun c hc => by rw [ho] at hc; cases hc)]
    unfold execOp
    simp only [ho, hx, Instr.loadAt, Instr.sureAddr, Sem.run_bind, Sem.run_pure, Result.andThen_ok, run_loadVar_at w b off ty cs d h hu hd hi]
    exact hK' _ _ hK
end

/-- What a round keeps: what lay below n₀, and the iterator's own copy of the view. -/
def KpV (n₀ bv : Nat) (A B : World) : Prop := Below n₀ A B ∧ ∀ t cs, Blk A bv t cs → Blk B bv t cs
theorem KpV.t {n₀ bv : Nat} {A B C : World} (h : KpV n₀ bv A B) (k : KpV n₀ bv B C) : KpV n₀ bv A C := ⟨h.1.trans k.1, fun t cs hc => k.2 t cs (h.2 t cs hc)⟩
theorem KpV.b {n₀ bv : Nat} {w : World} (hn : n₀ ≤ w.heap.size) (W : World) (l : Nat) (o o' : Obj) (hl : w.heap.size ≤ l) (h : W.heap[l]? = some o) (hc : o.isCells = false) (hw : o.isWalk = false) : KpV n₀ bv W (W.putObj l o') :=
  ⟨belowK_b hn W l o o' hl h hc hw, fun t cs hb => ((grownBy_putObj' W l o').block bv hb.lt (fun e => by cases e; unfold Blk at hb; rw [hb] at h; cases h; cases hc)).trans hb⟩
theorem KpV.of_below {n₀ bv : Nat} {A B : World} (h : Below A.heap.size A B) (hn : n₀ ≤ A.heap.size) : KpV n₀ bv A B := ⟨h.mono hn, fun t cs hb => hb.below h⟩

abbrev encV (x : EV) : Array Value := #[.agg #[.int .i64 x.k, .int .i64 x.n, .string x.s], .bool x.ok]

set_option maxRecDepth 100000 in
set_option maxHeartbeats 1000000 in
theorem kids1_in (V : LView) (IA : Option Addr) (ic : Nat) (MA : Option Addr) (mc : Nat) (ks : List LExpr) (xs : List EV) (hlen : xs.length = ks.length)
    (hF : ∀ (i : Nat) (hi : i < ks.length), FindOk V ks[i] ∧ findS V ks[i] = xs[i]) (l bl bv n₀ B : Nat) (A : Option Addr) (c b off : Nat) (cs : Nat → List Value) (W : World) (hsz1 : ks.length * 136 ≤ 140737488351232)
    (hsl : Blk W bl 30 #[.slice A ks.length c]) (hvw : Blk W bv 25 #[.slice IA V.items.length ic, .string V.mode, .int .i64 V.minute, .slice MA V.members.length mc])
    (hv : IsView n₀ W V [.slice IA V.items.length ic, .string V.mode, .int .i64 V.minute, .slice MA V.members.length mc]) (hn : n₀ ≤ W.heap.size) (hA : 0 < ks.length → A = some ⟨b, off, none⟩ ∧ b < n₀)
    (hsz : ∀ i, (cs i).length = 11) (hrow : ∀ i (hi : i < ks.length), RowAt W b (off + i * 11) (cs i)) (hk : ∀ i (hi : i < ks.length), IsExpr n₀ W ks[i] (cs i))
    (J Jx : List EV → World → Prop) (hJ : AbidesFrom W.heap.size J)
    (hY : ∀ pre x W1, J pre W1 → pre.length < ks.length → YieldAt Fence.wide 7 Try.prog l (encV x) W1 fun e W' =>
      (e = .returned (.bool true) ∧ J (pre ++ [x]) W' ∧ KpV n₀ bv W1 W') ∨ (e = .returned (.bool false) ∧ Jx (pre ++ [x]) W'))
    (h0 : J [] W) :
    CallsIn Fence.wide 8 Try.prog 122 #[.func (.yield l) #[] #[], .pointer (some ⟨bl, 0, none⟩), .pointer (some ⟨bv, 0, none⟩)] W fun e W' => (∃ v, e = .returned v) ∧
      ((∃ ys, ys = xs ∧ J ys W') ∨ (∃ pre, pre <+: xs ∧ Jx pre W')) := by
  have c1 := hsl.cell 0
  have c2 := hvw.cell
  refine callsIn_of_wp Try.func122 rfl trivial ?_ rfl
  simp only [Try.ntmps122, List.size_toArray, List.length_cons, List.length_nil, Nat.reduceAdd, Nat.reduceSub, Array.replicate_succ, Array.replicate_zero, List.push_toArray, List.append_toArray, List.nil_append, List.cons_append]
  gi_wp2
  gi_loopw [5, 8] (fun _ i wr => ∃ k : Nat, k ≤ ks.length ∧ i = .int .i64 k ∧ J (xs.take k) wr ∧ KpV n₀ bv W wr) (fun _ i _ => ks.length - (intOf i).toNat)
  case atStart => exact ⟨0, Nat.zero_le _, rfl, by simpa using h0, Below.refl _ _, fun _ _ h => h⟩
  case round =>
    obtain ⟨k, hkl, rfl, hJs, hKp⟩ := hrel
    by_cases hlk : k < ks.length
    · obtain ⟨rfl, hbn⟩ := hA (by omega)
      have hr := (hrow k hlk).below hKp.1 hbn
      have hvr := hKp.2 _ _ hvw
      have cv := hvr.cell
      have lbv := hvr.lt
      have nbv : ¬ wr.heap.size = bv := by omega
      have hkk := (hk k hlk).carry hKp.1
      have hx1 := hF k hlk
      have htk : xs.take (k + 1) = xs.take k ++ [xs[k]] := by rw [List.take_add_one, List.getElem?_eq_getElem (by omega)]; rfl
      have hpre : xs.take (k + 1) <+: xs := List.take_prefix _ _
      have hpl : (xs.take k).length < ks.length := by simp; omega
      rw [htk] at hpre
      obtain ⟨hfo, hfe⟩ := hx1
      rw [FindOk, hfe] at hfo
      have hxs : k < xs.length := by omega
      generalize hX : xs[k] = X at *
      clear hX
      obtain ⟨hd', ks', A', c', hkd, hcs, _⟩ := hkk.form
      rw [hkd] at hkk
      rw [hkd] at hfo
      rw [hcs] at hr hkk
      have HI := fun W' hB' hv' he' => Lib.hid (hfo [.slice IA V.items.length ic, .string V.mode, .int .i64 V.minute, .slice MA V.members.length mc] (hd'.cells (.slice A' ks'.length c')) n₀ W' hB' hv' he')
      have hvr2 := hv.carry hKp.1
      have hsw := hKp.1.size
      clear hfo hfe hF hk hrow hA hcs hkd hsl
      unfold Hd.cells at hr HI hkk
      gi_wp2_with (first | (with_reducible refine wpListIn_load_at rfl 32 _ rfl b (off + k * 11) rfl _ _ hr Try.underlying32 rfl (by kernel_rfl) ?_))
      refine ⟨trivial, (callsIn_wide.2 (HI _ ?_ ?_ ?_).out).mono ?_⟩
      · simp; omega
      · exact hvr2.carry ((Below.refl _ _).alloc (by omega) _)
      · exact hkk.carry ((Below.refl _ _).alloc (by omega) _)
      rintro r W3 ⟨rfl, hb3⟩
      have hW3 : Below wr.heap.size wr W3 := ((Below.refl _ _).al _).th hb3
      have hJ3 : J (xs.take k) W3 := hJ _ _ _ none hJs hW3.grows (fun r hr => by cases hr)
      obtain ⟨fn, tmps, assign, body, hy, hR⟩ := hY _ X W3 hJ3 hpl
      dsimp only [encV] at hy
      have hK3 : KpV n₀ bv W W3 := hKp.t (KpV.of_below hW3 (by omega))
      clear HI
      gi_wp2
      refine hR.mono ?_
      rintro e W4 (⟨rfl, hJ4, hK4⟩ | ⟨rfl, hJx4⟩)
      · gi_wp2
        go_roundw
        case rel => exact ⟨k + 1, by omega, by go_num, by rw [htk]; exact hJ4, hK3.t hK4⟩
        case measure => simp [intOf]; omega
      · gi_wp2
        refine bodyPost_ret (results_none rfl _ _ _) rfl ?_
        exact ⟨⟨_, rfl⟩, .inr ⟨_, hpre, hJx4⟩⟩
    · gi_wp2
      go_end0
      exact ⟨⟨_, rfl⟩, .inl ⟨_, rfl, by rw [List.take_of_length_le (by omega)] at hJs; exact hJs⟩⟩

set_option maxHeartbeats 1000000 in
theorem kids_in (vc : Array Value) (A : Option Addr) (n c : Nat) (w : World) :
    Calls Try.prog 103 #[.agg vc, .slice A n c] w fun e w' => e = .returned (.func (.func 122) #[] #[.pointer (some ⟨w.heap.size + 1, 0, none⟩), .pointer (some ⟨w.heap.size, 0, none⟩)]) ∧ w' = (w.alloc (.cells vc 25)).alloc (.cells #[.slice A n c] 30) := by
  go_enter Try.func103, Try.ntmps103
  go_wp2_with fail
  go_ret
  exact ⟨rfl, rfl⟩
end

section
set_option linter.unusedSimpArgs false
set_option linter.unusedVariables false
open Go.RowKit Go.Shelf
attribute [local go_sem] Oper.semAt_some

theorem Blk.kept {W W' : World} {b : Nat} {t : TypeId} {cs : Array Value} {row : Option Nat} (h : Blk W b t cs) (hg : W.grownBy W' row) (hr : ∀ r, row = some r → ∃ o : Obj, W.heap[r]? = some o ∧ o.isCells = false) : Blk W' b t cs :=
  (hg.block b h.lt (fun e => by
    obtain ⟨o, ho, hc⟩ := hr b e.symm
    unfold Blk at h; rw [h] at ho; cases ho; cases hc)).trans h

/-- The iterator's contract. -/
theorem kids_stops (V : LView) (IA : Option Addr) (ic : Nat) (MA : Option Addr) (mc : Nat) (ks : List LExpr) (xs : List EV) (hlen : xs.length = ks.length)
    (hF : ∀ (i : Nat) (hi : i < ks.length), FindOk V ks[i] ∧ findS V ks[i] = xs[i]) (bl bv n₀ : Nat) (A : Option Addr) (c b off : Nat) (cs : Nat → List Value) (w : World) (hsz1 : ks.length * 136 ≤ 140737488351232)
    (hsl : Blk w bl 30 #[.slice A ks.length c]) (hvw : Blk w bv 25 #[.slice IA V.items.length ic, .string V.mode, .int .i64 V.minute, .slice MA V.members.length mc])
    (hv : IsView n₀ w V [.slice IA V.items.length ic, .string V.mode, .int .i64 V.minute, .slice MA V.members.length mc]) (hn : n₀ ≤ w.heap.size) (hA : 0 < ks.length → A = some ⟨b, off, none⟩ ∧ b < n₀)
    (hsz : ∀ i, (cs i).length = 11) (hrow : ∀ i (hi : i < ks.length), RowAt w b (off + i * 11) (cs i)) (hk : ∀ i (hi : i < ks.length), IsExpr n₀ w ks[i] (cs i)) :
    SeqStopsK Fence.wide 8 Try.prog 122 #[.pointer (some ⟨bl, 0, none⟩), .pointer (some ⟨bv, 0, none⟩)] encV (KpV n₀ bv) (fun ys => ys = xs) (fun pre => pre <+: xs) ks.length w := fun l J Jx W hW hJ hJx hY h0 =>
  kids1_in V IA ic MA mc ks xs hlen hF l bl bv n₀ 0 A c b off cs W hsz1 (hsl.below hW) (hvw.below hW) (hv.carry (hW.mono hn)) (Nat.le_trans hn hW.size) hA hsz
    (fun i hi => (hrow i hi).below (hW.mono hn) (hA (by omega)).2) (fun i hi => (hk i hi).carry (hW.mono hn)) J Jx hJ hY h0

theorem junE_app (d : Int) (pre rest : List EV) (op : Bool) : (∃ op', ∀ rest, junE d (pre ++ rest) op = junE d rest op') ∨ ∀ rest, junE d (pre ++ rest) op = truthE (decide (d = 1)) := by
  induction pre generalizing op with
  | nil => exact .inl ⟨op, fun _ => rfl⟩
  | cons x pre ih =>
    by_cases h1 : x.ok = false ∨ x.k ≠ 1
    · simp only [List.cons_append, junE, if_pos h1]; exact ih true
    · by_cases h2 : x.n = d
      · right; intro r; simp only [List.cons_append, junE, if_neg h1, if_pos h2]
      · simp only [List.cons_append, junE, if_neg h1, if_neg h2]; exact ih op

/-- What holds between two rounds. -/
def JI (w : World) (d : Int) (pre : List EV) (W : World) : Prop :=
  (∃ op, Blk W (w.heap.size + 1 + 1 + 1 + 1) 4 #[.bool op] ∧ ∀ rest, junE d (pre ++ rest) false = junE d rest op) ∧ Blk W (w.heap.size + 1) 3 #[.int .i64 d] ∧ Blk W (w.heap.size + 1 + 1) 27 #[.int .i64 0, .int .i64 0, .string { data := #[] }] ∧ Blk W (w.heap.size + 1 + 1 + 1) 4 #[.bool false] ∧ Below w.heap.size w W
/-- What holds behind a return. -/
def JX (w : World) (d : Int) (c : Code) (pre : List EV) (W : World) : Prop :=
  c = .ret ∧ (∀ rest, junE d (pre ++ rest) false = truthE (decide (d = 1))) ∧ Blk W (w.heap.size + 1 + 1) 27 #[.int .i64 1, .int .i64 (bit (decide (d = 1))), .string noStr] ∧ Blk W (w.heap.size + 1 + 1 + 1) 4 #[.bool true] ∧ Below w.heap.size w W
theorem JI.own (w : World) (d : Int) (B : Nat) (hB : w.heap.size ≤ B) : OwnFrom B (JI w d) := fun s W W' row hs hg hr => by
  obtain ⟨⟨op, h1, h2⟩, h3, h4, h5, h6⟩ := hs
  have hr2 : ∀ r, row = some r → ∃ o : Obj, W.heap[r]? = some o ∧ o.isCells = false := fun r e => (hr r e).2
  exact ⟨⟨op, h1.kept hg hr2, h2⟩, h3.kept hg hr2, h4.kept hg hr2, h5.kept hg hr2, h6.grown hg h6.size (fun k e => Nat.le_trans hB (hr k e).1)⟩
theorem JX.own (w : World) (d : Int) (c : Code) (B : Nat) (hB : w.heap.size ≤ B) : OwnFrom B (JX w d c) := fun s W W' row hs hg hr => by
  obtain ⟨h1, h2, h3, h4, h6⟩ := hs
  have hr2 : ∀ r, row = some r → ∃ o : Obj, W.heap[r]? = some o ∧ o.isCells = false := fun r e => (hr r e).2
  exact ⟨h1, h2, h3.kept hg hr2, h4.kept hg hr2, h6.grown hg h6.size (fun k e => Nat.le_trans hB (hr k e).1)⟩

theorem Blk.next {w : World} {g : Nat} (o : Obj) (t : TypeId) (cs : Array Value) (h : (w.alloc o).heap.size = g) : Blk ((w.alloc o).alloc (.cells cs t)) g t cs := by subst h; exact Blk.new _ _ _
/-- The world in which junction's loop begins. -/
theorem jun0 (w : World) (VIEW SL : Array Value) (d : Int) :
    Below w.heap.size w (((((((w.alloc (.cells VIEW 25)).alloc (.cells #[.int .i64 d] 3)).alloc (.cells #[.int .i64 0, .int .i64 0, .string { data := #[] }] 27)).alloc (.cells #[.bool false] 4)).alloc (.cells #[.bool false] 4)).alloc (.cells VIEW 25)).alloc (.cells SL 30)) ∧ Blk (((((((w.alloc (.cells VIEW 25)).alloc (.cells #[.int .i64 d] 3)).alloc (.cells #[.int .i64 0, .int .i64 0, .string { data := #[] }] 27)).alloc (.cells #[.bool false] 4)).alloc (.cells #[.bool false] 4)).alloc (.cells VIEW 25)).alloc (.cells SL 30)) (w.heap.size + 1) 3 #[.int .i64 d] ∧ Blk (((((((w.alloc (.cells VIEW 25)).alloc (.cells #[.int .i64 d] 3)).alloc (.cells #[.int .i64 0, .int .i64 0, .string { data := #[] }] 27)).alloc (.cells #[.bool false] 4)).alloc (.cells #[.bool false] 4)).alloc (.cells VIEW 25)).alloc (.cells SL 30)) (w.heap.size + 1 + 1) 27 #[.int .i64 0, .int .i64 0, .string { data := #[] }] ∧ Blk (((((((w.alloc (.cells VIEW 25)).alloc (.cells #[.int .i64 d] 3)).alloc (.cells #[.int .i64 0, .int .i64 0, .string { data := #[] }] 27)).alloc (.cells #[.bool false] 4)).alloc (.cells #[.bool false] 4)).alloc (.cells VIEW 25)).alloc (.cells SL 30)) (w.heap.size + 1 + 1 + 1) 4 #[.bool false] ∧
      Blk (((((((w.alloc (.cells VIEW 25)).alloc (.cells #[.int .i64 d] 3)).alloc (.cells #[.int .i64 0, .int .i64 0, .string { data := #[] }] 27)).alloc (.cells #[.bool false] 4)).alloc (.cells #[.bool false] 4)).alloc (.cells VIEW 25)).alloc (.cells SL 30)) (w.heap.size + 1 + 1 + 1 + 1) 4 #[.bool false] ∧ Blk (((((((w.alloc (.cells VIEW 25)).alloc (.cells #[.int .i64 d] 3)).alloc (.cells #[.int .i64 0, .int .i64 0, .string { data := #[] }] 27)).alloc (.cells #[.bool false] 4)).alloc (.cells #[.bool false] 4)).alloc (.cells VIEW 25)).alloc (.cells SL 30)) (w.heap.size + 1 + 1 + 1 + 1 + 1) 25 VIEW ∧ Blk (((((((w.alloc (.cells VIEW 25)).alloc (.cells #[.int .i64 d] 3)).alloc (.cells #[.int .i64 0, .int .i64 0, .string { data := #[] }] 27)).alloc (.cells #[.bool false] 4)).alloc (.cells #[.bool false] 4)).alloc (.cells VIEW 25)).alloc (.cells SL 30)) (w.heap.size + 1 + 1 + 1 + 1 + 1 + 1) 30 SL ∧ (((((((w.alloc (.cells VIEW 25)).alloc (.cells #[.int .i64 d] 3)).alloc (.cells #[.int .i64 0, .int .i64 0, .string { data := #[] }] 27)).alloc (.cells #[.bool false] 4)).alloc (.cells #[.bool false] 4)).alloc (.cells VIEW 25)).alloc (.cells SL 30)).heap.size = w.heap.size + 7 :=
  ⟨((((((((Below.refl _ w).al _).al _).al _).al _).al _).al _).al _), (((((Blk.next _ _ _ (by simp)).alloc _).alloc _).alloc _).alloc _).alloc _, ((((Blk.next _ _ _ (by simp)).alloc _).alloc _).alloc _).alloc _, (((Blk.next _ _ _ (by simp)).alloc _).alloc _).alloc _,
    ((Blk.next _ _ _ (by simp)).alloc _).alloc _, (Blk.next _ _ _ (by simp)).alloc _, Blk.next _ _ _ (by simp), by simp⟩

/-- The world in which junction ends. -/
theorem jun1 (w W2 : World) (D : Nat) (k n : Int) (ok : Bool) (h2 : Blk W2 (w.heap.size + 1 + 1) 27 #[.int .i64 0, .int .i64 0, .string { data := #[] }]) (h3 : Blk W2 (w.heap.size + 1 + 1 + 1) 4 #[.bool false])
    (hK : W2.heap[D]? = some (.deferred (some []))) (hD : w.heap.size + 7 ≤ D) (hb : Below w.heap.size w W2) :
    ((((W2.setCell ⟨w.heap.size + 1 + 1, 0, none⟩ (.int .i64 k)).setCell ⟨w.heap.size + 1 + 1, 1, none⟩ (.int .i64 n)).setCell ⟨w.heap.size + 1 + 1, 2, none⟩ (.string noStr)).setCell ⟨w.heap.size + 1 + 1 + 1, 0, none⟩ (.bool ok)).heap[D]? = some (.deferred (some [])) ∧ Blk (((((W2.setCell ⟨w.heap.size + 1 + 1, 0, none⟩ (.int .i64 k)).setCell ⟨w.heap.size + 1 + 1, 1, none⟩ (.int .i64 n)).setCell ⟨w.heap.size + 1 + 1, 2, none⟩ (.string noStr)).setCell ⟨w.heap.size + 1 + 1 + 1, 0, none⟩ (.bool ok)).putObj D (.deferred none)) (w.heap.size + 1 + 1) 27 #[.int .i64 k, .int .i64 n, .string noStr] ∧ Blk (((((W2.setCell ⟨w.heap.size + 1 + 1, 0, none⟩ (.int .i64 k)).setCell ⟨w.heap.size + 1 + 1, 1, none⟩ (.int .i64 n)).setCell ⟨w.heap.size + 1 + 1, 2, none⟩ (.string noStr)).setCell ⟨w.heap.size + 1 + 1 + 1, 0, none⟩ (.bool ok)).putObj D (.deferred none)) (w.heap.size + 1 + 1 + 1) 4 #[.bool ok] ∧
      Below w.heap.size w (((((W2.setCell ⟨w.heap.size + 1 + 1, 0, none⟩ (.int .i64 k)).setCell ⟨w.heap.size + 1 + 1, 1, none⟩ (.int .i64 n)).setCell ⟨w.heap.size + 1 + 1, 2, none⟩ (.string noStr)).setCell ⟨w.heap.size + 1 + 1 + 1, 0, none⟩ (.bool ok)).putObj D (.deferred none)) := by
  have hR := (((h2.set 0 (.int .i64 k)).set 1 (.int .i64 n)).set 2 (.string noStr)).far (g' := w.heap.size + 1 + 1 + 1) (by omega) 0 (.bool ok)
  have hS := (((h3.far (g' := w.heap.size + 1 + 1) (by omega) 0 (.int .i64 k)).far (g' := w.heap.size + 1 + 1) (by omega) 1 (.int .i64 n)).far (g' := w.heap.size + 1 + 1) (by omega) 2 (.string noStr)).set 0 (.bool ok)
  have hK3 := (((KeepsOthers.setCell W2 ⟨w.heap.size + 1 + 1, 0, none⟩ (.int .i64 k)).trans (KeepsOthers.setCell _ ⟨w.heap.size + 1 + 1, 1, none⟩ (.int .i64 n))).trans ((KeepsOthers.setCell _ ⟨w.heap.size + 1 + 1, 2, none⟩ (.string noStr)).trans (KeepsOthers.setCell _ ⟨w.heap.size + 1 + 1 + 1, 0, none⟩ (.bool ok)))).same D _ hK rfl
  have hB := (((hb.st (p := ⟨w.heap.size + 1 + 1, 0, none⟩) (by simp; omega) (.int .i64 k)).st (p := ⟨w.heap.size + 1 + 1, 1, none⟩) (by simp; omega) (.int .i64 n)).st (p := ⟨w.heap.size + 1 + 1, 2, none⟩) (by simp; omega) (.string noStr)).st (p := ⟨w.heap.size + 1 + 1 + 1, 0, none⟩) (by simp; omega) (.bool ok)
  exact ⟨hK3, hR.kept (grownBy_putObj' _ D (.deferred none)) (fun r e => by cases e; exact ⟨_, hK3, rfl⟩), hS.kept (grownBy_putObj' _ D (.deferred none)) (fun r e => by cases e; exact ⟨_, hK3, rfl⟩),
    hB.trans (belowK_b (w := w) (Nat.le_refl _) _ D _ _ (by omega) hK3 rfl rfl)⟩

set_option maxRecDepth 100000 in
set_option maxHeartbeats 2000000 in
theorem junction_any (V : LView) (vc : List Value) (ks : List LExpr) (xs : List EV) (hlen : xs.length = ks.length)
    (hF : ∀ (i : Nat) (hi : i < ks.length), FindOk V ks[i] ∧ findS V ks[i] = xs[i]) (B : Nat) (A : Option Addr) (c b off : Nat) (cs : Nat → List Value) (d : Int) (w : World) (hsz1 : ks.length * 136 ≤ 140737488351232)
    (hv : IsView B w V vc) (hB : B ≤ w.heap.size) (hA : 0 < ks.length → A = some ⟨b, off, none⟩ ∧ b < B)
    (hsz : ∀ i, (cs i).length = 11) (hrow : ∀ i (hi : i < ks.length), RowAt w b (off + i * 11) (cs i)) (hk : ∀ i (hi : i < ks.length), IsExpr B w ks[i] (cs i)) :
    Calls Try.prog 74 #[.agg vc.toArray, .slice A ks.length c, .int .i64 d] w fun r w' => r = .returned (junE d xs false).res ∧ Below w.heap.size w w' := by
  have hv' := hv
  obtain ⟨IA, ic, MA, mc, rfl, _⟩ := hv'
  refine callsIn_wide (n := 9) |>.1 ?_
  refine callsIn_of_wp_marks Try.func74 rfl trivial ?_ rfl
  simp only [Try.ntmps74, List.size_toArray, List.length_cons, List.length_nil, Nat.reduceAdd, Nat.reduceSub, Array.replicate_succ, Array.replicate_zero, List.push_toArray, List.append_toArray, List.nil_append, List.cons_append]
  gi_wp2
  refine ⟨trivial, (callsIn_wide.2 (kids_in _ _ _ _ _)).mono ?_⟩
  rintro e w' ⟨rfl, rfl⟩
  gi_wp2
  obtain ⟨hB0, b1, b2, b3, b4, b5, b6, hsz0⟩ := jun0 w #[.slice IA V.items.length ic, .string V.mode, .int .i64 V.minute, .slice MA V.members.length mc] #[.slice A ks.length c] d
  generalize (((((((w.alloc (.cells #[.slice IA V.items.length ic, .string V.mode, .int .i64 V.minute, .slice MA V.members.length mc] 25)).alloc (.cells #[.int .i64 d] 3)).alloc (.cells #[.int .i64 0, .int .i64 0, .string { data := #[] }] 27)).alloc (.cells #[.bool false] 4)).alloc (.cells #[.bool false] 4)).alloc (.cells #[.slice IA V.items.length ic, .string V.mode, .int .i64 V.minute, .slice MA V.members.length mc] 25)).alloc (.cells #[.slice A ks.length c] 30)) = W0 at *
  refine wpIn_rangeFunc_ownH rfl (by omega) (gf := 122) (lb := #[.pointer (some ⟨w.heap.size + 1 + 1 + 1 + 1 + 1 + 1, 0, none⟩), .pointer (some ⟨w.heap.size + 1 + 1 + 1 + 1 + 1, 0, none⟩)]) rfl trivial (enters_of Try.func122 (by kernel_rfl) rfl)
    (kids_stops V IA ic MA mc ks xs hlen hF (w.heap.size + 1 + 1 + 1 + 1 + 1 + 1) (w.heap.size + 1 + 1 + 1 + 1 + 1) w.heap.size A c b off cs W0 hsz1 b6 b5 ((hv.mono hB).carry hB0) (by omega) (fun h => ⟨(hA h).1, by have := (hA h).2; omega⟩) hsz (fun i hi => (hrow i hi).below hB0 (by have := (hA (by omega)).2; omega)) (fun i hi => ((hk i hi).mono hB).carry hB0))
    (fun h k => h.t k) (KpV.b (by omega)) (Below.refl _ _) (fun _ => rfl)
    (JI w d) (JX w d) (JI.own w d _ (by omega)) (fun c => JX.own w d c _ (by omega)) ⟨⟨false, b4, fun _ => rfl⟩, b1, b2, b3, hB0⟩
    (fun x a' W => ∃ Bx, w.heap.size ≤ Bx ∧ Blk W Bx 27 #[.int .i64 x.k, .int .i64 x.n, .string x.s] ∧ a' = { tmps := #[.agg #[.slice IA V.items.length ic, .string V.mode, .int .i64 V.minute, .slice MA V.members.length mc], .slice A ks.length c, .int .i64 d, .pointer (some ⟨w.heap.size, 0, none⟩), undef, .pointer (some ⟨w.heap.size + 1, 0, none⟩), .pointer (some ⟨w.heap.size + 1 + 1, 0, none⟩), .pointer (some ⟨w.heap.size + 1 + 1 + 1, 0, none⟩), .pointer (some ⟨w.heap.size + 1 + 1 + 1 + 1, 0, none⟩), .pointer (some ⟨Bx, 0, none⟩), .bool x.ok, .agg #[.slice IA V.items.length ic, .string V.mode, .int .i64 V.minute, .slice MA V.members.length mc], .slice A ks.length c, .func (.func 122) #[] #[.pointer (some ⟨w.heap.size + 1 + 1 + 1 + 1 + 1 + 1, 0, none⟩), .pointer (some ⟨w.heap.size + 1 + 1 + 1 + 1 + 1, 0, none⟩)], .agg #[.int .i64 x.k, .int .i64 x.n, .string x.s], .bool x.ok, undef, undef, undef, undef, undef, undef, undef, undef, undef, undef, undef, undef, undef, undef, undef, undef, undef, undef, undef, undef, undef, undef, undef, undef, undef, undef, undef], defers := [] })
    (fun x a' _ X Y row hs hg hr => by obtain ⟨Bx, h1, h2, h3⟩ := hs; exact ⟨Bx, h1, h2.kept hg (fun r e => (hr r e).2), h3⟩)
    ?assign ?body ?done ?stop
  case assign =>
    rintro l pre x W K hJI hK
    have hsW := hJI.2.2.2.2.size
    have h3lt := hJI.2.2.2.1.lt
    have hJI2 : JI w d pre (W.alloc (.cells #[.int .i64 x.k, .int .i64 x.n, .string x.s] 27)) := (JI.own w d w.heap.size (Nat.le_refl _)).alloc _ hJI
    gi_wp2
    exact hK _ _ ((KeepsOthers.alloc _ _).from _) (KpV.of_below ((Below.refl _ _).al _) (by omega)) hJI2 ⟨W.heap.size, hsW, Blk.new _ _ _, rfl⟩
  case body =>
    rintro l pre x a' W hl ⟨r, hr⟩ hJI ⟨Bx, hBx, bX, rfl⟩ hlt
    obtain ⟨⟨op, h4, hf⟩, h1, h2, h3, hb⟩ := hJI
    obtain ⟨xk, xn, xs', xok⟩ := x
    dsimp only at bX ⊢
    have cX := bX.cell
    have c1 := h1.cell
    have c4 := h4.cell
    have f4 := h4.free
    have f2 := h2.free
    have f3 := h3.free
    clear hF hrow hk hv hlt
    gi_wp2
    · have hx : xk ≠ 1 := by simpa using ‹(xk != 1) = true›
      exact ⟨(KeepsOthers.setCell _ _ _).from _, ⟨(Below.refl _ _).setCell (p := ⟨w.heap.size + 1 + 1 + 1 + 1, 0, none⟩) (by simp; omega) _, fun t cs hc => hc.far (by omega) 0 _⟩,
        ⟨⟨true, h4.set 0 _, fun rest => by rw [List.append_assoc, hf]; simp [junE, hx]⟩, h1.far (by omega) 0 _, h2.far (by omega) 0 _, h3.far (by omega) 0 _, hb.st (by simp; omega) _⟩⟩
    · have hx : xk = 1 := by simpa using ‹(xk != 1) = false›
      have hok : xok = true := ‹_›
      have hnd : xn = d := by simpa using ‹(xn == d) = true›
      refine ⟨trivial, (CallsIn.inRound l (callsIn_wide.2 (truth_any _ _))).mono ?_⟩
      rintro r2 W2 ⟨rfl, hb2⟩
      have h2' := h2.below hb2
      have h3' := h3.below hb2
      have g2 := h2'.free
      have g3 := h3'.free
      have e2 := h2'.cell
      have e3 := h3'.cell
      have hsz2 := hb2.size
      have hszb := hb.size
      clear f2 f3 f4 c4 cX
      gi_wp2
      refine ⟨(KeepsFrom.of_grownBy (row := none) hb2.grows (fun _ e => by cases e)).trans ((((((KeepsOthers.setCell _ _ _).from _).trans ((KeepsOthers.setCell _ _ _).from _)).trans ((KeepsOthers.setCell _ _ _).from _))).trans ((KeepsOthers.setCell _ _ _).from _)), rfl, ?_, ?_, ?_, ?_⟩
      · intro rest
        rw [List.append_assoc, hf]; simp [junE, hx, hok, hnd]
      · exact (((h2'.set 0 _).set 1 _).set 2 _).far (by omega) 0 _
      · exact (((h3'.far (by omega) 0 _).far (by omega) 1 _).far (by omega) 2 _).set 0 _
      · exact ((((hb.th hb2).st (by simp; omega) _).st (by simp; omega) _).st (by simp; omega) _).st (by simp; omega) _
    · have hx : xk = 1 := by simpa using ‹(xk != 1) = false›
      have hok : xok = true := ‹_›
      have hnd : xn ≠ d := by simpa using ‹(xn == d) = false›
      exact ⟨KeepsFrom.refl _ _, ⟨Below.refl _ _, fun _ _ h => h⟩, ⟨⟨op, h4, fun rest => by rw [List.append_assoc, hf]; simp [junE, hx, hok, hnd]⟩, h1, h2, h3, hb⟩⟩
    · have hok : xok = false := by simpa using ‹¬ xok = true›
      exact ⟨(KeepsOthers.setCell _ _ _).from _, ⟨(Below.refl _ _).setCell (p := ⟨w.heap.size + 1 + 1 + 1 + 1, 0, none⟩) (by simp; omega) _, fun t cs hc => hc.far (by omega) 0 _⟩,
        ⟨⟨true, h4.set 0 _, fun rest => by rw [List.append_assoc, hf]; simp [junE, hok]⟩, h1.far (by omega) 0 _, h2.far (by omega) 0 _, h3.far (by omega) 0 _, hb.st (by simp; omega) _⟩⟩
  case done =>
    rintro D ys W hD rfl hJI hK
    obtain ⟨⟨op, h4, hf⟩, h1, h2, h3, hb⟩ := hJI
    have hf0 := hf []
    rw [List.append_nil] at hf0
    have HF := Lib.hid hf0
    have c1 := h1.cell
    have c4 := h4.cell
    have hszb := hb.size
    have hDl := (Array.getElem?_eq_some_iff.1 hK).1
    clear hF hrow hk hv hf hf0
    cases op
    all_goals
      gi_wp2
      first
        | refine ⟨trivial, (callsIn_wide.2 (truth_any _ _)).mono ?_⟩
        | refine ⟨trivial, (callsIn_wide.2 (unknown_any _)).mono ?_⟩
      rintro r2 W2 ⟨rfl, hb2⟩
      have h2' := h2.below hb2
      have h3' := h3.below hb2
      have g2 := h2'.free
      have g3 := h3'.free
      have e2 := h2'.cell
      have e3 := h3'.cell
      have hK2 := (hb2.block D hDl).trans hK
      have hsz2 := hb2.size
      gi_wp2
      obtain ⟨hK3, hR, hS, hB⟩ := jun1 w W2 D _ _ _ h2' h3' hK2 (by omega) (hb.th hb2)
      refine ⟨by simp, .inl ⟨_, _, rfl, run_takeDeferred hK3, ?_⟩⟩
      have cR := hR.cell
      have cS := hS.cell
      refine ⟨?_, ?_, ?_⟩
      rotate_left
      · simp [results, Try.results74, go_sem, cR, cS]; exact rfl
      refine ⟨?_, hB⟩
      rw [HF.out]
      rfl
  case stop =>
    rintro D c pre W hD hpre ⟨rfl, hf, h2, h3, hb⟩ hK
    have hf0 : junE d xs false = truthE (decide (d = 1)) := by
      obtain ⟨rest, rfl⟩ := hpre
      exact hf rest
    have HF := Lib.hid hf0
    have hR := h2.kept (grownBy_putObj' _ D (.deferred none)) (fun r e => by cases e; exact ⟨_, hK, rfl⟩)
    have hS := h3.kept (grownBy_putObj' _ D (.deferred none)) (fun r e => by cases e; exact ⟨_, hK, rfl⟩)
    have hB := hb.trans (belowK_b (w := w) (Nat.le_refl _) _ D _ (.deferred none) (by omega) hK rfl rfl)
    clear hf hf0 hF hrow hk hv h2 h3
    gi_wp2
    refine ⟨by simp, .inl ⟨_, _, rfl, run_takeDeferred hK, ?_⟩⟩
    have cR := hR.cell
    have cS := hS.cell
    refine ⟨?_, ?_, ?_⟩
    rotate_left
    · simp [results, Try.results74, go_sem, cR, cS]; exact rfl
    refine ⟨?_, hB⟩
    rw [HF.out]
    rfl
end

end Go.Proofs.Ytnelgblmogciiaa
