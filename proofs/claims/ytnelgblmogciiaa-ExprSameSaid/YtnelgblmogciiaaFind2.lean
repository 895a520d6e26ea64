/- The value of an expression: times and days. -/
import Derived.Test.YtnelgblmogciiaaFind1
set_option linter.unusedSimpArgs false
set_option linter.unusedVariables false
namespace Go.Proofs.Ytnelgblmogciiaa
open Go.RowKit

/-- What find holds of its own: its copies of the view and of the expression, and its result. -/
def Own (w : World) (vcs ecs : Array Value) (w' : World) : Prop :=
  Below w.heap.size w w' ∧ Blk w' w.heap.size 25 vcs ∧ Blk w' (w.heap.size + 1) 32 ecs ∧ ∃ R, Blk w' (w.heap.size + 1 + 1) 27 R ∧ R.size = 3
theorem Own.al {w w' : World} {vcs ecs : Array Value} (h : Own w vcs ecs w') (o : Obj) : Own w vcs ecs (w'.alloc o) := by
  obtain ⟨h1, h2, h3, R, h4, h5⟩ := h
  exact ⟨h1.al o, h2.alloc o, h3.alloc o, R, h4.alloc o, h5⟩
theorem Own.dr {w w' : World} {vcs ecs : Array Value} (h : Own w vcs ecs w') : Own w vcs ecs w'.drew := by
  obtain ⟨h1, h2, h3, R, h4, h5⟩ := h
  exact ⟨h1.dr, h2, h3, R, h4, h5⟩
theorem Own.th {w w' w2 : World} {vcs ecs : Array Value} (h : Own w vcs ecs w') (hb : Below w'.heap.size w' w2) : Own w vcs ecs w2 := by
  obtain ⟨h1, h2, h3, R, h4, h5⟩ := h
  exact ⟨h1.th hb, h2.below hb, h3.below hb, R, h4.below hb, h5⟩
theorem Own.new (w : World) (vcs ecs : Array Value) (x y z : Value) : Own w vcs ecs (((w.alloc (.cells vcs 25)).alloc (.cells ecs 32)).alloc (.cells #[x, y, z] 27)) :=
  ⟨(((Below.refl _ _).al _).al _).al _, ((Blk.new _ _ _).alloc _).alloc _, (Blk.at1 _ _ _ _).alloc _, _, Blk.at2 _ _ _ _ _, rfl⟩
theorem Own.cv {w w' : World} {vcs ecs : Array Value} (h : Own w vcs ecs w') (i : Nat) : w'.cell? ⟨w.heap.size, i, none⟩ = vcs[i]? := h.2.1.cell i
theorem Own.ce {w w' : World} {vcs ecs : Array Value} (h : Own w vcs ecs w') (i : Nat) : w'.cell? ⟨w.heap.size + 1, i, none⟩ = ecs[i]? := h.2.2.1.cell i
theorem Own.fr {w w' : World} {vcs ecs : Array Value} (h : Own w vcs ecs w') (i : Nat) : w'.frozen? ⟨w.heap.size + 1 + 1, i, none⟩ = false := by
  obtain ⟨h1, h2, h3, R, h4, h5⟩ := h
  exact h4.free i
/-- What a cell holds. -/
def cellOf (w : World) (b i : Nat) : Value := (w.cell? ⟨b, i, none⟩).getD undef
theorem Own.rc {w w' : World} {vcs ecs : Array Value} (h : Own w vcs ecs w') (i : Nat) (hi : i < 3) : w'.cell? ⟨w.heap.size + 1 + 1, i, none⟩ = some (cellOf w' (w.heap.size + 1 + 1) i) := by
  obtain ⟨h1, h2, h3, R, h4, h5⟩ := h
  have := h4.cell i
  rw [Array.getElem?_eq_getElem (by omega)] at this
  rw [cellOf, this]; rfl
theorem Own.st {w w' : World} {vcs ecs : Array Value} (h : Own w vcs ecs w') (i : Nat) (u : Value) : Own w vcs ecs (w'.setCell ⟨w.heap.size + 1 + 1, i, none⟩ u) := by
  obtain ⟨h1, h2, h3, R, h4, h5⟩ := h
  exact ⟨h1.st (by simp; omega) u, h2.far (by omega) i u, h3.far (by omega) i u, _, h4.set i u, by simpa using h5⟩

set_option maxRecDepth 100000 in
set_option maxHeartbeats 1000000 in
theorem find_time (V : LView) (h : Hd) (ks : List LExpr) (hk : h.kind = 4) : FindOk V (.mk h ks) := by
  intro vc cs B w hB hv he
  obtain ⟨hd, ks', A, c, hh, rfl, hlen⟩ := he.form
  cases hh
  have hs : findS V (.mk h ks) = (if V.minute < 0 then unknownE else truthE (decide (duringP (ofDayI V.minute) h.n h.m))) := by simp [findS, nodeE, hk]
  rw [hs]
  obtain ⟨IA, ic, MA, mc, rfl, _⟩ := hv
  clear he hs
  by_cases hm : V.minute < 0
  · rw [if_pos hm]
    go_enter Try.func44, Try.ntmps44
    unfold Hd.cells
    rw [hk]
    go_wp2_with fail
    refine (unknown_any _).mono ?_
    rintro r w2 ⟨rfl, hb2⟩
    have hR := ((Blk.at2 w _ _ _ _)).below hb2
    have cR := hR.cell
    have fR := hR.free
    have hs := hR.lt
    go_wp2_with fail
    refine bodyPost_ret (v := ?_) ?_ rfl ?_
    rotate_left
    · simp [results, Try.results44, go_sem, cR]; exact rfl
    refine ⟨rfl, ?_⟩
    (repeat (first | exact Below.refl _ _ | refine Below.al ?_ _ | refine Below.st ?_ (by simp; omega) _ | refine Below.th ?_ (by assumption)))
  · rw [if_neg hm]
    go_enter Try.func44, Try.ntmps44
    unfold Hd.cells
    rw [hk]
    go_wp2_with fail
    have hO0 := Own.new w #[.slice IA V.items.length ic, .string V.mode, .int .i64 V.minute, .slice MA V.members.length mc] #[.int .i64 4, .int .i64 h.n, .int .i64 h.m, .string h.name, .int .i64 h.vk, .int .i64 h.vn, .string h.vs, .int .i64 h.dev, .string h.cl, .string h.at_, .slice A ks.length c] (.int .i64 0) (.int .i64 0) (.string { data := #[] })
    have own_all : ∀ w', Own w #[.slice IA V.items.length ic, .string V.mode, .int .i64 V.minute, .slice MA V.members.length mc] #[.int .i64 4, .int .i64 h.n, .int .i64 h.m, .string h.name, .int .i64 h.vk, .int .i64 h.vn, .string h.vs, .int .i64 h.dev, .string h.cl, .string h.at_, .slice A ks.length c] w' → (fun w' => w'.cell? ⟨w.heap.size, 2, none⟩ = some (.int .i64 V.minute) ∧ w'.cell? ⟨w.heap.size + 1, 1, none⟩ = some (.int .i64 h.n) ∧ w'.cell? ⟨w.heap.size + 1, 2, none⟩ = some (.int .i64 h.m) ∧ Own w #[.slice IA V.items.length ic, .string V.mode, .int .i64 V.minute, .slice MA V.members.length mc] #[.int .i64 4, .int .i64 h.n, .int .i64 h.m, .string h.name, .int .i64 h.vk, .int .i64 h.vn, .string h.vs, .int .i64 h.dev, .string h.cl, .string h.at_, .slice A ks.length c] w' ∧ w'.frozen? ⟨w.heap.size + 1 + 1, 0, none⟩ = false ∧ w'.frozen? ⟨w.heap.size + 1 + 1, 1, none⟩ = false ∧ w'.frozen? ⟨w.heap.size + 1 + 1, 2, none⟩ = false ∧ w'.cell? ⟨w.heap.size + 1 + 1, 0, none⟩ = some (cellOf w' (w.heap.size + 1 + 1) 0) ∧ w'.cell? ⟨w.heap.size + 1 + 1, 1, none⟩ = some (cellOf w' (w.heap.size + 1 + 1) 1) ∧ w'.cell? ⟨w.heap.size + 1 + 1, 2, none⟩ = some (cellOf w' (w.heap.size + 1 + 1) 2)) w' :=
      fun w' hO => ⟨Own.cv hO 2, Own.ce hO 1, Own.ce hO 2, hO, Own.fr hO 0, Own.fr hO 1, Own.fr hO 2, hO.rc 0 (by omega), hO.rc 1 (by omega), hO.rc 2 (by omega)⟩
    go_region_held3 (fun w' => w'.cell? ⟨w.heap.size, 2, none⟩ = some (.int .i64 V.minute) ∧ w'.cell? ⟨w.heap.size + 1, 1, none⟩ = some (.int .i64 h.n) ∧ w'.cell? ⟨w.heap.size + 1, 2, none⟩ = some (.int .i64 h.m) ∧ Own w #[.slice IA V.items.length ic, .string V.mode, .int .i64 V.minute, .slice MA V.members.length mc] #[.int .i64 4, .int .i64 h.n, .int .i64 h.m, .string h.name, .int .i64 h.vk, .int .i64 h.vn, .string h.vs, .int .i64 h.dev, .string h.cl, .string h.at_, .slice A ks.length c] w' ∧ w'.frozen? ⟨w.heap.size + 1 + 1, 0, none⟩ = false ∧ w'.frozen? ⟨w.heap.size + 1 + 1, 1, none⟩ = false ∧ w'.frozen? ⟨w.heap.size + 1 + 1, 2, none⟩ = false ∧ w'.cell? ⟨w.heap.size + 1 + 1, 0, none⟩ = some (cellOf w' (w.heap.size + 1 + 1) 0) ∧ w'.cell? ⟨w.heap.size + 1 + 1, 1, none⟩ = some (cellOf w' (w.heap.size + 1 + 1) 1) ∧ w'.cell? ⟨w.heap.size + 1 + 1, 2, none⟩ = some (cellOf w' (w.heap.size + 1 + 1) 2))
      (first | (exact own_all _ (Own.dr hO0)) | (exact own_all _ (Own.th (by first | assumption | exact Own.dr hO0) hb2)) | (exact own_all _ (Own.st (Own.st (Own.st (by first | assumption | exact Own.th (by first | assumption | exact Own.dr hO0) hb2) _ _) _ _) _ _)))
      (first | (go_at_call 71; refine (ofDay_any _ _).mono ?_; rintro r w' ⟨rfl, rfl⟩) | (go_at_call 70; refine (during_any _ _ _ _).mono ?_; rintro r w' ⟨rfl, rfl⟩) | (go_at_call 69; refine (truth_any _ _).mono ?_; rintro r w' ⟨rfl, hb2⟩))
    have hR : Blk w' (w.heap.size + 1 + 1) 27 #[.int .i64 0, .int .i64 0, .string { data := #[] }] := by
      refine Blk.below ?_ hb2
      exact Blk.at2 w _ _ _ _
    have cR := hR.cell
    have fR := hR.free
    have hs := hR.lt
    go_wp2_with fail
    refine bodyPost_ret (v := ?_) ?_ rfl ?_
    rotate_left
    · simp [results, Try.results44, go_sem, cR]; exact rfl
    refine ⟨rfl, ?_⟩
    (repeat (first | exact Below.refl _ _ | refine Below.al ?_ _ | refine Below.st ?_ (by simp; omega) _ | refine Below.th ?_ (by assumption) | refine Below.dr ?_))

set_option maxRecDepth 100000 in
set_option maxHeartbeats 1000000 in
theorem find_day (V : LView) (h : Hd) (ks : List LExpr) (hk : h.kind = 5) : FindOk V (.mk h ks) := by
  intro vc cs B w hB hv he
  obtain ⟨hd, ks', A, c, hh, rfl, hlen⟩ := he.form
  cases hh
  have hs : findS V (.mk h ks) = (if V.minute < 0 then unknownE else truthE (dayB h.n V.minute)) := by simp [findS, nodeE, hk]
  rw [hs]
  have hwd : 0 ≤ weekdayI V.minute ∧ weekdayI V.minute < 7 := by unfold weekdayI minI; omega
  obtain ⟨IA, ic, MA, mc, rfl, _⟩ := hv
  clear he hs
  by_cases hm : V.minute < 0
  · rw [if_pos hm]
    go_enter Try.func44, Try.ntmps44
    unfold Hd.cells
    rw [hk]
    go_wp2_with fail
    refine (unknown_any _).mono ?_
    rintro r w2 ⟨rfl, hb2⟩
    have hR := ((Blk.at2 w _ _ _ _)).below hb2
    have cR := hR.cell
    have fR := hR.free
    have hs := hR.lt
    go_wp2_with fail
    refine bodyPost_ret (v := ?_) ?_ rfl ?_
    rotate_left
    · simp [results, Try.results44, go_sem, cR]; exact rfl
    refine ⟨rfl, ?_⟩
    (repeat (first | exact Below.refl _ _ | refine Below.al ?_ _ | refine Below.st ?_ (by simp; omega) _ | refine Below.th ?_ (by assumption)))
  · rw [if_neg hm]
    go_enter Try.func44, Try.ntmps44
    unfold Hd.cells
    rw [hk]
    go_wp2_with fail
    have hO0 := Own.new w #[.slice IA V.items.length ic, .string V.mode, .int .i64 V.minute, .slice MA V.members.length mc] #[.int .i64 5, .int .i64 h.n, .int .i64 h.m, .string h.name, .int .i64 h.vk, .int .i64 h.vn, .string h.vs, .int .i64 h.dev, .string h.cl, .string h.at_, .slice A ks.length c] (.int .i64 0) (.int .i64 0) (.string { data := #[] })
    have own_all : ∀ w', Own w #[.slice IA V.items.length ic, .string V.mode, .int .i64 V.minute, .slice MA V.members.length mc] #[.int .i64 5, .int .i64 h.n, .int .i64 h.m, .string h.name, .int .i64 h.vk, .int .i64 h.vn, .string h.vs, .int .i64 h.dev, .string h.cl, .string h.at_, .slice A ks.length c] w' → (fun w' => w'.cell? ⟨w.heap.size, 2, none⟩ = some (.int .i64 V.minute) ∧ w'.cell? ⟨w.heap.size + 1, 1, none⟩ = some (.int .i64 h.n) ∧ w'.cell? ⟨w.heap.size + 1, 2, none⟩ = some (.int .i64 h.m) ∧ Own w #[.slice IA V.items.length ic, .string V.mode, .int .i64 V.minute, .slice MA V.members.length mc] #[.int .i64 5, .int .i64 h.n, .int .i64 h.m, .string h.name, .int .i64 h.vk, .int .i64 h.vn, .string h.vs, .int .i64 h.dev, .string h.cl, .string h.at_, .slice A ks.length c] w' ∧ w'.frozen? ⟨w.heap.size + 1 + 1, 0, none⟩ = false ∧ w'.frozen? ⟨w.heap.size + 1 + 1, 1, none⟩ = false ∧ w'.frozen? ⟨w.heap.size + 1 + 1, 2, none⟩ = false ∧ w'.cell? ⟨w.heap.size + 1 + 1, 0, none⟩ = some (cellOf w' (w.heap.size + 1 + 1) 0) ∧ w'.cell? ⟨w.heap.size + 1 + 1, 1, none⟩ = some (cellOf w' (w.heap.size + 1 + 1) 1) ∧ w'.cell? ⟨w.heap.size + 1 + 1, 2, none⟩ = some (cellOf w' (w.heap.size + 1 + 1) 2)) w' :=
      fun w' hO => ⟨Own.cv hO 2, Own.ce hO 1, Own.ce hO 2, hO, Own.fr hO 0, Own.fr hO 1, Own.fr hO 2, hO.rc 0 (by omega), hO.rc 1 (by omega), hO.rc 2 (by omega)⟩
    go_region_held3 (fun w' => w'.cell? ⟨w.heap.size, 2, none⟩ = some (.int .i64 V.minute) ∧ w'.cell? ⟨w.heap.size + 1, 1, none⟩ = some (.int .i64 h.n) ∧ w'.cell? ⟨w.heap.size + 1, 2, none⟩ = some (.int .i64 h.m) ∧ Own w #[.slice IA V.items.length ic, .string V.mode, .int .i64 V.minute, .slice MA V.members.length mc] #[.int .i64 5, .int .i64 h.n, .int .i64 h.m, .string h.name, .int .i64 h.vk, .int .i64 h.vn, .string h.vs, .int .i64 h.dev, .string h.cl, .string h.at_, .slice A ks.length c] w' ∧ w'.frozen? ⟨w.heap.size + 1 + 1, 0, none⟩ = false ∧ w'.frozen? ⟨w.heap.size + 1 + 1, 1, none⟩ = false ∧ w'.frozen? ⟨w.heap.size + 1 + 1, 2, none⟩ = false ∧ w'.cell? ⟨w.heap.size + 1 + 1, 0, none⟩ = some (cellOf w' (w.heap.size + 1 + 1) 0) ∧ w'.cell? ⟨w.heap.size + 1 + 1, 1, none⟩ = some (cellOf w' (w.heap.size + 1 + 1) 1) ∧ w'.cell? ⟨w.heap.size + 1 + 1, 2, none⟩ = some (cellOf w' (w.heap.size + 1 + 1) 2))
      (first | (exact own_all _ (Own.dr hO0)) | (exact own_all _ (Own.th (by first | assumption | exact Own.dr hO0) hb2)) | (exact own_all _ (Own.st (Own.st (Own.st (by first | assumption | exact Own.th (by first | assumption | exact Own.dr hO0) hb2) _ _) _ _) _ _)))
      (first | (go_at_call 72; refine (weekday_any _ _).mono ?_; rintro r w' ⟨rfl, rfl⟩) | (go_at_call 69; refine (truth_any _ _).mono ?_; rintro r w' ⟨rfl, hb2⟩))
    have hR : Blk w' (w.heap.size + 1 + 1) 27 #[.int .i64 0, .int .i64 0, .string { data := #[] }] := by
      refine Blk.below ?_ hb2
      exact Blk.at2 w _ _ _ _
    have cR := hR.cell
    have fR := hR.free
    have hs := hR.lt
    go_wp2_with fail
    refine bodyPost_ret (v := ?_) ?_ rfl ?_
    rotate_left
    · simp [results, Try.results44, go_sem, cR]; exact rfl
    refine ⟨rfl, ?_⟩
    (repeat (first | exact Below.refl _ _ | refine Below.al ?_ _ | refine Below.st ?_ (by simp; omega) _ | refine Below.th ?_ (by assumption) | refine Below.dr ?_))

end Go.Proofs.Ytnelgblmogciiaa
