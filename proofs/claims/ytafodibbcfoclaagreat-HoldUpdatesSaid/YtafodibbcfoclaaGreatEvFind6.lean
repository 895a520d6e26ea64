/- The choice between two expressions. -/
import Derived.Test.YtafodibbcfoclaaGreatEvFind5
set_option linter.unusedSimpArgs false
set_option linter.unusedVariables false
namespace Go.Proofs.YtafodibbcfoclaaGreat.Ev
open Go.RowKit

/-- What lay at W0 below block B lies as it lay; block r is a value's. -/
def KB (B r : Nat) (W0 W : World) : Prop := Below B W0 W ∧ B ≤ W.heap.size ∧ ∃ x y z, Blk W r 36 #[x, y, z]
theorem KB.al {B r : Nat} {W0 W : World} (h : KB B r W0 W) (o : Obj) : KB B r W0 (W.alloc o) := by
  obtain ⟨h1, h2, x, y, z, h3⟩ := h
  exact ⟨h1.alloc h2 o, by simp; omega, x, y, z, h3.alloc o⟩
theorem KB.dr {B r : Nat} {W0 W : World} (h : KB B r W0 W) : KB B r W0 W.drew := by
  obtain ⟨h1, h2, x, y, z, h3⟩ := h
  exact ⟨h1.drew, h2, x, y, z, h3⟩
theorem KB.th {B r : Nat} {W0 W W2 : World} (h : KB B r W0 W) (hb : Below W.heap.size W W2) : KB B r W0 W2 := by
  obtain ⟨h1, h2, x, y, z, h3⟩ := h
  exact ⟨h1.trans (hb.mono h2), Nat.le_trans h2 hb.size, x, y, z, h3.below hb⟩
theorem KB.st {B r : Nat} {W0 W : World} (h : KB B r W0 W) (hB : B ≤ r) (i : Nat) (u : Value) : KB B r W0 (W.setCell ⟨r, i, none⟩ u) := by
  obtain ⟨h1, h2, x, y, z, h3⟩ := h
  refine ⟨h1.setCell (p := ⟨r, i, none⟩) hB u, by simpa using h2, ?_⟩
  have h4 := h3.set i u
  match i with
  | 0 => exact ⟨u, y, z, h4⟩
  | 1 => exact ⟨x, u, z, h4⟩
  | 2 => exact ⟨x, y, u, h4⟩
  | n + 3 => exact ⟨x, y, z, by simpa [Array.setIfInBounds] using h4⟩
theorem KB.far {B r : Nat} {W0 W : World} (h : KB B r W0 W) {g : Nat} (hB : B ≤ g) (hne : r ≠ g) (i : Nat) (u : Value) : KB B r W0 (W.setCell ⟨g, i, none⟩ u) := by
  obtain ⟨h1, h2, x, y, z, h3⟩ := h
  exact ⟨h1.setCell (p := ⟨g, i, none⟩) hB u, by simpa using h2, x, y, z, h3.far hne i u⟩
theorem KB.fr {B r : Nat} {W0 W : World} (h : KB B r W0 W) (i : Nat) : W.frozen? ⟨r, i, none⟩ = false := by
  obtain ⟨h1, h2, x, y, z, h3⟩ := h
  exact h3.free i
theorem KB.rc {B r : Nat} {W0 W : World} (h : KB B r W0 W) (i : Nat) (hi : i < 3) : W.cell? ⟨r, i, none⟩ = some (cellOf W r i) := by
  obtain ⟨h1, h2, x, y, z, h3⟩ := h
  have := h3.cell i
  rw [Array.getElem?_eq_getElem (by simpa using hi)] at this
  rw [cellOf, this]; rfl

/-- A choice. -/
def chE (x y z : EV) : EV := if x.ok = false ∨ x.k ≠ 1 then unknownE else if x.n = 1 then y else z

set_option maxRecDepth 100000 in
set_option maxHeartbeats 8000000 in
theorem choice_any (V : LView) (vc : List Value) (B : Nat) (b off c : Nat) (h0 h1 h2 : Hd) (k0 k1 k2 : List LExpr) (A0 A1 A2 : Option Addr) (c0 c1 c2 : Nat) (x0 x1 x2 : EV) (w : World) (hB : B ≤ w.heap.size) (hv : IsView B w V vc) (hbB : b < B)
    (hr0 : RowAt w b off (h0.cells (.slice A0 k0.length c0))) (hr1 : RowAt w b (off + 11) (h1.cells (.slice A1 k1.length c1))) (hr2 : RowAt w b (off + 22) (h2.cells (.slice A2 k2.length c2)))
    (hi0 : ∀ W, Below B w W → B ≤ W.heap.size → Calls Tryz.prog 44 #[.agg vc.toArray, .agg (h0.cells (.slice A0 k0.length c0)).toArray] W fun r w' => r = .returned x0.res ∧ Below W.heap.size W w')
    (hi1 : ∀ W, Below B w W → B ≤ W.heap.size → Calls Tryz.prog 44 #[.agg vc.toArray, .agg (h1.cells (.slice A1 k1.length c1)).toArray] W fun r w' => r = .returned x1.res ∧ Below W.heap.size W w')
    (hi2 : ∀ W, Below B w W → B ≤ W.heap.size → Calls Tryz.prog 44 #[.agg vc.toArray, .agg (h2.cells (.slice A2 k2.length c2)).toArray] W fun r w' => r = .returned x2.res ∧ Below W.heap.size W w') :
    Calls Tryz.prog 68 #[.agg vc.toArray, .slice (some ⟨b, off, none⟩) 3 c] w fun r w' => r = .returned (chE x0 x1 x2).res ∧ Below w.heap.size w w' := by
  obtain ⟨IA, ic, MA, mc, rfl, _⟩ := hv
  obtain ⟨xk, xn, xs, xok⟩ := x0
  obtain ⟨yk, yn, ys, yok⟩ := x1
  obtain ⟨zk, zn, zs, zok⟩ := x2
  generalize hE : chE ⟨xk, xn, xs, xok⟩ ⟨yk, yn, ys, yok⟩ ⟨zk, zn, zs, zok⟩ = E
  have HE := Lib.hid hE
  clear hE
  simp only [EV.res] at hi0 hi1 hi2
  unfold Hd.cells at hr0 hr1 hr2 hi0 hi1 hi2
  have hbw0 : Below w.heap.size w ((w.alloc (.cells #[.slice IA V.items.length ic, .string V.mode, .int .i64 V.minute, .slice MA V.members.length mc] 27)).alloc (.cells #[.int .i64 0, .int .i64 0, .string { data := #[] }] 36)) := ((Below.refl _ _).al _).al _
  have hv0 : Blk ((w.alloc (.cells #[.slice IA V.items.length ic, .string V.mode, .int .i64 V.minute, .slice MA V.members.length mc] 27)).alloc (.cells #[.int .i64 0, .int .i64 0, .string { data := #[] }] 36)) w.heap.size 27 #[.slice IA V.items.length ic, .string V.mode, .int .i64 V.minute, .slice MA V.members.length mc] := (Blk.new _ _ _).alloc _
  have hR0 : Blk ((w.alloc (.cells #[.slice IA V.items.length ic, .string V.mode, .int .i64 V.minute, .slice MA V.members.length mc] 27)).alloc (.cells #[.int .i64 0, .int .i64 0, .string { data := #[] }] 36)) (w.heap.size + 1) 36 #[.int .i64 0, .int .i64 0, .string { data := #[] }] := Blk.at1 _ _ _ _
  have hl0 : w.heap.size + 2 = ((w.alloc (.cells #[.slice IA V.items.length ic, .string V.mode, .int .i64 V.minute, .slice MA V.members.length mc] 27)).alloc (.cells #[.int .i64 0, .int .i64 0, .string { data := #[] }] 36)).heap.size := by simp
  go_enter Tryz.func68, Tryz.ntmps68
  go_upto_region 1 with fail
  generalize (w.alloc (.cells #[.slice IA V.items.length ic, .string V.mode, .int .i64 V.minute, .slice MA V.members.length mc] 27)).alloc (.cells #[.int .i64 0, .int .i64 0, .string { data := #[] }] 36) = W0 at *
  have hO0 : KB (w.heap.size + 1) (w.heap.size + 1) W0 W0 := ⟨Below.refl _ _, by omega, _, _, _, hR0⟩
  have hBw : ∀ W, KB (w.heap.size + 1) (w.heap.size + 1) W0 W → Below B w W ∧ B ≤ W.heap.size := fun W h => ⟨(hbw0.trans (h.1.mono (Nat.le_succ _))).mono hB, by have := h.2.1; omega⟩
  have hvw : ∀ W, KB (w.heap.size + 1) (w.heap.size + 1) W0 W → Blk W w.heap.size 27 #[.slice IA V.items.length ic, .string V.mode, .int .i64 V.minute, .slice MA V.members.length mc] := fun W h => (h.1.block _ (by omega)).trans hv0
  have hJ0 := fun W h => Lib.hid (hi0 W (hBw W h).1 (hBw W h).2)
  have hJ1 := fun W h => Lib.hid (hi1 W (hBw W h).1 (hBw W h).2)
  have hJ2 := fun W h => Lib.hid (hi2 W (hBw W h).1 (hBw W h).2)
  have hr0 := fun W h => Lib.hid (hr0.below (hBw W h).1 hbB)
  have hr1 := fun W h => Lib.hid (hr1.below (hBw W h).1 hbB)
  have hr2 := fun W h => Lib.hid (hr2.below (hBw W h).1 hbB)
  clear hi0 hi1 hi2
  have own_all : ∀ w', KB (w.heap.size + 1) (w.heap.size + 1) W0 w' → (fun w' => w'.cell? ⟨w.heap.size, 0, none⟩ = some (.slice IA V.items.length ic) ∧ w'.cell? ⟨w.heap.size, 1, none⟩ = some (.string V.mode) ∧ w'.cell? ⟨w.heap.size, 2, none⟩ = some (.int .i64 V.minute) ∧ w'.cell? ⟨w.heap.size, 3, none⟩ = some (.slice MA V.members.length mc) ∧ w'.cell? ⟨b, off, none⟩ = some (.int .i64 h0.kind) ∧ w'.cell? ⟨b, off + 1, none⟩ = some (.int .i64 h0.n) ∧ w'.cell? ⟨b, off + 2, none⟩ = some (.int .i64 h0.m) ∧ w'.cell? ⟨b, off + 3, none⟩ = some (.string h0.name) ∧ w'.cell? ⟨b, off + 4, none⟩ = some (.int .i64 h0.vk) ∧ w'.cell? ⟨b, off + 5, none⟩ = some (.int .i64 h0.vn) ∧ w'.cell? ⟨b, off + 6, none⟩ = some (.string h0.vs) ∧ w'.cell? ⟨b, off + 7, none⟩ = some (.int .i64 h0.dev) ∧ w'.cell? ⟨b, off + 8, none⟩ = some (.string h0.cl) ∧ w'.cell? ⟨b, off + 9, none⟩ = some (.string h0.at_) ∧ w'.cell? ⟨b, off + 10, none⟩ = some (.slice A0 k0.length c0) ∧ KB (w.heap.size + 1) (w.heap.size + 1) W0 w') w' := fun w' hO => ⟨(hvw w' hO).cell 0, (hvw w' hO).cell 1, (hvw w' hO).cell 2, (hvw w' hO).cell 3, (hr0 w' hO).out 0 _ rfl, (hr0 w' hO).out 1 _ rfl, (hr0 w' hO).out 2 _ rfl, (hr0 w' hO).out 3 _ rfl, (hr0 w' hO).out 4 _ rfl, (hr0 w' hO).out 5 _ rfl, (hr0 w' hO).out 6 _ rfl, (hr0 w' hO).out 7 _ rfl, (hr0 w' hO).out 8 _ rfl, (hr0 w' hO).out 9 _ rfl, (hr0 w' hO).out 10 _ rfl, hO⟩
  go_cut [6, 7] (fun s6 s7 wx => ∃ g : Nat, s6 = .pointer (some ⟨g, 0, none⟩) ∧ s7 = .bool xok ∧ Blk wx g 36 #[.int .i64 xk, .int .i64 xn, .string xs] ∧ KB (w.heap.size + 1) (w.heap.size + 1) W0 wx)
  case first =>
    clear hr1 hr2 hJ1 hJ2 HE
    go_region_held3 (fun w' => w'.cell? ⟨w.heap.size, 0, none⟩ = some (.slice IA V.items.length ic) ∧ w'.cell? ⟨w.heap.size, 1, none⟩ = some (.string V.mode) ∧ w'.cell? ⟨w.heap.size, 2, none⟩ = some (.int .i64 V.minute) ∧ w'.cell? ⟨w.heap.size, 3, none⟩ = some (.slice MA V.members.length mc) ∧ w'.cell? ⟨b, off, none⟩ = some (.int .i64 h0.kind) ∧ w'.cell? ⟨b, off + 1, none⟩ = some (.int .i64 h0.n) ∧ w'.cell? ⟨b, off + 2, none⟩ = some (.int .i64 h0.m) ∧ w'.cell? ⟨b, off + 3, none⟩ = some (.string h0.name) ∧ w'.cell? ⟨b, off + 4, none⟩ = some (.int .i64 h0.vk) ∧ w'.cell? ⟨b, off + 5, none⟩ = some (.int .i64 h0.vn) ∧ w'.cell? ⟨b, off + 6, none⟩ = some (.string h0.vs) ∧ w'.cell? ⟨b, off + 7, none⟩ = some (.int .i64 h0.dev) ∧ w'.cell? ⟨b, off + 8, none⟩ = some (.string h0.cl) ∧ w'.cell? ⟨b, off + 9, none⟩ = some (.string h0.at_) ∧ w'.cell? ⟨b, off + 10, none⟩ = some (.slice A0 k0.length c0) ∧ KB (w.heap.size + 1) (w.heap.size + 1) W0 w')
      (exact own_all _ (by ((repeat (first | assumption | refine KB.dr ?_ | refine KB.al ?_ _ | refine KB.th ?_ (by assumption) | refine KB.st ?_ (by omega) _ _ | refine KB.far ?_ (by omega) (by omega) _ _)); done)))
      (first | (go_at_call 44; refine (hJ0 _ (by ((repeat (first | assumption | refine KB.dr ?_ | refine KB.al ?_ _ | refine KB.th ?_ (by assumption) | refine KB.st ?_ (by omega) _ _ | refine KB.far ?_ (by omega) (by omega) _ _)); done))).out.mono ?_; rintro r w' ⟨rfl, hb2⟩; have hq := bcell hb2; obtain ⟨hq1, hq2⟩ := hq))
    all_goals
      clear own_all hJ0 hr0
      go_wp2_with fail
      go_meet
      first
        | (refine ⟨w'.heap.size, rfl, rfl, Blk.new _ _ _, ?_⟩
           ((repeat (first | assumption | refine KB.dr ?_ | refine KB.al ?_ _ | refine KB.th ?_ (by assumption) | refine KB.st ?_ (by omega) _ _ | refine KB.far ?_ (by omega) (by omega) _ _)); done))
        | (have hX : Blk w' W0.heap.size 36 #[.int .i64 0, .int .i64 0, .string { data := #[] }] := by
             refine Blk.below ?_ hb2
             refine Blk.nx _ _ ?_
             simp only [World.size_alloc, World.drew]
           refine ⟨W0.heap.size, rfl, rfl, ((hX.set 0 _).set 1 _).set 2 _, ?_⟩
           ((repeat (first | assumption | refine KB.dr ?_ | refine KB.al ?_ _ | refine KB.th ?_ (by assumption) | refine KB.st ?_ (by omega) _ _ | refine KB.far ?_ (by omega) (by omega) _ _)); done))
  case rest =>
    obtain ⟨g, rfl, rfl, hG, hO⟩ := hcut
    have cG := hG.cell
    have hO' := hO
    obtain ⟨_, _, x1, x2, x3, hR⟩ := hO'
    have lR := hR.lt
    clear own_all hr0 hJ0 hv0 hR0 hO0
    cases hxo : xok
    · clear hr1 hr2 hJ1 hJ2 hvw
      go_wp2_with fail
      refine (unknown_any _).mono ?_
      rintro r w2 ⟨rfl, hb2⟩
      have hR2 := hR.below hb2
      have cR := hR2.cell
      have fR := hR2.free
      have hs2 := hR2.lt
      have hOb := hbw0.trans ((hO.th hb2).1.mono (Nat.le_succ _))
      go_wp2_with fail
      refine bodyPost_ret (v := ?_) ?_ rfl ?_
      rotate_left
      · simp [results, Tryz.results68, go_sem, cR]; exact rfl
      refine ⟨by rw [← HE.out, chE, if_pos (by first | exact Or.inl hxo | exact Or.inr hx1)]; (try rfl), ?_⟩
      (repeat (first | refine Below.st ?_ (by first | (simp; done) | (simp; omega)) _ | exact hOb))
    · by_cases hx1 : xk = 1
      · by_cases hn1 : xn = 1
        · have own_all : ∀ w', KB (w.heap.size + 1) (w.heap.size + 1) W0 w' → (fun w' => w'.cell? ⟨w.heap.size, 0, none⟩ = some (.slice IA V.items.length ic) ∧ w'.cell? ⟨w.heap.size, 1, none⟩ = some (.string V.mode) ∧ w'.cell? ⟨w.heap.size, 2, none⟩ = some (.int .i64 V.minute) ∧ w'.cell? ⟨w.heap.size, 3, none⟩ = some (.slice MA V.members.length mc) ∧ w'.frozen? ⟨w.heap.size + 1, 0, none⟩ = false ∧ w'.frozen? ⟨w.heap.size + 1, 1, none⟩ = false ∧ w'.frozen? ⟨w.heap.size + 1, 2, none⟩ = false ∧ w'.cell? ⟨w.heap.size + 1, 0, none⟩ = some (cellOf w' (w.heap.size + 1) 0) ∧ w'.cell? ⟨w.heap.size + 1, 1, none⟩ = some (cellOf w' (w.heap.size + 1) 1) ∧ w'.cell? ⟨w.heap.size + 1, 2, none⟩ = some (cellOf w' (w.heap.size + 1) 2) ∧ w'.cell? ⟨b, off + 11, none⟩ = some (.int .i64 h1.kind) ∧ w'.cell? ⟨b, off + 11 + 1, none⟩ = some (.int .i64 h1.n) ∧ w'.cell? ⟨b, off + 11 + 2, none⟩ = some (.int .i64 h1.m) ∧ w'.cell? ⟨b, off + 11 + 3, none⟩ = some (.string h1.name) ∧ w'.cell? ⟨b, off + 11 + 4, none⟩ = some (.int .i64 h1.vk) ∧ w'.cell? ⟨b, off + 11 + 5, none⟩ = some (.int .i64 h1.vn) ∧ w'.cell? ⟨b, off + 11 + 6, none⟩ = some (.string h1.vs) ∧ w'.cell? ⟨b, off + 11 + 7, none⟩ = some (.int .i64 h1.dev) ∧ w'.cell? ⟨b, off + 11 + 8, none⟩ = some (.string h1.cl) ∧ w'.cell? ⟨b, off + 11 + 9, none⟩ = some (.string h1.at_) ∧ w'.cell? ⟨b, off + 11 + 10, none⟩ = some (.slice A1 k1.length c1) ∧ KB (w.heap.size + 1) (w.heap.size + 1) W0 w') w' := fun w' hO => ⟨(hvw w' hO).cell 0, (hvw w' hO).cell 1, (hvw w' hO).cell 2, (hvw w' hO).cell 3, hO.fr 0, hO.fr 1, hO.fr 2, hO.rc 0 (by omega), hO.rc 1 (by omega), hO.rc 2 (by omega), (hr1 w' hO).out 0 _ rfl, (hr1 w' hO).out 1 _ rfl, (hr1 w' hO).out 2 _ rfl, (hr1 w' hO).out 3 _ rfl, (hr1 w' hO).out 4 _ rfl, (hr1 w' hO).out 5 _ rfl, (hr1 w' hO).out 6 _ rfl, (hr1 w' hO).out 7 _ rfl, (hr1 w' hO).out 8 _ rfl, (hr1 w' hO).out 9 _ rfl, (hr1 w' hO).out 10 _ rfl, hO⟩
          clear hr2 hJ2
          go_wp2_with fail
          go_region_held3 (fun w' => w'.cell? ⟨w.heap.size, 0, none⟩ = some (.slice IA V.items.length ic) ∧ w'.cell? ⟨w.heap.size, 1, none⟩ = some (.string V.mode) ∧ w'.cell? ⟨w.heap.size, 2, none⟩ = some (.int .i64 V.minute) ∧ w'.cell? ⟨w.heap.size, 3, none⟩ = some (.slice MA V.members.length mc) ∧ w'.frozen? ⟨w.heap.size + 1, 0, none⟩ = false ∧ w'.frozen? ⟨w.heap.size + 1, 1, none⟩ = false ∧ w'.frozen? ⟨w.heap.size + 1, 2, none⟩ = false ∧ w'.cell? ⟨w.heap.size + 1, 0, none⟩ = some (cellOf w' (w.heap.size + 1) 0) ∧ w'.cell? ⟨w.heap.size + 1, 1, none⟩ = some (cellOf w' (w.heap.size + 1) 1) ∧ w'.cell? ⟨w.heap.size + 1, 2, none⟩ = some (cellOf w' (w.heap.size + 1) 2) ∧ w'.cell? ⟨b, off + 11, none⟩ = some (.int .i64 h1.kind) ∧ w'.cell? ⟨b, off + 11 + 1, none⟩ = some (.int .i64 h1.n) ∧ w'.cell? ⟨b, off + 11 + 2, none⟩ = some (.int .i64 h1.m) ∧ w'.cell? ⟨b, off + 11 + 3, none⟩ = some (.string h1.name) ∧ w'.cell? ⟨b, off + 11 + 4, none⟩ = some (.int .i64 h1.vk) ∧ w'.cell? ⟨b, off + 11 + 5, none⟩ = some (.int .i64 h1.vn) ∧ w'.cell? ⟨b, off + 11 + 6, none⟩ = some (.string h1.vs) ∧ w'.cell? ⟨b, off + 11 + 7, none⟩ = some (.int .i64 h1.dev) ∧ w'.cell? ⟨b, off + 11 + 8, none⟩ = some (.string h1.cl) ∧ w'.cell? ⟨b, off + 11 + 9, none⟩ = some (.string h1.at_) ∧ w'.cell? ⟨b, off + 11 + 10, none⟩ = some (.slice A1 k1.length c1) ∧ KB (w.heap.size + 1) (w.heap.size + 1) W0 w')
            (exact own_all _ (by ((repeat (first | assumption | refine KB.dr ?_ | refine KB.al ?_ _ | refine KB.th ?_ (by assumption) | refine KB.st ?_ (by omega) _ _ | refine KB.far ?_ (by omega) (by omega) _ _)); done)))
            (first | (go_at_call 44; refine (hJ1 _ (by ((repeat (first | assumption | refine KB.dr ?_ | refine KB.al ?_ _ | refine KB.th ?_ (by assumption) | refine KB.st ?_ (by omega) _ _ | refine KB.far ?_ (by omega) (by omega) _ _)); done))).out.mono ?_; rintro r w' ⟨rfl, hb2⟩))
          clear own_all hJ1 hr1
          have hR2 : Blk w' (w.heap.size + 1) 36 #[x1, x2, x3] := by
            refine Blk.below ?_ hb2
            exact hR
          have hOb : Below w.heap.size w w' := hbw0.trans ((KB.th (KB.dr hO) hb2).1.mono (Nat.le_succ _))
          have cR := hR2.cell
          have fR := hR2.free
          have hs2 := hR2.lt
          go_wp2_with fail
          refine bodyPost_ret (v := ?_) ?_ rfl ?_
          rotate_left
          · simp [results, Tryz.results68, go_sem, cR]; exact rfl
          refine ⟨by rw [← HE.out, chE, if_neg (by simp [hxo, hx1]), if_pos hn1]; (try rfl), ?_⟩
          (repeat (first | refine Below.st ?_ (by first | (simp; done) | (simp; omega)) _ | exact hOb))
        · have own_all : ∀ w', KB (w.heap.size + 1) (w.heap.size + 1) W0 w' → (fun w' => w'.cell? ⟨w.heap.size, 0, none⟩ = some (.slice IA V.items.length ic) ∧ w'.cell? ⟨w.heap.size, 1, none⟩ = some (.string V.mode) ∧ w'.cell? ⟨w.heap.size, 2, none⟩ = some (.int .i64 V.minute) ∧ w'.cell? ⟨w.heap.size, 3, none⟩ = some (.slice MA V.members.length mc) ∧ w'.frozen? ⟨w.heap.size + 1, 0, none⟩ = false ∧ w'.frozen? ⟨w.heap.size + 1, 1, none⟩ = false ∧ w'.frozen? ⟨w.heap.size + 1, 2, none⟩ = false ∧ w'.cell? ⟨w.heap.size + 1, 0, none⟩ = some (cellOf w' (w.heap.size + 1) 0) ∧ w'.cell? ⟨w.heap.size + 1, 1, none⟩ = some (cellOf w' (w.heap.size + 1) 1) ∧ w'.cell? ⟨w.heap.size + 1, 2, none⟩ = some (cellOf w' (w.heap.size + 1) 2) ∧ w'.cell? ⟨b, off + 22, none⟩ = some (.int .i64 h2.kind) ∧ w'.cell? ⟨b, off + 22 + 1, none⟩ = some (.int .i64 h2.n) ∧ w'.cell? ⟨b, off + 22 + 2, none⟩ = some (.int .i64 h2.m) ∧ w'.cell? ⟨b, off + 22 + 3, none⟩ = some (.string h2.name) ∧ w'.cell? ⟨b, off + 22 + 4, none⟩ = some (.int .i64 h2.vk) ∧ w'.cell? ⟨b, off + 22 + 5, none⟩ = some (.int .i64 h2.vn) ∧ w'.cell? ⟨b, off + 22 + 6, none⟩ = some (.string h2.vs) ∧ w'.cell? ⟨b, off + 22 + 7, none⟩ = some (.int .i64 h2.dev) ∧ w'.cell? ⟨b, off + 22 + 8, none⟩ = some (.string h2.cl) ∧ w'.cell? ⟨b, off + 22 + 9, none⟩ = some (.string h2.at_) ∧ w'.cell? ⟨b, off + 22 + 10, none⟩ = some (.slice A2 k2.length c2) ∧ KB (w.heap.size + 1) (w.heap.size + 1) W0 w') w' := fun w' hO => ⟨(hvw w' hO).cell 0, (hvw w' hO).cell 1, (hvw w' hO).cell 2, (hvw w' hO).cell 3, hO.fr 0, hO.fr 1, hO.fr 2, hO.rc 0 (by omega), hO.rc 1 (by omega), hO.rc 2 (by omega), (hr2 w' hO).out 0 _ rfl, (hr2 w' hO).out 1 _ rfl, (hr2 w' hO).out 2 _ rfl, (hr2 w' hO).out 3 _ rfl, (hr2 w' hO).out 4 _ rfl, (hr2 w' hO).out 5 _ rfl, (hr2 w' hO).out 6 _ rfl, (hr2 w' hO).out 7 _ rfl, (hr2 w' hO).out 8 _ rfl, (hr2 w' hO).out 9 _ rfl, (hr2 w' hO).out 10 _ rfl, hO⟩
          clear hr1 hJ1
          go_wp2_with fail
          go_region_held3 (fun w' => w'.cell? ⟨w.heap.size, 0, none⟩ = some (.slice IA V.items.length ic) ∧ w'.cell? ⟨w.heap.size, 1, none⟩ = some (.string V.mode) ∧ w'.cell? ⟨w.heap.size, 2, none⟩ = some (.int .i64 V.minute) ∧ w'.cell? ⟨w.heap.size, 3, none⟩ = some (.slice MA V.members.length mc) ∧ w'.frozen? ⟨w.heap.size + 1, 0, none⟩ = false ∧ w'.frozen? ⟨w.heap.size + 1, 1, none⟩ = false ∧ w'.frozen? ⟨w.heap.size + 1, 2, none⟩ = false ∧ w'.cell? ⟨w.heap.size + 1, 0, none⟩ = some (cellOf w' (w.heap.size + 1) 0) ∧ w'.cell? ⟨w.heap.size + 1, 1, none⟩ = some (cellOf w' (w.heap.size + 1) 1) ∧ w'.cell? ⟨w.heap.size + 1, 2, none⟩ = some (cellOf w' (w.heap.size + 1) 2) ∧ w'.cell? ⟨b, off + 22, none⟩ = some (.int .i64 h2.kind) ∧ w'.cell? ⟨b, off + 22 + 1, none⟩ = some (.int .i64 h2.n) ∧ w'.cell? ⟨b, off + 22 + 2, none⟩ = some (.int .i64 h2.m) ∧ w'.cell? ⟨b, off + 22 + 3, none⟩ = some (.string h2.name) ∧ w'.cell? ⟨b, off + 22 + 4, none⟩ = some (.int .i64 h2.vk) ∧ w'.cell? ⟨b, off + 22 + 5, none⟩ = some (.int .i64 h2.vn) ∧ w'.cell? ⟨b, off + 22 + 6, none⟩ = some (.string h2.vs) ∧ w'.cell? ⟨b, off + 22 + 7, none⟩ = some (.int .i64 h2.dev) ∧ w'.cell? ⟨b, off + 22 + 8, none⟩ = some (.string h2.cl) ∧ w'.cell? ⟨b, off + 22 + 9, none⟩ = some (.string h2.at_) ∧ w'.cell? ⟨b, off + 22 + 10, none⟩ = some (.slice A2 k2.length c2) ∧ KB (w.heap.size + 1) (w.heap.size + 1) W0 w')
            (exact own_all _ (by ((repeat (first | assumption | refine KB.dr ?_ | refine KB.al ?_ _ | refine KB.th ?_ (by assumption) | refine KB.st ?_ (by omega) _ _ | refine KB.far ?_ (by omega) (by omega) _ _)); done)))
            (first | (go_at_call 44; refine (hJ2 _ (by ((repeat (first | assumption | refine KB.dr ?_ | refine KB.al ?_ _ | refine KB.th ?_ (by assumption) | refine KB.st ?_ (by omega) _ _ | refine KB.far ?_ (by omega) (by omega) _ _)); done))).out.mono ?_; rintro r w' ⟨rfl, hb2⟩))
          clear own_all hJ2 hr2
          have hR2 : Blk w' (w.heap.size + 1) 36 #[x1, x2, x3] := by
            refine Blk.below ?_ hb2
            exact hR
          have hOb : Below w.heap.size w w' := hbw0.trans ((KB.th (KB.dr hO) hb2).1.mono (Nat.le_succ _))
          have cR := hR2.cell
          have fR := hR2.free
          have hs2 := hR2.lt
          go_wp2_with fail
          refine bodyPost_ret (v := ?_) ?_ rfl ?_
          rotate_left
          · simp [results, Tryz.results68, go_sem, cR]; exact rfl
          refine ⟨by rw [← HE.out, chE, if_neg (by simp [hxo, hx1]), if_neg hn1]; (try rfl), ?_⟩
          (repeat (first | refine Below.st ?_ (by first | (simp; done) | (simp; omega)) _ | exact hOb))
      · clear hr1 hr2 hJ1 hJ2 hvw
        go_wp2_with fail
        refine (unknown_any _).mono ?_
        rintro r w2 ⟨rfl, hb2⟩
        have hR2 := hR.below hb2
        have cR := hR2.cell
        have fR := hR2.free
        have hs2 := hR2.lt
        have hOb := hbw0.trans ((hO.th hb2).1.mono (Nat.le_succ _))
        go_wp2_with fail
        refine bodyPost_ret (v := ?_) ?_ rfl ?_
        rotate_left
        · simp [results, Tryz.results68, go_sem, cR]; exact rfl
        refine ⟨by rw [← HE.out, chE, if_pos (by first | exact Or.inl hxo | exact Or.inr hx1)]; (try rfl), ?_⟩
        (repeat (first | refine Below.st ?_ (by first | (simp; done) | (simp; omega)) _ | exact hOb))

end Go.Proofs.YtafodibbcfoclaaGreat.Ev
