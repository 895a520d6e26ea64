/- Operations on two kids. -/
import Derived.Test.YtafodibbcfoclaaGreatEvFind6
set_option linter.unusedSimpArgs false
set_option linter.unusedVariables false
namespace Go.Proofs.YtafodibbcfoclaaGreat.Ev
open Go.RowKit

theorem KB.re {B r B' : Nat} {W0 W W' : World} (h : KB B r W0 W) (h' : KB B' r W W') (hB : B ≤ B') : KB B r W0 W' :=
  ⟨h.1.trans (h'.1.mono hB), Nat.le_trans h.2.1 h'.1.size, h'.2.2⟩

set_option maxRecDepth 100000 in
set_option maxHeartbeats 8000000 in
theorem bin_any (V : LView) (vc : List Value) (B : Nat) (b off c : Nat) (h h0 h1 : Hd) (k0 k1 : List LExpr) (A0 A1 : Option Addr) (c0 c1 : Nat) (x0 x1 : EV) (w : World) (hB : B ≤ w.heap.size) (hv : IsView B w V vc) (hbB : b < B) (hk9 : 9 ≤ h.kind) (hk13 : h.kind ≤ 13)
    (hx0 : I64 x0.n) (hx1 : I64 x1.n)
    (hr0 : RowAt w b off (h0.cells (.slice A0 k0.length c0))) (hr1 : RowAt w b (off + 11) (h1.cells (.slice A1 k1.length c1)))
    (hi0 : ∀ W, Below B w W → B ≤ W.heap.size → Calls Tryz.prog 44 #[.agg vc.toArray, .agg (h0.cells (.slice A0 k0.length c0)).toArray] W fun r w' => r = .returned x0.res ∧ Below W.heap.size W w')
    (hi1 : ∀ W, Below B w W → B ≤ W.heap.size → Calls Tryz.prog 44 #[.agg vc.toArray, .agg (h1.cells (.slice A1 k1.length c1)).toArray] W fun r w' => r = .returned x1.res ∧ Below W.heap.size W w') :
    Calls Tryz.prog 44 #[.agg vc.toArray, .agg (h.cells (.slice (some ⟨b, off, none⟩) 2 c)).toArray] w fun r w' => r = .returned (if x0.ok = false ∨ x1.ok = false then unknownE else opE h.kind x0.k x0.n x0.s x1.k x1.n x1.s).res ∧ Below w.heap.size w w' := by
  obtain ⟨IA, ic, MA, mc, rfl, _⟩ := hv
  obtain ⟨xk, xn, xs, xok⟩ := x0
  obtain ⟨yk, yn, ys, yok⟩ := x1
  generalize hE : (if (⟨xk, xn, xs, xok⟩ : EV).ok = false ∨ (⟨yk, yn, ys, yok⟩ : EV).ok = false then unknownE else opE h.kind (⟨xk, xn, xs, xok⟩ : EV).k (⟨xk, xn, xs, xok⟩ : EV).n (⟨xk, xn, xs, xok⟩ : EV).s (⟨yk, yn, ys, yok⟩ : EV).k (⟨yk, yn, ys, yok⟩ : EV).n (⟨yk, yn, ys, yok⟩ : EV).s) = E
  dsimp only at hE hx0 hx1
  have HE := Lib.hid hE
  have HX0 := Lib.hid hx0
  have HX1 := Lib.hid hx1
  clear hE hx0 hx1
  simp only [EV.res] at hi0 hi1
  unfold Hd.cells at hr0 hr1 hi0 hi1
  have q1 : (h.kind == 1) = false := by simp; omega
  have q2 : (h.kind == 2) = false := by simp; omega
  have q3 : (h.kind == 3) = false := by simp; omega
  have q4 : (h.kind == 4) = false := by simp; omega
  have q5 : (h.kind == 5) = false := by simp; omega
  have q15 : (h.kind == 15) = false := by simp; omega
  have q6 : (h.kind == 6) = false := by simp; omega
  have q7 : (h.kind == 7) = false := by simp; omega
  have q8 : (h.kind == 8) = false := by simp; omega
  have q14 : (h.kind == 14) = false := by simp; omega
  have hbw0 : Below w.heap.size w (((w.alloc (.cells #[.slice IA V.items.length ic, .string V.mode, .int .i64 V.minute, .slice MA V.members.length mc] 27)).alloc (.cells #[.int .i64 h.kind, .int .i64 h.n, .int .i64 h.m, .string h.name, .int .i64 h.vk, .int .i64 h.vn, .string h.vs, .int .i64 h.dev, .string h.cl, .string h.at_, .slice (some ⟨b, off, none⟩) 2 c] 41)).alloc (.cells #[.int .i64 0, .int .i64 0, .string { data := #[] }] 36)) := (((Below.refl _ _).al _).al _).al _
  have hv0 : Blk (((w.alloc (.cells #[.slice IA V.items.length ic, .string V.mode, .int .i64 V.minute, .slice MA V.members.length mc] 27)).alloc (.cells #[.int .i64 h.kind, .int .i64 h.n, .int .i64 h.m, .string h.name, .int .i64 h.vk, .int .i64 h.vn, .string h.vs, .int .i64 h.dev, .string h.cl, .string h.at_, .slice (some ⟨b, off, none⟩) 2 c] 41)).alloc (.cells #[.int .i64 0, .int .i64 0, .string { data := #[] }] 36)) w.heap.size 27 #[.slice IA V.items.length ic, .string V.mode, .int .i64 V.minute, .slice MA V.members.length mc] := ((Blk.new _ _ _).alloc _).alloc _
  have he0 : Blk (((w.alloc (.cells #[.slice IA V.items.length ic, .string V.mode, .int .i64 V.minute, .slice MA V.members.length mc] 27)).alloc (.cells #[.int .i64 h.kind, .int .i64 h.n, .int .i64 h.m, .string h.name, .int .i64 h.vk, .int .i64 h.vn, .string h.vs, .int .i64 h.dev, .string h.cl, .string h.at_, .slice (some ⟨b, off, none⟩) 2 c] 41)).alloc (.cells #[.int .i64 0, .int .i64 0, .string { data := #[] }] 36)) (w.heap.size + 1) 41 #[.int .i64 h.kind, .int .i64 h.n, .int .i64 h.m, .string h.name, .int .i64 h.vk, .int .i64 h.vn, .string h.vs, .int .i64 h.dev, .string h.cl, .string h.at_, .slice (some ⟨b, off, none⟩) 2 c] := (Blk.at1 _ _ _ _).alloc _
  have hR0 : Blk (((w.alloc (.cells #[.slice IA V.items.length ic, .string V.mode, .int .i64 V.minute, .slice MA V.members.length mc] 27)).alloc (.cells #[.int .i64 h.kind, .int .i64 h.n, .int .i64 h.m, .string h.name, .int .i64 h.vk, .int .i64 h.vn, .string h.vs, .int .i64 h.dev, .string h.cl, .string h.at_, .slice (some ⟨b, off, none⟩) 2 c] 41)).alloc (.cells #[.int .i64 0, .int .i64 0, .string { data := #[] }] 36)) (w.heap.size + 1 + 1) 36 #[.int .i64 0, .int .i64 0, .string { data := #[] }] := Blk.at2 _ _ _ _ _
  have hl0 : w.heap.size + 3 = (((w.alloc (.cells #[.slice IA V.items.length ic, .string V.mode, .int .i64 V.minute, .slice MA V.members.length mc] 27)).alloc (.cells #[.int .i64 h.kind, .int .i64 h.n, .int .i64 h.m, .string h.name, .int .i64 h.vk, .int .i64 h.vn, .string h.vs, .int .i64 h.dev, .string h.cl, .string h.at_, .slice (some ⟨b, off, none⟩) 2 c] 41)).alloc (.cells #[.int .i64 0, .int .i64 0, .string { data := #[] }] 36)).heap.size := by simp
  go_enter Tryz.func44, Tryz.ntmps44
  unfold Hd.cells
  go_upto_region 28 with fail
  generalize (((w.alloc (.cells #[.slice IA V.items.length ic, .string V.mode, .int .i64 V.minute, .slice MA V.members.length mc] 27)).alloc (.cells #[.int .i64 h.kind, .int .i64 h.n, .int .i64 h.m, .string h.name, .int .i64 h.vk, .int .i64 h.vn, .string h.vs, .int .i64 h.dev, .string h.cl, .string h.at_, .slice (some ⟨b, off, none⟩) 2 c] 41)).alloc (.cells #[.int .i64 0, .int .i64 0, .string { data := #[] }] 36)) = W0 at *
  have hO0 : KB W0.heap.size (w.heap.size + 1 + 1) W0 W0 := ⟨Below.refl _ _, by omega, _, _, _, hR0⟩
  have hBw : ∀ W, KB W0.heap.size (w.heap.size + 1 + 1) W0 W → Below B w W ∧ B ≤ W.heap.size := fun W h => ⟨(hbw0.trans (h.1.mono (by omega))).mono hB, by have := h.2.1; omega⟩
  have hvw : ∀ W, KB W0.heap.size (w.heap.size + 1 + 1) W0 W → Blk W w.heap.size 27 #[.slice IA V.items.length ic, .string V.mode, .int .i64 V.minute, .slice MA V.members.length mc] := fun W h => (h.1.block _ (by omega)).trans hv0
  have hew : ∀ W, KB W0.heap.size (w.heap.size + 1 + 1) W0 W → Blk W (w.heap.size + 1) 41 #[.int .i64 h.kind, .int .i64 h.n, .int .i64 h.m, .string h.name, .int .i64 h.vk, .int .i64 h.vn, .string h.vs, .int .i64 h.dev, .string h.cl, .string h.at_, .slice (some ⟨b, off, none⟩) 2 c] := fun W h => (h.1.block _ (by omega)).trans he0
  have hJ0 := fun W h => Lib.hid (hi0 W (hBw W h).1 (hBw W h).2)
  have hJ1 := fun W h => Lib.hid (hi1 W (hBw W h).1 (hBw W h).2)
  have hr0 := fun W h => Lib.hid (hr0.below (hBw W h).1 hbB)
  have hr1 := fun W h => Lib.hid (hr1.below (hBw W h).1 hbB)
  clear hi0 hi1
  have own_all : ∀ w', KB W0.heap.size (w.heap.size + 1 + 1) W0 w' → (fun w' => w'.cell? ⟨w.heap.size, 0, none⟩ = some (.slice IA V.items.length ic) ∧ w'.cell? ⟨w.heap.size, 1, none⟩ = some (.string V.mode) ∧ w'.cell? ⟨w.heap.size, 2, none⟩ = some (.int .i64 V.minute) ∧ w'.cell? ⟨w.heap.size, 3, none⟩ = some (.slice MA V.members.length mc) ∧ w'.cell? ⟨w.heap.size + 1, 10, none⟩ = some (.slice (some ⟨b, off, none⟩) 2 c) ∧ w'.cell? ⟨b, off, none⟩ = some (.int .i64 h0.kind) ∧ w'.cell? ⟨b, off + 1, none⟩ = some (.int .i64 h0.n) ∧ w'.cell? ⟨b, off + 2, none⟩ = some (.int .i64 h0.m) ∧ w'.cell? ⟨b, off + 3, none⟩ = some (.string h0.name) ∧ w'.cell? ⟨b, off + 4, none⟩ = some (.int .i64 h0.vk) ∧ w'.cell? ⟨b, off + 5, none⟩ = some (.int .i64 h0.vn) ∧ w'.cell? ⟨b, off + 6, none⟩ = some (.string h0.vs) ∧ w'.cell? ⟨b, off + 7, none⟩ = some (.int .i64 h0.dev) ∧ w'.cell? ⟨b, off + 8, none⟩ = some (.string h0.cl) ∧ w'.cell? ⟨b, off + 9, none⟩ = some (.string h0.at_) ∧ w'.cell? ⟨b, off + 10, none⟩ = some (.slice A0 k0.length c0) ∧ KB W0.heap.size (w.heap.size + 1 + 1) W0 w') w' := fun w' hO => ⟨(hvw w' hO).cell 0, (hvw w' hO).cell 1, (hvw w' hO).cell 2, (hvw w' hO).cell 3, (hew w' hO).cell 10, (hr0 w' hO).out 0 _ rfl, (hr0 w' hO).out 1 _ rfl, (hr0 w' hO).out 2 _ rfl, (hr0 w' hO).out 3 _ rfl, (hr0 w' hO).out 4 _ rfl, (hr0 w' hO).out 5 _ rfl, (hr0 w' hO).out 6 _ rfl, (hr0 w' hO).out 7 _ rfl, (hr0 w' hO).out 8 _ rfl, (hr0 w' hO).out 9 _ rfl, (hr0 w' hO).out 10 _ rfl, hO⟩
  go_cut [8, 9] (fun s6 s7 wx => ∃ g : Nat, s6 = .pointer (some ⟨g, 0, none⟩) ∧ s7 = .bool xok ∧ Blk wx g 36 #[.int .i64 xk, .int .i64 xn, .string xs] ∧ KB W0.heap.size (w.heap.size + 1 + 1) W0 wx)
  case first =>
    clear hr1 hJ1 HE q1 q2 q3 q4 q5 q6 q7 q8 q14 q15
    go_region_held3 (fun w' => w'.cell? ⟨w.heap.size, 0, none⟩ = some (.slice IA V.items.length ic) ∧ w'.cell? ⟨w.heap.size, 1, none⟩ = some (.string V.mode) ∧ w'.cell? ⟨w.heap.size, 2, none⟩ = some (.int .i64 V.minute) ∧ w'.cell? ⟨w.heap.size, 3, none⟩ = some (.slice MA V.members.length mc) ∧ w'.cell? ⟨w.heap.size + 1, 10, none⟩ = some (.slice (some ⟨b, off, none⟩) 2 c) ∧ w'.cell? ⟨b, off, none⟩ = some (.int .i64 h0.kind) ∧ w'.cell? ⟨b, off + 1, none⟩ = some (.int .i64 h0.n) ∧ w'.cell? ⟨b, off + 2, none⟩ = some (.int .i64 h0.m) ∧ w'.cell? ⟨b, off + 3, none⟩ = some (.string h0.name) ∧ w'.cell? ⟨b, off + 4, none⟩ = some (.int .i64 h0.vk) ∧ w'.cell? ⟨b, off + 5, none⟩ = some (.int .i64 h0.vn) ∧ w'.cell? ⟨b, off + 6, none⟩ = some (.string h0.vs) ∧ w'.cell? ⟨b, off + 7, none⟩ = some (.int .i64 h0.dev) ∧ w'.cell? ⟨b, off + 8, none⟩ = some (.string h0.cl) ∧ w'.cell? ⟨b, off + 9, none⟩ = some (.string h0.at_) ∧ w'.cell? ⟨b, off + 10, none⟩ = some (.slice A0 k0.length c0) ∧ KB W0.heap.size (w.heap.size + 1 + 1) W0 w')
      (exact own_all _ (by ((repeat (first | assumption | refine KB.dr ?_ | refine KB.al ?_ _ | refine KB.th ?_ (by assumption) | refine KB.st ?_ (by omega) _ _ | refine KB.far ?_ (by omega) (by omega) _ _)); done)))
      (first | (go_at_call 44; refine (hJ0 _ (by ((repeat (first | assumption | refine KB.dr ?_ | refine KB.al ?_ _ | refine KB.th ?_ (by assumption) | refine KB.st ?_ (by omega) _ _ | refine KB.far ?_ (by omega) (by omega) _ _)); done))).out.mono ?_; rintro r w' ⟨rfl, hb2⟩; have hq := bcell hb2; obtain ⟨hq1, hq2⟩ := hq))
    all_goals
      clear own_all hJ0 hr0
      go_wp2_with fail
      go_meet
      first
        | (refine ⟨w'.heap.size, rfl, rfl, Blk.new _ _ _, ?_⟩
           ((repeat (first | assumption | refine KB.dr ?_ | refine KB.al ?_ _ | refine KB.th ?_ (by assumption) | refine KB.st ?_ (by omega) _ _ | refine KB.far ?_ (by omega) (by omega) _ _)); done))
        | (have hX : Blk w' W0.heap.size 36 #[.int .i64 0, .int .i64 0, .string { data := #[] }] := by
             refine Blk.below ?_ hb2
             refine Blk.nx _ _ ?_
             simp only [World.size_alloc, World.drew]
           refine ⟨W0.heap.size, rfl, rfl, ((hX.set 0 _).set 1 _).set 2 _, ?_⟩
           ((repeat (first | assumption | refine KB.dr ?_ | refine KB.al ?_ _ | refine KB.th ?_ (by assumption) | refine KB.st ?_ (by omega) _ _ | refine KB.far ?_ (by omega) (by omega) _ _)); done))
  case rest =>
    obtain ⟨g, rfl, rfl, hG, hO⟩ := hcut
    clear own_all hr0 hJ0
    have lG := hG.lt
    have lwc : W0.heap.size ≤ wc.heap.size := hO.2.1
    have hO1 : KB wc.heap.size (w.heap.size + 1 + 1) wc wc := ⟨Below.refl _ _, Nat.le_refl _, hO.2.2⟩
    have hre : ∀ W, KB wc.heap.size (w.heap.size + 1 + 1) wc W → KB W0.heap.size (w.heap.size + 1 + 1) W0 W := fun W h => hO.re h hO.2.1
    have hvw := fun W h => hvw W (hre W h)
    have hew := fun W h => hew W (hre W h)
    have hr1 := fun W h => hr1 W (hre W h)
    have hJ1 := fun W h => hJ1 W (hre W h)
    have own_all : ∀ w', KB wc.heap.size (w.heap.size + 1 + 1) wc w' → (fun w' => w'.cell? ⟨w.heap.size, 0, none⟩ = some (.slice IA V.items.length ic) ∧ w'.cell? ⟨w.heap.size, 1, none⟩ = some (.string V.mode) ∧ w'.cell? ⟨w.heap.size, 2, none⟩ = some (.int .i64 V.minute) ∧ w'.cell? ⟨w.heap.size, 3, none⟩ = some (.slice MA V.members.length mc) ∧ w'.cell? ⟨w.heap.size + 1, 10, none⟩ = some (.slice (some ⟨b, off, none⟩) 2 c) ∧ w'.cell? ⟨b, off + 11, none⟩ = some (.int .i64 h1.kind) ∧ w'.cell? ⟨b, off + 11 + 1, none⟩ = some (.int .i64 h1.n) ∧ w'.cell? ⟨b, off + 11 + 2, none⟩ = some (.int .i64 h1.m) ∧ w'.cell? ⟨b, off + 11 + 3, none⟩ = some (.string h1.name) ∧ w'.cell? ⟨b, off + 11 + 4, none⟩ = some (.int .i64 h1.vk) ∧ w'.cell? ⟨b, off + 11 + 5, none⟩ = some (.int .i64 h1.vn) ∧ w'.cell? ⟨b, off + 11 + 6, none⟩ = some (.string h1.vs) ∧ w'.cell? ⟨b, off + 11 + 7, none⟩ = some (.int .i64 h1.dev) ∧ w'.cell? ⟨b, off + 11 + 8, none⟩ = some (.string h1.cl) ∧ w'.cell? ⟨b, off + 11 + 9, none⟩ = some (.string h1.at_) ∧ w'.cell? ⟨b, off + 11 + 10, none⟩ = some (.slice A1 k1.length c1) ∧ KB wc.heap.size (w.heap.size + 1 + 1) wc w') w' := fun w' hO => ⟨(hvw w' hO).cell 0, (hvw w' hO).cell 1, (hvw w' hO).cell 2, (hvw w' hO).cell 3, (hew w' hO).cell 10, (hr1 w' hO).out 0 _ rfl, (hr1 w' hO).out 1 _ rfl, (hr1 w' hO).out 2 _ rfl, (hr1 w' hO).out 3 _ rfl, (hr1 w' hO).out 4 _ rfl, (hr1 w' hO).out 5 _ rfl, (hr1 w' hO).out 6 _ rfl, (hr1 w' hO).out 7 _ rfl, (hr1 w' hO).out 8 _ rfl, (hr1 w' hO).out 9 _ rfl, (hr1 w' hO).out 10 _ rfl, hO⟩
    go_upto_region 29 with fail
    go_cut [10, 11] (fun s6 s7 wx => ∃ g' : Nat, s6 = .pointer (some ⟨g', 0, none⟩) ∧ s7 = .bool yok ∧ Blk wx g' 36 #[.int .i64 yk, .int .i64 yn, .string ys] ∧ KB wc.heap.size (w.heap.size + 1 + 1) wc wx)
    case first =>
      clear HE q1 q2 q3 q4 q5 q6 q7 q8 q14 q15
      go_region_held3 (fun w' => w'.cell? ⟨w.heap.size, 0, none⟩ = some (.slice IA V.items.length ic) ∧ w'.cell? ⟨w.heap.size, 1, none⟩ = some (.string V.mode) ∧ w'.cell? ⟨w.heap.size, 2, none⟩ = some (.int .i64 V.minute) ∧ w'.cell? ⟨w.heap.size, 3, none⟩ = some (.slice MA V.members.length mc) ∧ w'.cell? ⟨w.heap.size + 1, 10, none⟩ = some (.slice (some ⟨b, off, none⟩) 2 c) ∧ w'.cell? ⟨b, off + 11, none⟩ = some (.int .i64 h1.kind) ∧ w'.cell? ⟨b, off + 11 + 1, none⟩ = some (.int .i64 h1.n) ∧ w'.cell? ⟨b, off + 11 + 2, none⟩ = some (.int .i64 h1.m) ∧ w'.cell? ⟨b, off + 11 + 3, none⟩ = some (.string h1.name) ∧ w'.cell? ⟨b, off + 11 + 4, none⟩ = some (.int .i64 h1.vk) ∧ w'.cell? ⟨b, off + 11 + 5, none⟩ = some (.int .i64 h1.vn) ∧ w'.cell? ⟨b, off + 11 + 6, none⟩ = some (.string h1.vs) ∧ w'.cell? ⟨b, off + 11 + 7, none⟩ = some (.int .i64 h1.dev) ∧ w'.cell? ⟨b, off + 11 + 8, none⟩ = some (.string h1.cl) ∧ w'.cell? ⟨b, off + 11 + 9, none⟩ = some (.string h1.at_) ∧ w'.cell? ⟨b, off + 11 + 10, none⟩ = some (.slice A1 k1.length c1) ∧ KB wc.heap.size (w.heap.size + 1 + 1) wc w')
        (exact own_all _ (by ((repeat (first | assumption | refine KB.dr ?_ | refine KB.al ?_ _ | refine KB.th ?_ (by assumption) | refine KB.st ?_ (by omega) _ _ | refine KB.far ?_ (by omega) (by omega) _ _)); done)))
        (first | (go_at_call 44; refine (hJ1 _ (by ((repeat (first | assumption | refine KB.dr ?_ | refine KB.al ?_ _ | refine KB.th ?_ (by assumption) | refine KB.st ?_ (by omega) _ _ | refine KB.far ?_ (by omega) (by omega) _ _)); done))).out.mono ?_; rintro r w' ⟨rfl, hb2⟩; have hq := bcell hb2; obtain ⟨hq1, hq2⟩ := hq))
      all_goals
        clear own_all hJ1 hr1
        go_wp2_with fail
        go_meet
        first
          | (refine ⟨w'.heap.size, rfl, rfl, Blk.new _ _ _, ?_⟩
             ((repeat (first | assumption | refine KB.dr ?_ | refine KB.al ?_ _ | refine KB.th ?_ (by assumption) | refine KB.st ?_ (by omega) _ _ | refine KB.far ?_ (by omega) (by omega) _ _)); done))
          | (have hX : Blk w' wc.heap.size 36 #[.int .i64 0, .int .i64 0, .string { data := #[] }] := by
               refine Blk.below ?_ hb2
               refine Blk.nx _ _ ?_
               simp only [World.size_alloc, World.drew]
             refine ⟨wc.heap.size, rfl, rfl, ((hX.set 0 _).set 1 _).set 2 _, ?_⟩
             ((repeat (first | assumption | refine KB.dr ?_ | refine KB.al ?_ _ | refine KB.th ?_ (by assumption) | refine KB.st ?_ (by omega) _ _ | refine KB.far ?_ (by omega) (by omega) _ _)); done))
    case rest =>
      rename_i wd
      obtain ⟨g', rfl, rfl, hG', hO2⟩ := hcut
      have hGd := (hO2.1.block g lG).trans hG
      have hed := hew _ hO2
      have hO3 := hre _ hO2
      obtain ⟨_, _, r1, r2, r3, hR⟩ := hO2
      have cG := Blk.cell hGd
      have cG' := hG'.cell
      have cE := hed.cell
      have lR := hR.lt
      have hbe := hbw0.trans (hO3.1.mono (by omega))
      clear own_all hr1 hJ1 hvw hew hO1 hre hO0 hO hBw hv0 he0 hR0
      cases hxo : xok
      · go_wp2_with fail
        refine (unknown_any _).mono ?_
        rintro r w2 ⟨rfl, hb2⟩
        have hR2 := hR.below hb2
        have cR := hR2.cell
        have fR := hR2.free
        have hs2 := hR2.lt
        have hOb := hbe.th hb2
        go_wp2_with fail
        refine bodyPost_ret (v := ?_) ?_ rfl ?_
        rotate_left
        · simp [results, Tryz.results44, go_sem, cR]; exact rfl
        refine ⟨by rw [← HE.out, if_pos (by first | exact Or.inl hxo | exact Or.inr hyo)]; (try rfl), ?_⟩
        (repeat (first | refine Below.st ?_ (by first | (simp; done) | (simp; omega)) _ | exact hOb))
      · cases hyo : yok
        · go_wp2_with fail
          refine (unknown_any _).mono ?_
          rintro r w2 ⟨rfl, hb2⟩
          have hR2 := hR.below hb2
          have cR := hR2.cell
          have fR := hR2.free
          have hs2 := hR2.lt
          have hOb := hbe.th hb2
          go_wp2_with fail
          refine bodyPost_ret (v := ?_) ?_ rfl ?_
          rotate_left
          · simp [results, Tryz.results44, go_sem, cR]; exact rfl
          refine ⟨by rw [← HE.out, if_pos (by first | exact Or.inl hxo | exact Or.inr hyo)]; (try rfl), ?_⟩
          (repeat (first | refine Below.st ?_ (by first | (simp; done) | (simp; omega)) _ | exact hOb))
        · have HO := fun W => Lib.hid (operation_any h.kind xk xn xs yk yn ys W HX0.out HX1.out)
          go_wp2_with fail
          refine (HO _).out.mono ?_
          rintro r w2 ⟨rfl, hb2⟩
          clear HO
          have HE2 : opE h.kind xk xn xs yk yn ys = E := by rw [← HE.out, if_neg (by simp [hxo, hyo])]
          rw [HE2]
          clear HE2 HE
          obtain ⟨ek, en, es, eok⟩ := E
          have hR2 := hR.below hb2
          have cR := hR2.cell
          have fR := hR2.free
          have hs2 := hR2.lt
          have hOb := hbe.th hb2
          go_wp2_with fail
          refine bodyPost_ret (v := ?_) ?_ rfl ?_
          rotate_left
          · simp [results, Tryz.results44, go_sem, cR]; exact rfl
          refine ⟨rfl, ?_⟩
          (repeat (first | refine Below.st ?_ (by first | (simp; done) | (simp; omega)) _ | exact hOb))

end Go.Proofs.YtafodibbcfoclaaGreat.Ev
