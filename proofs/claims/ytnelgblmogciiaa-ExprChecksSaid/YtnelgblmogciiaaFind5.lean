/- The value of an expression: and, or, not. -/
import Derived.Test.YtnelgblmogciiaaFindA
import Derived.Deep.DeepCutAuto
set_option linter.unusedSimpArgs false
set_option linter.unusedVariables false
namespace Go.Proofs.Ytnelgblmogciiaa
open Go.RowKit

theorem findL_len (V : LView) (ks : List LExpr) : (findL V ks).length = ks.length := by
  induction ks with
  | nil => simp [findL]
  | cons k ks ih => simp [findL, ih]
theorem findL_get (V : LView) (ks : List LExpr) : ∀ (i : Nat) (hi : i < ks.length), (findL V ks)[i]'(by rw [findL_len]; exact hi) = findS V ks[i] := by
  induction ks with
  | nil => intro i hi; simp at hi
  | cons k ks ih =>
    intro i hi
    cases i with
    | zero => simp [findL]
    | succ i => simp only [findL, List.getElem_cons_succ]; exact ih i (by simpa using hi)

set_option maxRecDepth 100000 in
set_option maxHeartbeats 1000000 in
theorem find_jun (V : LView) (h : Hd) (ks : List LExpr) (d : Int) (hk : (h.kind = 7 ∧ d = 0) ∨ (h.kind = 8 ∧ d = 1)) (ih : ∀ (i : Nat) (hi : i < ks.length), FindOk V ks[i]) : FindOk V (.mk h ks) := by
  intro vc cs B w hB hv he
  have hs : findS V (.mk h ks) = junE d (findL V ks) false := by rcases hk with ⟨h1, rfl⟩ | ⟨h1, rfl⟩ <;> simp [findS, nodeE, h1]
  rw [hs]
  cases he with
  | mk _ _ A c b off cs ok hlen hA hsz hrow hkk =>
  have HA := fun o1 o2 o3 => Lib.hid (junction_any V vc ks (findL V ks) (findL_len V ks) (fun i hi => ⟨ih i hi, (findL_get V ks i hi).symm⟩) B A c b off cs d (((w.alloc o1).alloc o2).alloc o3) hlen
    (hv.carry ((((Below.refl B w).alloc hB o1).alloc (by simp; omega) o2).alloc (by simp; omega) o3)) (by simp; omega) hA hsz
    (fun i hi => (hrow i hi).below ((((Below.refl B w).alloc hB o1).alloc (by simp; omega) o2).alloc (by simp; omega) o3) (hA (by omega)).2)
    (fun i hi => (hkk i hi).carry ((((Below.refl B w).alloc hB o1).alloc (by simp; omega) o2).alloc (by simp; omega) o3)))
  generalize junE d (findL V ks) false = R at *
  obtain ⟨IA, ic, MA, mc, rfl, _⟩ := hv
  clear hrow hkk ih hA hs
  rcases hk with ⟨hk, rfl⟩ | ⟨hk, rfl⟩
  all_goals
    go_enter Try.func44, Try.ntmps44
    unfold Hd.cells
    rw [hk]
    go_wp2_with fail
    refine (HA _ _ _).out.mono ?_
    rintro r w2 ⟨rfl, hb2⟩
    have hR := ((Blk.at2 w _ _ _ _)).below hb2
    have cR := hR.cell
    have fR := hR.free
    have hs := hR.lt
    clear HA
    go_wp2_with fail
    refine bodyPost_ret (v := ?_) ?_ rfl ?_
    rotate_left
    · simp [results, Try.results44, go_sem, cR]; exact rfl
    refine ⟨rfl, ?_⟩
    (repeat (first | exact Below.refl _ _ | refine Below.al ?_ _ | refine Below.st ?_ (by simp; omega) _ | refine Below.th ?_ (by assumption)))

theorem Own.far {w w' : World} {vcs ecs : Array Value} (h : Own w vcs ecs w') {g : Nat} (hg : w.heap.size + 1 + 1 < g) (i : Nat) (u : Value) : Own w vcs ecs (w'.setCell ⟨g, i, none⟩ u) := by
  obtain ⟨h1, h2, h3, R, h4, h5⟩ := h
  exact ⟨h1.st (by simp; omega) u, h2.far (by omega) i u, h3.far (by omega) i u, R, h4.far (by omega) i u, h5⟩
theorem Own.lt {w w' : World} {vcs ecs : Array Value} (h : Own w vcs ecs w') : w.heap.size + 1 + 1 < w'.heap.size := by
  obtain ⟨h1, h2, h3, R, h4, h5⟩ := h
  exact h4.lt
theorem Own.res {w w' : World} {vcs ecs : Array Value} (h : Own w vcs ecs w') : ∃ x y z, Blk w' (w.heap.size + 1 + 1) 27 #[x, y, z] := by
  obtain ⟨h1, h2, h3, R, h4, h5⟩ := h
  obtain ⟨l⟩ := R
  match l, h5 with
  | [x, y, z], _ => exact ⟨x, y, z, h4⟩
theorem Blk.nx {w : World} {g : Nat} (t : TypeId) (cs : Array Value) (h : w.heap.size = g) : Blk (w.alloc (.cells cs t)) g t cs := by subst h; exact Blk.new _ _ _

set_option maxRecDepth 100000 in
set_option maxHeartbeats 4000000 in
theorem find_not (V : LView) (h : Hd) (ks : List LExpr) (hk : h.kind = 6) (hlk : ks.length = 1) (ih : ∀ (i : Nat) (hi : i < ks.length), FindOk V ks[i]) : FindOk V (.mk h ks) := by
  intro vc cs B w hB hv he
  have hs : findS V (.mk h ks) = (if (findS V (ks[0]'(by omega))).ok = false ∨ (findS V (ks[0]'(by omega))).k ≠ 1 then unknownE else truthE (decide ((findS V (ks[0]'(by omega))).n = 0))) := by
    have e0 : (findL V ks).getD 0 unknownE = findS V (ks[0]'(by omega)) := by rw [← findL_get V ks 0 (by omega)]; simp [findL_len, hlk]
    simp only [findS, nodeE, hk, e0]; rfl
  rw [hs]
  cases he with
  | mk _ _ A c b off cs ok hlen hA hsz hrow hkk =>
  obtain ⟨rfl, hbB⟩ := hA (by omega)
  have ih0 := ih 0 (by omega)
  have hr0 := hrow 0 (by omega)
  have hk0 := hkk 0 (by omega)
  generalize ks[0] = e0 at *
  clear hrow hkk ih hA hs
  obtain ⟨hd', ks', A', c', he0, hcs, _⟩ := hk0.form
  rw [hcs] at hk0 hr0
  generalize hX : findS V e0 = X at *
  have HI := fun (vcs ecs : Array Value) (W : World) (hO : Own w vcs ecs W) => Lib.hid (ih0 vc (hd'.cells (.slice A' ks'.length c')) B W (Nat.le_trans hB hO.1.size) (hv.carry (hO.1.mono hB)) (hk0.carry (hO.1.mono hB)))
  rw [hX] at HI
  have hrW := fun (vcs ecs : Array Value) (W : World) (hO : Own w vcs ecs W) => Lib.hid (hr0.below hO.1 (by omega))
  simp only [Nat.zero_mul, Nat.add_zero] at hrW
  obtain ⟨IA, ic, MA, mc, rfl, _⟩ := hv
  clear hk0 hr0 ih0 hcs he0 hX
  unfold Hd.cells at HI hrW
  obtain ⟨xk, xn, xs, xok⟩ := X
  dsimp only at HI ⊢
  generalize hE : (if xok = false ∨ xk ≠ 1 then unknownE else truthE (decide (xn = 0))) = E
  have HE := Lib.hid hE
  clear hE
  go_enter Try.func44, Try.ntmps44
  unfold Hd.cells
  rw [hk, hlk]
  rw [hlk] at hlen
  have own_all : ∀ w', Own w #[.slice IA V.items.length ic, .string V.mode, .int .i64 V.minute, .slice MA V.members.length mc] #[.int .i64 6, .int .i64 h.n, .int .i64 h.m, .string h.name, .int .i64 h.vk, .int .i64 h.vn, .string h.vs, .int .i64 h.dev, .string h.cl, .string h.at_, .slice (some ⟨b, off, none⟩) 1 c] w' → (fun w' => w'.cell? ⟨w.heap.size, 0, none⟩ = some (.slice IA V.items.length ic) ∧ w'.cell? ⟨w.heap.size, 1, none⟩ = some (.string V.mode) ∧ w'.cell? ⟨w.heap.size, 2, none⟩ = some (.int .i64 V.minute) ∧ w'.cell? ⟨w.heap.size, 3, none⟩ = some (.slice MA V.members.length mc) ∧ w'.cell? ⟨w.heap.size + 1, 10, none⟩ = some (.slice (some ⟨b, off, none⟩) 1 c) ∧ w'.cell? ⟨b, off, none⟩ = some (.int .i64 hd'.kind) ∧ w'.cell? ⟨b, off + 1, none⟩ = some (.int .i64 hd'.n) ∧ w'.cell? ⟨b, off + 2, none⟩ = some (.int .i64 hd'.m) ∧ w'.cell? ⟨b, off + 3, none⟩ = some (.string hd'.name) ∧ w'.cell? ⟨b, off + 4, none⟩ = some (.int .i64 hd'.vk) ∧ w'.cell? ⟨b, off + 5, none⟩ = some (.int .i64 hd'.vn) ∧ w'.cell? ⟨b, off + 6, none⟩ = some (.string hd'.vs) ∧ w'.cell? ⟨b, off + 7, none⟩ = some (.int .i64 hd'.dev) ∧ w'.cell? ⟨b, off + 8, none⟩ = some (.string hd'.cl) ∧ w'.cell? ⟨b, off + 9, none⟩ = some (.string hd'.at_) ∧ w'.cell? ⟨b, off + 10, none⟩ = some (.slice A' ks'.length c') ∧ Own w #[.slice IA V.items.length ic, .string V.mode, .int .i64 V.minute, .slice MA V.members.length mc] #[.int .i64 6, .int .i64 h.n, .int .i64 h.m, .string h.name, .int .i64 h.vk, .int .i64 h.vn, .string h.vs, .int .i64 h.dev, .string h.cl, .string h.at_, .slice (some ⟨b, off, none⟩) 1 c] w') w' := fun w' hO => ⟨hO.cv 0, hO.cv 1, hO.cv 2, hO.cv 3, hO.ce 10, (hrW _ _ _ hO).out 0 _ rfl, (hrW _ _ _ hO).out 1 _ rfl, (hrW _ _ _ hO).out 2 _ rfl, (hrW _ _ _ hO).out 3 _ rfl, (hrW _ _ _ hO).out 4 _ rfl, (hrW _ _ _ hO).out 5 _ rfl, (hrW _ _ _ hO).out 6 _ rfl, (hrW _ _ _ hO).out 7 _ rfl, (hrW _ _ _ hO).out 8 _ rfl, (hrW _ _ _ hO).out 9 _ rfl, (hrW _ _ _ hO).out 10 _ rfl, hO⟩
  have hO0 := Own.new w #[.slice IA V.items.length ic, .string V.mode, .int .i64 V.minute, .slice MA V.members.length mc] #[.int .i64 6, .int .i64 h.n, .int .i64 h.m, .string h.name, .int .i64 h.vk, .int .i64 h.vn, .string h.vs, .int .i64 h.dev, .string h.cl, .string h.at_, .slice (some ⟨b, off, none⟩) 1 c] (.int .i64 0) (.int .i64 0) (.string { data := #[] })
  have hl0 := hO0.lt
  have HI2 := fun W (hO : Own w #[.slice IA V.items.length ic, .string V.mode, .int .i64 V.minute, .slice MA V.members.length mc] #[.int .i64 6, .int .i64 h.n, .int .i64 h.m, .string h.name, .int .i64 h.vk, .int .i64 h.vn, .string h.vs, .int .i64 h.dev, .string h.cl, .string h.at_, .slice (some ⟨b, off, none⟩) 1 c] W) => HI _ _ W hO
  clear HI
  go_upto_region 18 with fail
  go_cut [6, 7] (fun s6 s7 wx => ∃ g : Nat, s6 = .pointer (some ⟨g, 0, none⟩) ∧ s7 = .bool xok ∧ Blk wx g 27 #[.int .i64 xk, .int .i64 xn, .string xs] ∧ w.heap.size + 1 + 1 < g ∧ Own w #[.slice IA V.items.length ic, .string V.mode, .int .i64 V.minute, .slice MA V.members.length mc] #[.int .i64 6, .int .i64 h.n, .int .i64 h.m, .string h.name, .int .i64 h.vk, .int .i64 h.vn, .string h.vs, .int .i64 h.dev, .string h.cl, .string h.at_, .slice (some ⟨b, off, none⟩) 1 c] wx)
  case first =>
    go_region_held3 (fun w' => w'.cell? ⟨w.heap.size, 0, none⟩ = some (.slice IA V.items.length ic) ∧ w'.cell? ⟨w.heap.size, 1, none⟩ = some (.string V.mode) ∧ w'.cell? ⟨w.heap.size, 2, none⟩ = some (.int .i64 V.minute) ∧ w'.cell? ⟨w.heap.size, 3, none⟩ = some (.slice MA V.members.length mc) ∧ w'.cell? ⟨w.heap.size + 1, 10, none⟩ = some (.slice (some ⟨b, off, none⟩) 1 c) ∧ w'.cell? ⟨b, off, none⟩ = some (.int .i64 hd'.kind) ∧ w'.cell? ⟨b, off + 1, none⟩ = some (.int .i64 hd'.n) ∧ w'.cell? ⟨b, off + 2, none⟩ = some (.int .i64 hd'.m) ∧ w'.cell? ⟨b, off + 3, none⟩ = some (.string hd'.name) ∧ w'.cell? ⟨b, off + 4, none⟩ = some (.int .i64 hd'.vk) ∧ w'.cell? ⟨b, off + 5, none⟩ = some (.int .i64 hd'.vn) ∧ w'.cell? ⟨b, off + 6, none⟩ = some (.string hd'.vs) ∧ w'.cell? ⟨b, off + 7, none⟩ = some (.int .i64 hd'.dev) ∧ w'.cell? ⟨b, off + 8, none⟩ = some (.string hd'.cl) ∧ w'.cell? ⟨b, off + 9, none⟩ = some (.string hd'.at_) ∧ w'.cell? ⟨b, off + 10, none⟩ = some (.slice A' ks'.length c') ∧ Own w #[.slice IA V.items.length ic, .string V.mode, .int .i64 V.minute, .slice MA V.members.length mc] #[.int .i64 6, .int .i64 h.n, .int .i64 h.m, .string h.name, .int .i64 h.vk, .int .i64 h.vn, .string h.vs, .int .i64 h.dev, .string h.cl, .string h.at_, .slice (some ⟨b, off, none⟩) 1 c] w')
      (exact own_all _ (by ((repeat (first | assumption | refine Own.dr ?_ | refine Own.al ?_ _ | refine Own.th ?_ (by assumption) | refine Own.far ?_ (by first | omega | exact Own.lt (by assumption) | exact Own.lt (Own.dr (by assumption))) _ _)); done)))
      (first | (go_at_call 44; refine (HI2 _ (by ((repeat (first | assumption | refine Own.dr ?_ | refine Own.al ?_ _ | refine Own.th ?_ (by assumption) | refine Own.far ?_ (by first | omega | exact Own.lt (by assumption) | exact Own.lt (Own.dr (by assumption))) _ _)); done))).out.mono ?_; rintro r w' ⟨rfl, hb2⟩; have hq := bcell hb2; obtain ⟨hq1, hq2⟩ := hq))
    all_goals
      go_wp2_with fail
      go_meet
      first
        | (refine ⟨w'.heap.size, rfl, rfl, Blk.new _ _ _, ?_, ?_⟩
           · exact Own.lt (w := w) (vcs := #[.slice IA V.items.length ic, .string V.mode, .int .i64 V.minute, .slice MA V.members.length mc]) (ecs := #[.int .i64 6, .int .i64 h.n, .int .i64 h.m, .string h.name, .int .i64 h.vk, .int .i64 h.vn, .string h.vs, .int .i64 h.dev, .string h.cl, .string h.at_, .slice (some ⟨b, off, none⟩) 1 c]) (by ((repeat (first | assumption | refine Own.dr ?_ | refine Own.al ?_ _ | refine Own.th ?_ (by assumption) | refine Own.far ?_ (by first | omega | exact Own.lt (by assumption) | exact Own.lt (Own.dr (by assumption))) _ _)); done))
           · ((repeat (first | assumption | refine Own.dr ?_ | refine Own.al ?_ _ | refine Own.th ?_ (by assumption) | refine Own.far ?_ (by first | omega | exact Own.lt (by assumption) | exact Own.lt (Own.dr (by assumption))) _ _)); done))
        | (have hX : Blk w' (w.heap.size + 1 + 1 + 1) 27 #[.int .i64 0, .int .i64 0, .string { data := #[] }] := by
             refine Blk.below ?_ hb2
             refine Blk.nx _ _ ?_
             simp only [World.size_alloc, World.drew]
           refine ⟨w.heap.size + 1 + 1 + 1, rfl, rfl, ((hX.set 0 _).set 1 _).set 2 _, by omega, ?_⟩
           ((repeat (first | assumption | refine Own.dr ?_ | refine Own.al ?_ _ | refine Own.th ?_ (by assumption) | refine Own.far ?_ (by first | omega | exact Own.lt (by assumption) | exact Own.lt (Own.dr (by assumption))) _ _)); done))
  case rest =>
    obtain ⟨g, rfl, rfl, hG, hgl, hO⟩ := hcut
    obtain ⟨x1, x2, x3, hR⟩ := hO.res
    have hOb := hO.1
    have cG := hG.cell
    have lR := hR.lt
    clear own_all HI2 hrW hO0 hl0
    cases hxo : xok
    · go_wp2_with fail
      refine (unknown_any _).mono ?_
      rintro r w2 ⟨rfl, hb2⟩
      have hR2 := hR.below hb2
      have cR := hR2.cell
      have fR := hR2.free
      have hs2 := hR2.lt
      go_wp2_with fail
      refine bodyPost_ret (v := ?_) ?_ rfl ?_
      rotate_left
      · simp [results, Try.results44, go_sem, cR]; exact rfl
      refine ⟨by rw [← HE.out, if_pos (Or.inl hxo)]; rfl, ?_⟩
      (repeat (first | refine Below.st ?_ (by simp; omega) _ | exact hOb.th hb2))
    · by_cases hx1 : xk = 1
      · go_wp2_with fail
        refine (truth_any _ _).mono ?_
        rintro r w2 ⟨rfl, hb2⟩
        have hR2 := hR.below hb2
        have cR := hR2.cell
        have fR := hR2.free
        have hs2 := hR2.lt
        go_wp2_with fail
        refine bodyPost_ret (v := ?_) ?_ rfl ?_
        rotate_left
        · simp [results, Try.results44, go_sem, cR]; exact rfl
        refine ⟨by rw [← HE.out, if_neg (by simp [hxo, hx1])]; rfl, ?_⟩
        (repeat (first | refine Below.st ?_ (by simp; omega) _ | exact hOb.th hb2))
      · go_wp2_with fail
        refine (unknown_any _).mono ?_
        rintro r w2 ⟨rfl, hb2⟩
        have hR2 := hR.below hb2
        have cR := hR2.cell
        have fR := hR2.free
        have hs2 := hR2.lt
        go_wp2_with fail
        refine bodyPost_ret (v := ?_) ?_ rfl ?_
        rotate_left
        · simp [results, Try.results44, go_sem, cR]; exact rfl
        refine ⟨by rw [← HE.out, if_pos (Or.inr hx1)]; rfl, ?_⟩
        (repeat (first | refine Below.st ?_ (by simp; omega) _ | exact hOb.th hb2))

end Go.Proofs.Ytnelgblmogciiaa
