/- And, or: a range over the iterator. -/
import Derived.Test.YtnelgblmogciiaaFind3
import Derived.Shelf.Abstract
set_option linter.unusedSimpArgs false
set_option linter.unusedVariables false
namespace Go.Proofs.Ytnelgblmogciiaa
open Go.RowKit Go.Shelf
attribute [local go_sem] Oper.semAt_some

theorem Blk.kept {W W' : World} {b : Nat} {t : TypeId} {cs : Array Value} {row : Option Nat} (h : Blk W b t cs) (hg : W.grownBy W' row) (hr : ∀ r, row = some r → ∃ o : Obj, W.heap[r]? = some o ∧ o.isCells = false) : Blk W' b t cs :=
  (hg.block b h.lt (fun e => by
    obtain ⟨o, ho, hc⟩ := hr b e.symm
    unfold Blk at h; rw [h] at ho; cases ho; cases hc)).trans h

/-- The iterator's contract. -/
theorem kids_stops (V : LView) (IA : Option Addr) (ic : Nat) (MA : Option Addr) (mc : Nat) (ks : List LExpr) (xs : List EV) (hlen : xs.length = ks.length)
    (hF : ∀ (i : Nat) (hi : i < ks.length), FindOk V ks[i] ∧ findS V ks[i] = xs[i]) (bl bv n₀ : Nat) (A : Option Addr) (c b off : Nat) (cs : Nat → List Value) (w : World) (hsz1 : ks.length * 136 ≤ 140737488351232)
    (hsl : Blk w bl 30 #[.slice A ks.length c]) (hvw : Blk w bv 25 #[.slice IA V.items.length ic, .string V.mode, .int .i64 V.minute, .slice MA V.members.length mc])
    (hv : IsView n₀ w V [.slice IA V.items.length ic, .string V.mode, .int .i64 V.minute, .slice MA V.members.length mc]) (hn : n₀ ≤ w.heap.size) (hA : 0 < ks.length → A = some ⟨b, off, none⟩ ∧ b < n₀)
    (hsz : ∀ i, (cs i).length = 11) (hrow : ∀ i (hi : i < ks.length), RowAt w b (off + i * 11) (cs i)) (hk : ∀ i (hi : i < ks.length), IsExpr n₀ w ks[i] (cs i)) :
    SeqStopsK Fence.wide 8 Try.prog 122 #[.pointer (some ⟨bl, 0, none⟩), .pointer (some ⟨bv, 0, none⟩)] encV (KpV n₀ bv) (fun ys => ys = xs) (fun pre => pre <+: xs) ks.length w := fun l J Jx W hW hJ hJx hY h0 =>
  kids1_in V IA ic MA mc ks xs hlen hF l bl bv n₀ 0 A c b off cs W hsz1 (hsl.below hW) (hvw.below hW) (hv.carry (hW.mono hn)) (Nat.le_trans hn hW.size) hA hsz
    (fun i hi => (hrow i hi).below (hW.mono hn) (hA (by omega)).2) (fun i hi => (hk i hi).carry (hW.mono hn)) J Jx hJ hY h0

theorem junE_app (d : Int) (pre rest : List EV) (op : Bool) : (∃ op', ∀ rest, junE d (pre ++ rest) op = junE d rest op') ∨ ∀ rest, junE d (pre ++ rest) op = truthE (decide (d = 1)) := by
  induction pre generalizing op with
  | nil => exact .inl ⟨op, fun _ => rfl⟩
  | cons x pre ih =>
    by_cases h1 : x.ok = false ∨ x.k ≠ 1
    · simp only [List.cons_append, junE, if_pos h1]; exact ih true
    · by_cases h2 : x.n = d
      · right; intro r; simp only [List.cons_append, junE, if_neg h1, if_pos h2]
      · simp only [List.cons_append, junE, if_neg h1, if_neg h2]; exact ih op

/-- What holds between two rounds. -/
def JI (w : World) (d : Int) (pre : List EV) (W : World) : Prop :=
  (∃ op, Blk W (w.heap.size + 1 + 1 + 1 + 1) 4 #[.bool op] ∧ ∀ rest, junE d (pre ++ rest) false = junE d rest op) ∧ Blk W (w.heap.size + 1) 3 #[.int .i64 d] ∧ Blk W (w.heap.size + 1 + 1) 27 #[.int .i64 0, .int .i64 0, .string { data := #[] }] ∧ Blk W (w.heap.size + 1 + 1 + 1) 4 #[.bool false] ∧ Below w.heap.size w W
/-- What holds behind a return. -/
def JX (w : World) (d : Int) (c : Code) (pre : List EV) (W : World) : Prop :=
  c = .ret ∧ (∀ rest, junE d (pre ++ rest) false = truthE (decide (d = 1))) ∧ Blk W (w.heap.size + 1 + 1) 27 #[.int .i64 1, .int .i64 (bit (decide (d = 1))), .string noStr] ∧ Blk W (w.heap.size + 1 + 1 + 1) 4 #[.bool true] ∧ Below w.heap.size w W
theorem JI.own (w : World) (d : Int) (B : Nat) (hB : w.heap.size ≤ B) : OwnFrom B (JI w d) := fun s W W' row hs hg hr => by
  obtain ⟨⟨op, h1, h2⟩, h3, h4, h5, h6⟩ := hs
  have hr2 : ∀ r, row = some r → ∃ o : Obj, W.heap[r]? = some o ∧ o.isCells = false := fun r e => (hr r e).2
  exact ⟨⟨op, h1.kept hg hr2, h2⟩, h3.kept hg hr2, h4.kept hg hr2, h5.kept hg hr2, h6.grown hg h6.size (fun k e => Nat.le_trans hB (hr k e).1)⟩
theorem JX.own (w : World) (d : Int) (c : Code) (B : Nat) (hB : w.heap.size ≤ B) : OwnFrom B (JX w d c) := fun s W W' row hs hg hr => by
  obtain ⟨h1, h2, h3, h4, h6⟩ := hs
  have hr2 : ∀ r, row = some r → ∃ o : Obj, W.heap[r]? = some o ∧ o.isCells = false := fun r e => (hr r e).2
  exact ⟨h1, h2, h3.kept hg hr2, h4.kept hg hr2, h6.grown hg h6.size (fun k e => Nat.le_trans hB (hr k e).1)⟩

theorem Blk.next {w : World} {g : Nat} (o : Obj) (t : TypeId) (cs : Array Value) (h : (w.alloc o).heap.size = g) : Blk ((w.alloc o).alloc (.cells cs t)) g t cs := by subst h; exact Blk.new _ _ _
/-- The world in which junction's loop begins. -/
theorem jun0 (w : World) (VIEW SL : Array Value) (d : Int) :
    Below w.heap.size w (((((((w.alloc (.cells VIEW 25)).alloc (.cells #[.int .i64 d] 3)).alloc (.cells #[.int .i64 0, .int .i64 0, .string { data := #[] }] 27)).alloc (.cells #[.bool false] 4)).alloc (.cells #[.bool false] 4)).alloc (.cells VIEW 25)).alloc (.cells SL 30)) ∧ Blk (((((((w.alloc (.cells VIEW 25)).alloc (.cells #[.int .i64 d] 3)).alloc (.cells #[.int .i64 0, .int .i64 0, .string { data := #[] }] 27)).alloc (.cells #[.bool false] 4)).alloc (.cells #[.bool false] 4)).alloc (.cells VIEW 25)).alloc (.cells SL 30)) (w.heap.size + 1) 3 #[.int .i64 d] ∧ Blk (((((((w.alloc (.cells VIEW 25)).alloc (.cells #[.int .i64 d] 3)).alloc (.cells #[.int .i64 0, .int .i64 0, .string { data := #[] }] 27)).alloc (.cells #[.bool false] 4)).alloc (.cells #[.bool false] 4)).alloc (.cells VIEW 25)).alloc (.cells SL 30)) (w.heap.size + 1 + 1) 27 #[.int .i64 0, .int .i64 0, .string { data := #[] }] ∧ Blk (((((((w.alloc (.cells VIEW 25)).alloc (.cells #[.int .i64 d] 3)).alloc (.cells #[.int .i64 0, .int .i64 0, .string { data := #[] }] 27)).alloc (.cells #[.bool false] 4)).alloc (.cells #[.bool false] 4)).alloc (.cells VIEW 25)).alloc (.cells SL 30)) (w.heap.size + 1 + 1 + 1) 4 #[.bool false] ∧
      Blk (((((((w.alloc (.cells VIEW 25)).alloc (.cells #[.int .i64 d] 3)).alloc (.cells #[.int .i64 0, .int .i64 0, .string { data := #[] }] 27)).alloc (.cells #[.bool false] 4)).alloc (.cells #[.bool false] 4)).alloc (.cells VIEW 25)).alloc (.cells SL 30)) (w.heap.size + 1 + 1 + 1 + 1) 4 #[.bool false] ∧ Blk (((((((w.alloc (.cells VIEW 25)).alloc (.cells #[.int .i64 d] 3)).alloc (.cells #[.int .i64 0, .int .i64 0, .string { data := #[] }] 27)).alloc (.cells #[.bool false] 4)).alloc (.cells #[.bool false] 4)).alloc (.cells VIEW 25)).alloc (.cells SL 30)) (w.heap.size + 1 + 1 + 1 + 1 + 1) 25 VIEW ∧ Blk (((((((w.alloc (.cells VIEW 25)).alloc (.cells #[.int .i64 d] 3)).alloc (.cells #[.int .i64 0, .int .i64 0, .string { data := #[] }] 27)).alloc (.cells #[.bool false] 4)).alloc (.cells #[.bool false] 4)).alloc (.cells VIEW 25)).alloc (.cells SL 30)) (w.heap.size + 1 + 1 + 1 + 1 + 1 + 1) 30 SL ∧ (((((((w.alloc (.cells VIEW 25)).alloc (.cells #[.int .i64 d] 3)).alloc (.cells #[.int .i64 0, .int .i64 0, .string { data := #[] }] 27)).alloc (.cells #[.bool false] 4)).alloc (.cells #[.bool false] 4)).alloc (.cells VIEW 25)).alloc (.cells SL 30)).heap.size = w.heap.size + 7 :=
  ⟨((((((((Below.refl _ w).al _).al _).al _).al _).al _).al _).al _), (((((Blk.next _ _ _ (by simp)).alloc _).alloc _).alloc _).alloc _).alloc _, ((((Blk.next _ _ _ (by simp)).alloc _).alloc _).alloc _).alloc _, (((Blk.next _ _ _ (by simp)).alloc _).alloc _).alloc _,
    ((Blk.next _ _ _ (by simp)).alloc _).alloc _, (Blk.next _ _ _ (by simp)).alloc _, Blk.next _ _ _ (by simp), by simp⟩

/-- The world in which junction ends. -/
theorem jun1 (w W2 : World) (D : Nat) (k n : Int) (ok : Bool) (h2 : Blk W2 (w.heap.size + 1 + 1) 27 #[.int .i64 0, .int .i64 0, .string { data := #[] }]) (h3 : Blk W2 (w.heap.size + 1 + 1 + 1) 4 #[.bool false])
    (hK : W2.heap[D]? = some (.deferred (some []))) (hD : w.heap.size + 7 ≤ D) (hb : Below w.heap.size w W2) :
    ((((W2.setCell ⟨w.heap.size + 1 + 1, 0, none⟩ (.int .i64 k)).setCell ⟨w.heap.size + 1 + 1, 1, none⟩ (.int .i64 n)).setCell ⟨w.heap.size + 1 + 1, 2, none⟩ (.string noStr)).setCell ⟨w.heap.size + 1 + 1 + 1, 0, none⟩ (.bool ok)).heap[D]? = some (.deferred (some [])) ∧ Blk (((((W2.setCell ⟨w.heap.size + 1 + 1, 0, none⟩ (.int .i64 k)).setCell ⟨w.heap.size + 1 + 1, 1, none⟩ (.int .i64 n)).setCell ⟨w.heap.size + 1 + 1, 2, none⟩ (.string noStr)).setCell ⟨w.heap.size + 1 + 1 + 1, 0, none⟩ (.bool ok)).putObj D (.deferred none)) (w.heap.size + 1 + 1) 27 #[.int .i64 k, .int .i64 n, .string noStr] ∧ Blk (((((W2.setCell ⟨w.heap.size + 1 + 1, 0, none⟩ (.int .i64 k)).setCell ⟨w.heap.size + 1 + 1, 1, none⟩ (.int .i64 n)).setCell ⟨w.heap.size + 1 + 1, 2, none⟩ (.string noStr)).setCell ⟨w.heap.size + 1 + 1 + 1, 0, none⟩ (.bool ok)).putObj D (.deferred none)) (w.heap.size + 1 + 1 + 1) 4 #[.bool ok] ∧
      Below w.heap.size w (((((W2.setCell ⟨w.heap.size + 1 + 1, 0, none⟩ (.int .i64 k)).setCell ⟨w.heap.size + 1 + 1, 1, none⟩ (.int .i64 n)).setCell ⟨w.heap.size + 1 + 1, 2, none⟩ (.string noStr)).setCell ⟨w.heap.size + 1 + 1 + 1, 0, none⟩ (.bool ok)).putObj D (.deferred none)) := by
  have hR := (((h2.set 0 (.int .i64 k)).set 1 (.int .i64 n)).set 2 (.string noStr)).far (g' := w.heap.size + 1 + 1 + 1) (by omega) 0 (.bool ok)
  have hS := (((h3.far (g' := w.heap.size + 1 + 1) (by omega) 0 (.int .i64 k)).far (g' := w.heap.size + 1 + 1) (by omega) 1 (.int .i64 n)).far (g' := w.heap.size + 1 + 1) (by omega) 2 (.string noStr)).set 0 (.bool ok)
  have hK3 := (((KeepsOthers.setCell W2 ⟨w.heap.size + 1 + 1, 0, none⟩ (.int .i64 k)).trans (KeepsOthers.setCell _ ⟨w.heap.size + 1 + 1, 1, none⟩ (.int .i64 n))).trans ((KeepsOthers.setCell _ ⟨w.heap.size + 1 + 1, 2, none⟩ (.string noStr)).trans (KeepsOthers.setCell _ ⟨w.heap.size + 1 + 1 + 1, 0, none⟩ (.bool ok)))).same D _ hK rfl
  have hB := (((hb.st (p := ⟨w.heap.size + 1 + 1, 0, none⟩) (by simp; omega) (.int .i64 k)).st (p := ⟨w.heap.size + 1 + 1, 1, none⟩) (by simp; omega) (.int .i64 n)).st (p := ⟨w.heap.size + 1 + 1, 2, none⟩) (by simp; omega) (.string noStr)).st (p := ⟨w.heap.size + 1 + 1 + 1, 0, none⟩) (by simp; omega) (.bool ok)
  exact ⟨hK3, hR.kept (grownBy_putObj' _ D (.deferred none)) (fun r e => by cases e; exact ⟨_, hK3, rfl⟩), hS.kept (grownBy_putObj' _ D (.deferred none)) (fun r e => by cases e; exact ⟨_, hK3, rfl⟩),
    hB.trans (belowK_b (w := w) (Nat.le_refl _) _ D _ _ (by omega) hK3 rfl rfl)⟩

set_option maxRecDepth 100000 in
set_option maxHeartbeats 2000000 in
theorem junction_any (V : LView) (vc : List Value) (ks : List LExpr) (xs : List EV) (hlen : xs.length = ks.length)
    (hF : ∀ (i : Nat) (hi : i < ks.length), FindOk V ks[i] ∧ findS V ks[i] = xs[i]) (B : Nat) (A : Option Addr) (c b off : Nat) (cs : Nat → List Value) (d : Int) (w : World) (hsz1 : ks.length * 136 ≤ 140737488351232)
    (hv : IsView B w V vc) (hB : B ≤ w.heap.size) (hA : 0 < ks.length → A = some ⟨b, off, none⟩ ∧ b < B)
    (hsz : ∀ i, (cs i).length = 11) (hrow : ∀ i (hi : i < ks.length), RowAt w b (off + i * 11) (cs i)) (hk : ∀ i (hi : i < ks.length), IsExpr B w ks[i] (cs i)) :
    Calls Try.prog 74 #[.agg vc.toArray, .slice A ks.length c, .int .i64 d] w fun r w' => r = .returned (junE d xs false).res ∧ Below w.heap.size w w' := by
  have hv' := hv
  obtain ⟨IA, ic, MA, mc, rfl, _⟩ := hv'
  refine callsIn_wide (n := 9) |>.1 ?_
  refine callsIn_of_wp_marks Try.func74 rfl trivial ?_ rfl
  simp only [Try.ntmps74, List.size_toArray, List.length_cons, List.length_nil, Nat.reduceAdd, Nat.reduceSub, Array.replicate_succ, Array.replicate_zero, List.push_toArray, List.append_toArray, List.nil_append, List.cons_append]
  gi_wp2
  refine ⟨trivial, (callsIn_wide.2 (kids_in _ _ _ _ _)).mono ?_⟩
  rintro e w' ⟨rfl, rfl⟩
  gi_wp2
  obtain ⟨hB0, b1, b2, b3, b4, b5, b6, hsz0⟩ := jun0 w #[.slice IA V.items.length ic, .string V.mode, .int .i64 V.minute, .slice MA V.members.length mc] #[.slice A ks.length c] d
  generalize (((((((w.alloc (.cells #[.slice IA V.items.length ic, .string V.mode, .int .i64 V.minute, .slice MA V.members.length mc] 25)).alloc (.cells #[.int .i64 d] 3)).alloc (.cells #[.int .i64 0, .int .i64 0, .string { data := #[] }] 27)).alloc (.cells #[.bool false] 4)).alloc (.cells #[.bool false] 4)).alloc (.cells #[.slice IA V.items.length ic, .string V.mode, .int .i64 V.minute, .slice MA V.members.length mc] 25)).alloc (.cells #[.slice A ks.length c] 30)) = W0 at *
  refine wpIn_rangeFunc_ownH rfl (by omega) (gf := 122) (lb := #[.pointer (some ⟨w.heap.size + 1 + 1 + 1 + 1 + 1 + 1, 0, none⟩), .pointer (some ⟨w.heap.size + 1 + 1 + 1 + 1 + 1, 0, none⟩)]) rfl trivial (enters_of Try.func122 (by kernel_rfl) rfl)
    (kids_stops V IA ic MA mc ks xs hlen hF (w.heap.size + 1 + 1 + 1 + 1 + 1 + 1) (w.heap.size + 1 + 1 + 1 + 1 + 1) w.heap.size A c b off cs W0 hsz1 b6 b5 ((hv.mono hB).carry hB0) (by omega) (fun h => ⟨(hA h).1, by have := (hA h).2; omega⟩) hsz (fun i hi => (hrow i hi).below hB0 (by have := (hA (by omega)).2; omega)) (fun i hi => ((hk i hi).mono hB).carry hB0))
    (fun h k => h.t k) (KpV.b (by omega)) (Below.refl _ _) (fun _ => rfl)
    (JI w d) (JX w d) (JI.own w d _ (by omega)) (fun c => JX.own w d c _ (by omega)) ⟨⟨false, b4, fun _ => rfl⟩, b1, b2, b3, hB0⟩
    (fun x a' W => ∃ Bx, w.heap.size ≤ Bx ∧ Blk W Bx 27 #[.int .i64 x.k, .int .i64 x.n, .string x.s] ∧ a' = { tmps := #[.agg #[.slice IA V.items.length ic, .string V.mode, .int .i64 V.minute, .slice MA V.members.length mc], .slice A ks.length c, .int .i64 d, .pointer (some ⟨w.heap.size, 0, none⟩), undef, .pointer (some ⟨w.heap.size + 1, 0, none⟩), .pointer (some ⟨w.heap.size + 1 + 1, 0, none⟩), .pointer (some ⟨w.heap.size + 1 + 1 + 1, 0, none⟩), .pointer (some ⟨w.heap.size + 1 + 1 + 1 + 1, 0, none⟩), .pointer (some ⟨Bx, 0, none⟩), .bool x.ok, .agg #[.slice IA V.items.length ic, .string V.mode, .int .i64 V.minute, .slice MA V.members.length mc], .slice A ks.length c, .func (.func 122) #[] #[.pointer (some ⟨w.heap.size + 1 + 1 + 1 + 1 + 1 + 1, 0, none⟩), .pointer (some ⟨w.heap.size + 1 + 1 + 1 + 1 + 1, 0, none⟩)], .agg #[.int .i64 x.k, .int .i64 x.n, .string x.s], .bool x.ok, undef, undef, undef, undef, undef, undef, undef, undef, undef, undef, undef, undef, undef, undef, undef, undef, undef, undef, undef, undef, undef, undef, undef, undef, undef, undef, undef], defers := [] })
    (fun x a' _ X Y row hs hg hr => by obtain ⟨Bx, h1, h2, h3⟩ := hs; exact ⟨Bx, h1, h2.kept hg (fun r e => (hr r e).2), h3⟩)
    ?assign ?body ?done ?stop
  case assign =>
    rintro l pre x W K hJI hK
    have hsW := hJI.2.2.2.2.size
    have h3lt := hJI.2.2.2.1.lt
    have hJI2 : JI w d pre (W.alloc (.cells #[.int .i64 x.k, .int .i64 x.n, .string x.s] 27)) := (JI.own w d w.heap.size (Nat.le_refl _)).alloc _ hJI
    gi_wp2
    exact hK _ _ ((KeepsOthers.alloc _ _).from _) (KpV.of_below ((Below.refl _ _).al _) (by omega)) hJI2 ⟨W.heap.size, hsW, Blk.new _ _ _, rfl⟩
  case body =>
    rintro l pre x a' W hl ⟨r, hr⟩ hJI ⟨Bx, hBx, bX, rfl⟩ hlt
    obtain ⟨⟨op, h4, hf⟩, h1, h2, h3, hb⟩ := hJI
    obtain ⟨xk, xn, xs', xok⟩ := x
    dsimp only at bX ⊢
    have cX := bX.cell
    have c1 := h1.cell
    have c4 := h4.cell
    have f4 := h4.free
    have f2 := h2.free
    have f3 := h3.free
    clear hF hrow hk hv hlt
    gi_wp2
    · have hx : xk ≠ 1 := by simpa using ‹(xk != 1) = true›
      exact ⟨(KeepsOthers.setCell _ _ _).from _, ⟨(Below.refl _ _).setCell (p := ⟨w.heap.size + 1 + 1 + 1 + 1, 0, none⟩) (by simp; omega) _, fun t cs hc => hc.far (by omega) 0 _⟩,
        ⟨⟨true, h4.set 0 _, fun rest => by rw [List.append_assoc, hf]; simp [junE, hx]⟩, h1.far (by omega) 0 _, h2.far (by omega) 0 _, h3.far (by omega) 0 _, hb.st (by simp; omega) _⟩⟩
    · have hx : xk = 1 := by simpa using ‹(xk != 1) = false›
      have hok : xok = true := ‹_›
      have hnd : xn = d := by simpa using ‹(xn == d) = true›
      refine ⟨trivial, (CallsIn.inRound l (callsIn_wide.2 (truth_any _ _))).mono ?_⟩
      rintro r2 W2 ⟨rfl, hb2⟩
      have h2' := h2.below hb2
      have h3' := h3.below hb2
      have g2 := h2'.free
      have g3 := h3'.free
      have e2 := h2'.cell
      have e3 := h3'.cell
      have hsz2 := hb2.size
      have hszb := hb.size
      clear f2 f3 f4 c4 cX
      gi_wp2
      refine ⟨(KeepsFrom.of_grownBy (row := none) hb2.grows (fun _ e => by cases e)).trans ((((((KeepsOthers.setCell _ _ _).from _).trans ((KeepsOthers.setCell _ _ _).from _)).trans ((KeepsOthers.setCell _ _ _).from _))).trans ((KeepsOthers.setCell _ _ _).from _)), rfl, ?_, ?_, ?_, ?_⟩
      · intro rest
        rw [List.append_assoc, hf]; simp [junE, hx, hok, hnd]
      · exact (((h2'.set 0 _).set 1 _).set 2 _).far (by omega) 0 _
      · exact (((h3'.far (by omega) 0 _).far (by omega) 1 _).far (by omega) 2 _).set 0 _
      · exact ((((hb.th hb2).st (by simp; omega) _).st (by simp; omega) _).st (by simp; omega) _).st (by simp; omega) _
    · have hx : xk = 1 := by simpa using ‹(xk != 1) = false›
      have hok : xok = true := ‹_›
      have hnd : xn ≠ d := by simpa using ‹(xn == d) = false›
      exact ⟨KeepsFrom.refl _ _, ⟨Below.refl _ _, fun _ _ h => h⟩, ⟨⟨op, h4, fun rest => by rw [List.append_assoc, hf]; simp [junE, hx, hok, hnd]⟩, h1, h2, h3, hb⟩⟩
    · have hok : xok = false := by simpa using ‹¬ xok = true›
      exact ⟨(KeepsOthers.setCell _ _ _).from _, ⟨(Below.refl _ _).setCell (p := ⟨w.heap.size + 1 + 1 + 1 + 1, 0, none⟩) (by simp; omega) _, fun t cs hc => hc.far (by omega) 0 _⟩,
        ⟨⟨true, h4.set 0 _, fun rest => by rw [List.append_assoc, hf]; simp [junE, hok]⟩, h1.far (by omega) 0 _, h2.far (by omega) 0 _, h3.far (by omega) 0 _, hb.st (by simp; omega) _⟩⟩
  case done =>
    rintro D ys W hD rfl hJI hK
    obtain ⟨⟨op, h4, hf⟩, h1, h2, h3, hb⟩ := hJI
    have hf0 := hf []
    rw [List.append_nil] at hf0
    have HF := Lib.hid hf0
    have c1 := h1.cell
    have c4 := h4.cell
    have hszb := hb.size
    have hDl := (Array.getElem?_eq_some_iff.1 hK).1
    clear hF hrow hk hv hf hf0
    cases op
    all_goals
      gi_wp2
      first
        | refine ⟨trivial, (callsIn_wide.2 (truth_any _ _)).mono ?_⟩
        | refine ⟨trivial, (callsIn_wide.2 (unknown_any _)).mono ?_⟩
      rintro r2 W2 ⟨rfl, hb2⟩
      have h2' := h2.below hb2
      have h3' := h3.below hb2
      have g2 := h2'.free
      have g3 := h3'.free
      have e2 := h2'.cell
      have e3 := h3'.cell
      have hK2 := (hb2.block D hDl).trans hK
      have hsz2 := hb2.size
      gi_wp2
      obtain ⟨hK3, hR, hS, hB⟩ := jun1 w W2 D _ _ _ h2' h3' hK2 (by omega) (hb.th hb2)
      refine ⟨by simp, .inl ⟨_, _, rfl, run_takeDeferred hK3, ?_⟩⟩
      have cR := hR.cell
      have cS := hS.cell
      refine ⟨?_, ?_, ?_⟩
      rotate_left
      · simp [results, Try.results74, go_sem, cR, cS]; exact rfl
      refine ⟨?_, hB⟩
      rw [HF.out]
      rfl
  case stop =>
    rintro D c pre W hD hpre ⟨rfl, hf, h2, h3, hb⟩ hK
    have hf0 : junE d xs false = truthE (decide (d = 1)) := by
      obtain ⟨rest, rfl⟩ := hpre
      exact hf rest
    have HF := Lib.hid hf0
    have hR := h2.kept (grownBy_putObj' _ D (.deferred none)) (fun r e => by cases e; exact ⟨_, hK, rfl⟩)
    have hS := h3.kept (grownBy_putObj' _ D (.deferred none)) (fun r e => by cases e; exact ⟨_, hK, rfl⟩)
    have hB := hb.trans (belowK_b (w := w) (Nat.le_refl _) _ D _ (.deferred none) (by omega) hK rfl rfl)
    clear hf hf0 hF hrow hk hv h2 h3
    gi_wp2
    refine ⟨by simp, .inl ⟨_, _, rfl, run_takeDeferred hK, ?_⟩⟩
    have cR := hR.cell
    have cS := hS.cell
    refine ⟨?_, ?_, ?_⟩
    rotate_left
    · simp [results, Try.results74, go_sem, cR, cS]; exact rfl
    refine ⟨?_, hB⟩
    rw [HF.out]
    rfl

end Go.Proofs.Ytnelgblmogciiaa
