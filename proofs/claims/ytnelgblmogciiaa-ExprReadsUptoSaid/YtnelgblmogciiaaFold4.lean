/- Folding: a node; an expression. -/
import Derived.Test.YtnelgblmogciiaaFold3
set_option linter.unusedSimpArgs false
set_option linter.unusedVariables false
namespace Go.Proofs.Ytnelgblmogciiaa
open Go.RowKit


def kid (ks : List LExpr) (i : Nat) : LExpr := ks.getD i (.mk (litH 0) [])
/-- A node, folded. -/
def foldN : LExpr → LExpr
  | .mk h ks =>
    if h.kind = 6 then (if isLit (kid ks 0).hd 0 || isLit (kid ks 0).hd 1 then .mk (litB (isLit (kid ks 0).hd 0)) [] else .mk h ks)
    else if h.kind = 7 then junF 0 (.mk h ks)
    else if h.kind = 8 then junF 1 (.mk h ks)
    else if 9 ≤ h.kind ∧ h.kind ≤ 13 then binF h (kid ks 0) (kid ks 1)
    else if h.kind = 14 then (if isLit (kid ks 0).hd 1 then kid ks 1 else if isLit (kid ks 0).hd 0 then kid ks 2 else .mk h ks)
    else .mk h ks
theorem foldN_eq (h : Hd) (ks : List LExpr) : foldN (.mk h ks) = if h.kind = 6 then (if isLit (kid ks 0).hd 0 || isLit (kid ks 0).hd 1 then .mk (litB (isLit (kid ks 0).hd 0)) [] else .mk h ks)
    else if h.kind = 7 then junF 0 (.mk h ks)
    else if h.kind = 8 then junF 1 (.mk h ks)
    else if 9 ≤ h.kind ∧ h.kind ≤ 13 then binF h (kid ks 0) (kid ks 1)
    else if h.kind = 14 then (if isLit (kid ks 0).hd 1 then kid ks 1 else if isLit (kid ks 0).hd 0 then kid ks 2 else .mk h ks)
    else .mk h ks := rfl
theorem kidsOf {h : Hd} {n : Nat} (hn : nodeCheck h n = 0) : kidsOk h.kind n := by
  unfold nodeCheck at hn
  split at hn
  · cases hn
  · split at hn
    · cases hn
    · rename_i h2; exact Classical.not_not.1 (fun h3 => h2 (.inl h3))
theorem kdCases (k : Int) : k = 6 ∨ k = 7 ∨ k = 8 ∨ k = 9 ∨ k = 10 ∨ k = 11 ∨ k = 12 ∨ k = 13 ∨ k = 14 ∨ (¬ (6 ≤ k ∧ k ≤ 14)) := by omega

theorem wpList_load_atG {P : Program} {ops : Array Oper} {rest : List Oper} {o : Oper} {a : Act} {w : World} {Q : Exit → Act → World → Prop} (hw : Region.wanted o (yielded ops a.tmps) = true) (ty : TypeId) (x : Operand) (ho : o.op = .load ty x)
    (b off : Nat) (hx : a.eval x = .pointer (some ⟨b, off, none⟩)) (cs : List Value) (d : TypeDesc) (h : RowAt w b off cs)
    (hu : P.underlying ty = some d) (hd : (match d with | .struct _ | .array _ _ => true | _ => false) = true) (hi : (P.info? ty).map (·.size) = some cs.length)
    (hK : wpList P ops Q rest (a.put o.dst (.agg cs.toArray)) w) : wpList P ops Q (o :: rest) a w :=
  wpList_step fun K hK' => by rw [if_pos hw]; exact wp_load_at ty x ho b off hx cs d h hu hd hi (hK' _ _ hK)
/-- What a node's walk begins with. -/
structure Begun (w W : World) (cs : Array Value) : Prop where
  low : Below w.heap.size w W
  box : Blk W w.heap.size 32 cs
  res : Blk W (w.heap.size + 1) 32 zero11
  size : w.heap.size + 2 ≤ W.heap.size
theorem Begun.start (w : World) (cs : Array Value) : Begun w ((w.alloc (.cells cs 32)).alloc (.cells #[.int .i64 0, .int .i64 0, .int .i64 0, .string { data := #[] }, .int .i64 0, .int .i64 0, .string { data := #[] }, .int .i64 0, .string { data := #[] }, .string { data := #[] }, .slice none 0 0] 32)) cs :=
  ⟨((Below.refl _ _).al _).al _, (Blk.new _ _ _).alloc _, Blk.at1 _ _ _ _, by simp⟩
theorem Begun.lat {w W W' : World} {cs : Array Value} (h : Begun w W cs) (hl : Below W.heap.size W W') : Begun w W' cs :=
  ⟨h.low.th hl, h.box.below hl, h.res.below hl, Nat.le_trans h.size hl.size⟩
/-- An expression of the beginning, behind the store of the result. -/
theorem Begun.keep {w W : World} {cs : Array Value} (h : Begun w W cs) {ok : Nat → Prop} {e : LExpr} {ce : List Value} (he : IsExprP ok w e ce) (C : Array Value) : IsExprP ok (W.setRow (w.heap.size + 1) C) e ce :=
  he.carry (fun b hb hl => (setRow_other _ _ _ _ (by omega)).trans (h.low.block b hl))
theorem Begun.done {w W : World} {cs : Array Value} (h : Begun w W cs) (C : Array Value) : Below w.heap.size w (W.setRow (w.heap.size + 1) C) := below_setRow h.low (by omega) _
/-- An expression that a call has handed back, behind the store of the result. -/
theorem Begun.back {w W : World} {cs : Array Value} (h : Begun w W cs) {ok : Nat → Prop} {e : LExpr} {ce : List Value} (he : IsExprP (fun b => ok b ∧ (b < w.heap.size ∨ w.heap.size + 2 ≤ b)) W e ce) (C : Array Value) : IsExprP ok (W.setRow (w.heap.size + 1) C) e ce :=
  (he.carry (fun b hb hl => setRow_other _ _ _ _ (by omega))).mono (fun b hb _ => hb.1)
theorem Begun.arg {w W : World} {cs : Array Value} (h : Begun w W cs) {ok : Nat → Prop} {e : LExpr} {ce : List Value} (he : IsExprP ok w e ce) : IsExprP (fun b => ok b ∧ (b < w.heap.size ∨ w.heap.size + 2 ≤ b)) W e ce :=
  (he.mono (ok' := fun b => ok b ∧ b < w.heap.size) (fun b hb hl => ⟨hb, hl⟩)).carry (fun b hb _ => h.low.block b hb.2) |>.mono (fun b hb _ => ⟨hb.1, .inl hb.2⟩)
theorem Begun.up {w W : World} {cs : Array Value} (h : Begun w W cs) {ok : Nat → Prop} (h0 : ∀ b, w.heap.size ≤ b → ok b) : ∀ b, W.heap.size ≤ b → ok b ∧ (b < w.heap.size ∨ w.heap.size + 2 ≤ b) :=
  fun b hb => by have := h.size; exact ⟨h0 b (by omega), .inr (by omega)⟩

theorem len1 {ks : List LExpr} (h : ks.length = 1) : ∃ k0, ks = [k0] := List.length_eq_one_iff.1 h
theorem len2 {ks : List LExpr} (h : ks.length = 2) : ∃ k0 k1, ks = [k0, k1] := by
  match ks, h with
  | [k0, k1], _ => exact ⟨k0, k1, rfl⟩
theorem len3 {ks : List LExpr} (h : ks.length = 3) : ∃ k0 k1 k2, ks = [k0, k1, k2] := by
  match ks, h with
  | [k0, k1, k2], _ => exact ⟨k0, k1, k2, rfl⟩
set_option maxRecDepth 100000 in
set_option maxHeartbeats 2000000 in
theorem fold2_6 (n m vk vn dv : Int) (nm vs cl at_ : ByteArray) (ks : List LExpr) (v : Value) (ok : Nat → Prop) (w : World) (hP : nodeCheck ⟨6, n, m, nm, vk, vn, vs, dv, cl, at_⟩ ks.length = 0) (h0 : ∀ b, w.heap.size ≤ b → ok b) (hx : Ex ok (.mk ⟨6, n, m, nm, vk, vn, vs, dv, cl, at_⟩ ks) v w) :
    Calls Try.prog 61 (#[v] ++ #[]) w (RetEx ok (foldN (.mk ⟨6, n, m, nm, vk, vn, vs, dv, cl, at_⟩ ks)) w) := by
  obtain ⟨cs, rfl, he⟩ := hx
  have hx0 := he
  cases he with
  | mk _ _ A c b off cs hok hlen hA hsz hrow hk =>
  have hko := kidsOf hP
  have HJ := Lib.hid (foldN_eq ⟨6, n, m, nm, vk, vn, vs, dv, cl, at_⟩ ks)
  generalize foldN (.mk ⟨6, n, m, nm, vk, vn, vs, dv, cl, at_⟩ ks) = R at *
  simp only at hko
  simp only [Array.append_empty]
  unfold Hd.cells at hx0 ⊢
  obtain ⟨k0, rfl⟩ := len1 (ks := ks) (by rcases hko with h | h | h | h | h <;> omega)
  obtain ⟨rfl, hbB⟩ := hA (by simp)
  have hr0 := hrow 0 (by simp)
  obtain ⟨h0', n0, A0, c0, e0⟩ := (hk 0 (by simp)).form
  have hy0 := hk 0 (by simp)
  have hbl0 := rowAt_lt hr0 (by rw [hsz]; omega)
  rw [e0] at hr0 hy0
  have hd0 := hd_of (hk 0 (by simp)) e0
  simp only [List.getElem_cons_zero, List.getElem_cons_succ, Nat.zero_mul, Nat.one_mul, Nat.add_zero, Nat.reduceMul] at hd0 hr0 hy0
  have hJ := HJ.out
  rw [if_pos rfl] at hJ
  simp only [kid, List.getD_cons_zero, hd0] at hJ
  clear HJ hko hA hrow hk hd0 e0
  simp only [List.length_cons, List.length_nil, Nat.reduceAdd] at hx0 ⊢
  go_enter Try.func61, Try.ntmps61
  go_upto_region 1 with fail
  have hB := Begun.start w #[.int .i64 6, .int .i64 n, .int .i64 m, .string nm, .int .i64 vk, .int .i64 vn, .string vs, .int .i64 dv, .string cl, .string at_, .slice (some ⟨b, off, none⟩) 1 c]
  generalize ((w.alloc (.cells #[.int .i64 6, .int .i64 n, .int .i64 m, .string nm, .int .i64 vk, .int .i64 vn, .string vs, .int .i64 dv, .string cl, .string at_, .slice (some ⟨b, off, none⟩) 1 c] 32)).alloc (.cells #[.int .i64 0, .int .i64 0, .int .i64 0, .string { data := #[] }, .int .i64 0, .int .i64 0, .string { data := #[] }, .int .i64 0, .string { data := #[] }, .string { data := #[] }, .slice none 0 0] 32)) = W1 at *
  have cx := hB.box.cell
  have lx := hB.box.lt
  unfold Hd.cells at hr0
  rcases Bool.eq_false_or_eq_true (isLit h0' 0) with q0 | q0
  · have hR : R = .mk (litB true) [] := by rw [hJ, q0]; rfl
    clear hJ
    go_wp2_with (with_reducible refine wpList_load_at rfl 32 _ rfl b off rfl _ _ (hr0.below hB.low hbl0) Try.underlying32 rfl (by kernel_rfl) ?_)
    refine (is_any h0' A0 n0 c0 _ _).mono ?_
    rintro r w1 ⟨rfl, hb1⟩
    rw [q0]
    replace hB := hB.lat hb1
    clear hb1
    have cx := hB.box.cell
    have lx := hB.box.lt
    go_wp2_with (with_reducible refine wpList_load_at rfl 32 _ rfl b off rfl _ _ (hr0.below hB.low hbl0) Try.underlying32 rfl (by kernel_rfl) ?_)
    refine (is_any h0' A0 n0 c0 _ _).mono ?_
    rintro r w1 ⟨rfl, hb1⟩
    rw [q0]
    replace hB := hB.lat hb1
    clear hb1
    have cx := hB.box.cell
    have lx := hB.box.lt
    have HR := Lib.hid hR
    clear hR
    go_wp2_with fail
    refine (literal_t _).mono ?_
    rintro r w3 ⟨rfl, hb3⟩
    replace hB := hB.lat hb3
    have hr3 := hB.res.setRow #[.int .i64 1, .int .i64 0, .int .i64 0, .string { data := #[] }, .int .i64 1, .int .i64 1, .string { data := #[] }, .int .i64 0, .string { data := #[] }, .string { data := #[] }, .slice none 0 0]
    have hbw3 := hB.done #[.int .i64 1, .int .i64 0, .int .i64 0, .string { data := #[] }, .int .i64 1, .int .i64 1, .string { data := #[] }, .int .i64 0, .string { data := #[] }, .string { data := #[] }, .slice none 0 0]
    clear hb3 cx
    go_wp2_with (refine wpList_store_row rfl 32 _ _ rfl (w.heap.size + 1) _ rfl rfl 32 _ hB.res (by kernel_rfl : (Try.prog.info? 32).map (·.size) = some 11) rfl (by kernel_rfl) ?_)
    have cR := hr3.cell
    refine bodyPost_ret (v := ?_) ?_ rfl ?_
    rotate_left
    · simp [results, Try.results61, go_sem, cR]; exact rfl
    rw [HR.out]
    exact ⟨⟨_, rfl, leaf_t _ _⟩, hbw3⟩
  · rcases Bool.eq_false_or_eq_true (isLit h0' 1) with q1 | q1
    · have hR : R = .mk (litB false) [] := by rw [hJ, q0, q1]; rfl
      clear hJ
      go_wp2_with (with_reducible refine wpList_load_at rfl 32 _ rfl b off rfl _ _ (hr0.below hB.low hbl0) Try.underlying32 rfl (by kernel_rfl) ?_)
      refine (is_any h0' A0 n0 c0 _ _).mono ?_
      rintro r w1 ⟨rfl, hb1⟩
      rw [q0]
      replace hB := hB.lat hb1
      clear hb1
      have cx := hB.box.cell
      have lx := hB.box.lt
      go_wp2_with (first | ((with_reducible refine wpList_load_at rfl 32 _ rfl b off rfl _ _ (hr0.below hB.low hbl0) Try.underlying32 rfl (by kernel_rfl) ?_)) | (refine wpList_load_atG rfl 32 _ rfl b off rfl _ _ (hr0.below hB.low hbl0) Try.underlying32 rfl (by kernel_rfl) ?_))
      refine (is_any h0' A0 n0 c0 _ _).mono ?_
      rintro r w1 ⟨rfl, hb1⟩
      rw [q1]
      replace hB := hB.lat hb1
      clear hb1
      have cx := hB.box.cell
      have lx := hB.box.lt
      go_wp2_with (with_reducible refine wpList_load_at rfl 32 _ rfl b off rfl _ _ (hr0.below hB.low hbl0) Try.underlying32 rfl (by kernel_rfl) ?_)
      refine (is_any h0' A0 n0 c0 _ _).mono ?_
      rintro r w1 ⟨rfl, hb1⟩
      rw [q0]
      replace hB := hB.lat hb1
      clear hb1
      have cx := hB.box.cell
      have lx := hB.box.lt
      have HR := Lib.hid hR
      clear hR
      go_wp2_with fail
      refine (literal_f _).mono ?_
      rintro r w3 ⟨rfl, hb3⟩
      replace hB := hB.lat hb3
      have hr3 := hB.res.setRow #[.int .i64 1, .int .i64 0, .int .i64 0, .string { data := #[] }, .int .i64 1, .int .i64 0, .string { data := #[] }, .int .i64 0, .string { data := #[] }, .string { data := #[] }, .slice none 0 0]
      have hbw3 := hB.done #[.int .i64 1, .int .i64 0, .int .i64 0, .string { data := #[] }, .int .i64 1, .int .i64 0, .string { data := #[] }, .int .i64 0, .string { data := #[] }, .string { data := #[] }, .slice none 0 0]
      clear hb3 cx
      go_wp2_with (refine wpList_store_row rfl 32 _ _ rfl (w.heap.size + 1) _ rfl rfl 32 _ hB.res (by kernel_rfl : (Try.prog.info? 32).map (·.size) = some 11) rfl (by kernel_rfl) ?_)
      have cR := hr3.cell
      refine bodyPost_ret (v := ?_) ?_ rfl ?_
      rotate_left
      · simp [results, Try.results61, go_sem, cR]; exact rfl
      rw [HR.out]
      exact ⟨⟨_, rfl, leaf_f _ _⟩, hbw3⟩
    · have hR : R = .mk ⟨6, n, m, nm, vk, vn, vs, dv, cl, at_⟩ [k0] := by rw [hJ, q0, q1]; rfl
      clear hJ
      go_wp2_with (with_reducible refine wpList_load_at rfl 32 _ rfl b off rfl _ _ (hr0.below hB.low hbl0) Try.underlying32 rfl (by kernel_rfl) ?_)
      refine (is_any h0' A0 n0 c0 _ _).mono ?_
      rintro r w1 ⟨rfl, hb1⟩
      rw [q0]
      replace hB := hB.lat hb1
      clear hb1
      have cx := hB.box.cell
      have lx := hB.box.lt
      go_wp2_with (first | ((with_reducible refine wpList_load_at rfl 32 _ rfl b off rfl _ _ (hr0.below hB.low hbl0) Try.underlying32 rfl (by kernel_rfl) ?_)) | (refine wpList_load_atG rfl 32 _ rfl b off rfl _ _ (hr0.below hB.low hbl0) Try.underlying32 rfl (by kernel_rfl) ?_))
      refine (is_any h0' A0 n0 c0 _ _).mono ?_
      rintro r w1 ⟨rfl, hb1⟩
      rw [q1]
      replace hB := hB.lat hb1
      clear hb1
      have cx := hB.box.cell
      have lx := hB.box.lt
      have HR := Lib.hid hR
      clear hR
      have hr3 := hB.res.setRow #[.int .i64 6, .int .i64 n, .int .i64 m, .string nm, .int .i64 vk, .int .i64 vn, .string vs, .int .i64 dv, .string cl, .string at_, .slice (some ⟨b, off, none⟩) 1 c]
      have he3 := hB.keep hx0 #[.int .i64 6, .int .i64 n, .int .i64 m, .string nm, .int .i64 vk, .int .i64 vn, .string vs, .int .i64 dv, .string cl, .string at_, .slice (some ⟨b, off, none⟩) 1 c]
      have hbw3 := hB.done #[.int .i64 6, .int .i64 n, .int .i64 m, .string nm, .int .i64 vk, .int .i64 vn, .string vs, .int .i64 dv, .string cl, .string at_, .slice (some ⟨b, off, none⟩) 1 c]
      go_wp2_with (refine wpList_store_row rfl 32 _ _ rfl (w.heap.size + 1) _ rfl rfl 32 _ hB.res (by kernel_rfl : (Try.prog.info? 32).map (·.size) = some 11) rfl (cells_one ⟨6, n, m, nm, vk, vn, vs, dv, cl, at_⟩ (some ⟨b, off, none⟩) 1 c) ?_)
      have cR := hr3.cell
      clear cx
      refine bodyPost_ret (v := ?_) ?_ rfl ?_
      rotate_left
      · simp [results, Try.results61, go_sem, cR]; exact rfl
      rw [HR.out]
      exact ⟨⟨_, rfl, _, rfl, he3⟩, hbw3⟩

set_option maxRecDepth 100000 in
set_option maxHeartbeats 2000000 in
theorem fold2_7 (n m vk vn dv : Int) (nm vs cl at_ : ByteArray) (ks : List LExpr) (v : Value) (ok : Nat → Prop) (w : World) (hP : nodeCheck ⟨7, n, m, nm, vk, vn, vs, dv, cl, at_⟩ ks.length = 0) (h0 : ∀ b, w.heap.size ≤ b → ok b) (hx : Ex ok (.mk ⟨7, n, m, nm, vk, vn, vs, dv, cl, at_⟩ ks) v w) :
    Calls Try.prog 61 (#[v] ++ #[]) w (RetEx ok (foldN (.mk ⟨7, n, m, nm, vk, vn, vs, dv, cl, at_⟩ ks)) w) := by
  obtain ⟨cs, rfl, he⟩ := hx
  have hx0 := he
  cases he with
  | mk _ _ A c b off cs hok hlen hA hsz hrow hk =>
  have hko := kidsOf hP
  have HJ := Lib.hid (foldN_eq ⟨7, n, m, nm, vk, vn, vs, dv, cl, at_⟩ ks)
  generalize foldN (.mk ⟨7, n, m, nm, vk, vn, vs, dv, cl, at_⟩ ks) = R at *
  simp only at hko
  simp only [Array.append_empty]
  unfold Hd.cells at hx0 ⊢
  have hR : R = junF 0 (.mk ⟨7, n, m, nm, vk, vn, vs, dv, cl, at_⟩ ks) := by rw [HJ.out, if_neg (by dsimp only; omega), if_pos rfl]
  clear HJ hko hA hrow hk
  go_enter Try.func61, Try.ntmps61
  go_upto_region 1 with fail
  have hB := Begun.start w #[.int .i64 7, .int .i64 n, .int .i64 m, .string nm, .int .i64 vk, .int .i64 vn, .string vs, .int .i64 dv, .string cl, .string at_, .slice (A) ks.length c]
  generalize ((w.alloc (.cells #[.int .i64 7, .int .i64 n, .int .i64 m, .string nm, .int .i64 vk, .int .i64 vn, .string vs, .int .i64 dv, .string cl, .string at_, .slice (A) ks.length c] 32)).alloc (.cells #[.int .i64 0, .int .i64 0, .int .i64 0, .string { data := #[] }, .int .i64 0, .int .i64 0, .string { data := #[] }, .int .i64 0, .string { data := #[] }, .string { data := #[] }, .slice none 0 0] 32)) = W1 at *
  have cx := hB.box.cell
  have lx := hB.box.lt
  have HC := Lib.hid (ejun_any 0 (.inl rfl) _ _ _ W1 (hB.up h0) ⟨_, rfl, hB.arg hx0⟩)
  go_wp2_with fail
  refine HC.out.mono ?_
  clear HC
  rintro r w3 ⟨⟨v', rfl, cs', rfl, he'⟩, hb3⟩
  obtain ⟨hd2, k2, A2, c2, hcs2⟩ := he'.form
  subst hcs2
  have HR := Lib.hid hR
  clear hR
  replace hB := hB.lat hb3
  have hr3 := hB.res.setRow (hd2.cells (.slice A2 k2 c2)).toArray
  have he3 := hB.back he' (hd2.cells (.slice A2 k2 c2)).toArray
  have hbw3 := hB.done (hd2.cells (.slice A2 k2 c2)).toArray
  clear he' cx hb3
  unfold Hd.cells at hr3 he3 hbw3 ⊢
  go_wp2_with (refine wpList_store_row rfl 32 _ _ rfl (w.heap.size + 1) _ rfl rfl 32 _ hB.res (by kernel_rfl : (Try.prog.info? 32).map (·.size) = some 11) rfl (cells_one hd2 A2 k2 c2) ?_)
  have cR := hr3.cell
  refine bodyPost_ret (v := ?_) ?_ rfl ?_
  rotate_left
  · simp [results, Try.results61, go_sem, cR]; exact rfl
  rw [HR.out]
  exact ⟨⟨_, rfl, _, rfl, he3⟩, hbw3⟩

set_option maxRecDepth 100000 in
set_option maxHeartbeats 2000000 in
theorem fold2_8 (n m vk vn dv : Int) (nm vs cl at_ : ByteArray) (ks : List LExpr) (v : Value) (ok : Nat → Prop) (w : World) (hP : nodeCheck ⟨8, n, m, nm, vk, vn, vs, dv, cl, at_⟩ ks.length = 0) (h0 : ∀ b, w.heap.size ≤ b → ok b) (hx : Ex ok (.mk ⟨8, n, m, nm, vk, vn, vs, dv, cl, at_⟩ ks) v w) :
    Calls Try.prog 61 (#[v] ++ #[]) w (RetEx ok (foldN (.mk ⟨8, n, m, nm, vk, vn, vs, dv, cl, at_⟩ ks)) w) := by
  obtain ⟨cs, rfl, he⟩ := hx
  have hx0 := he
  cases he with
  | mk _ _ A c b off cs hok hlen hA hsz hrow hk =>
  have hko := kidsOf hP
  have HJ := Lib.hid (foldN_eq ⟨8, n, m, nm, vk, vn, vs, dv, cl, at_⟩ ks)
  generalize foldN (.mk ⟨8, n, m, nm, vk, vn, vs, dv, cl, at_⟩ ks) = R at *
  simp only at hko
  simp only [Array.append_empty]
  unfold Hd.cells at hx0 ⊢
  have hR : R = junF 1 (.mk ⟨8, n, m, nm, vk, vn, vs, dv, cl, at_⟩ ks) := by rw [HJ.out, if_neg (by dsimp only; omega), if_neg (by dsimp only; omega), if_pos rfl]
  clear HJ hko hA hrow hk
  go_enter Try.func61, Try.ntmps61
  go_upto_region 1 with fail
  have hB := Begun.start w #[.int .i64 8, .int .i64 n, .int .i64 m, .string nm, .int .i64 vk, .int .i64 vn, .string vs, .int .i64 dv, .string cl, .string at_, .slice (A) ks.length c]
  generalize ((w.alloc (.cells #[.int .i64 8, .int .i64 n, .int .i64 m, .string nm, .int .i64 vk, .int .i64 vn, .string vs, .int .i64 dv, .string cl, .string at_, .slice (A) ks.length c] 32)).alloc (.cells #[.int .i64 0, .int .i64 0, .int .i64 0, .string { data := #[] }, .int .i64 0, .int .i64 0, .string { data := #[] }, .int .i64 0, .string { data := #[] }, .string { data := #[] }, .slice none 0 0] 32)) = W1 at *
  have cx := hB.box.cell
  have lx := hB.box.lt
  have HC := Lib.hid (ejun_any 1 (.inr rfl) _ _ _ W1 (hB.up h0) ⟨_, rfl, hB.arg hx0⟩)
  go_wp2_with fail
  refine HC.out.mono ?_
  clear HC
  rintro r w3 ⟨⟨v', rfl, cs', rfl, he'⟩, hb3⟩
  obtain ⟨hd2, k2, A2, c2, hcs2⟩ := he'.form
  subst hcs2
  have HR := Lib.hid hR
  clear hR
  replace hB := hB.lat hb3
  have hr3 := hB.res.setRow (hd2.cells (.slice A2 k2 c2)).toArray
  have he3 := hB.back he' (hd2.cells (.slice A2 k2 c2)).toArray
  have hbw3 := hB.done (hd2.cells (.slice A2 k2 c2)).toArray
  clear he' cx hb3
  unfold Hd.cells at hr3 he3 hbw3 ⊢
  go_wp2_with (refine wpList_store_row rfl 32 _ _ rfl (w.heap.size + 1) _ rfl rfl 32 _ hB.res (by kernel_rfl : (Try.prog.info? 32).map (·.size) = some 11) rfl (cells_one hd2 A2 k2 c2) ?_)
  have cR := hr3.cell
  refine bodyPost_ret (v := ?_) ?_ rfl ?_
  rotate_left
  · simp [results, Try.results61, go_sem, cR]; exact rfl
  rw [HR.out]
  exact ⟨⟨_, rfl, _, rfl, he3⟩, hbw3⟩

set_option maxRecDepth 100000 in
set_option maxHeartbeats 2000000 in
theorem fold2_9 (n m vk vn dv : Int) (nm vs cl at_ : ByteArray) (ks : List LExpr) (v : Value) (ok : Nat → Prop) (w : World) (hP : nodeCheck ⟨9, n, m, nm, vk, vn, vs, dv, cl, at_⟩ ks.length = 0) (h0 : ∀ b, w.heap.size ≤ b → ok b) (hx : Ex ok (.mk ⟨9, n, m, nm, vk, vn, vs, dv, cl, at_⟩ ks) v w) :
    Calls Try.prog 61 (#[v] ++ #[]) w (RetEx ok (foldN (.mk ⟨9, n, m, nm, vk, vn, vs, dv, cl, at_⟩ ks)) w) := by
  obtain ⟨cs, rfl, he⟩ := hx
  have hx0 := he
  cases he with
  | mk _ _ A c b off cs hok hlen hA hsz hrow hk =>
  have hko := kidsOf hP
  have HJ := Lib.hid (foldN_eq ⟨9, n, m, nm, vk, vn, vs, dv, cl, at_⟩ ks)
  generalize foldN (.mk ⟨9, n, m, nm, vk, vn, vs, dv, cl, at_⟩ ks) = R at *
  simp only at hko
  simp only [Array.append_empty]
  unfold Hd.cells at hx0 ⊢
  obtain ⟨k0, k1, rfl⟩ : ∃ k0 k1, ks = [k0, k1] := len2 (by rcases hko with h | h | h | h | h <;> omega)
  have hR : R = binF ⟨9, n, m, nm, vk, vn, vs, dv, cl, at_⟩ k0 k1 := by
    rw [HJ.out, if_neg (by dsimp only; omega), if_neg (by dsimp only; omega), if_neg (by dsimp only; omega), if_pos (by dsimp only; omega)]; rfl
  obtain ⟨rfl, hbB⟩ := hA (by simp)
  clear HJ hko hA hrow hk
  simp only [List.length_cons, List.length_nil, Nat.reduceAdd] at hx0 ⊢
  go_enter Try.func61, Try.ntmps61
  go_upto_region 1 with fail
  have hB := Begun.start w #[.int .i64 9, .int .i64 n, .int .i64 m, .string nm, .int .i64 vk, .int .i64 vn, .string vs, .int .i64 dv, .string cl, .string at_, .slice (some ⟨b, off, none⟩) 2 c]
  generalize ((w.alloc (.cells #[.int .i64 9, .int .i64 n, .int .i64 m, .string nm, .int .i64 vk, .int .i64 vn, .string vs, .int .i64 dv, .string cl, .string at_, .slice (some ⟨b, off, none⟩) 2 c] 32)).alloc (.cells #[.int .i64 0, .int .i64 0, .int .i64 0, .string { data := #[] }, .int .i64 0, .int .i64 0, .string { data := #[] }, .int .i64 0, .string { data := #[] }, .string { data := #[] }, .slice none 0 0] 32)) = W1 at *
  have cx := hB.box.cell
  have lx := hB.box.lt
  have HC := Lib.hid (binary_any k0 k1 _ _ _ W1 (hB.up h0) ⟨_, rfl, hB.arg hx0⟩)
  go_wp2_with fail
  refine HC.out.mono ?_
  clear HC
  rintro r w3 ⟨⟨v', rfl, cs', rfl, he'⟩, hb3⟩
  obtain ⟨hd2, k2, A2, c2, hcs2⟩ := he'.form
  subst hcs2
  have HR := Lib.hid hR
  clear hR
  replace hB := hB.lat hb3
  have hr3 := hB.res.setRow (hd2.cells (.slice A2 k2 c2)).toArray
  have he3 := hB.back he' (hd2.cells (.slice A2 k2 c2)).toArray
  have hbw3 := hB.done (hd2.cells (.slice A2 k2 c2)).toArray
  clear he' cx hb3
  unfold Hd.cells at hr3 he3 hbw3 ⊢
  go_wp2_with (refine wpList_store_row rfl 32 _ _ rfl (w.heap.size + 1) _ rfl rfl 32 _ hB.res (by kernel_rfl : (Try.prog.info? 32).map (·.size) = some 11) rfl (cells_one hd2 A2 k2 c2) ?_)
  have cR := hr3.cell
  refine bodyPost_ret (v := ?_) ?_ rfl ?_
  rotate_left
  · simp [results, Try.results61, go_sem, cR]; exact rfl
  rw [HR.out]
  exact ⟨⟨_, rfl, _, rfl, he3⟩, hbw3⟩

set_option maxRecDepth 100000 in
set_option maxHeartbeats 2000000 in
theorem fold2_10 (n m vk vn dv : Int) (nm vs cl at_ : ByteArray) (ks : List LExpr) (v : Value) (ok : Nat → Prop) (w : World) (hP : nodeCheck ⟨10, n, m, nm, vk, vn, vs, dv, cl, at_⟩ ks.length = 0) (h0 : ∀ b, w.heap.size ≤ b → ok b) (hx : Ex ok (.mk ⟨10, n, m, nm, vk, vn, vs, dv, cl, at_⟩ ks) v w) :
    Calls Try.prog 61 (#[v] ++ #[]) w (RetEx ok (foldN (.mk ⟨10, n, m, nm, vk, vn, vs, dv, cl, at_⟩ ks)) w) := by
  obtain ⟨cs, rfl, he⟩ := hx
  have hx0 := he
  cases he with
  | mk _ _ A c b off cs hok hlen hA hsz hrow hk =>
  have hko := kidsOf hP
  have HJ := Lib.hid (foldN_eq ⟨10, n, m, nm, vk, vn, vs, dv, cl, at_⟩ ks)
  generalize foldN (.mk ⟨10, n, m, nm, vk, vn, vs, dv, cl, at_⟩ ks) = R at *
  simp only at hko
  simp only [Array.append_empty]
  unfold Hd.cells at hx0 ⊢
  obtain ⟨k0, k1, rfl⟩ : ∃ k0 k1, ks = [k0, k1] := len2 (by rcases hko with h | h | h | h | h <;> omega)
  have hR : R = binF ⟨10, n, m, nm, vk, vn, vs, dv, cl, at_⟩ k0 k1 := by
    rw [HJ.out, if_neg (by dsimp only; omega), if_neg (by dsimp only; omega), if_neg (by dsimp only; omega), if_pos (by dsimp only; omega)]; rfl
  obtain ⟨rfl, hbB⟩ := hA (by simp)
  clear HJ hko hA hrow hk
  simp only [List.length_cons, List.length_nil, Nat.reduceAdd] at hx0 ⊢
  go_enter Try.func61, Try.ntmps61
  go_upto_region 1 with fail
  have hB := Begun.start w #[.int .i64 10, .int .i64 n, .int .i64 m, .string nm, .int .i64 vk, .int .i64 vn, .string vs, .int .i64 dv, .string cl, .string at_, .slice (some ⟨b, off, none⟩) 2 c]
  generalize ((w.alloc (.cells #[.int .i64 10, .int .i64 n, .int .i64 m, .string nm, .int .i64 vk, .int .i64 vn, .string vs, .int .i64 dv, .string cl, .string at_, .slice (some ⟨b, off, none⟩) 2 c] 32)).alloc (.cells #[.int .i64 0, .int .i64 0, .int .i64 0, .string { data := #[] }, .int .i64 0, .int .i64 0, .string { data := #[] }, .int .i64 0, .string { data := #[] }, .string { data := #[] }, .slice none 0 0] 32)) = W1 at *
  have cx := hB.box.cell
  have lx := hB.box.lt
  have HC := Lib.hid (binary_any k0 k1 _ _ _ W1 (hB.up h0) ⟨_, rfl, hB.arg hx0⟩)
  go_wp2_with fail
  refine HC.out.mono ?_
  clear HC
  rintro r w3 ⟨⟨v', rfl, cs', rfl, he'⟩, hb3⟩
  obtain ⟨hd2, k2, A2, c2, hcs2⟩ := he'.form
  subst hcs2
  have HR := Lib.hid hR
  clear hR
  replace hB := hB.lat hb3
  have hr3 := hB.res.setRow (hd2.cells (.slice A2 k2 c2)).toArray
  have he3 := hB.back he' (hd2.cells (.slice A2 k2 c2)).toArray
  have hbw3 := hB.done (hd2.cells (.slice A2 k2 c2)).toArray
  clear he' cx hb3
  unfold Hd.cells at hr3 he3 hbw3 ⊢
  go_wp2_with (refine wpList_store_row rfl 32 _ _ rfl (w.heap.size + 1) _ rfl rfl 32 _ hB.res (by kernel_rfl : (Try.prog.info? 32).map (·.size) = some 11) rfl (cells_one hd2 A2 k2 c2) ?_)
  have cR := hr3.cell
  refine bodyPost_ret (v := ?_) ?_ rfl ?_
  rotate_left
  · simp [results, Try.results61, go_sem, cR]; exact rfl
  rw [HR.out]
  exact ⟨⟨_, rfl, _, rfl, he3⟩, hbw3⟩

set_option maxRecDepth 100000 in
set_option maxHeartbeats 2000000 in
theorem fold2_11 (n m vk vn dv : Int) (nm vs cl at_ : ByteArray) (ks : List LExpr) (v : Value) (ok : Nat → Prop) (w : World) (hP : nodeCheck ⟨11, n, m, nm, vk, vn, vs, dv, cl, at_⟩ ks.length = 0) (h0 : ∀ b, w.heap.size ≤ b → ok b) (hx : Ex ok (.mk ⟨11, n, m, nm, vk, vn, vs, dv, cl, at_⟩ ks) v w) :
    Calls Try.prog 61 (#[v] ++ #[]) w (RetEx ok (foldN (.mk ⟨11, n, m, nm, vk, vn, vs, dv, cl, at_⟩ ks)) w) := by
  obtain ⟨cs, rfl, he⟩ := hx
  have hx0 := he
  cases he with
  | mk _ _ A c b off cs hok hlen hA hsz hrow hk =>
  have hko := kidsOf hP
  have HJ := Lib.hid (foldN_eq ⟨11, n, m, nm, vk, vn, vs, dv, cl, at_⟩ ks)
  generalize foldN (.mk ⟨11, n, m, nm, vk, vn, vs, dv, cl, at_⟩ ks) = R at *
  simp only at hko
  simp only [Array.append_empty]
  unfold Hd.cells at hx0 ⊢
  obtain ⟨k0, k1, rfl⟩ : ∃ k0 k1, ks = [k0, k1] := len2 (by rcases hko with h | h | h | h | h <;> omega)
  have hR : R = binF ⟨11, n, m, nm, vk, vn, vs, dv, cl, at_⟩ k0 k1 := by
    rw [HJ.out, if_neg (by dsimp only; omega), if_neg (by dsimp only; omega), if_neg (by dsimp only; omega), if_pos (by dsimp only; omega)]; rfl
  obtain ⟨rfl, hbB⟩ := hA (by simp)
  clear HJ hko hA hrow hk
  simp only [List.length_cons, List.length_nil, Nat.reduceAdd] at hx0 ⊢
  go_enter Try.func61, Try.ntmps61
  go_upto_region 1 with fail
  have hB := Begun.start w #[.int .i64 11, .int .i64 n, .int .i64 m, .string nm, .int .i64 vk, .int .i64 vn, .string vs, .int .i64 dv, .string cl, .string at_, .slice (some ⟨b, off, none⟩) 2 c]
  generalize ((w.alloc (.cells #[.int .i64 11, .int .i64 n, .int .i64 m, .string nm, .int .i64 vk, .int .i64 vn, .string vs, .int .i64 dv, .string cl, .string at_, .slice (some ⟨b, off, none⟩) 2 c] 32)).alloc (.cells #[.int .i64 0, .int .i64 0, .int .i64 0, .string { data := #[] }, .int .i64 0, .int .i64 0, .string { data := #[] }, .int .i64 0, .string { data := #[] }, .string { data := #[] }, .slice none 0 0] 32)) = W1 at *
  have cx := hB.box.cell
  have lx := hB.box.lt
  have HC := Lib.hid (binary_any k0 k1 _ _ _ W1 (hB.up h0) ⟨_, rfl, hB.arg hx0⟩)
  go_wp2_with fail
  refine HC.out.mono ?_
  clear HC
  rintro r w3 ⟨⟨v', rfl, cs', rfl, he'⟩, hb3⟩
  obtain ⟨hd2, k2, A2, c2, hcs2⟩ := he'.form
  subst hcs2
  have HR := Lib.hid hR
  clear hR
  replace hB := hB.lat hb3
  have hr3 := hB.res.setRow (hd2.cells (.slice A2 k2 c2)).toArray
  have he3 := hB.back he' (hd2.cells (.slice A2 k2 c2)).toArray
  have hbw3 := hB.done (hd2.cells (.slice A2 k2 c2)).toArray
  clear he' cx hb3
  unfold Hd.cells at hr3 he3 hbw3 ⊢
  go_wp2_with (refine wpList_store_row rfl 32 _ _ rfl (w.heap.size + 1) _ rfl rfl 32 _ hB.res (by kernel_rfl : (Try.prog.info? 32).map (·.size) = some 11) rfl (cells_one hd2 A2 k2 c2) ?_)
  have cR := hr3.cell
  refine bodyPost_ret (v := ?_) ?_ rfl ?_
  rotate_left
  · simp [results, Try.results61, go_sem, cR]; exact rfl
  rw [HR.out]
  exact ⟨⟨_, rfl, _, rfl, he3⟩, hbw3⟩

set_option maxRecDepth 100000 in
set_option maxHeartbeats 2000000 in
theorem fold2_12 (n m vk vn dv : Int) (nm vs cl at_ : ByteArray) (ks : List LExpr) (v : Value) (ok : Nat → Prop) (w : World) (hP : nodeCheck ⟨12, n, m, nm, vk, vn, vs, dv, cl, at_⟩ ks.length = 0) (h0 : ∀ b, w.heap.size ≤ b → ok b) (hx : Ex ok (.mk ⟨12, n, m, nm, vk, vn, vs, dv, cl, at_⟩ ks) v w) :
    Calls Try.prog 61 (#[v] ++ #[]) w (RetEx ok (foldN (.mk ⟨12, n, m, nm, vk, vn, vs, dv, cl, at_⟩ ks)) w) := by
  obtain ⟨cs, rfl, he⟩ := hx
  have hx0 := he
  cases he with
  | mk _ _ A c b off cs hok hlen hA hsz hrow hk =>
  have hko := kidsOf hP
  have HJ := Lib.hid (foldN_eq ⟨12, n, m, nm, vk, vn, vs, dv, cl, at_⟩ ks)
  generalize foldN (.mk ⟨12, n, m, nm, vk, vn, vs, dv, cl, at_⟩ ks) = R at *
  simp only at hko
  simp only [Array.append_empty]
  unfold Hd.cells at hx0 ⊢
  obtain ⟨k0, k1, rfl⟩ : ∃ k0 k1, ks = [k0, k1] := len2 (by rcases hko with h | h | h | h | h <;> omega)
  have hR : R = binF ⟨12, n, m, nm, vk, vn, vs, dv, cl, at_⟩ k0 k1 := by
    rw [HJ.out, if_neg (by dsimp only; omega), if_neg (by dsimp only; omega), if_neg (by dsimp only; omega), if_pos (by dsimp only; omega)]; rfl
  obtain ⟨rfl, hbB⟩ := hA (by simp)
  clear HJ hko hA hrow hk
  simp only [List.length_cons, List.length_nil, Nat.reduceAdd] at hx0 ⊢
  go_enter Try.func61, Try.ntmps61
  go_upto_region 1 with fail
  have hB := Begun.start w #[.int .i64 12, .int .i64 n, .int .i64 m, .string nm, .int .i64 vk, .int .i64 vn, .string vs, .int .i64 dv, .string cl, .string at_, .slice (some ⟨b, off, none⟩) 2 c]
  generalize ((w.alloc (.cells #[.int .i64 12, .int .i64 n, .int .i64 m, .string nm, .int .i64 vk, .int .i64 vn, .string vs, .int .i64 dv, .string cl, .string at_, .slice (some ⟨b, off, none⟩) 2 c] 32)).alloc (.cells #[.int .i64 0, .int .i64 0, .int .i64 0, .string { data := #[] }, .int .i64 0, .int .i64 0, .string { data := #[] }, .int .i64 0, .string { data := #[] }, .string { data := #[] }, .slice none 0 0] 32)) = W1 at *
  have cx := hB.box.cell
  have lx := hB.box.lt
  have HC := Lib.hid (binary_any k0 k1 _ _ _ W1 (hB.up h0) ⟨_, rfl, hB.arg hx0⟩)
  go_wp2_with fail
  refine HC.out.mono ?_
  clear HC
  rintro r w3 ⟨⟨v', rfl, cs', rfl, he'⟩, hb3⟩
  obtain ⟨hd2, k2, A2, c2, hcs2⟩ := he'.form
  subst hcs2
  have HR := Lib.hid hR
  clear hR
  replace hB := hB.lat hb3
  have hr3 := hB.res.setRow (hd2.cells (.slice A2 k2 c2)).toArray
  have he3 := hB.back he' (hd2.cells (.slice A2 k2 c2)).toArray
  have hbw3 := hB.done (hd2.cells (.slice A2 k2 c2)).toArray
  clear he' cx hb3
  unfold Hd.cells at hr3 he3 hbw3 ⊢
  go_wp2_with (refine wpList_store_row rfl 32 _ _ rfl (w.heap.size + 1) _ rfl rfl 32 _ hB.res (by kernel_rfl : (Try.prog.info? 32).map (·.size) = some 11) rfl (cells_one hd2 A2 k2 c2) ?_)
  have cR := hr3.cell
  refine bodyPost_ret (v := ?_) ?_ rfl ?_
  rotate_left
  · simp [results, Try.results61, go_sem, cR]; exact rfl
  rw [HR.out]
  exact ⟨⟨_, rfl, _, rfl, he3⟩, hbw3⟩

set_option maxRecDepth 100000 in
set_option maxHeartbeats 2000000 in
theorem fold2_13 (n m vk vn dv : Int) (nm vs cl at_ : ByteArray) (ks : List LExpr) (v : Value) (ok : Nat → Prop) (w : World) (hP : nodeCheck ⟨13, n, m, nm, vk, vn, vs, dv, cl, at_⟩ ks.length = 0) (h0 : ∀ b, w.heap.size ≤ b → ok b) (hx : Ex ok (.mk ⟨13, n, m, nm, vk, vn, vs, dv, cl, at_⟩ ks) v w) :
    Calls Try.prog 61 (#[v] ++ #[]) w (RetEx ok (foldN (.mk ⟨13, n, m, nm, vk, vn, vs, dv, cl, at_⟩ ks)) w) := by
  obtain ⟨cs, rfl, he⟩ := hx
  have hx0 := he
  cases he with
  | mk _ _ A c b off cs hok hlen hA hsz hrow hk =>
  have hko := kidsOf hP
  have HJ := Lib.hid (foldN_eq ⟨13, n, m, nm, vk, vn, vs, dv, cl, at_⟩ ks)
  generalize foldN (.mk ⟨13, n, m, nm, vk, vn, vs, dv, cl, at_⟩ ks) = R at *
  simp only at hko
  simp only [Array.append_empty]
  unfold Hd.cells at hx0 ⊢
  obtain ⟨k0, k1, rfl⟩ : ∃ k0 k1, ks = [k0, k1] := len2 (by rcases hko with h | h | h | h | h <;> omega)
  have hR : R = binF ⟨13, n, m, nm, vk, vn, vs, dv, cl, at_⟩ k0 k1 := by
    rw [HJ.out, if_neg (by dsimp only; omega), if_neg (by dsimp only; omega), if_neg (by dsimp only; omega), if_pos (by dsimp only; omega)]; rfl
  obtain ⟨rfl, hbB⟩ := hA (by simp)
  clear HJ hko hA hrow hk
  simp only [List.length_cons, List.length_nil, Nat.reduceAdd] at hx0 ⊢
  go_enter Try.func61, Try.ntmps61
  go_upto_region 1 with fail
  have hB := Begun.start w #[.int .i64 13, .int .i64 n, .int .i64 m, .string nm, .int .i64 vk, .int .i64 vn, .string vs, .int .i64 dv, .string cl, .string at_, .slice (some ⟨b, off, none⟩) 2 c]
  generalize ((w.alloc (.cells #[.int .i64 13, .int .i64 n, .int .i64 m, .string nm, .int .i64 vk, .int .i64 vn, .string vs, .int .i64 dv, .string cl, .string at_, .slice (some ⟨b, off, none⟩) 2 c] 32)).alloc (.cells #[.int .i64 0, .int .i64 0, .int .i64 0, .string { data := #[] }, .int .i64 0, .int .i64 0, .string { data := #[] }, .int .i64 0, .string { data := #[] }, .string { data := #[] }, .slice none 0 0] 32)) = W1 at *
  have cx := hB.box.cell
  have lx := hB.box.lt
  have HC := Lib.hid (binary_any k0 k1 _ _ _ W1 (hB.up h0) ⟨_, rfl, hB.arg hx0⟩)
  go_wp2_with fail
  refine HC.out.mono ?_
  clear HC
  rintro r w3 ⟨⟨v', rfl, cs', rfl, he'⟩, hb3⟩
  obtain ⟨hd2, k2, A2, c2, hcs2⟩ := he'.form
  subst hcs2
  have HR := Lib.hid hR
  clear hR
  replace hB := hB.lat hb3
  have hr3 := hB.res.setRow (hd2.cells (.slice A2 k2 c2)).toArray
  have he3 := hB.back he' (hd2.cells (.slice A2 k2 c2)).toArray
  have hbw3 := hB.done (hd2.cells (.slice A2 k2 c2)).toArray
  clear he' cx hb3
  unfold Hd.cells at hr3 he3 hbw3 ⊢
  go_wp2_with (refine wpList_store_row rfl 32 _ _ rfl (w.heap.size + 1) _ rfl rfl 32 _ hB.res (by kernel_rfl : (Try.prog.info? 32).map (·.size) = some 11) rfl (cells_one hd2 A2 k2 c2) ?_)
  have cR := hr3.cell
  refine bodyPost_ret (v := ?_) ?_ rfl ?_
  rotate_left
  · simp [results, Try.results61, go_sem, cR]; exact rfl
  rw [HR.out]
  exact ⟨⟨_, rfl, _, rfl, he3⟩, hbw3⟩

set_option maxRecDepth 100000 in
set_option maxHeartbeats 2000000 in
theorem fold2_14 (n m vk vn dv : Int) (nm vs cl at_ : ByteArray) (ks : List LExpr) (v : Value) (ok : Nat → Prop) (w : World) (hP : nodeCheck ⟨14, n, m, nm, vk, vn, vs, dv, cl, at_⟩ ks.length = 0) (h0 : ∀ b, w.heap.size ≤ b → ok b) (hx : Ex ok (.mk ⟨14, n, m, nm, vk, vn, vs, dv, cl, at_⟩ ks) v w) :
    Calls Try.prog 61 (#[v] ++ #[]) w (RetEx ok (foldN (.mk ⟨14, n, m, nm, vk, vn, vs, dv, cl, at_⟩ ks)) w) := by
  obtain ⟨cs, rfl, he⟩ := hx
  have hx0 := he
  cases he with
  | mk _ _ A c b off cs hok hlen hA hsz hrow hk =>
  have hko := kidsOf hP
  have HJ := Lib.hid (foldN_eq ⟨14, n, m, nm, vk, vn, vs, dv, cl, at_⟩ ks)
  generalize foldN (.mk ⟨14, n, m, nm, vk, vn, vs, dv, cl, at_⟩ ks) = R at *
  simp only at hko
  simp only [Array.append_empty]
  unfold Hd.cells at hx0 ⊢
  obtain ⟨k0, k1, k2, rfl⟩ := len3 (ks := ks) (by rcases hko with h | h | h | h | h <;> omega)
  obtain ⟨rfl, hbB⟩ := hA (by simp)
  have hr0 := hrow 0 (by simp)
  obtain ⟨h0', n0, A0, c0, e0⟩ := (hk 0 (by simp)).form
  have hy0 := hk 0 (by simp)
  have hbl0 := rowAt_lt hr0 (by rw [hsz]; omega)
  rw [e0] at hr0 hy0
  have hd0 := hd_of (hk 0 (by simp)) e0
  simp only [List.getElem_cons_zero, List.getElem_cons_succ, Nat.zero_mul, Nat.one_mul, Nat.add_zero, Nat.reduceMul] at hd0 hr0 hy0
  have hr1 := hrow 1 (by simp)
  obtain ⟨h1', n1, A1, c1, e1⟩ := (hk 1 (by simp)).form
  have hy1 := hk 1 (by simp)
  have hbl1 := rowAt_lt hr1 (by rw [hsz]; omega)
  rw [e1] at hr1 hy1
  have hd1 := hd_of (hk 1 (by simp)) e1
  simp only [List.getElem_cons_zero, List.getElem_cons_succ, Nat.zero_mul, Nat.one_mul, Nat.add_zero, Nat.reduceMul] at hd1 hr1 hy1
  have hr2 := hrow 2 (by simp)
  obtain ⟨h2', n2, A2, c2, e2⟩ := (hk 2 (by simp)).form
  have hy2 := hk 2 (by simp)
  have hbl2 := rowAt_lt hr2 (by rw [hsz]; omega)
  rw [e2] at hr2 hy2
  have hd2 := hd_of (hk 2 (by simp)) e2
  simp only [List.getElem_cons_zero, List.getElem_cons_succ, Nat.zero_mul, Nat.one_mul, Nat.add_zero, Nat.reduceMul] at hd2 hr2 hy2
  have hJ := HJ.out
  rw [if_neg (by dsimp only; omega), if_neg (by dsimp only; omega), if_neg (by dsimp only; omega), if_neg (by dsimp only; omega), if_pos rfl] at hJ
  simp only [kid, List.getD_cons_zero, List.getD_cons_succ, hd0] at hJ
  clear HJ hko hA hrow hk hd0 e0 hd1 e1 hd2 e2
  simp only [List.length_cons, List.length_nil, Nat.reduceAdd] at hx0 ⊢
  go_enter Try.func61, Try.ntmps61
  go_upto_region 1 with fail
  have hB := Begun.start w #[.int .i64 14, .int .i64 n, .int .i64 m, .string nm, .int .i64 vk, .int .i64 vn, .string vs, .int .i64 dv, .string cl, .string at_, .slice (some ⟨b, off, none⟩) 3 c]
  generalize ((w.alloc (.cells #[.int .i64 14, .int .i64 n, .int .i64 m, .string nm, .int .i64 vk, .int .i64 vn, .string vs, .int .i64 dv, .string cl, .string at_, .slice (some ⟨b, off, none⟩) 3 c] 32)).alloc (.cells #[.int .i64 0, .int .i64 0, .int .i64 0, .string { data := #[] }, .int .i64 0, .int .i64 0, .string { data := #[] }, .int .i64 0, .string { data := #[] }, .string { data := #[] }, .slice none 0 0] 32)) = W1 at *
  have cx := hB.box.cell
  have lx := hB.box.lt
  unfold Hd.cells at hr0 hr1 hr2
  rcases Bool.eq_false_or_eq_true (isLit h0' 1) with q1 | q1
  · have hR : R = k1 := by rw [hJ, q1]; rfl
    clear hJ
    go_wp2_with (with_reducible refine wpList_load_at rfl 32 _ rfl b off rfl _ _ (hr0.below hB.low hbl0) Try.underlying32 rfl (by kernel_rfl) ?_)
    refine (is_any h0' A0 n0 c0 _ _).mono ?_
    rintro r w1 ⟨rfl, hb1⟩
    rw [q1]
    replace hB := hB.lat hb1
    clear hb1
    have cx := hB.box.cell
    have lx := hB.box.lt
    have HR := Lib.hid hR
    clear hR
    have hr3 := hB.res.setRow (h1'.cells (.slice A1 n1 c1)).toArray
    have he3 := hB.keep hy1 (h1'.cells (.slice A1 n1 c1)).toArray
    have hbw3 := hB.done (h1'.cells (.slice A1 n1 c1)).toArray
    unfold Hd.cells at hr3 he3 hbw3
    go_wp2_with (first | (with_reducible refine wpList_load_at rfl 32 _ rfl b (off + 11) rfl _ _ (hr1.below hB.low hbl1) Try.underlying32 rfl (by kernel_rfl) ?_) | (refine wpList_store_row rfl 32 _ _ rfl (w.heap.size + 1) _ rfl rfl 32 _ hB.res (by kernel_rfl : (Try.prog.info? 32).map (·.size) = some 11) rfl (cells_one h1' A1 n1 c1) ?_))
    have cR := hr3.cell
    clear cx
    refine bodyPost_ret (v := ?_) ?_ rfl ?_
    rotate_left
    · simp [results, Try.results61, go_sem, cR]; exact rfl
    rw [HR.out]
    exact ⟨⟨_, rfl, _, rfl, he3⟩, hbw3⟩
  · rcases Bool.eq_false_or_eq_true (isLit h0' 0) with q0 | q0
    · have hR : R = k2 := by rw [hJ, q0, q1]; rfl
      clear hJ
      go_wp2_with (with_reducible refine wpList_load_at rfl 32 _ rfl b off rfl _ _ (hr0.below hB.low hbl0) Try.underlying32 rfl (by kernel_rfl) ?_)
      refine (is_any h0' A0 n0 c0 _ _).mono ?_
      rintro r w1 ⟨rfl, hb1⟩
      rw [q1]
      replace hB := hB.lat hb1
      clear hb1
      have cx := hB.box.cell
      have lx := hB.box.lt
      go_wp2_with (with_reducible refine wpList_load_at rfl 32 _ rfl b off rfl _ _ (hr0.below hB.low hbl0) Try.underlying32 rfl (by kernel_rfl) ?_)
      refine (is_any h0' A0 n0 c0 _ _).mono ?_
      rintro r w1 ⟨rfl, hb1⟩
      rw [q0]
      replace hB := hB.lat hb1
      clear hb1
      have cx := hB.box.cell
      have lx := hB.box.lt
      have HR := Lib.hid hR
      clear hR
      have hr3 := hB.res.setRow (h2'.cells (.slice A2 n2 c2)).toArray
      have he3 := hB.keep hy2 (h2'.cells (.slice A2 n2 c2)).toArray
      have hbw3 := hB.done (h2'.cells (.slice A2 n2 c2)).toArray
      unfold Hd.cells at hr3 he3 hbw3
      go_wp2_with (first | (with_reducible refine wpList_load_at rfl 32 _ rfl b (off + 22) rfl _ _ (hr2.below hB.low hbl2) Try.underlying32 rfl (by kernel_rfl) ?_) | (refine wpList_store_row rfl 32 _ _ rfl (w.heap.size + 1) _ rfl rfl 32 _ hB.res (by kernel_rfl : (Try.prog.info? 32).map (·.size) = some 11) rfl (cells_one h2' A2 n2 c2) ?_))
      have cR := hr3.cell
      clear cx
      refine bodyPost_ret (v := ?_) ?_ rfl ?_
      rotate_left
      · simp [results, Try.results61, go_sem, cR]; exact rfl
      rw [HR.out]
      exact ⟨⟨_, rfl, _, rfl, he3⟩, hbw3⟩
    · have hR : R = .mk ⟨14, n, m, nm, vk, vn, vs, dv, cl, at_⟩ [k0, k1, k2] := by rw [hJ, q0, q1]; rfl
      clear hJ
      go_wp2_with (with_reducible refine wpList_load_at rfl 32 _ rfl b off rfl _ _ (hr0.below hB.low hbl0) Try.underlying32 rfl (by kernel_rfl) ?_)
      refine (is_any h0' A0 n0 c0 _ _).mono ?_
      rintro r w1 ⟨rfl, hb1⟩
      rw [q1]
      replace hB := hB.lat hb1
      clear hb1
      have cx := hB.box.cell
      have lx := hB.box.lt
      go_wp2_with (with_reducible refine wpList_load_at rfl 32 _ rfl b off rfl _ _ (hr0.below hB.low hbl0) Try.underlying32 rfl (by kernel_rfl) ?_)
      refine (is_any h0' A0 n0 c0 _ _).mono ?_
      rintro r w1 ⟨rfl, hb1⟩
      rw [q0]
      replace hB := hB.lat hb1
      clear hb1
      have cx := hB.box.cell
      have lx := hB.box.lt
      have HR := Lib.hid hR
      clear hR
      have hr3 := hB.res.setRow #[.int .i64 14, .int .i64 n, .int .i64 m, .string nm, .int .i64 vk, .int .i64 vn, .string vs, .int .i64 dv, .string cl, .string at_, .slice (some ⟨b, off, none⟩) 3 c]
      have he3 := hB.keep hx0 #[.int .i64 14, .int .i64 n, .int .i64 m, .string nm, .int .i64 vk, .int .i64 vn, .string vs, .int .i64 dv, .string cl, .string at_, .slice (some ⟨b, off, none⟩) 3 c]
      have hbw3 := hB.done #[.int .i64 14, .int .i64 n, .int .i64 m, .string nm, .int .i64 vk, .int .i64 vn, .string vs, .int .i64 dv, .string cl, .string at_, .slice (some ⟨b, off, none⟩) 3 c]
      go_wp2_with (refine wpList_store_row rfl 32 _ _ rfl (w.heap.size + 1) _ rfl rfl 32 _ hB.res (by kernel_rfl : (Try.prog.info? 32).map (·.size) = some 11) rfl (cells_one ⟨14, n, m, nm, vk, vn, vs, dv, cl, at_⟩ (some ⟨b, off, none⟩) 3 c) ?_)
      have cR := hr3.cell
      clear cx
      refine bodyPost_ret (v := ?_) ?_ rfl ?_
      rotate_left
      · simp [results, Try.results61, go_sem, cR]; exact rfl
      rw [HR.out]
      exact ⟨⟨_, rfl, _, rfl, he3⟩, hbw3⟩

set_option maxRecDepth 100000 in
set_option maxHeartbeats 2000000 in
theorem fold2_x (kd : Int) (hkd : ¬ (6 ≤ kd ∧ kd ≤ 14)) (n m vk vn dv : Int) (nm vs cl at_ : ByteArray) (ks : List LExpr) (v : Value) (ok : Nat → Prop) (w : World) (hP : nodeCheck ⟨kd, n, m, nm, vk, vn, vs, dv, cl, at_⟩ ks.length = 0) (h0 : ∀ b, w.heap.size ≤ b → ok b) (hx : Ex ok (.mk ⟨kd, n, m, nm, vk, vn, vs, dv, cl, at_⟩ ks) v w) :
    Calls Try.prog 61 (#[v] ++ #[]) w (RetEx ok (foldN (.mk ⟨kd, n, m, nm, vk, vn, vs, dv, cl, at_⟩ ks)) w) := by
  obtain ⟨cs, rfl, he⟩ := hx
  have hx0 := he
  cases he with
  | mk _ _ A c b off cs hok hlen hA hsz hrow hk =>
  have hko := kidsOf hP
  have HJ := Lib.hid (foldN_eq ⟨kd, n, m, nm, vk, vn, vs, dv, cl, at_⟩ ks)
  generalize foldN (.mk ⟨kd, n, m, nm, vk, vn, vs, dv, cl, at_⟩ ks) = R at *
  simp only at hko
  simp only [Array.append_empty]
  unfold Hd.cells at hx0 ⊢
  have hR : R = .mk ⟨kd, n, m, nm, vk, vn, vs, dv, cl, at_⟩ ks := by
    rw [HJ.out, if_neg (by dsimp only; omega), if_neg (by dsimp only; omega), if_neg (by dsimp only; omega), if_neg (by dsimp only; omega), if_neg (by dsimp only; omega)]
  clear HJ hko hA hrow hk
  have k6 : (kd == 6) = false := by rw [beq_eq_false_iff_ne]; omega
  have k7 : (kd == 7) = false := by rw [beq_eq_false_iff_ne]; omega
  have k8 : (kd == 8) = false := by rw [beq_eq_false_iff_ne]; omega
  have k9 : (kd == 9) = false := by rw [beq_eq_false_iff_ne]; omega
  have k10 : (kd == 10) = false := by rw [beq_eq_false_iff_ne]; omega
  have k11 : (kd == 11) = false := by rw [beq_eq_false_iff_ne]; omega
  have k12 : (kd == 12) = false := by rw [beq_eq_false_iff_ne]; omega
  have k13 : (kd == 13) = false := by rw [beq_eq_false_iff_ne]; omega
  have k14 : (kd == 14) = false := by rw [beq_eq_false_iff_ne]; omega
  clear hkd
  go_enter Try.func61, Try.ntmps61
  go_upto_region 1 with fail
  have hB := Begun.start w #[.int .i64 kd, .int .i64 n, .int .i64 m, .string nm, .int .i64 vk, .int .i64 vn, .string vs, .int .i64 dv, .string cl, .string at_, .slice (A) ks.length c]
  generalize ((w.alloc (.cells #[.int .i64 kd, .int .i64 n, .int .i64 m, .string nm, .int .i64 vk, .int .i64 vn, .string vs, .int .i64 dv, .string cl, .string at_, .slice (A) ks.length c] 32)).alloc (.cells #[.int .i64 0, .int .i64 0, .int .i64 0, .string { data := #[] }, .int .i64 0, .int .i64 0, .string { data := #[] }, .int .i64 0, .string { data := #[] }, .string { data := #[] }, .slice none 0 0] 32)) = W1 at *
  have cx := hB.box.cell
  have lx := hB.box.lt
  have HR := Lib.hid hR
  clear hR
  have hr3 := hB.res.setRow #[.int .i64 kd, .int .i64 n, .int .i64 m, .string nm, .int .i64 vk, .int .i64 vn, .string vs, .int .i64 dv, .string cl, .string at_, .slice (A) ks.length c]
  have he3 := hB.keep hx0 #[.int .i64 kd, .int .i64 n, .int .i64 m, .string nm, .int .i64 vk, .int .i64 vn, .string vs, .int .i64 dv, .string cl, .string at_, .slice (A) ks.length c]
  have hbw3 := hB.done #[.int .i64 kd, .int .i64 n, .int .i64 m, .string nm, .int .i64 vk, .int .i64 vn, .string vs, .int .i64 dv, .string cl, .string at_, .slice (A) ks.length c]
  go_wp2_with (refine wpList_store_row rfl 32 _ _ rfl (w.heap.size + 1) _ rfl rfl 32 _ hB.res (by kernel_rfl : (Try.prog.info? 32).map (·.size) = some 11) rfl (cells_one ⟨kd, n, m, nm, vk, vn, vs, dv, cl, at_⟩ (A) ks.length c) ?_)
  have cR := hr3.cell
  clear cx
  refine bodyPost_ret (v := ?_) ?_ rfl ?_
  rotate_left
  · simp [results, Try.results61, go_sem, cR]; exact rfl
  rw [HR.out]
  exact ⟨⟨_, rfl, _, rfl, he3⟩, hbw3⟩

theorem fold2_any (x : LExpr) (v : Value) (ok : Nat → Prop) (w : World) (hP : nodeCheck x.hd x.kids.length = 0) (h0 : ∀ b, w.heap.size ≤ b → ok b) (hx : Ex ok x v w) : Calls Try.prog 61 (#[v] ++ #[]) w (RetEx ok (foldN x) w) := by
  obtain ⟨hd, ks⟩ := x
  obtain ⟨kd, n, m, nm, vk, vn, vs, dv, cl, at_⟩ := hd
  simp only [LExpr.hd, LExpr.kids] at hP
  rcases kdCases kd with rfl | rfl | rfl | rfl | rfl | rfl | rfl | rfl | rfl | hkd
  · exact fold2_6 n m vk vn dv nm vs cl at_ ks v ok w hP h0 hx
  · exact fold2_7 n m vk vn dv nm vs cl at_ ks v ok w hP h0 hx
  · exact fold2_8 n m vk vn dv nm vs cl at_ ks v ok w hP h0 hx
  · exact fold2_9 n m vk vn dv nm vs cl at_ ks v ok w hP h0 hx
  · exact fold2_10 n m vk vn dv nm vs cl at_ ks v ok w hP h0 hx
  · exact fold2_11 n m vk vn dv nm vs cl at_ ks v ok w hP h0 hx
  · exact fold2_12 n m vk vn dv nm vs cl at_ ks v ok w hP h0 hx
  · exact fold2_13 n m vk vn dv nm vs cl at_ ks v ok w hP h0 hx
  · exact fold2_14 n m vk vn dv nm vs cl at_ ks v ok w hP h0 hx
  · exact fold2_x kd hkd n m vk vn dv nm vs cl at_ ks v ok w hP h0 hx

end Go.Proofs.Ytnelgblmogciiaa
