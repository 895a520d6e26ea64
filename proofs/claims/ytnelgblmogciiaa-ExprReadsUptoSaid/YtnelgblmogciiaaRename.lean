/- Renaming, by the program. -/
import Derived.Test.YtnelgblmogciiaaFold4
set_option linter.unusedSimpArgs false
set_option linter.unusedVariables false
namespace Go.Proofs.Ytnelgblmogciiaa
open Go.RowKit

/-- A node's fields, with the device renamed. -/
def renH (f t : Int) (h : Hd) : Hd := if h.kind = 2 ∧ h.dev = f then { h with dev := t } else h
def renN (f t : Int) : LExpr → LExpr
  | .mk h ks => .mk (renH f t h) ks
theorem renH_ok {f t : Int} (ht : I64 t) {h : Hd} (ok : h.ok) : (renH f t h).ok := by
  unfold renH
  split
  · obtain ⟨a, b, c, d, e, g⟩ := ok
    constructor <;> assumption
  · exact ok
theorem IsExprP.head {ok : Nat → Prop} {w : World} {e : LExpr} {cs : List Value} (h : IsExprP ok w e cs) : ∃ hd ks A c, e = .mk hd ks ∧ cs = hd.cells (.slice A ks.length c) ∧ hd.ok ∧ ks.length * 136 ≤ 140737488351232 ∧ ∀ hd' : Hd, hd'.ok → IsExprP ok w (.mk hd' ks) (hd'.cells (.slice A ks.length c)) := by
  cases h with
  | mk h ks A c b off cs hok hlen hA hsz hrow hk =>
    exact ⟨h, ks, A, c, rfl, rfl, hok, hlen, fun hd' hok' => .mk hd' ks A c b off cs hok' hlen hA hsz hrow hk⟩

set_option maxRecDepth 100000 in
set_option maxHeartbeats 1000000 in
theorem ren1_any (f t : Int) (ht : I64 t) (b4 b5 : Nat) (x : LExpr) (v : Value) (ok : Nat → Prop) (w : World) (h4 : Blk w b4 3 #[.int .i64 f]) (h5 : Blk w b5 3 #[.int .i64 t]) (h0 : ∀ b, w.heap.size ≤ b → ok b) (hx : Ex ok x v w) :
    Calls Try.prog 67 (#[v] ++ #[.pointer (some ⟨b4, 0, none⟩), .pointer (some ⟨b5, 0, none⟩)]) w (RetEx ok (renN f t x) w) := by
  obtain ⟨cs, rfl, he⟩ := hx
  obtain ⟨hd, ks, A, c, rfl, rfl, hok, hlen, hn⟩ := he.head
  have he' := fun o1 o2 => ((hn (renH f t hd) (renH_ok ht hok)).lat (Lat.al w o1)).lat (Lat.al _ o2)
  rw [renN]
  have n4 := h4.lt
  have n5 := h5.lt
  have d4 := h4.cell
  have d5 := h5.cell
  have f4 := h4.free
  clear hn he
  unfold Hd.cells at *
  simp only [List.size_toArray, Array.append_empty, List.append_toArray, List.cons_append, List.nil_append]
  by_cases hk : hd.kind = 2
  · obtain ⟨kd, n, m, nm, vk, vn, vs, dv, cl, at_⟩ := hd
    dsimp only at hk he' ⊢
    subst hk
    by_cases hv : dv = f
    · have q2 : (dv == f) = true := by simpa using hv
      have e1 : renH f t ⟨2, n, m, nm, vk, vn, vs, dv, cl, at_⟩ = ⟨2, n, m, nm, vk, vn, vs, t, cl, at_⟩ := if_pos ⟨rfl, hv⟩
      rw [e1] at he' ⊢
      go_enter Try.func67, Try.ntmps67
      go_wp2_with fail
      refine bodyPost_ret (v := ?_) ?_ rfl ?_
      rotate_left
      · simp [results, Try.results67, go_sem]; exact rfl
      exact ⟨⟨_, rfl, _, rfl, he' _ _⟩, ((Below.refl _ _).al _).al _⟩
    · have q2 : (dv == f) = false := by simpa using hv
      have e1 : renH f t ⟨2, n, m, nm, vk, vn, vs, dv, cl, at_⟩ = ⟨2, n, m, nm, vk, vn, vs, dv, cl, at_⟩ := if_neg (fun h => hv h.2)
      rw [e1] at he' ⊢
      go_enter Try.func67, Try.ntmps67
      go_wp2_with fail
      refine bodyPost_ret (v := ?_) ?_ rfl ?_
      rotate_left
      · simp [results, Try.results67, go_sem]; exact rfl
      exact ⟨⟨_, rfl, _, rfl, he' _ _⟩, ((Below.refl _ _).al _).al _⟩
  · have q1 : (hd.kind == 2) = false := by simpa using hk
    have e1 : renH f t hd = hd := if_neg (fun h => hk h.1)
    rw [e1] at he' ⊢
    go_enter Try.func67, Try.ntmps67
    go_wp2_with fail
    refine bodyPost_ret (v := ?_) ?_ rfl ?_
    rotate_left
    · simp [results, Try.results67, go_sem]; exact rfl
    exact ⟨⟨_, rfl, _, rfl, he' _ _⟩, ((Below.refl _ _).al _).al _⟩

/-- An expression with the device renamed everywhere. -/
def renE (f t : Int) (e : LExpr) : LExpr := rebE (renN f t) e
theorem allN_any (e : LExpr) : allN (fun _ _ => True) e := by
  induction e using LExpr.ind with | _ hd ks ih => ?_
  rw [allN]
  exact ⟨trivial, fun k hk => by obtain ⟨i, hi, rfl⟩ := List.getElem_of_mem hk; exact ih i hi⟩
set_option maxRecDepth 100000 in
set_option maxHeartbeats 2000000 in
theorem rename_any (f t : Int) (ht : I64 t) (e : LExpr) (cs : List Value) (B : Nat) (w : World) (hB : B ≤ w.heap.size) (he : IsExpr B w e cs) :
    Calls Try.prog 39 #[.agg cs.toArray, .int .i64 f, .int .i64 t] w (RetEx (w.heap.size ≤ ·) (renE f t e) w) := by
  obtain ⟨hd, ks, A, c, _, rfl, _⟩ := he.form
  have hc1 : ∀ (args : Array Value) (w : World), (callFunc 67 args).run Try.prog w = .ok (.enter 67 args) w := fun args w => by kernel_rfl
  have HR := fun W (hb : Below B w W) (hl : B ≤ W.heap.size) (h4 : Blk W (w.heap.size + 1) 3 #[.int .i64 f]) (h5 : Blk W (w.heap.size + 1 + 1) 3 #[.int .i64 t]) =>
    Lib.hid (rebuild_any (renN f t) (fun _ _ => True) 67 #[.pointer (some ⟨w.heap.size + 1, 0, none⟩), .pointer (some ⟨w.heap.size + 1 + 1, 0, none⟩)] hc1 e (hd.cells (.slice A ks.length c)) B W hl (he.carry hb) (allN_any e)
      (fun W' hW x v ok _ h0 hx => ren1_any f t ht (w.heap.size + 1) (w.heap.size + 1 + 1) x v ok W' (h4.lat hW) (h5.lat hW) h0 hx))
  clear hc1
  have hbw : Below w.heap.size w ((((w.alloc (.cells #[.int .i64 hd.kind, .int .i64 hd.n, .int .i64 hd.m, .string hd.name, .int .i64 hd.vk, .int .i64 hd.vn, .string hd.vs, .int .i64 hd.dev, .string hd.cl, .string hd.at_, .slice A ks.length c] 32)).alloc (.cells #[.int .i64 f] 3)).alloc (.cells #[.int .i64 t] 3)).alloc (.cells #[.int .i64 0, .int .i64 0, .int .i64 0, .string { data := #[] }, .int .i64 0, .int .i64 0, .string { data := #[] }, .int .i64 0, .string { data := #[] }, .string { data := #[] }, .slice none 0 0] 32)) := ((((Below.refl _ _).al _).al _).al _).al _
  have k4 : Blk ((((w.alloc (.cells #[.int .i64 hd.kind, .int .i64 hd.n, .int .i64 hd.m, .string hd.name, .int .i64 hd.vk, .int .i64 hd.vn, .string hd.vs, .int .i64 hd.dev, .string hd.cl, .string hd.at_, .slice A ks.length c] 32)).alloc (.cells #[.int .i64 f] 3)).alloc (.cells #[.int .i64 t] 3)).alloc (.cells #[.int .i64 0, .int .i64 0, .int .i64 0, .string { data := #[] }, .int .i64 0, .int .i64 0, .string { data := #[] }, .int .i64 0, .string { data := #[] }, .string { data := #[] }, .slice none 0 0] 32)) (w.heap.size + 1) 3 #[.int .i64 f] := ((Blk.at1 _ _ _ _).alloc _).alloc _
  have k5 : Blk ((((w.alloc (.cells #[.int .i64 hd.kind, .int .i64 hd.n, .int .i64 hd.m, .string hd.name, .int .i64 hd.vk, .int .i64 hd.vn, .string hd.vs, .int .i64 hd.dev, .string hd.cl, .string hd.at_, .slice A ks.length c] 32)).alloc (.cells #[.int .i64 f] 3)).alloc (.cells #[.int .i64 t] 3)).alloc (.cells #[.int .i64 0, .int .i64 0, .int .i64 0, .string { data := #[] }, .int .i64 0, .int .i64 0, .string { data := #[] }, .int .i64 0, .string { data := #[] }, .string { data := #[] }, .slice none 0 0] 32)) (w.heap.size + 1 + 1) 3 #[.int .i64 t] := (Blk.at2 _ _ _ _ _).alloc _
  have k6 : Blk ((((w.alloc (.cells #[.int .i64 hd.kind, .int .i64 hd.n, .int .i64 hd.m, .string hd.name, .int .i64 hd.vk, .int .i64 hd.vn, .string hd.vs, .int .i64 hd.dev, .string hd.cl, .string hd.at_, .slice A ks.length c] 32)).alloc (.cells #[.int .i64 f] 3)).alloc (.cells #[.int .i64 t] 3)).alloc (.cells #[.int .i64 0, .int .i64 0, .int .i64 0, .string { data := #[] }, .int .i64 0, .int .i64 0, .string { data := #[] }, .int .i64 0, .string { data := #[] }, .string { data := #[] }, .slice none 0 0] 32)) (w.heap.size + 1 + 1 + 1) 32 #[.int .i64 0, .int .i64 0, .int .i64 0, .string { data := #[] }, .int .i64 0, .int .i64 0, .string { data := #[] }, .int .i64 0, .string { data := #[] }, .string { data := #[] }, .slice none 0 0] := Blk.at3 _ _ _ _ _ _
  have l6 := k6.lt
  unfold Hd.cells at HR ⊢
  go_enter Try.func39, Try.ntmps39
  go_upto_region 1 with fail
  have k3 : Blk ((((w.alloc (.cells #[.int .i64 hd.kind, .int .i64 hd.n, .int .i64 hd.m, .string hd.name, .int .i64 hd.vk, .int .i64 hd.vn, .string hd.vs, .int .i64 hd.dev, .string hd.cl, .string hd.at_, .slice A ks.length c] 32)).alloc (.cells #[.int .i64 f] 3)).alloc (.cells #[.int .i64 t] 3)).alloc (.cells #[.int .i64 0, .int .i64 0, .int .i64 0, .string { data := #[] }, .int .i64 0, .int .i64 0, .string { data := #[] }, .int .i64 0, .string { data := #[] }, .string { data := #[] }, .slice none 0 0] 32)) w.heap.size 32 #[.int .i64 hd.kind, .int .i64 hd.n, .int .i64 hd.m, .string hd.name, .int .i64 hd.vk, .int .i64 hd.vn, .string hd.vs, .int .i64 hd.dev, .string hd.cl, .string hd.at_, .slice A ks.length c] := (((Blk.new _ _ _).alloc _).alloc _).alloc _
  generalize ((((w.alloc (.cells #[.int .i64 hd.kind, .int .i64 hd.n, .int .i64 hd.m, .string hd.name, .int .i64 hd.vk, .int .i64 hd.vn, .string hd.vs, .int .i64 hd.dev, .string hd.cl, .string hd.at_, .slice A ks.length c] 32)).alloc (.cells #[.int .i64 f] 3)).alloc (.cells #[.int .i64 t] 3)).alloc (.cells #[.int .i64 0, .int .i64 0, .int .i64 0, .string { data := #[] }, .int .i64 0, .int .i64 0, .string { data := #[] }, .int .i64 0, .string { data := #[] }, .string { data := #[] }, .slice none 0 0] 32)) = W1 at *
  have HQ := HR W1 (hbw.mono hB) (by have := hbw.size; omega) k4 k5
  clear HR he
  have d3 := k3.cell
  go_wp2_with fail
  refine HQ.out.mono ?_
  clear HQ
  rintro r w3 ⟨⟨v', rfl, cs', rfl, he'⟩, hb3⟩
  obtain ⟨hd2, k2, A2, c2, hcs2⟩ := he'.form
  subst hcs2
  have k7 := k6.below hb3
  have hr3 := k7.setRow (hd2.cells (.slice A2 k2 c2)).toArray
  have he3 : IsExprP (w.heap.size ≤ ·) (w3.setRow (w.heap.size + 1 + 1 + 1) (hd2.cells (.slice A2 k2 c2)).toArray) (renE f t e) (hd2.cells (.slice A2 k2 c2)) :=
    (he'.carry (fun b hb _ => setRow_other _ _ _ _ (by omega))).mono (fun b hb _ => by have := hbw.size; omega)
  have hbw3 : Below w.heap.size w (w3.setRow (w.heap.size + 1 + 1 + 1) (hd2.cells (.slice A2 k2 c2)).toArray) := below_setRow (hbw.th hb3) (by omega) _
  clear he' d3 hb3 k3 k4 k5 k6
  unfold Hd.cells at hr3 he3 hbw3 ⊢
  go_wp2_with (refine wpList_store_row rfl 32 _ _ rfl (w.heap.size + 1 + 1 + 1) _ rfl rfl 32 _ k7 (by kernel_rfl : (Try.prog.info? 32).map (·.size) = some 11) rfl (cells_one hd2 A2 k2 c2) ?_)
  have cR := hr3.cell
  refine bodyPost_ret (v := ?_) ?_ rfl ?_
  rotate_left
  · simp [results, Try.results39, go_sem, cR]; exact rfl
  exact ⟨⟨_, rfl, _, rfl, he3⟩, hbw3⟩

end Go.Proofs.Ytnelgblmogciiaa
