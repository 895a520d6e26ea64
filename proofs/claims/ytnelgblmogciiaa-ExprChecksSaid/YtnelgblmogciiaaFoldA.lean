/- Folding: the small functions. Folding: and, or. -/
import Derived.Test.YtnelgblmogciiaaRebuild
import Derived.Test.YtnelgblmogciiaaWalks
namespace Go.Proofs.Ytnelgblmogciiaa
section
set_option linter.unusedSimpArgs false
set_option linter.unusedVariables false
open Go.RowKit


/-- Is a node a literal boolean with this number? -/
def isLit (h : Hd) (n : Int) : Bool := decide (h.kind = 1 ∧ h.vk = 1 ∧ h.vn = n)
/-- Is it a literal integer? -/
def isNum (h : Hd) : Bool := decide (h.kind = 1 ∧ h.vk = 2)

set_option maxHeartbeats 1000000 in
theorem is_any (h : Hd) (A : Option Addr) (l c : Nat) (n : Int) (w : World) : Calls Try.prog 62 #[.agg (h.cells (.slice A l c)).toArray, .int .i64 n] w fun r w' => r = .returned (.bool (isLit h n)) ∧ Below w.heap.size w w' := by
  obtain ⟨k, n', m, nm, vk, vn, vs, dv, cl, at_⟩ := h
  simp only [isLit, Hd.cells]
  by_cases h1 : k = 1
  · by_cases h2 : vk = 1
    · subst h1 h2
      go_enter Try.func62, Try.ntmps62
      go_wp2_with fail
      go_ret
      exact ⟨ret_bool (by rw [Bool.eq_iff_iff]; simp), (Below.refl _ _).al _⟩
    · subst h1
      have q : (vk == 1) = false := by simpa using h2
      go_enter Try.func62, Try.ntmps62
      go_wp2_with fail
      go_ret
      exact ⟨ret_bool (by simp [h2]), (Below.refl _ _).al _⟩
  · have q : (k == 1) = false := by simpa using h1
    go_enter Try.func62, Try.ntmps62
    go_wp2_with fail
    go_ret
    exact ⟨ret_bool (by simp [h1]), (Below.refl _ _).al _⟩

set_option maxHeartbeats 1000000 in
theorem number_any (h : Hd) (A : Option Addr) (l c : Nat) (w : World) : Calls Try.prog 95 #[.agg (h.cells (.slice A l c)).toArray] w fun r w' => r = .returned (.bool (isNum h)) ∧ Below w.heap.size w w' := by
  obtain ⟨k, n', m, nm, vk, vn, vs, dv, cl, at_⟩ := h
  simp only [isNum, Hd.cells]
  by_cases h1 : k = 1
  · subst h1
    go_enter Try.func95, Try.ntmps95
    go_wp2_with fail
    go_ret
    exact ⟨ret_bool (by simp; rfl), (Below.refl _ _).al _⟩
  · have q : (k == 1) = false := by simpa using h1
    go_enter Try.func95, Try.ntmps95
    go_wp2_with fail
    go_ret
    exact ⟨ret_bool (by simp [h1]), (Below.refl _ _).al _⟩

def litB (b : Bool) : Hd := litH (if b then 1 else 0)

set_option maxHeartbeats 1000000 in
theorem literal_any (b : Bool) (w : World) : Calls Try.prog 63 #[.bool b] w fun r w' => r = .returned (.agg ((litB b).cells (.slice none 0 0)).toArray) ∧ Below w.heap.size w w' := by
  cases b
  all_goals
    go_enter Try.func63, Try.ntmps63
    go_wp2_with fail
    refine bodyPost_ret (v := ?_) ?_ rfl ?_
    rotate_left
    · simp [results, Try.results63, go_sem]; exact rfl
    refine ⟨by simp [Hd.cells, litB, litH, noStr]; try rfl, ?_⟩
    (repeat (first | exact Below.refl _ _ | refine Below.al ?_ _ | refine Below.st ?_ (by simp; try omega) _ | refine Below.th ?_ (by assumption)))

/-- A leaf reads as an expression. -/
theorem leafP (ok : Nat → Prop) (W : World) (h : Hd) (hok : h.ok) (A : Option Addr) (c : Nat) : IsExprP ok W (.mk h []) (h.cells (.slice A 0 c)) :=
  .mk h [] A c 0 0 (fun _ => List.replicate 11 undef) hok (by simp) (fun h0 => by simp at h0) (fun _ => by simp) (fun i hi => by simp at hi) (fun i hi => by simp at hi)
theorem litB_ok (b : Bool) : (litB b).ok := by unfold litB; split <;> exact litH_ok (by unfold I64; decide)

set_option maxHeartbeats 1000000 in
theorem fold1_any (x : LExpr) (v : Value) (ok : Nat → Prop) (w : World) (h0 : ∀ b, w.heap.size ≤ b → ok b) (hx : Ex ok x v w) : Calls Try.prog 60 (#[v] ++ #[]) w (RetEx ok x w) := by
  obtain ⟨cs, rfl, he⟩ := hx
  obtain ⟨hd, k, A, c, hcs⟩ := he.form
  subst hcs
  unfold Hd.cells at *
  simp only [Array.append_empty]
  have he' := fun o1 o2 => (he.lat (Lat.al w o1)).lat (Lat.al _ o2)
  go_enter Try.func60, Try.ntmps60
  go_wp2_with fail
  refine bodyPost_ret (v := ?_) ?_ rfl ?_
  rotate_left
  · simp [results, Try.results60, go_sem]; exact rfl
  exact ⟨⟨_, rfl, _, rfl, he' _ _⟩, ((Below.refl _ _).al _).al _⟩
end

section
set_option linter.unusedSimpArgs false
set_option linter.unusedVariables false
open Go.RowKit


/-- And (which 0 decides) or or (1), folded. -/
def junF (d : Int) : LExpr → LExpr
  | .mk h ks => if ks.any (fun k => isLit k.hd d) then .mk (litB (d == 1)) [] else if ks.all (fun k => isLit k.hd (1 - d)) then .mk (litB (d == 0)) [] else .mk h ks

theorem junF_eq (d : Int) (h : Hd) (ks : List LExpr) : junF d (.mk h ks) = if ks.any (fun k => isLit k.hd d) then .mk (litB (d == 1)) [] else if ks.all (fun k => isLit k.hd (1 - d)) then .mk (litB (d == 0)) [] else .mk h ks := rfl
theorem any_take {p : LExpr → Bool} {ks : List LExpr} {j : Nat} (hj : j < ks.length) : (ks.take (j + 1)).any p = ((ks.take j).any p || p ks[j]) := by
  rw [List.take_succ_eq_append_getElem hj, List.any_append]; simp only [List.any_cons, List.any_nil, Bool.or_false]
theorem all_take {p : LExpr → Bool} {ks : List LExpr} {j : Nat} (hj : j < ks.length) : (ks.take (j + 1)).all p = ((ks.take j).all p && p ks[j]) := by
  rw [List.take_succ_eq_append_getElem hj, List.all_append]; simp only [List.all_cons, List.all_nil, Bool.and_true]
theorem hd_of {ok : Nat → Prop} {w : World} {e : LExpr} {cs : List Value} (h : IsExprP ok w e cs) {hd : Hd} {n : Nat} {A : Option Addr} {c : Nat} (hc : cs = hd.cells (.slice A n c)) : e.hd = hd := by
  cases h with
  | mk h ks A' c' b off cs' hok hlen hA hsz hrow hk =>
    unfold Hd.cells at hc
    simp only [List.cons.injEq, Value.int.injEq, Value.string.injEq, true_and] at hc
    obtain ⟨h1, h2, h3, h4, h5, h6, h7, h8, h9, h10, _⟩ := hc
    cases h; cases hd
    simp_all [LExpr.hd]
theorem any_of {p : LExpr → Bool} {ks : List LExpr} {j : Nat} (hj : j < ks.length) (h : p ks[j] = true) : ks.any p = true :=
  List.any_eq_true.2 ⟨_, List.getElem_mem hj, h⟩

theorem literal_f (w : World) : Calls Try.prog 63 #[.bool false] w fun r w' => r = .returned (.agg #[.int .i64 1, .int .i64 0, .int .i64 0, .string { data := #[] }, .int .i64 1, .int .i64 0, .string { data := #[] }, .int .i64 0, .string { data := #[] }, .string { data := #[] }, .slice none 0 0]) ∧ Below w.heap.size w w' := literal_any false w
theorem literal_t (w : World) : Calls Try.prog 63 #[.bool true] w fun r w' => r = .returned (.agg #[.int .i64 1, .int .i64 0, .int .i64 0, .string { data := #[] }, .int .i64 1, .int .i64 1, .string { data := #[] }, .int .i64 0, .string { data := #[] }, .string { data := #[] }, .slice none 0 0]) ∧ Below w.heap.size w w' := literal_any true w
theorem leaf_f (ok : Nat → Prop) (W : World) : Ex ok (.mk (litB false) []) (.agg #[.int .i64 1, .int .i64 0, .int .i64 0, .string { data := #[] }, .int .i64 1, .int .i64 0, .string { data := #[] }, .int .i64 0, .string { data := #[] }, .string { data := #[] }, .slice none 0 0]) W := ⟨_, rfl, leafP ok W (litB false) (litB_ok false) none 0⟩
theorem leaf_t (ok : Nat → Prop) (W : World) : Ex ok (.mk (litB true) []) (.agg #[.int .i64 1, .int .i64 0, .int .i64 0, .string { data := #[] }, .int .i64 1, .int .i64 1, .string { data := #[] }, .int .i64 0, .string { data := #[] }, .string { data := #[] }, .slice none 0 0]) W := ⟨_, rfl, leafP ok W (litB true) (litB_ok true) none 0⟩

set_option maxRecDepth 100000 in
set_option maxHeartbeats 4000000 in
theorem ejun_any (d : Int) (hdd : d = 0 ∨ d = 1) (x : LExpr) (v : Value) (ok : Nat → Prop) (w : World) (h0 : ∀ b, w.heap.size ≤ b → ok b) (hx : Ex ok x v w) :
    Calls Try.prog 64 #[v, .int .i64 d] w (RetEx ok (junF d x) w) := by
  obtain ⟨cs, rfl, he⟩ := hx
  have hx0 := he
  cases he with
  | mk hd ks A c b off cs hok hlen hA hsz hrow hk =>
  have HJ := Lib.hid (junF_eq d hd ks)
  generalize junF d (.mk hd ks) = R at *
  unfold Hd.cells at hx0 ⊢
  rcases hdd with rfl | rfl
  · go_enter Try.func64, Try.ntmps64
    go_wp2_with fail
    have hb1 : Below w.heap.size w ((w.alloc (.cells #[.int .i64 hd.kind, .int .i64 hd.n, .int .i64 hd.m, .string hd.name, .int .i64 hd.vk, .int .i64 hd.vn, .string hd.vs, .int .i64 hd.dev, .string hd.cl, .string hd.at_, .slice A ks.length c] 32)).alloc (.cells #[.int .i64 0, .int .i64 0, .int .i64 0, .string { data := #[] }, .int .i64 0, .int .i64 0, .string { data := #[] }, .int .i64 0, .string { data := #[] }, .string { data := #[] }, .slice none 0 0] 32)) := ((Below.refl _ _).al _).al _
    have hx1 : Blk ((w.alloc (.cells #[.int .i64 hd.kind, .int .i64 hd.n, .int .i64 hd.m, .string hd.name, .int .i64 hd.vk, .int .i64 hd.vn, .string hd.vs, .int .i64 hd.dev, .string hd.cl, .string hd.at_, .slice A ks.length c] 32)).alloc (.cells #[.int .i64 0, .int .i64 0, .int .i64 0, .string { data := #[] }, .int .i64 0, .int .i64 0, .string { data := #[] }, .int .i64 0, .string { data := #[] }, .string { data := #[] }, .slice none 0 0] 32)) w.heap.size 32 #[.int .i64 hd.kind, .int .i64 hd.n, .int .i64 hd.m, .string hd.name, .int .i64 hd.vk, .int .i64 hd.vn, .string hd.vs, .int .i64 hd.dev, .string hd.cl, .string hd.at_, .slice A ks.length c] := (Blk.new _ _ _).alloc _
    have hr1 : Blk ((w.alloc (.cells #[.int .i64 hd.kind, .int .i64 hd.n, .int .i64 hd.m, .string hd.name, .int .i64 hd.vk, .int .i64 hd.vn, .string hd.vs, .int .i64 hd.dev, .string hd.cl, .string hd.at_, .slice A ks.length c] 32)).alloc (.cells #[.int .i64 0, .int .i64 0, .int .i64 0, .string { data := #[] }, .int .i64 0, .int .i64 0, .string { data := #[] }, .int .i64 0, .string { data := #[] }, .string { data := #[] }, .slice none 0 0] 32)) (w.heap.size + 1) 32 zero11 := Blk.at1 _ _ _ _
    have hs1 : w.heap.size + 2 ≤ ((w.alloc (.cells #[.int .i64 hd.kind, .int .i64 hd.n, .int .i64 hd.m, .string hd.name, .int .i64 hd.vk, .int .i64 hd.vn, .string hd.vs, .int .i64 hd.dev, .string hd.cl, .string hd.at_, .slice A ks.length c] 32)).alloc (.cells #[.int .i64 0, .int .i64 0, .int .i64 0, .string { data := #[] }, .int .i64 0, .int .i64 0, .string { data := #[] }, .int .i64 0, .string { data := #[] }, .string { data := #[] }, .slice none 0 0] 32)).heap.size := by simp
    have hlk2 : ks.length ≤ 140737488351232 := by omega
    generalize ((w.alloc (.cells #[.int .i64 hd.kind, .int .i64 hd.n, .int .i64 hd.m, .string hd.name, .int .i64 hd.vk, .int .i64 hd.vn, .string hd.vs, .int .i64 hd.dev, .string hd.cl, .string hd.at_, .slice A ks.length c] 32)).alloc (.cells #[.int .i64 0, .int .i64 0, .int .i64 0, .string { data := #[] }, .int .i64 0, .int .i64 0, .string { data := #[] }, .int .i64 0, .string { data := #[] }, .string { data := #[] }, .slice none 0 0] 32)) = WA at *
    go_loopw [5, 7, 11] (fun all _ i wr => ∃ (j : Nat) (bb : Bool), j ≤ ks.length ∧ i = .int .i64 j ∧ all = .bool bb ∧ Hid (bb = (ks.take j).all (fun k => isLit k.hd (1 - 0)) ∧ (ks.take j).any (fun k => isLit k.hd 0) = false) ∧ Blk wr w.heap.size 32 #[.int .i64 hd.kind, .int .i64 hd.n, .int .i64 hd.m, .string hd.name, .int .i64 hd.vk, .int .i64 hd.vn, .string hd.vs, .int .i64 hd.dev, .string hd.cl, .string hd.at_, .slice A ks.length c] ∧ Blk wr (w.heap.size + 1) 32 zero11 ∧ Below w.heap.size w wr ∧ w.heap.size + 2 ≤ wr.heap.size) (fun _ _ i _ => ks.length - (intOf i).toNat)
    case atStart => exact ⟨0, true, Nat.zero_le _, rfl, rfl, Lib.hid ⟨by simp, by simp⟩, hx1, hr1, hb1, hs1⟩
    case round =>
      clear hx1 hr1 hb1 hs1
      obtain ⟨j, bb, hjl, rfl, rfl, HA, hx, hr, hbw, hs⟩ := hrel
      by_cases hlt : j < ks.length
      · obtain ⟨rfl, hbB⟩ := hA (by omega)
        have hrk := (hrow j hlt)
        obtain ⟨hk', n', Ak, ck, hcs⟩ := (hk j hlt).form
        have hbl := rowAt_lt hrk (by rw [hsz]; omega)
        replace hrk := hrk.below hbw hbl
        rw [hcs] at hrk
        have hhd : ks[j].hd = hk' := hd_of (hk j hlt) hcs
        have HD := Lib.hid hhd
        have hat := all_take (p := fun k => isLit k.hd (1 - 0)) hlt
        have hnt := any_take (p := fun k => isLit k.hd 0) hlt
        have hao := any_of (p := fun k => isLit k.hd 0) hlt
        simp only [hhd] at hat hnt hao
        have HT := Lib.hid hat
        have HN := Lib.hid hnt
        have HO := Lib.hid hao
        clear hA hrow hk hcs hsz hhd hat hnt hao
        unfold Hd.cells at hrk
        go_wp2_with (with_reducible refine wpList_load_at rfl 32 _ rfl b (off + j * 11) rfl _ _ hrk Try.underlying32 rfl (by kernel_rfl) ?_)
        have hkb := Blk.new wr 32 #[.int .i64 hk'.kind, .int .i64 hk'.n, .int .i64 hk'.m, .string hk'.name, .int .i64 hk'.vk, .int .i64 hk'.vn, .string hk'.vs, .int .i64 hk'.dev, .string hk'.cl, .string hk'.at_, .slice Ak n' ck]
        have hx' := hx.alloc (.cells #[.int .i64 hk'.kind, .int .i64 hk'.n, .int .i64 hk'.m, .string hk'.name, .int .i64 hk'.vk, .int .i64 hk'.vn, .string hk'.vs, .int .i64 hk'.dev, .string hk'.cl, .string hk'.at_, .slice Ak n' ck] 32)
        have hr' := hr.alloc (.cells #[.int .i64 hk'.kind, .int .i64 hk'.n, .int .i64 hk'.m, .string hk'.name, .int .i64 hk'.vk, .int .i64 hk'.vn, .string hk'.vs, .int .i64 hk'.dev, .string hk'.cl, .string hk'.at_, .slice Ak n' ck] 32)
        have hbw' := hbw.al (.cells #[.int .i64 hk'.kind, .int .i64 hk'.n, .int .i64 hk'.m, .string hk'.name, .int .i64 hk'.vk, .int .i64 hk'.vn, .string hk'.vs, .int .i64 hk'.dev, .string hk'.cl, .string hk'.at_, .slice Ak n' ck] 32)
        have hsz2 : wr.heap.size < (wr.alloc (.cells #[.int .i64 hk'.kind, .int .i64 hk'.n, .int .i64 hk'.m, .string hk'.name, .int .i64 hk'.vk, .int .i64 hk'.vn, .string hk'.vs, .int .i64 hk'.dev, .string hk'.cl, .string hk'.at_, .slice Ak n' ck] 32)).heap.size := by simp
        clear hrk hx hr hbw
        generalize wr.alloc (.cells #[.int .i64 hk'.kind, .int .i64 hk'.n, .int .i64 hk'.m, .string hk'.name, .int .i64 hk'.vk, .int .i64 hk'.vn, .string hk'.vs, .int .i64 hk'.dev, .string hk'.cl, .string hk'.at_, .slice Ak n' ck] 32) = W0 at *
        generalize wr.heap.size = g7 at *
        refine (is_any hk' Ak n' ck _ _).mono ?_
        rintro r w2 ⟨rfl, hb2⟩
        replace hkb := hkb.below hb2
        replace hx' := hx'.below hb2
        replace hr' := hr'.below hb2
        replace hbw' := hbw'.th hb2
        replace hsz2 := Nat.lt_of_lt_of_le hsz2 hb2.size
        clear hb2
        rcases Bool.eq_false_or_eq_true (isLit hk' 0) with h1 | h1
        · rw [h1]
          have hR : R = .mk (litB false) [] := by rw [HJ.out, if_pos (HO.out h1)]; rfl
          have HR := Lib.hid hR
          clear h1 hR HO HN HT HA HJ HD
          go_wp2_with fail
          refine (literal_f _).mono ?_
          rintro r w3 ⟨rfl, hb3⟩
          have hr2 := hr'.below hb3
          have hr3 := hr2.setRow #[.int .i64 1, .int .i64 0, .int .i64 0, .string { data := #[] }, .int .i64 1, .int .i64 0, .string { data := #[] }, .int .i64 0, .string { data := #[] }, .string { data := #[] }, .slice none 0 0]
          have hbw3 : Below w.heap.size w (w3.setRow (w.heap.size + 1) #[.int .i64 1, .int .i64 0, .int .i64 0, .string { data := #[] }, .int .i64 1, .int .i64 0, .string { data := #[] }, .int .i64 0, .string { data := #[] }, .string { data := #[] }, .slice none 0 0]) := below_setRow (hbw'.th hb3) (by omega) _
          clear hb3
          go_wp2_with (refine wpList_store_row rfl 32 _ _ rfl (w.heap.size + 1) _ rfl rfl 32 _ hr2 (by kernel_rfl : (Try.prog.info? 32).map (·.size) = some 11) rfl (by kernel_rfl) ?_)
          have cR := hr3.cell
          clear hr2
          refine bodyPost_ret (v := ?_) ?_ rfl ?_
          rotate_left
          · simp [results, Try.results64, go_sem, cR]; exact rfl
          rw [HR.out]
          exact ⟨⟨_, rfl, leaf_f _ _⟩, hbw3⟩
        · rw [h1]
          cases bb with
          | false =>
            have HE : Hid (false = (ks.take (j + 1)).all (fun k => isLit k.hd (1 - 0)) ∧ (ks.take (j + 1)).any (fun k => isLit k.hd 0) = false) := Lib.hid ⟨by rw [HT.out, ← HA.out.1]; rfl, by rw [HN.out, HA.out.2, h1]; rfl⟩
            clear h1 HO HN HT HA HJ HD
            go_wp2_with fail
            go_roundw
            case rel => exact ⟨j + 1, false, by omega, by go_num, rfl, HE, hx', hr', hbw', by omega⟩
            case measure => simp [intOf]; omega
          | true =>
            have HE : Hid (isLit hk' (1 - 0) = (ks.take (j + 1)).all (fun k => isLit k.hd (1 - 0)) ∧ (ks.take (j + 1)).any (fun k => isLit k.hd 0) = false) := Lib.hid ⟨by rw [HT.out, ← HA.out.1]; rfl, by rw [HN.out, HA.out.2, h1]; rfl⟩
            clear h1 HO HN HT HA HJ HD
            have ck2 := hkb.cell
            go_wp2_with fail
            refine (is_any hk' Ak n' ck _ _).mono ?_
            rintro r w3 ⟨rfl, hb3⟩
            replace hx' := hx'.below hb3
            replace hr' := hr'.below hb3
            replace hbw' := hbw'.th hb3
            have hs3 := hb3.size
            clear hb3 ck2 hkb
            go_wp2_with fail
            go_roundw
            case rel => exact ⟨j + 1, _, by omega, by go_num, rfl, HE, hx', hr', hbw', by omega⟩
            case measure => simp [intOf]; omega
      · have hj : j = ks.length := by omega
        subst hj
        have hat := HA.out
        rw [List.take_of_length_le (Nat.le_refl _)] at hat
        obtain ⟨ha1, ha2⟩ := hat
        clear HA
        have hr' := hr
        have hbw' := hbw
        cases bb with
        | true =>
          have hR : R = .mk (litB true) [] := by rw [HJ.out, if_neg (by rw [ha2]; decide), if_pos ha1.symm]; rfl
          have HR := Lib.hid hR
          clear hR HJ ha1 ha2 hA hrow hk hsz
          go_wp2_with fail
          refine (literal_t _).mono ?_
          rintro r w3 ⟨rfl, hb3⟩
          have hr2 := hr'.below hb3
          have hr3 := hr2.setRow #[.int .i64 1, .int .i64 0, .int .i64 0, .string { data := #[] }, .int .i64 1, .int .i64 1, .string { data := #[] }, .int .i64 0, .string { data := #[] }, .string { data := #[] }, .slice none 0 0]
          have hbw3 : Below w.heap.size w (w3.setRow (w.heap.size + 1) #[.int .i64 1, .int .i64 0, .int .i64 0, .string { data := #[] }, .int .i64 1, .int .i64 1, .string { data := #[] }, .int .i64 0, .string { data := #[] }, .string { data := #[] }, .slice none 0 0]) := below_setRow (hbw'.th hb3) (by omega) _
          clear hb3
          go_wp2_with (refine wpList_store_row rfl 32 _ _ rfl (w.heap.size + 1) _ rfl rfl 32 _ hr2 (by kernel_rfl : (Try.prog.info? 32).map (·.size) = some 11) rfl (by kernel_rfl) ?_)
          have cR := hr3.cell
          clear hr2
          refine bodyPost_ret (v := ?_) ?_ rfl ?_
          rotate_left
          · simp [results, Try.results64, go_sem, cR]; exact rfl
          rw [HR.out]
          exact ⟨⟨_, rfl, leaf_t _ _⟩, hbw3⟩
        | false =>
          have hR : R = .mk hd ks := by rw [HJ.out, if_neg (by rw [ha2]; decide), if_neg (by rw [← ha1]; decide)]
          have HR := Lib.hid hR
          clear hR HJ ha1 ha2 hA hrow hk hsz hr hbw
          have hr3 := hr'.setRow #[.int .i64 hd.kind, .int .i64 hd.n, .int .i64 hd.m, .string hd.name, .int .i64 hd.vk, .int .i64 hd.vn, .string hd.vs, .int .i64 hd.dev, .string hd.cl, .string hd.at_, .slice A ks.length c]
          have hbw3 : Below w.heap.size w (wr.setRow (w.heap.size + 1) #[.int .i64 hd.kind, .int .i64 hd.n, .int .i64 hd.m, .string hd.name, .int .i64 hd.vk, .int .i64 hd.vn, .string hd.vs, .int .i64 hd.dev, .string hd.cl, .string hd.at_, .slice A ks.length c]) := below_setRow hbw' (by omega) _
          have he3 := hx0.carry (w' := wr.setRow (w.heap.size + 1) #[.int .i64 hd.kind, .int .i64 hd.n, .int .i64 hd.m, .string hd.name, .int .i64 hd.vk, .int .i64 hd.vn, .string hd.vs, .int .i64 hd.dev, .string hd.cl, .string hd.at_, .slice A ks.length c]) (fun b hb hl => (setRow_other _ _ _ _ (by omega)).trans (hbw'.block b hl))
          have cx := hx.cell
          go_wp2_with (refine wpList_store_row rfl 32 _ _ rfl (w.heap.size + 1) _ rfl rfl 32 _ hr' (by kernel_rfl : (Try.prog.info? 32).map (·.size) = some 11) rfl (cells_one hd A ks.length c) ?_)
          have cR := hr3.cell
          clear hr' cx
          refine bodyPost_ret (v := ?_) ?_ rfl ?_
          rotate_left
          · simp [results, Try.results64, go_sem, cR]; exact rfl
          rw [HR.out]
          exact ⟨⟨_, rfl, _, rfl, he3⟩, hbw3⟩
  · go_enter Try.func64, Try.ntmps64
    go_wp2_with fail
    have hb1 : Below w.heap.size w ((w.alloc (.cells #[.int .i64 hd.kind, .int .i64 hd.n, .int .i64 hd.m, .string hd.name, .int .i64 hd.vk, .int .i64 hd.vn, .string hd.vs, .int .i64 hd.dev, .string hd.cl, .string hd.at_, .slice A ks.length c] 32)).alloc (.cells #[.int .i64 0, .int .i64 0, .int .i64 0, .string { data := #[] }, .int .i64 0, .int .i64 0, .string { data := #[] }, .int .i64 0, .string { data := #[] }, .string { data := #[] }, .slice none 0 0] 32)) := ((Below.refl _ _).al _).al _
    have hx1 : Blk ((w.alloc (.cells #[.int .i64 hd.kind, .int .i64 hd.n, .int .i64 hd.m, .string hd.name, .int .i64 hd.vk, .int .i64 hd.vn, .string hd.vs, .int .i64 hd.dev, .string hd.cl, .string hd.at_, .slice A ks.length c] 32)).alloc (.cells #[.int .i64 0, .int .i64 0, .int .i64 0, .string { data := #[] }, .int .i64 0, .int .i64 0, .string { data := #[] }, .int .i64 0, .string { data := #[] }, .string { data := #[] }, .slice none 0 0] 32)) w.heap.size 32 #[.int .i64 hd.kind, .int .i64 hd.n, .int .i64 hd.m, .string hd.name, .int .i64 hd.vk, .int .i64 hd.vn, .string hd.vs, .int .i64 hd.dev, .string hd.cl, .string hd.at_, .slice A ks.length c] := (Blk.new _ _ _).alloc _
    have hr1 : Blk ((w.alloc (.cells #[.int .i64 hd.kind, .int .i64 hd.n, .int .i64 hd.m, .string hd.name, .int .i64 hd.vk, .int .i64 hd.vn, .string hd.vs, .int .i64 hd.dev, .string hd.cl, .string hd.at_, .slice A ks.length c] 32)).alloc (.cells #[.int .i64 0, .int .i64 0, .int .i64 0, .string { data := #[] }, .int .i64 0, .int .i64 0, .string { data := #[] }, .int .i64 0, .string { data := #[] }, .string { data := #[] }, .slice none 0 0] 32)) (w.heap.size + 1) 32 zero11 := Blk.at1 _ _ _ _
    have hs1 : w.heap.size + 2 ≤ ((w.alloc (.cells #[.int .i64 hd.kind, .int .i64 hd.n, .int .i64 hd.m, .string hd.name, .int .i64 hd.vk, .int .i64 hd.vn, .string hd.vs, .int .i64 hd.dev, .string hd.cl, .string hd.at_, .slice A ks.length c] 32)).alloc (.cells #[.int .i64 0, .int .i64 0, .int .i64 0, .string { data := #[] }, .int .i64 0, .int .i64 0, .string { data := #[] }, .int .i64 0, .string { data := #[] }, .string { data := #[] }, .slice none 0 0] 32)).heap.size := by simp
    have hlk2 : ks.length ≤ 140737488351232 := by omega
    generalize ((w.alloc (.cells #[.int .i64 hd.kind, .int .i64 hd.n, .int .i64 hd.m, .string hd.name, .int .i64 hd.vk, .int .i64 hd.vn, .string hd.vs, .int .i64 hd.dev, .string hd.cl, .string hd.at_, .slice A ks.length c] 32)).alloc (.cells #[.int .i64 0, .int .i64 0, .int .i64 0, .string { data := #[] }, .int .i64 0, .int .i64 0, .string { data := #[] }, .int .i64 0, .string { data := #[] }, .string { data := #[] }, .slice none 0 0] 32)) = WA at *
    go_loopw [5, 7, 11] (fun all _ i wr => ∃ (j : Nat) (bb : Bool), j ≤ ks.length ∧ i = .int .i64 j ∧ all = .bool bb ∧ Hid (bb = (ks.take j).all (fun k => isLit k.hd (1 - 1)) ∧ (ks.take j).any (fun k => isLit k.hd 1) = false) ∧ Blk wr w.heap.size 32 #[.int .i64 hd.kind, .int .i64 hd.n, .int .i64 hd.m, .string hd.name, .int .i64 hd.vk, .int .i64 hd.vn, .string hd.vs, .int .i64 hd.dev, .string hd.cl, .string hd.at_, .slice A ks.length c] ∧ Blk wr (w.heap.size + 1) 32 zero11 ∧ Below w.heap.size w wr ∧ w.heap.size + 2 ≤ wr.heap.size) (fun _ _ i _ => ks.length - (intOf i).toNat)
    case atStart => exact ⟨0, true, Nat.zero_le _, rfl, rfl, Lib.hid ⟨by simp, by simp⟩, hx1, hr1, hb1, hs1⟩
    case round =>
      clear hx1 hr1 hb1 hs1
      obtain ⟨j, bb, hjl, rfl, rfl, HA, hx, hr, hbw, hs⟩ := hrel
      by_cases hlt : j < ks.length
      · obtain ⟨rfl, hbB⟩ := hA (by omega)
        have hrk := (hrow j hlt)
        obtain ⟨hk', n', Ak, ck, hcs⟩ := (hk j hlt).form
        have hbl := rowAt_lt hrk (by rw [hsz]; omega)
        replace hrk := hrk.below hbw hbl
        rw [hcs] at hrk
        have hhd : ks[j].hd = hk' := hd_of (hk j hlt) hcs
        have HD := Lib.hid hhd
        have hat := all_take (p := fun k => isLit k.hd (1 - 1)) hlt
        have hnt := any_take (p := fun k => isLit k.hd 1) hlt
        have hao := any_of (p := fun k => isLit k.hd 1) hlt
        simp only [hhd] at hat hnt hao
        have HT := Lib.hid hat
        have HN := Lib.hid hnt
        have HO := Lib.hid hao
        clear hA hrow hk hcs hsz hhd hat hnt hao
        unfold Hd.cells at hrk
        go_wp2_with (with_reducible refine wpList_load_at rfl 32 _ rfl b (off + j * 11) rfl _ _ hrk Try.underlying32 rfl (by kernel_rfl) ?_)
        have hkb := Blk.new wr 32 #[.int .i64 hk'.kind, .int .i64 hk'.n, .int .i64 hk'.m, .string hk'.name, .int .i64 hk'.vk, .int .i64 hk'.vn, .string hk'.vs, .int .i64 hk'.dev, .string hk'.cl, .string hk'.at_, .slice Ak n' ck]
        have hx' := hx.alloc (.cells #[.int .i64 hk'.kind, .int .i64 hk'.n, .int .i64 hk'.m, .string hk'.name, .int .i64 hk'.vk, .int .i64 hk'.vn, .string hk'.vs, .int .i64 hk'.dev, .string hk'.cl, .string hk'.at_, .slice Ak n' ck] 32)
        have hr' := hr.alloc (.cells #[.int .i64 hk'.kind, .int .i64 hk'.n, .int .i64 hk'.m, .string hk'.name, .int .i64 hk'.vk, .int .i64 hk'.vn, .string hk'.vs, .int .i64 hk'.dev, .string hk'.cl, .string hk'.at_, .slice Ak n' ck] 32)
        have hbw' := hbw.al (.cells #[.int .i64 hk'.kind, .int .i64 hk'.n, .int .i64 hk'.m, .string hk'.name, .int .i64 hk'.vk, .int .i64 hk'.vn, .string hk'.vs, .int .i64 hk'.dev, .string hk'.cl, .string hk'.at_, .slice Ak n' ck] 32)
        have hsz2 : wr.heap.size < (wr.alloc (.cells #[.int .i64 hk'.kind, .int .i64 hk'.n, .int .i64 hk'.m, .string hk'.name, .int .i64 hk'.vk, .int .i64 hk'.vn, .string hk'.vs, .int .i64 hk'.dev, .string hk'.cl, .string hk'.at_, .slice Ak n' ck] 32)).heap.size := by simp
        clear hrk hx hr hbw
        generalize wr.alloc (.cells #[.int .i64 hk'.kind, .int .i64 hk'.n, .int .i64 hk'.m, .string hk'.name, .int .i64 hk'.vk, .int .i64 hk'.vn, .string hk'.vs, .int .i64 hk'.dev, .string hk'.cl, .string hk'.at_, .slice Ak n' ck] 32) = W0 at *
        generalize wr.heap.size = g7 at *
        refine (is_any hk' Ak n' ck _ _).mono ?_
        rintro r w2 ⟨rfl, hb2⟩
        replace hkb := hkb.below hb2
        replace hx' := hx'.below hb2
        replace hr' := hr'.below hb2
        replace hbw' := hbw'.th hb2
        replace hsz2 := Nat.lt_of_lt_of_le hsz2 hb2.size
        clear hb2
        rcases Bool.eq_false_or_eq_true (isLit hk' 1) with h1 | h1
        · rw [h1]
          have hR : R = .mk (litB true) [] := by rw [HJ.out, if_pos (HO.out h1)]; rfl
          have HR := Lib.hid hR
          clear h1 hR HO HN HT HA HJ HD
          go_wp2_with fail
          refine (literal_t _).mono ?_
          rintro r w3 ⟨rfl, hb3⟩
          have hr2 := hr'.below hb3
          have hr3 := hr2.setRow #[.int .i64 1, .int .i64 0, .int .i64 0, .string { data := #[] }, .int .i64 1, .int .i64 1, .string { data := #[] }, .int .i64 0, .string { data := #[] }, .string { data := #[] }, .slice none 0 0]
          have hbw3 : Below w.heap.size w (w3.setRow (w.heap.size + 1) #[.int .i64 1, .int .i64 0, .int .i64 0, .string { data := #[] }, .int .i64 1, .int .i64 1, .string { data := #[] }, .int .i64 0, .string { data := #[] }, .string { data := #[] }, .slice none 0 0]) := below_setRow (hbw'.th hb3) (by omega) _
          clear hb3
          go_wp2_with (refine wpList_store_row rfl 32 _ _ rfl (w.heap.size + 1) _ rfl rfl 32 _ hr2 (by kernel_rfl : (Try.prog.info? 32).map (·.size) = some 11) rfl (by kernel_rfl) ?_)
          have cR := hr3.cell
          clear hr2
          refine bodyPost_ret (v := ?_) ?_ rfl ?_
          rotate_left
          · simp [results, Try.results64, go_sem, cR]; exact rfl
          rw [HR.out]
          exact ⟨⟨_, rfl, leaf_t _ _⟩, hbw3⟩
        · rw [h1]
          cases bb with
          | false =>
            have HE : Hid (false = (ks.take (j + 1)).all (fun k => isLit k.hd (1 - 1)) ∧ (ks.take (j + 1)).any (fun k => isLit k.hd 1) = false) := Lib.hid ⟨by rw [HT.out, ← HA.out.1]; rfl, by rw [HN.out, HA.out.2, h1]; rfl⟩
            clear h1 HO HN HT HA HJ HD
            go_wp2_with fail
            go_roundw
            case rel => exact ⟨j + 1, false, by omega, by go_num, rfl, HE, hx', hr', hbw', by omega⟩
            case measure => simp [intOf]; omega
          | true =>
            have HE : Hid (isLit hk' (1 - 1) = (ks.take (j + 1)).all (fun k => isLit k.hd (1 - 1)) ∧ (ks.take (j + 1)).any (fun k => isLit k.hd 1) = false) := Lib.hid ⟨by rw [HT.out, ← HA.out.1]; rfl, by rw [HN.out, HA.out.2, h1]; rfl⟩
            clear h1 HO HN HT HA HJ HD
            have ck2 := hkb.cell
            go_wp2_with fail
            refine (is_any hk' Ak n' ck _ _).mono ?_
            rintro r w3 ⟨rfl, hb3⟩
            replace hx' := hx'.below hb3
            replace hr' := hr'.below hb3
            replace hbw' := hbw'.th hb3
            have hs3 := hb3.size
            clear hb3 ck2 hkb
            go_wp2_with fail
            go_roundw
            case rel => exact ⟨j + 1, _, by omega, by go_num, rfl, HE, hx', hr', hbw', by omega⟩
            case measure => simp [intOf]; omega
      · have hj : j = ks.length := by omega
        subst hj
        have hat := HA.out
        rw [List.take_of_length_le (Nat.le_refl _)] at hat
        obtain ⟨ha1, ha2⟩ := hat
        clear HA
        have hr' := hr
        have hbw' := hbw
        cases bb with
        | true =>
          have hR : R = .mk (litB false) [] := by rw [HJ.out, if_neg (by rw [ha2]; decide), if_pos ha1.symm]; rfl
          have HR := Lib.hid hR
          clear hR HJ ha1 ha2 hA hrow hk hsz
          go_wp2_with fail
          refine (literal_f _).mono ?_
          rintro r w3 ⟨rfl, hb3⟩
          have hr2 := hr'.below hb3
          have hr3 := hr2.setRow #[.int .i64 1, .int .i64 0, .int .i64 0, .string { data := #[] }, .int .i64 1, .int .i64 0, .string { data := #[] }, .int .i64 0, .string { data := #[] }, .string { data := #[] }, .slice none 0 0]
          have hbw3 : Below w.heap.size w (w3.setRow (w.heap.size + 1) #[.int .i64 1, .int .i64 0, .int .i64 0, .string { data := #[] }, .int .i64 1, .int .i64 0, .string { data := #[] }, .int .i64 0, .string { data := #[] }, .string { data := #[] }, .slice none 0 0]) := below_setRow (hbw'.th hb3) (by omega) _
          clear hb3
          go_wp2_with (refine wpList_store_row rfl 32 _ _ rfl (w.heap.size + 1) _ rfl rfl 32 _ hr2 (by kernel_rfl : (Try.prog.info? 32).map (·.size) = some 11) rfl (by kernel_rfl) ?_)
          have cR := hr3.cell
          clear hr2
          refine bodyPost_ret (v := ?_) ?_ rfl ?_
          rotate_left
          · simp [results, Try.results64, go_sem, cR]; exact rfl
          rw [HR.out]
          exact ⟨⟨_, rfl, leaf_f _ _⟩, hbw3⟩
        | false =>
          have hR : R = .mk hd ks := by rw [HJ.out, if_neg (by rw [ha2]; decide), if_neg (by rw [← ha1]; decide)]
          have HR := Lib.hid hR
          clear hR HJ ha1 ha2 hA hrow hk hsz hr hbw
          have hr3 := hr'.setRow #[.int .i64 hd.kind, .int .i64 hd.n, .int .i64 hd.m, .string hd.name, .int .i64 hd.vk, .int .i64 hd.vn, .string hd.vs, .int .i64 hd.dev, .string hd.cl, .string hd.at_, .slice A ks.length c]
          have hbw3 : Below w.heap.size w (wr.setRow (w.heap.size + 1) #[.int .i64 hd.kind, .int .i64 hd.n, .int .i64 hd.m, .string hd.name, .int .i64 hd.vk, .int .i64 hd.vn, .string hd.vs, .int .i64 hd.dev, .string hd.cl, .string hd.at_, .slice A ks.length c]) := below_setRow hbw' (by omega) _
          have he3 := hx0.carry (w' := wr.setRow (w.heap.size + 1) #[.int .i64 hd.kind, .int .i64 hd.n, .int .i64 hd.m, .string hd.name, .int .i64 hd.vk, .int .i64 hd.vn, .string hd.vs, .int .i64 hd.dev, .string hd.cl, .string hd.at_, .slice A ks.length c]) (fun b hb hl => (setRow_other _ _ _ _ (by omega)).trans (hbw'.block b hl))
          have cx := hx.cell
          go_wp2_with (refine wpList_store_row rfl 32 _ _ rfl (w.heap.size + 1) _ rfl rfl 32 _ hr' (by kernel_rfl : (Try.prog.info? 32).map (·.size) = some 11) rfl (cells_one hd A ks.length c) ?_)
          have cR := hr3.cell
          clear hr' cx
          refine bodyPost_ret (v := ?_) ?_ rfl ?_
          rotate_left
          · simp [results, Try.results64, go_sem, cR]; exact rfl
          rw [HR.out]
          exact ⟨⟨_, rfl, _, rfl, he3⟩, hbw3⟩
end

end Go.Proofs.Ytnelgblmogciiaa
