/- Folding: an operation on two literals. -/
import Derived.Test.YtnelgblmogciiaaFoldA
import Derived.Test.YtnelgblmogciiaaFindZ
import Derived.Deep.RegionHeld3
import Derived.Deep.DeepCutAuto
set_option linter.unusedSimpArgs false
set_option linter.unusedVariables false
namespace Go.Proofs.Ytnelgblmogciiaa
open Go.RowKit


def eqV (a b : Hd) : Bool := decide (a.vk = b.vk ∧ a.vn = b.vn ∧ a.vs = b.vs)
def numH (n : Int) : Hd := ⟨1, 0, 0, noStr, 2, n, noStr, 0, noStr, noStr⟩
/-- An operation on two literals, folded. -/
def binF (h : Hd) (a b : LExpr) : LExpr :=
  if h.kind = 9 then (if a.hd.kind = 1 ∧ b.hd.kind = 1 then .mk (litB (eqV a.hd b.hd)) [] else .mk h [a, b])
  else if isNum a.hd = false ∨ isNum b.hd = false then .mk h [a, b]
  else if h.kind = 10 then .mk (litB (decide (a.hd.vn < b.hd.vn))) []
  else .mk (numH (if h.kind = 11 then satI (a.hd.vn + b.hd.vn) else if h.kind = 12 then satI (a.hd.vn - b.hd.vn) else satI (a.hd.vn * b.hd.vn))) []
theorem binF_eq (h : Hd) (a b : LExpr) : binF h a b = if h.kind = 9 then (if a.hd.kind = 1 ∧ b.hd.kind = 1 then .mk (litB (eqV a.hd b.hd)) [] else .mk h [a, b])
  else if isNum a.hd = false ∨ isNum b.hd = false then .mk h [a, b]
  else if h.kind = 10 then .mk (litB (decide (a.hd.vn < b.hd.vn))) []
  else .mk (numH (if h.kind = 11 then satI (a.hd.vn + b.hd.vn) else if h.kind = 12 then satI (a.hd.vn - b.hd.vn) else satI (a.hd.vn * b.hd.vn))) [] := rfl
theorem kd9 (k : Int) : (k == 9) = true ∨ (k == 9) = false ∧ k ≠ 9 := by
  by_cases h : k = 9
  · exact .inl (by simpa using h)
  · exact .inr ⟨by simpa using h, h⟩
theorem okP {ok : Nat → Prop} {w : World} {e : LExpr} {cs : List Value} (h : IsExprP ok w e cs) {hd : Hd} {n : Nat} {A : Option Addr} {c : Nat} (hc : cs = hd.cells (.slice A n c)) : I64 hd.vn := by
  have e1 := hd_of h hc
  cases h with
  | mk h ks A' c' b off cs' hok hlen hA hsz hrow hk => rw [← e1]; exact hok.vn

theorem kd10 (k : Int) : ((k == 10) = true ∧ k = 10) ∨ ((k == 10) = false ∧ (k == 11) = true ∧ k = 11 ∧ ¬ k = 10) ∨ ((k == 10) = false ∧ (k == 11) = false ∧ (k == 12) = true ∧ k = 12 ∧ ¬ k = 11 ∧ ¬ k = 10) ∨ ((k == 10) = false ∧ (k == 11) = false ∧ (k == 12) = false ∧ ¬ k = 12 ∧ ¬ k = 11 ∧ ¬ k = 10) := by
  simp only [beq_iff_eq, beq_eq_false_iff_ne]; omega
theorem numH_ok {n : Int} (h : I64 n) : (numH n).ok := by constructor <;> first | exact h | (unfold I64 numH; simp)
theorem FB.row {B : Nat} {W0 W : World} (h : FB B W0 W) {g : Nat} (hB : B ≤ g) (C : Array Value) : FB B W0 (W.setRow g C) := ⟨below_setRow h.1 hB C, by simpa using h.2⟩
theorem yields_load_at {P : Program} {o : Oper} {a : Act} {w : World} (ty : TypeId) (x : Operand) (ho : o.op = .load ty x) (b off : Nat) (hx : a.eval x = .pointer (some ⟨b, off, none⟩)) (cs : List Value) (d : TypeDesc) (h : RowAt w b off cs)
    (hu : P.underlying ty = some d) (hd : (match d with | .struct _ | .array _ _ => true | _ => false) = true) (hi : (P.info? ty).map (·.size) = some cs.length) : (execOp a.eval o).run P w = .ok (.value (.agg cs.toArray)) w := by
  unfold execOp
  simp only [ho, hx, Instr.loadAt, Instr.sureAddr, Sem.run_bind, Sem.run_pure, Result.andThen_ok, run_loadVar_at w b off ty cs d h hu hd hi]
theorem FB.cells {B : Nat} {W0 W : World} (h : FB B W0 W) {g : Nat} (hB : B ≤ g) : ∀ (o : Nat) (cs : List Value), FB B W0 (W.setCells g o cs)
  | o, [] => h
  | o, c :: cs => FB.cells (h.far hB o c) hB (o + 1) cs

set_option maxRecDepth 100000 in
set_option maxHeartbeats 4000000 in
theorem binary_any (k0 k1 : LExpr) (hd : Hd) (v : Value) (ok : Nat → Prop) (w : World) (h0 : ∀ b, w.heap.size ≤ b → ok b) (hx : Ex ok (.mk hd [k0, k1]) v w) :
    Calls Try.prog 65 #[v] w (RetEx ok (binF hd k0 k1) w) := by
  obtain ⟨cs, rfl, he⟩ := hx
  have hx0 := he
  cases he with
  | mk _ _ A c b off cs hok hlen hA hsz hrow hk =>
  obtain ⟨rfl, hbB⟩ := hA (by simp)
  have hr0 := hrow 0 (by simp)
  have hr1 := hrow 1 (by simp)
  obtain ⟨ha, na, Aa, ca, ea⟩ := (hk 0 (by simp)).form
  obtain ⟨hb, nb, Ab, cb, eb⟩ := (hk 1 (by simp)).form
  have hbl := rowAt_lt hr0 (by rw [hsz]; omega)
  rw [ea] at hr0
  rw [eb] at hr1
  simp only [Nat.zero_mul, Nat.one_mul, Nat.add_zero] at hr0 hr1
  clear hA hrow
  simp only [List.length_cons, List.length_nil, Nat.reduceAdd] at hx0 ⊢
  unfold Hd.cells at hx0 hr0 hr1 ⊢
  go_enter Try.func65, Try.ntmps65
  go_upto_region 1 with fail
  have hb1 : Below w.heap.size w ((w.alloc (.cells #[.int .i64 hd.kind, .int .i64 hd.n, .int .i64 hd.m, .string hd.name, .int .i64 hd.vk, .int .i64 hd.vn, .string hd.vs, .int .i64 hd.dev, .string hd.cl, .string hd.at_, .slice (some ⟨b, off, none⟩) 2 c] 32)).alloc (.cells #[.int .i64 0, .int .i64 0, .int .i64 0, .string { data := #[] }, .int .i64 0, .int .i64 0, .string { data := #[] }, .int .i64 0, .string { data := #[] }, .string { data := #[] }, .slice none 0 0] 32)) := ((Below.refl _ _).al _).al _
  have hx1 : Blk ((w.alloc (.cells #[.int .i64 hd.kind, .int .i64 hd.n, .int .i64 hd.m, .string hd.name, .int .i64 hd.vk, .int .i64 hd.vn, .string hd.vs, .int .i64 hd.dev, .string hd.cl, .string hd.at_, .slice (some ⟨b, off, none⟩) 2 c] 32)).alloc (.cells #[.int .i64 0, .int .i64 0, .int .i64 0, .string { data := #[] }, .int .i64 0, .int .i64 0, .string { data := #[] }, .int .i64 0, .string { data := #[] }, .string { data := #[] }, .slice none 0 0] 32)) w.heap.size 32 #[.int .i64 hd.kind, .int .i64 hd.n, .int .i64 hd.m, .string hd.name, .int .i64 hd.vk, .int .i64 hd.vn, .string hd.vs, .int .i64 hd.dev, .string hd.cl, .string hd.at_, .slice (some ⟨b, off, none⟩) 2 c] := (Blk.new _ _ _).alloc _
  have hrr : Blk ((w.alloc (.cells #[.int .i64 hd.kind, .int .i64 hd.n, .int .i64 hd.m, .string hd.name, .int .i64 hd.vk, .int .i64 hd.vn, .string hd.vs, .int .i64 hd.dev, .string hd.cl, .string hd.at_, .slice (some ⟨b, off, none⟩) 2 c] 32)).alloc (.cells #[.int .i64 0, .int .i64 0, .int .i64 0, .string { data := #[] }, .int .i64 0, .int .i64 0, .string { data := #[] }, .int .i64 0, .string { data := #[] }, .string { data := #[] }, .slice none 0 0] 32)) (w.heap.size + 1) 32 zero11 := Blk.at1 _ _ _ _
  have hs1 : w.heap.size + 2 = ((w.alloc (.cells #[.int .i64 hd.kind, .int .i64 hd.n, .int .i64 hd.m, .string hd.name, .int .i64 hd.vk, .int .i64 hd.vn, .string hd.vs, .int .i64 hd.dev, .string hd.cl, .string hd.at_, .slice (some ⟨b, off, none⟩) 2 c] 32)).alloc (.cells #[.int .i64 0, .int .i64 0, .int .i64 0, .string { data := #[] }, .int .i64 0, .int .i64 0, .string { data := #[] }, .int .i64 0, .string { data := #[] }, .string { data := #[] }, .slice none 0 0] 32)).heap.size := by simp
  generalize ((w.alloc (.cells #[.int .i64 hd.kind, .int .i64 hd.n, .int .i64 hd.m, .string hd.name, .int .i64 hd.vk, .int .i64 hd.vn, .string hd.vs, .int .i64 hd.dev, .string hd.cl, .string hd.at_, .slice (some ⟨b, off, none⟩) 2 c] 32)).alloc (.cells #[.int .i64 0, .int .i64 0, .int .i64 0, .string { data := #[] }, .int .i64 0, .int .i64 0, .string { data := #[] }, .int .i64 0, .string { data := #[] }, .string { data := #[] }, .slice none 0 0] 32)) = WA at *
  have own_all : ∀ w', FB WA.heap.size WA w' → (fun w' : World => w'.cell? ⟨w.heap.size, 10, none⟩ = some (.slice (some ⟨b, off, none⟩) 2 c) ∧ w'.rangeAt b off [.int .i64 ha.kind, .int .i64 ha.n, .int .i64 ha.m, .string ha.name, .int .i64 ha.vk, .int .i64 ha.vn, .string ha.vs, .int .i64 ha.dev, .string ha.cl, .string ha.at_, .slice Aa na ca] ∧ w'.rangeAt b (off + 11) [.int .i64 hb.kind, .int .i64 hb.n, .int .i64 hb.m, .string hb.name, .int .i64 hb.vk, .int .i64 hb.vn, .string hb.vs, .int .i64 hb.dev, .string hb.cl, .string hb.at_, .slice Ab nb cb] ∧ FB WA.heap.size WA w') w' := fun w' hO => ⟨(hO.1.cell (p := ⟨w.heap.size, 10, none⟩) hx1.lt).trans (hx1.cell 10), (hr0.below hb1 hbl).below hO.1 (by omega), (hr1.below hb1 hbl).below hO.1 (by omega), hO⟩
  have hO0 : FB WA.heap.size WA WA := ⟨Below.refl _ _, Nat.le_refl _⟩
  have hu := Try.underlying32
  have hia : (Try.prog.info? 32).map (·.size) = some ([.int .i64 ha.kind, .int .i64 ha.n, .int .i64 ha.m, .string ha.name, .int .i64 ha.vk, .int .i64 ha.vn, .string ha.vs, .int .i64 ha.dev, .string ha.cl, .string ha.at_, .slice Aa na ca] : List Value).length := by kernel_rfl
  have hib : (Try.prog.info? 32).map (·.size) = some ([.int .i64 hb.kind, .int .i64 hb.n, .int .i64 hb.m, .string hb.name, .int .i64 hb.vk, .int .i64 hb.vn, .string hb.vs, .int .i64 hb.dev, .string hb.cl, .string hb.at_, .slice Ab nb cb] : List Value).length := by kernel_rfl
  go_cut [3, 4] (fun s3 s4 wx => ∃ ga gb : Nat, s3 = .pointer (some ⟨ga, 0, none⟩) ∧ s4 = .pointer (some ⟨gb, 0, none⟩) ∧ Blk wx ga 32 #[.int .i64 ha.kind, .int .i64 ha.n, .int .i64 ha.m, .string ha.name, .int .i64 ha.vk, .int .i64 ha.vn, .string ha.vs, .int .i64 ha.dev, .string ha.cl, .string ha.at_, .slice Aa na ca] ∧ Blk wx gb 32 #[.int .i64 hb.kind, .int .i64 hb.n, .int .i64 hb.m, .string hb.name, .int .i64 hb.vk, .int .i64 hb.vn, .string hb.vs, .int .i64 hb.dev, .string hb.cl, .string hb.at_, .slice Ab nb cb] ∧ FB WA.heap.size WA wx)
  case first =>
    refine wp_region_held_drew (S := fun w' => FB WA.heap.size WA w') (by kernel_rfl) (FB.dr hO0) (fun hHeld => ?_)
    refine wpAnyH_take (i := 0) (oi := { dst := some 8, op := Op.fieldAddr 32 (Operand.tmp 1) 6, type := 0, pos := "expr.go:234", after := #[], guard := none }) (v := .pointer (some ⟨w.heap.size, 10, none⟩)) rfl (by kernel_rfl) (by kernel_rfl) (by kernel_rfl) (fun _ _ _ h => h) (Or.inl ⟨rfl, ?_⟩) hHeld ?_
    · intro w' hS
      go_simp
    simp only [Act.put, List.setIfInBounds_toArray, List.set_cons_zero, List.set_cons_succ]
    refine wpAnyH_take (i := 1) (oi := { dst := some 9, op := Op.load 30 (Operand.tmp 8), type := 30, pos := "expr.go:234", after := #[{ on := 0, ground := Ground.data }], guard := none }) (v := .slice (some ⟨b, off, none⟩) 2 c) rfl (by kernel_rfl) (by kernel_rfl) (by kernel_rfl) (fun _ _ _ h => h) (Or.inl ⟨rfl, ?_⟩) hHeld ?_
    · intro w' hS
      (have cx := (own_all _ hS).1; go_simp)
    simp only [Act.put, List.setIfInBounds_toArray, List.set_cons_zero, List.set_cons_succ]
    refine wpAnyH_take (i := 2) (oi := { dst := some 10, op := Op.indexAddr 30 (Operand.tmp 9) (Operand.const (Value.int IntKind.i64 0)), type := 0, pos := "expr.go:234", after := #[{ on := 1, ground := Ground.data }], guard := none }) (v := .pointer (some ⟨b, off, none⟩)) rfl (by kernel_rfl) (by kernel_rfl) (by kernel_rfl) (fun _ _ _ h => h) (Or.inl ⟨rfl, ?_⟩) hHeld ?_
    · intro w' hS
      go_simp
    simp only [Act.put, List.setIfInBounds_toArray, List.set_cons_zero, List.set_cons_succ]
    refine wpAnyH_take (i := 3) (oi := { dst := some 11, op := Op.load 32 (Operand.tmp 10), type := 32, pos := "expr.go:234", after := #[{ on := 2, ground := Ground.data }], guard := none }) (v := .agg #[.int .i64 ha.kind, .int .i64 ha.n, .int .i64 ha.m, .string ha.name, .int .i64 ha.vk, .int .i64 ha.vn, .string ha.vs, .int .i64 ha.dev, .string ha.cl, .string ha.at_, .slice Aa na ca]) rfl (by kernel_rfl) (by kernel_rfl) (by kernel_rfl) (fun _ _ _ h => h) (Or.inl ⟨rfl, ?_⟩) hHeld ?_
    · intro w' hS
      (exact yields_load_at 32 _ rfl b off rfl [.int .i64 ha.kind, .int .i64 ha.n, .int .i64 ha.m, .string ha.name, .int .i64 ha.vk, .int .i64 ha.vn, .string ha.vs, .int .i64 ha.dev, .string ha.cl, .string ha.at_, .slice Aa na ca] _ (own_all _ hS).2.1 Try.underlying32 rfl hia)
    simp only [Act.put, List.setIfInBounds_toArray, List.set_cons_zero, List.set_cons_succ]
    refine wpAnyH_take (i := 4) (oi := { dst := some 12, op := Op.fieldAddr 32 (Operand.tmp 1) 6, type := 0, pos := "expr.go:234", after := #[{ on := 10, ground := Ground.gcOnly Departure.lateStores }], guard := none }) (v := .pointer (some ⟨w.heap.size, 10, none⟩)) rfl (by kernel_rfl) (by kernel_rfl) (by kernel_rfl) (fun _ _ _ h => h) (Or.inl ⟨rfl, ?_⟩) hHeld ?_
    · intro w' hS
      go_simp
    simp only [Act.put, List.setIfInBounds_toArray, List.set_cons_zero, List.set_cons_succ]
    refine wpAnyH_take (i := 5) (oi := { dst := some 13, op := Op.load 30 (Operand.tmp 12), type := 30, pos := "expr.go:234", after := #[{ on := 4, ground := Ground.data }, { on := 10, ground := Ground.gcOnly Departure.lateStores }], guard := none }) (v := .slice (some ⟨b, off, none⟩) 2 c) rfl (by kernel_rfl) (by kernel_rfl) (by kernel_rfl) (fun _ _ _ h => h) (Or.inl ⟨rfl, ?_⟩) hHeld ?_
    · intro w' hS
      (have cx := (own_all _ hS).1; go_simp)
    simp only [Act.put, List.setIfInBounds_toArray, List.set_cons_zero, List.set_cons_succ]
    refine wpAnyH_take (i := 6) (oi := { dst := some 14, op := Op.indexAddr 30 (Operand.tmp 13) (Operand.const (Value.int IntKind.i64 1)), type := 0, pos := "expr.go:234", after := #[{ on := 5, ground := Ground.data }, { on := 10, ground := Ground.gcOnly Departure.lateStores }], guard := none }) (v := .pointer (some ⟨b, off + 11, none⟩)) rfl (by kernel_rfl) (by kernel_rfl) (by kernel_rfl) (fun _ _ _ h => h) (Or.inl ⟨rfl, ?_⟩) hHeld ?_
    · intro w' hS
      go_simp
    simp only [Act.put, List.setIfInBounds_toArray, List.set_cons_zero, List.set_cons_succ]
    refine wpAnyH_take (i := 7) (oi := { dst := some 15, op := Op.load 32 (Operand.tmp 14), type := 32, pos := "expr.go:234", after := #[{ on := 6, ground := Ground.data }, { on := 10, ground := Ground.gcOnly Departure.lateStores }], guard := none }) (v := .agg #[.int .i64 hb.kind, .int .i64 hb.n, .int .i64 hb.m, .string hb.name, .int .i64 hb.vk, .int .i64 hb.vn, .string hb.vs, .int .i64 hb.dev, .string hb.cl, .string hb.at_, .slice Ab nb cb]) rfl (by kernel_rfl) (by kernel_rfl) (by kernel_rfl) (fun _ _ _ h => h) (Or.inl ⟨rfl, ?_⟩) hHeld ?_
    · intro w' hS
      (exact yields_load_at 32 _ rfl b (off + 11) rfl [.int .i64 hb.kind, .int .i64 hb.n, .int .i64 hb.m, .string hb.name, .int .i64 hb.vk, .int .i64 hb.vn, .string hb.vs, .int .i64 hb.dev, .string hb.cl, .string hb.at_, .slice Ab nb cb] _ (own_all _ hS).2.2.1 Try.underlying32 rfl hib)
    simp only [Act.put, List.setIfInBounds_toArray, List.set_cons_zero, List.set_cons_succ]
    clear own_all
    refine wpAnyH_ready (rs := [8, 9]) (by kernel_rfl) (by simp) ?_
    refine AllReadyH.cons (o := { dst := some 3, op := Op.alloc 32, type := 0, pos := "expr.go:234", after := #[], guard := none }) rfl (fun K hK => ?_) ?_
    · go_simp
      refine hK.out _ _ (by ((repeat (first | assumption | refine FB.dr ?_ | refine FB.al ?_ _ | refine FB.th ?_ (by assumption) | refine FB.far ?_ (by omega) _ _ | refine FB.cells ?_ (by first | exact Nat.le_refl _ | omega | (simp; omega)) _ _)); done)) (fun hHeld => ?_)
      clear hK K
      try simp only [Act.put, List.setIfInBounds_toArray, List.set_cons_zero, List.set_cons_succ]
      have hz1 := Blk.nx (w := WA.drew) (g := WA.heap.size) 32 zero11 rfl
      refine wpAnyH_ready (rs := [9]) (by kernel_rfl) (by simp) ?_
      refine AllReadyH.cons (o := { dst := some 4, op := Op.alloc 32, type := 0, pos := "expr.go:234", after := #[], guard := none }) rfl (fun K hK => ?_) AllReadyH.nil
      go_simp
      refine hK.out _ _ (by ((repeat (first | assumption | refine FB.dr ?_ | refine FB.al ?_ _ | refine FB.th ?_ (by assumption) | refine FB.far ?_ (by omega) _ _ | refine FB.cells ?_ (by first | exact Nat.le_refl _ | omega | (simp; omega)) _ _)); done)) (fun hHeld => ?_)
      clear hK K
      try simp only [Act.put, List.setIfInBounds_toArray, List.set_cons_zero, List.set_cons_succ]
      have hz1' := hz1.alloc (.cells #[.int .i64 0, .int .i64 0, .int .i64 0, .string { data := #[] }, .int .i64 0, .int .i64 0, .string { data := #[] }, .int .i64 0, .string { data := #[] }, .string { data := #[] }, .slice none 0 0] 32)
      have hz2 := Blk.nx (w := WA.drew.alloc (.cells #[.int .i64 0, .int .i64 0, .int .i64 0, .string { data := #[] }, .int .i64 0, .int .i64 0, .string { data := #[] }, .int .i64 0, .string { data := #[] }, .string { data := #[] }, .slice none 0 0] 32)) (g := WA.heap.size + 1) 32 zero11 (by simp)
      refine wpAnyH_ready (rs := [10]) (by kernel_rfl) (by simp) ?_
      refine AllReadyH.cons (o := { dst := none, op := Op.store 32 (Operand.tmp 3) (Operand.tmp 11), type := 0, pos := "expr.go:234", after := #[{ on := 8, ground := Ground.data }, { on := 3, ground := Ground.data }, { on := 0, ground := Ground.phase }, { on := 1, ground := Ground.phase }, { on := 2, ground := Ground.phase }, { on := 3, ground := Ground.phase }, { on := 4, ground := Ground.textOnly Departure.lateStores }, { on := 5, ground := Ground.textOnly Departure.lateStores }, { on := 6, ground := Ground.textOnly Departure.lateStores }, { on := 7, ground := Ground.textOnly Departure.lateStores }, { on := 8, ground := Ground.phase }, { on := 9, ground := Ground.phase }], guard := none }) rfl (fun K hK => ?_) AllReadyH.nil
      refine take_op rfl ?_
      refine wp_store_row 32 _ _ rfl (WA.heap.size) _ rfl rfl 32 _ hz1' (by kernel_rfl : (Try.prog.info? 32).map (·.size) = some 11) rfl (cells_one ha Aa na ca) ?_
      refine hK.out _ _ (FB.row hHeld (by omega) _) (fun hHeld => ?_)
      clear hK K
      try simp only [Act.put, List.setIfInBounds_toArray, List.set_cons_zero, List.set_cons_succ]
      have hz3 := Blk.setRow hz1' #[.int .i64 ha.kind, .int .i64 ha.n, .int .i64 ha.m, .string ha.name, .int .i64 ha.vk, .int .i64 ha.vn, .string ha.vs, .int .i64 ha.dev, .string ha.cl, .string ha.at_, .slice Aa na ca]
      have hz4 := Blk.apart hz2 (g' := WA.heap.size) #[.int .i64 ha.kind, .int .i64 ha.n, .int .i64 ha.m, .string ha.name, .int .i64 ha.vk, .int .i64 ha.vn, .string ha.vs, .int .i64 ha.dev, .string ha.cl, .string ha.at_, .slice Aa na ca] (by omega)
      refine wpAnyH_ready (rs := [11]) (by kernel_rfl) (by simp) ?_
      refine AllReadyH.cons (o := { dst := none, op := Op.store 32 (Operand.tmp 4) (Operand.tmp 15), type := 0, pos := "expr.go:234", after := #[{ on := 9, ground := Ground.data }, { on := 7, ground := Ground.data }, { on := 10, ground := Ground.chain }, { on := 0, ground := Ground.phase }, { on := 1, ground := Ground.phase }, { on := 2, ground := Ground.phase }, { on := 3, ground := Ground.phase }, { on := 4, ground := Ground.phase }, { on := 5, ground := Ground.phase }, { on := 6, ground := Ground.phase }, { on := 7, ground := Ground.phase }, { on := 8, ground := Ground.phase }, { on := 9, ground := Ground.phase }, { on := 10, ground := Ground.phase }], guard := none }) rfl (fun K hK => ?_) AllReadyH.nil
      refine take_op rfl ?_
      refine wp_store_row 32 _ _ rfl (WA.heap.size + 1) _ rfl rfl 32 _ hz4 (by kernel_rfl : (Try.prog.info? 32).map (·.size) = some 11) rfl (cells_one hb Ab nb cb) ?_
      refine hK.out _ _ (FB.row hHeld (by omega) _) (fun hHeld => ?_)
      clear hK K
      try simp only [Act.put, List.setIfInBounds_toArray, List.set_cons_zero, List.set_cons_succ]
      have hz5 := Blk.setRow hz4 #[.int .i64 hb.kind, .int .i64 hb.n, .int .i64 hb.m, .string hb.name, .int .i64 hb.vk, .int .i64 hb.vn, .string hb.vs, .int .i64 hb.dev, .string hb.cl, .string hb.at_, .slice Ab nb cb]
      have hz6 := Blk.apart hz3 (g' := WA.heap.size + 1) #[.int .i64 hb.kind, .int .i64 hb.n, .int .i64 hb.m, .string hb.name, .int .i64 hb.vk, .int .i64 hb.vn, .string hb.vs, .int .i64 hb.dev, .string hb.cl, .string hb.at_, .slice Ab nb cb] (by omega)
      refine wpAnyH_done (by kernel_rfl) ?_ _
      go_wp2_with fail
      go_meet
      exact ⟨_, _, rfl, rfl, hz6, hz5, hHeld⟩
    refine AllReadyH.cons (o := { dst := some 4, op := Op.alloc 32, type := 0, pos := "expr.go:234", after := #[], guard := none }) rfl (fun K hK => ?_) AllReadyH.nil
    · go_simp
      refine hK.out _ _ (by ((repeat (first | assumption | refine FB.dr ?_ | refine FB.al ?_ _ | refine FB.th ?_ (by assumption) | refine FB.far ?_ (by omega) _ _ | refine FB.cells ?_ (by first | exact Nat.le_refl _ | omega | (simp; omega)) _ _)); done)) (fun hHeld => ?_)
      clear hK K
      try simp only [Act.put, List.setIfInBounds_toArray, List.set_cons_zero, List.set_cons_succ]
      have hz1 := Blk.nx (w := WA.drew) (g := WA.heap.size) 32 zero11 rfl
      refine wpAnyH_ready (rs := [8]) (by kernel_rfl) (by simp) ?_
      refine AllReadyH.cons (o := { dst := some 3, op := Op.alloc 32, type := 0, pos := "expr.go:234", after := #[], guard := none }) rfl (fun K hK => ?_) AllReadyH.nil
      go_simp
      refine hK.out _ _ (by ((repeat (first | assumption | refine FB.dr ?_ | refine FB.al ?_ _ | refine FB.th ?_ (by assumption) | refine FB.far ?_ (by omega) _ _ | refine FB.cells ?_ (by first | exact Nat.le_refl _ | omega | (simp; omega)) _ _)); done)) (fun hHeld => ?_)
      clear hK K
      try simp only [Act.put, List.setIfInBounds_toArray, List.set_cons_zero, List.set_cons_succ]
      have hz1' := hz1.alloc (.cells #[.int .i64 0, .int .i64 0, .int .i64 0, .string { data := #[] }, .int .i64 0, .int .i64 0, .string { data := #[] }, .int .i64 0, .string { data := #[] }, .string { data := #[] }, .slice none 0 0] 32)
      have hz2 := Blk.nx (w := WA.drew.alloc (.cells #[.int .i64 0, .int .i64 0, .int .i64 0, .string { data := #[] }, .int .i64 0, .int .i64 0, .string { data := #[] }, .int .i64 0, .string { data := #[] }, .string { data := #[] }, .slice none 0 0] 32)) (g := WA.heap.size + 1) 32 zero11 (by simp)
      refine wpAnyH_ready (rs := [10]) (by kernel_rfl) (by simp) ?_
      refine AllReadyH.cons (o := { dst := none, op := Op.store 32 (Operand.tmp 3) (Operand.tmp 11), type := 0, pos := "expr.go:234", after := #[{ on := 8, ground := Ground.data }, { on := 3, ground := Ground.data }, { on := 0, ground := Ground.phase }, { on := 1, ground := Ground.phase }, { on := 2, ground := Ground.phase }, { on := 3, ground := Ground.phase }, { on := 4, ground := Ground.textOnly Departure.lateStores }, { on := 5, ground := Ground.textOnly Departure.lateStores }, { on := 6, ground := Ground.textOnly Departure.lateStores }, { on := 7, ground := Ground.textOnly Departure.lateStores }, { on := 8, ground := Ground.phase }, { on := 9, ground := Ground.phase }], guard := none }) rfl (fun K hK => ?_) AllReadyH.nil
      refine take_op rfl ?_
      refine wp_store_row 32 _ _ rfl (WA.heap.size + 1) _ rfl rfl 32 _ hz2 (by kernel_rfl : (Try.prog.info? 32).map (·.size) = some 11) rfl (cells_one ha Aa na ca) ?_
      refine hK.out _ _ (FB.row hHeld (by omega) _) (fun hHeld => ?_)
      clear hK K
      try simp only [Act.put, List.setIfInBounds_toArray, List.set_cons_zero, List.set_cons_succ]
      have hz3 := Blk.setRow hz2 #[.int .i64 ha.kind, .int .i64 ha.n, .int .i64 ha.m, .string ha.name, .int .i64 ha.vk, .int .i64 ha.vn, .string ha.vs, .int .i64 ha.dev, .string ha.cl, .string ha.at_, .slice Aa na ca]
      have hz4 := Blk.apart hz1' (g' := WA.heap.size + 1) #[.int .i64 ha.kind, .int .i64 ha.n, .int .i64 ha.m, .string ha.name, .int .i64 ha.vk, .int .i64 ha.vn, .string ha.vs, .int .i64 ha.dev, .string ha.cl, .string ha.at_, .slice Aa na ca] (by omega)
      refine wpAnyH_ready (rs := [11]) (by kernel_rfl) (by simp) ?_
      refine AllReadyH.cons (o := { dst := none, op := Op.store 32 (Operand.tmp 4) (Operand.tmp 15), type := 0, pos := "expr.go:234", after := #[{ on := 9, ground := Ground.data }, { on := 7, ground := Ground.data }, { on := 10, ground := Ground.chain }, { on := 0, ground := Ground.phase }, { on := 1, ground := Ground.phase }, { on := 2, ground := Ground.phase }, { on := 3, ground := Ground.phase }, { on := 4, ground := Ground.phase }, { on := 5, ground := Ground.phase }, { on := 6, ground := Ground.phase }, { on := 7, ground := Ground.phase }, { on := 8, ground := Ground.phase }, { on := 9, ground := Ground.phase }, { on := 10, ground := Ground.phase }], guard := none }) rfl (fun K hK => ?_) AllReadyH.nil
      refine take_op rfl ?_
      refine wp_store_row 32 _ _ rfl (WA.heap.size) _ rfl rfl 32 _ hz4 (by kernel_rfl : (Try.prog.info? 32).map (·.size) = some 11) rfl (cells_one hb Ab nb cb) ?_
      refine hK.out _ _ (FB.row hHeld (by omega) _) (fun hHeld => ?_)
      clear hK K
      try simp only [Act.put, List.setIfInBounds_toArray, List.set_cons_zero, List.set_cons_succ]
      have hz5 := Blk.setRow hz4 #[.int .i64 hb.kind, .int .i64 hb.n, .int .i64 hb.m, .string hb.name, .int .i64 hb.vk, .int .i64 hb.vn, .string hb.vs, .int .i64 hb.dev, .string hb.cl, .string hb.at_, .slice Ab nb cb]
      have hz6 := Blk.apart hz3 (g' := WA.heap.size) #[.int .i64 hb.kind, .int .i64 hb.n, .int .i64 hb.m, .string hb.name, .int .i64 hb.vk, .int .i64 hb.vn, .string hb.vs, .int .i64 hb.dev, .string hb.cl, .string hb.at_, .slice Ab nb cb] (by omega)
      refine wpAnyH_done (by kernel_rfl) ?_ _
      go_wp2_with fail
      go_meet
      exact ⟨_, _, rfl, rfl, hz6, hz5, hHeld⟩
  case rest =>
    obtain ⟨ga, gb, rfl, rfl, hga, hgb, hfb⟩ := hcut
    have hbc : Below w.heap.size w wc := hb1.trans (hfb.1.mono (by omega))
    have hxc : Blk wc w.heap.size 32 #[.int .i64 hd.kind, .int .i64 hd.n, .int .i64 hd.m, .string hd.name, .int .i64 hd.vk, .int .i64 hd.vn, .string hd.vs, .int .i64 hd.dev, .string hd.cl, .string hd.at_, .slice (some ⟨b, off, none⟩) 2 c] := (hfb.1.block _ hx1.lt).trans hx1
    have hrc : Blk wc (w.heap.size + 1) 32 zero11 := (hfb.1.block _ hrr.lt).trans hrr
    have hea := hd_of (hk 0 (by simp)) ea
    have heb := hd_of (hk 1 (by simp)) eb
    simp only [List.getElem_cons_zero, List.getElem_cons_succ] at hea heb
    have hia64 := okP (hk 0 (by simp)) ea
    have hib64 := okP (hk 1 (by simp)) eb
    have HJ := Lib.hid (binF_eq hd k0 k1)
    rw [hea, heb] at HJ
    generalize binF hd k0 k1 = R at *
    have lxc := hxc.lt
    have lrc := hrc.lt
    have lga := hga.lt
    have lgb := hgb.lt
    have cx := hxc.cell
    have ca' := hga.cell
    have cb' := hgb.cell
    clear own_all hr0 hr1 hb1 hx1 hrr hs1 hfb hO0 hu hia hib hea heb hsz hk ea eb hbl
    rcases kd9 hd.kind with h9 | ⟨h9, h9'⟩
    · by_cases ha1 : ha.kind = 1
      · have qa : (ha.kind == 1) = true := by simpa using ha1
        by_cases hb1 : hb.kind = 1
        · have qb : (hb.kind == 1) = true := by simpa using hb1
          have hR : R = .mk (litB (eqV ha hb)) [] := by rw [HJ.out, if_pos (by simpa using h9), if_pos ⟨ha1, hb1⟩]
          clear HJ ha1 hb1
          by_cases e1 : ha.vk = hb.vk
          · by_cases e2 : ha.vn = hb.vn
            · by_cases e3 : ha.vs = hb.vs
              · have hE : eqV ha hb = true := by simp [eqV, e1, e2, e3]
                rw [hE] at hR
                have e3' : ha.vs.toList = hb.vs.toList := by rw [e3]
                have HR := Lib.hid hR
                clear hR
                go_wp2_with fail
                refine (literal_t _).mono ?_
                rintro r w3 ⟨rfl, hb3⟩
                have hr2 := hrc.below hb3
                have hr3 := hr2.setRow #[.int .i64 1, .int .i64 0, .int .i64 0, .string { data := #[] }, .int .i64 1, .int .i64 1, .string { data := #[] }, .int .i64 0, .string { data := #[] }, .string { data := #[] }, .slice none 0 0]
                have hbw3 : Below w.heap.size w (w3.setRow (w.heap.size + 1) #[.int .i64 1, .int .i64 0, .int .i64 0, .string { data := #[] }, .int .i64 1, .int .i64 1, .string { data := #[] }, .int .i64 0, .string { data := #[] }, .string { data := #[] }, .slice none 0 0]) := below_setRow (hbc.th hb3) (by omega) _
                clear hb3 cx ca' cb'
                go_wp2_with (refine wpList_store_row rfl 32 _ _ rfl (w.heap.size + 1) _ rfl rfl 32 _ hr2 (by kernel_rfl : (Try.prog.info? 32).map (·.size) = some 11) rfl (by kernel_rfl) ?_)
                have cR := hr3.cell
                clear hr2
                refine bodyPost_ret (v := ?_) ?_ rfl ?_
                rotate_left
                · simp [results, Try.results65, go_sem, cR]; exact rfl
                rw [HR.out]
                exact ⟨⟨_, rfl, leaf_t _ _⟩, hbw3⟩
              · have hE : eqV ha hb = false := by simp [eqV, e3]
                rw [hE] at hR
                have e3' : ¬ ha.vs.toList = hb.vs.toList := fun h => e3 ((toList_inj _ _).1 h)
                have HR := Lib.hid hR
                clear hR
                go_wp2_with fail
                refine (literal_f _).mono ?_
                rintro r w3 ⟨rfl, hb3⟩
                have hr2 := hrc.below hb3
                have hr3 := hr2.setRow #[.int .i64 1, .int .i64 0, .int .i64 0, .string { data := #[] }, .int .i64 1, .int .i64 0, .string { data := #[] }, .int .i64 0, .string { data := #[] }, .string { data := #[] }, .slice none 0 0]
                have hbw3 : Below w.heap.size w (w3.setRow (w.heap.size + 1) #[.int .i64 1, .int .i64 0, .int .i64 0, .string { data := #[] }, .int .i64 1, .int .i64 0, .string { data := #[] }, .int .i64 0, .string { data := #[] }, .string { data := #[] }, .slice none 0 0]) := below_setRow (hbc.th hb3) (by omega) _
                clear hb3 cx ca' cb'
                go_wp2_with (refine wpList_store_row rfl 32 _ _ rfl (w.heap.size + 1) _ rfl rfl 32 _ hr2 (by kernel_rfl : (Try.prog.info? 32).map (·.size) = some 11) rfl (by kernel_rfl) ?_)
                have cR := hr3.cell
                clear hr2
                refine bodyPost_ret (v := ?_) ?_ rfl ?_
                rotate_left
                · simp [results, Try.results65, go_sem, cR]; exact rfl
                rw [HR.out]
                exact ⟨⟨_, rfl, leaf_f _ _⟩, hbw3⟩
            · have hE : eqV ha hb = false := by simp [eqV, e2]
              rw [hE] at hR
              have HR := Lib.hid hR
              clear hR
              go_wp2_with fail
              refine (literal_f _).mono ?_
              rintro r w3 ⟨rfl, hb3⟩
              have hr2 := hrc.below hb3
              have hr3 := hr2.setRow #[.int .i64 1, .int .i64 0, .int .i64 0, .string { data := #[] }, .int .i64 1, .int .i64 0, .string { data := #[] }, .int .i64 0, .string { data := #[] }, .string { data := #[] }, .slice none 0 0]
              have hbw3 : Below w.heap.size w (w3.setRow (w.heap.size + 1) #[.int .i64 1, .int .i64 0, .int .i64 0, .string { data := #[] }, .int .i64 1, .int .i64 0, .string { data := #[] }, .int .i64 0, .string { data := #[] }, .string { data := #[] }, .slice none 0 0]) := below_setRow (hbc.th hb3) (by omega) _
              clear hb3 cx ca' cb'
              go_wp2_with (refine wpList_store_row rfl 32 _ _ rfl (w.heap.size + 1) _ rfl rfl 32 _ hr2 (by kernel_rfl : (Try.prog.info? 32).map (·.size) = some 11) rfl (by kernel_rfl) ?_)
              have cR := hr3.cell
              clear hr2
              refine bodyPost_ret (v := ?_) ?_ rfl ?_
              rotate_left
              · simp [results, Try.results65, go_sem, cR]; exact rfl
              rw [HR.out]
              exact ⟨⟨_, rfl, leaf_f _ _⟩, hbw3⟩
          · have hE : eqV ha hb = false := by simp [eqV, e1]
            rw [hE] at hR
            have HR := Lib.hid hR
            clear hR
            go_wp2_with fail
            refine (literal_f _).mono ?_
            rintro r w3 ⟨rfl, hb3⟩
            have hr2 := hrc.below hb3
            have hr3 := hr2.setRow #[.int .i64 1, .int .i64 0, .int .i64 0, .string { data := #[] }, .int .i64 1, .int .i64 0, .string { data := #[] }, .int .i64 0, .string { data := #[] }, .string { data := #[] }, .slice none 0 0]
            have hbw3 : Below w.heap.size w (w3.setRow (w.heap.size + 1) #[.int .i64 1, .int .i64 0, .int .i64 0, .string { data := #[] }, .int .i64 1, .int .i64 0, .string { data := #[] }, .int .i64 0, .string { data := #[] }, .string { data := #[] }, .slice none 0 0]) := below_setRow (hbc.th hb3) (by omega) _
            clear hb3 cx ca' cb'
            go_wp2_with (refine wpList_store_row rfl 32 _ _ rfl (w.heap.size + 1) _ rfl rfl 32 _ hr2 (by kernel_rfl : (Try.prog.info? 32).map (·.size) = some 11) rfl (by kernel_rfl) ?_)
            have cR := hr3.cell
            clear hr2
            refine bodyPost_ret (v := ?_) ?_ rfl ?_
            rotate_left
            · simp [results, Try.results65, go_sem, cR]; exact rfl
            rw [HR.out]
            exact ⟨⟨_, rfl, leaf_f _ _⟩, hbw3⟩
        · have qb : (hb.kind == 1) = false := by simpa using hb1
          have hR : R = .mk hd [k0, k1] := by rw [HJ.out, if_pos (by simpa using h9), if_neg (fun h => hb1 h.2)]
          have HR := Lib.hid hR
          clear hR
          try clear HJ
          have hr3 := hrc.setRow #[.int .i64 hd.kind, .int .i64 hd.n, .int .i64 hd.m, .string hd.name, .int .i64 hd.vk, .int .i64 hd.vn, .string hd.vs, .int .i64 hd.dev, .string hd.cl, .string hd.at_, .slice (some ⟨b, off, none⟩) 2 c]
          have hbw3 : Below w.heap.size w (wc.setRow (w.heap.size + 1) #[.int .i64 hd.kind, .int .i64 hd.n, .int .i64 hd.m, .string hd.name, .int .i64 hd.vk, .int .i64 hd.vn, .string hd.vs, .int .i64 hd.dev, .string hd.cl, .string hd.at_, .slice (some ⟨b, off, none⟩) 2 c]) := below_setRow hbc (by omega) _
          have he3 := hx0.carry (w' := wc.setRow (w.heap.size + 1) #[.int .i64 hd.kind, .int .i64 hd.n, .int .i64 hd.m, .string hd.name, .int .i64 hd.vk, .int .i64 hd.vn, .string hd.vs, .int .i64 hd.dev, .string hd.cl, .string hd.at_, .slice (some ⟨b, off, none⟩) 2 c]) (fun b hb hl => (setRow_other _ _ _ _ (by omega)).trans (hbc.block b hl))
          go_wp2_with (refine wpList_store_row rfl 32 _ _ rfl (w.heap.size + 1) _ rfl rfl 32 _ hrc (by kernel_rfl : (Try.prog.info? 32).map (·.size) = some 11) rfl (cells_one hd (some ⟨b, off, none⟩) 2 c) ?_)
          have cR := hr3.cell
          clear cx ca' cb'
          refine bodyPost_ret (v := ?_) ?_ rfl ?_
          rotate_left
          · simp [results, Try.results65, go_sem, cR]; exact rfl
          rw [HR.out]
          exact ⟨⟨_, rfl, _, rfl, he3⟩, hbw3⟩
      · have qa : (ha.kind == 1) = false := by simpa using ha1
        have hR : R = .mk hd [k0, k1] := by rw [HJ.out, if_pos (by simpa using h9), if_neg (fun h => ha1 h.1)]
        have HR := Lib.hid hR
        clear hR
        try clear HJ
        have hr3 := hrc.setRow #[.int .i64 hd.kind, .int .i64 hd.n, .int .i64 hd.m, .string hd.name, .int .i64 hd.vk, .int .i64 hd.vn, .string hd.vs, .int .i64 hd.dev, .string hd.cl, .string hd.at_, .slice (some ⟨b, off, none⟩) 2 c]
        have hbw3 : Below w.heap.size w (wc.setRow (w.heap.size + 1) #[.int .i64 hd.kind, .int .i64 hd.n, .int .i64 hd.m, .string hd.name, .int .i64 hd.vk, .int .i64 hd.vn, .string hd.vs, .int .i64 hd.dev, .string hd.cl, .string hd.at_, .slice (some ⟨b, off, none⟩) 2 c]) := below_setRow hbc (by omega) _
        have he3 := hx0.carry (w' := wc.setRow (w.heap.size + 1) #[.int .i64 hd.kind, .int .i64 hd.n, .int .i64 hd.m, .string hd.name, .int .i64 hd.vk, .int .i64 hd.vn, .string hd.vs, .int .i64 hd.dev, .string hd.cl, .string hd.at_, .slice (some ⟨b, off, none⟩) 2 c]) (fun b hb hl => (setRow_other _ _ _ _ (by omega)).trans (hbc.block b hl))
        go_wp2_with (refine wpList_store_row rfl 32 _ _ rfl (w.heap.size + 1) _ rfl rfl 32 _ hrc (by kernel_rfl : (Try.prog.info? 32).map (·.size) = some 11) rfl (cells_one hd (some ⟨b, off, none⟩) 2 c) ?_)
        have cR := hr3.cell
        clear cx ca' cb'
        refine bodyPost_ret (v := ?_) ?_ rfl ?_
        rotate_left
        · simp [results, Try.results65, go_sem, cR]; exact rfl
        rw [HR.out]
        exact ⟨⟨_, rfl, _, rfl, he3⟩, hbw3⟩
    · rcases Bool.eq_false_or_eq_true (isNum ha) with n1 | n1
      · rcases Bool.eq_false_or_eq_true (isNum hb) with n2 | n2
        · have hR0 : R = (if hd.kind = 10 then .mk (litB (decide (ha.vn < hb.vn))) [] else .mk (numH (if hd.kind = 11 then satI (ha.vn + hb.vn) else if hd.kind = 12 then satI (ha.vn - hb.vn) else satI (ha.vn * hb.vn))) []) := by
            rw [HJ.out, if_neg h9', if_neg (by simp [n1, n2])]
          have HR0 := Lib.hid hR0
          clear hR0 HJ
          go_wp2_with fail
          refine (number_any ha Aa na ca _).mono ?_
          rintro r w1 ⟨rfl, hb1⟩
          rw [n1]
          replace hga := hga.below hb1
          replace hgb := hgb.below hb1
          replace hxc := hxc.below hb1
          replace hrc := hrc.below hb1
          replace hbc := hbc.th hb1
          clear hb1
          have lxc := hxc.lt
          have lrc := hrc.lt
          have lga := hga.lt
          have lgb := hgb.lt
          have cx := hxc.cell
          have ca' := hga.cell
          have cb' := hgb.cell
          go_wp2_with fail
          refine (number_any hb Ab nb cb _).mono ?_
          rintro r w2 ⟨rfl, hb2⟩
          rw [n2]
          replace hga := hga.below hb2
          replace hgb := hgb.below hb2
          replace hxc := hxc.below hb2
          replace hrc := hrc.below hb2
          replace hbc := hbc.th hb2
          clear hb2
          have lxc := hxc.lt
          have lrc := hrc.lt
          have lga := hga.lt
          have lgb := hgb.lt
          have cx := hxc.cell
          have ca' := hga.cell
          have cb' := hgb.cell
          clear n1 n2
          go_upto_region 8 with fail
          refine wp_rely (by kernel_rfl) (by kernel_rfl) ?_
          repeat
            (apply RelyL.val
             focus (intro ν w' hL hF K hK; have q1 := (hga.lat hL).cell; have q2 := (hgb.lat hL).cell; go_simp; exact hK.out _ _ rfl (Lat.refl _))
             simp only [Act.put, List.setIfInBounds_toArray, List.set_cons_zero, List.set_cons_succ, Nat.reduceAdd])
          refine RelyL.done fun ν w4 hb4 hF => ?_
          clear hF
          replace hga := hga.below hb4
          replace hgb := hgb.below hb4
          replace hxc := hxc.below hb4
          replace hrc := hrc.below hb4
          replace hbc := hbc.th hb4
          clear hb4
          have lxc := hxc.lt
          have lrc := hrc.lt
          have lga := hga.lt
          have lgb := hgb.lt
          have cx := hxc.cell
          have ca' := hga.cell
          have cb' := hgb.cell
          rcases kd10 hd.kind with ⟨k10, k10'⟩ | ⟨k10, k11, k11', k10'⟩ | ⟨k10, k11, k12, k12', k11', k10'⟩ | ⟨k10, k11, k12, k12', k11', k10'⟩
          · rw [if_pos k10'] at HR0
            by_cases hlt : ha.vn < hb.vn
            · have hR : R = .mk (litB true) [] := by rw [HR0.out, decide_eq_true hlt]
              have HR := Lib.hid hR
              clear hR
              go_wp2_with fail
              refine (literal_t _).mono ?_
              rintro r w3 ⟨rfl, hb3⟩
              have hr2 := hrc.below hb3
              have hr3 := hr2.setRow #[.int .i64 1, .int .i64 0, .int .i64 0, .string { data := #[] }, .int .i64 1, .int .i64 1, .string { data := #[] }, .int .i64 0, .string { data := #[] }, .string { data := #[] }, .slice none 0 0]
              have hbw3 : Below w.heap.size w (w3.setRow (w.heap.size + 1) #[.int .i64 1, .int .i64 0, .int .i64 0, .string { data := #[] }, .int .i64 1, .int .i64 1, .string { data := #[] }, .int .i64 0, .string { data := #[] }, .string { data := #[] }, .slice none 0 0]) := below_setRow (hbc.th hb3) (by omega) _
              clear hb3 cx ca' cb'
              go_wp2_with (refine wpList_store_row rfl 32 _ _ rfl (w.heap.size + 1) _ rfl rfl 32 _ hr2 (by kernel_rfl : (Try.prog.info? 32).map (·.size) = some 11) rfl (by kernel_rfl) ?_)
              have cR := hr3.cell
              clear hr2
              refine bodyPost_ret (v := ?_) ?_ rfl ?_
              rotate_left
              · simp [results, Try.results65, go_sem, cR]; exact rfl
              rw [HR.out]
              exact ⟨⟨_, rfl, leaf_t _ _⟩, hbw3⟩
            · have hR : R = .mk (litB false) [] := by rw [HR0.out, decide_eq_false hlt]
              have HR := Lib.hid hR
              clear hR
              go_wp2_with fail
              refine (literal_f _).mono ?_
              rintro r w3 ⟨rfl, hb3⟩
              have hr2 := hrc.below hb3
              have hr3 := hr2.setRow #[.int .i64 1, .int .i64 0, .int .i64 0, .string { data := #[] }, .int .i64 1, .int .i64 0, .string { data := #[] }, .int .i64 0, .string { data := #[] }, .string { data := #[] }, .slice none 0 0]
              have hbw3 : Below w.heap.size w (w3.setRow (w.heap.size + 1) #[.int .i64 1, .int .i64 0, .int .i64 0, .string { data := #[] }, .int .i64 1, .int .i64 0, .string { data := #[] }, .int .i64 0, .string { data := #[] }, .string { data := #[] }, .slice none 0 0]) := below_setRow (hbc.th hb3) (by omega) _
              clear hb3 cx ca' cb'
              go_wp2_with (refine wpList_store_row rfl 32 _ _ rfl (w.heap.size + 1) _ rfl rfl 32 _ hr2 (by kernel_rfl : (Try.prog.info? 32).map (·.size) = some 11) rfl (by kernel_rfl) ?_)
              have cR := hr3.cell
              clear hr2
              refine bodyPost_ret (v := ?_) ?_ rfl ?_
              rotate_left
              · simp [results, Try.results65, go_sem, cR]; exact rfl
              rw [HR.out]
              exact ⟨⟨_, rfl, leaf_f _ _⟩, hbw3⟩
          · rw [if_neg k10', if_pos k11'] at HR0
            go_wp2_with fail
            refine (add_any ha.vn hb.vn _ hia64 hib64).mono ?_
            rintro r w6 ⟨rfl, rfl⟩
            rename_i _
            generalize hN : satI _ = NN at *
            have hn64 : I64 NN := by rw [← hN]; exact satI_I64 _
            have HN := Lib.hid hN
            clear hN
            have hR : R = .mk (numH NN) [] := by rw [HR0.out]
            have HR := Lib.hid hR
            clear hR HR0
            have hr3 := hrc.setRow ((numH NN).cells (.slice none 0 0)).toArray
            have hbw3 : Below w.heap.size w (w4.setRow (w.heap.size + 1) ((numH NN).cells (.slice none 0 0)).toArray) := below_setRow hbc (by omega) _
            have hone := cells_one (numH NN) none 0 0
            clear cx ca' cb'
            simp only [Hd.cells, numH, noStr] at hr3 hbw3 hone ⊢
            go_wp2_with (refine wpList_store_row rfl 32 _ _ rfl (w.heap.size + 1) _ rfl rfl 32 _ hrc (by kernel_rfl : (Try.prog.info? 32).map (·.size) = some 11) rfl hone ?_)
            have cR := hr3.cell
            refine bodyPost_ret (v := ?_) ?_ rfl ?_
            rotate_left
            · simp [results, Try.results65, go_sem, cR]; exact rfl
            rw [HR.out]
            exact ⟨⟨_, rfl, _, rfl, leafP _ _ (numH NN) (numH_ok hn64) none 0⟩, hbw3⟩
          · rw [if_neg k10', if_neg k11', if_pos k12'] at HR0
            go_wp2_with fail
            refine (sub_any ha.vn hb.vn _ hia64 hib64).mono ?_
            rintro r w6 ⟨rfl, rfl⟩
            rename_i _
            generalize hN : satI _ = NN at *
            have hn64 : I64 NN := by rw [← hN]; exact satI_I64 _
            have HN := Lib.hid hN
            clear hN
            have hR : R = .mk (numH NN) [] := by rw [HR0.out]
            have HR := Lib.hid hR
            clear hR HR0
            have hr3 := hrc.setRow ((numH NN).cells (.slice none 0 0)).toArray
            have hbw3 : Below w.heap.size w (w4.setRow (w.heap.size + 1) ((numH NN).cells (.slice none 0 0)).toArray) := below_setRow hbc (by omega) _
            have hone := cells_one (numH NN) none 0 0
            clear cx ca' cb'
            simp only [Hd.cells, numH, noStr] at hr3 hbw3 hone ⊢
            go_wp2_with (refine wpList_store_row rfl 32 _ _ rfl (w.heap.size + 1) _ rfl rfl 32 _ hrc (by kernel_rfl : (Try.prog.info? 32).map (·.size) = some 11) rfl hone ?_)
            have cR := hr3.cell
            refine bodyPost_ret (v := ?_) ?_ rfl ?_
            rotate_left
            · simp [results, Try.results65, go_sem, cR]; exact rfl
            rw [HR.out]
            exact ⟨⟨_, rfl, _, rfl, leafP _ _ (numH NN) (numH_ok hn64) none 0⟩, hbw3⟩
          · rw [if_neg k10', if_neg k11', if_neg k12'] at HR0
            go_wp2_with fail
            refine (mul_any ha.vn hb.vn _ hia64 hib64).mono ?_
            rintro r w6 ⟨rfl, rfl⟩
            rename_i _
            generalize hN : satI _ = NN at *
            have hn64 : I64 NN := by rw [← hN]; exact satI_I64 _
            have HN := Lib.hid hN
            clear hN
            have hR : R = .mk (numH NN) [] := by rw [HR0.out]
            have HR := Lib.hid hR
            clear hR HR0
            have hr3 := hrc.setRow ((numH NN).cells (.slice none 0 0)).toArray
            have hbw3 : Below w.heap.size w (w4.setRow (w.heap.size + 1) ((numH NN).cells (.slice none 0 0)).toArray) := below_setRow hbc (by omega) _
            have hone := cells_one (numH NN) none 0 0
            clear cx ca' cb'
            simp only [Hd.cells, numH, noStr] at hr3 hbw3 hone ⊢
            go_wp2_with (refine wpList_store_row rfl 32 _ _ rfl (w.heap.size + 1) _ rfl rfl 32 _ hrc (by kernel_rfl : (Try.prog.info? 32).map (·.size) = some 11) rfl hone ?_)
            have cR := hr3.cell
            refine bodyPost_ret (v := ?_) ?_ rfl ?_
            rotate_left
            · simp [results, Try.results65, go_sem, cR]; exact rfl
            rw [HR.out]
            exact ⟨⟨_, rfl, _, rfl, leafP _ _ (numH NN) (numH_ok hn64) none 0⟩, hbw3⟩
        · have hR : R = .mk hd [k0, k1] := by rw [HJ.out, if_neg h9', if_pos (.inr n2)]
          have HR' := Lib.hid hR
          clear hR HJ
          go_wp2_with fail
          refine (number_any ha Aa na ca _).mono ?_
          rintro r w1 ⟨rfl, hb1⟩
          rw [n1]
          replace hga := hga.below hb1
          replace hgb := hgb.below hb1
          replace hxc := hxc.below hb1
          replace hrc := hrc.below hb1
          replace hbc := hbc.th hb1
          clear hb1
          have lxc := hxc.lt
          have lrc := hrc.lt
          have lga := hga.lt
          have lgb := hgb.lt
          have cx := hxc.cell
          have ca' := hga.cell
          have cb' := hgb.cell
          go_wp2_with fail
          refine (number_any hb Ab nb cb _).mono ?_
          rintro r wc ⟨rfl, hb2⟩
          rw [n2]
          replace hga := hga.below hb2
          replace hgb := hgb.below hb2
          replace hxc := hxc.below hb2
          replace hrc := hrc.below hb2
          replace hbc := hbc.th hb2
          clear hb2
          have lxc := hxc.lt
          have lrc := hrc.lt
          have lga := hga.lt
          have lgb := hgb.lt
          have cx := hxc.cell
          have ca' := hga.cell
          have cb' := hgb.cell
          have hR := HR'.out
          clear HR'
          have HR := Lib.hid hR
          clear hR
          try clear HJ
          have hr3 := hrc.setRow #[.int .i64 hd.kind, .int .i64 hd.n, .int .i64 hd.m, .string hd.name, .int .i64 hd.vk, .int .i64 hd.vn, .string hd.vs, .int .i64 hd.dev, .string hd.cl, .string hd.at_, .slice (some ⟨b, off, none⟩) 2 c]
          have hbw3 : Below w.heap.size w (wc.setRow (w.heap.size + 1) #[.int .i64 hd.kind, .int .i64 hd.n, .int .i64 hd.m, .string hd.name, .int .i64 hd.vk, .int .i64 hd.vn, .string hd.vs, .int .i64 hd.dev, .string hd.cl, .string hd.at_, .slice (some ⟨b, off, none⟩) 2 c]) := below_setRow hbc (by omega) _
          have he3 := hx0.carry (w' := wc.setRow (w.heap.size + 1) #[.int .i64 hd.kind, .int .i64 hd.n, .int .i64 hd.m, .string hd.name, .int .i64 hd.vk, .int .i64 hd.vn, .string hd.vs, .int .i64 hd.dev, .string hd.cl, .string hd.at_, .slice (some ⟨b, off, none⟩) 2 c]) (fun b hb hl => (setRow_other _ _ _ _ (by omega)).trans (hbc.block b hl))
          go_wp2_with (refine wpList_store_row rfl 32 _ _ rfl (w.heap.size + 1) _ rfl rfl 32 _ hrc (by kernel_rfl : (Try.prog.info? 32).map (·.size) = some 11) rfl (cells_one hd (some ⟨b, off, none⟩) 2 c) ?_)
          have cR := hr3.cell
          clear cx ca' cb'
          refine bodyPost_ret (v := ?_) ?_ rfl ?_
          rotate_left
          · simp [results, Try.results65, go_sem, cR]; exact rfl
          rw [HR.out]
          exact ⟨⟨_, rfl, _, rfl, he3⟩, hbw3⟩
      · have hR : R = .mk hd [k0, k1] := by rw [HJ.out, if_neg h9', if_pos (.inl n1)]
        have HR' := Lib.hid hR
        clear hR HJ
        go_wp2_with fail
        refine (number_any ha Aa na ca _).mono ?_
        rintro r w1 ⟨rfl, hb1⟩
        rw [n1]
        replace hga := hga.below hb1
        replace hgb := hgb.below hb1
        replace hxc := hxc.below hb1
        replace hrc := hrc.below hb1
        replace hbc := hbc.th hb1
        clear hb1
        have lxc := hxc.lt
        have lrc := hrc.lt
        have lga := hga.lt
        have lgb := hgb.lt
        have cx := hxc.cell
        have ca' := hga.cell
        have cb' := hgb.cell
        obtain ⟨wc, rfl⟩ : ∃ x, x = w1 := ⟨_, rfl⟩
        have hR := HR'.out
        clear HR'
        have HR := Lib.hid hR
        clear hR
        try clear HJ
        have hr3 := hrc.setRow #[.int .i64 hd.kind, .int .i64 hd.n, .int .i64 hd.m, .string hd.name, .int .i64 hd.vk, .int .i64 hd.vn, .string hd.vs, .int .i64 hd.dev, .string hd.cl, .string hd.at_, .slice (some ⟨b, off, none⟩) 2 c]
        have hbw3 : Below w.heap.size w (wc.setRow (w.heap.size + 1) #[.int .i64 hd.kind, .int .i64 hd.n, .int .i64 hd.m, .string hd.name, .int .i64 hd.vk, .int .i64 hd.vn, .string hd.vs, .int .i64 hd.dev, .string hd.cl, .string hd.at_, .slice (some ⟨b, off, none⟩) 2 c]) := below_setRow hbc (by omega) _
        have he3 := hx0.carry (w' := wc.setRow (w.heap.size + 1) #[.int .i64 hd.kind, .int .i64 hd.n, .int .i64 hd.m, .string hd.name, .int .i64 hd.vk, .int .i64 hd.vn, .string hd.vs, .int .i64 hd.dev, .string hd.cl, .string hd.at_, .slice (some ⟨b, off, none⟩) 2 c]) (fun b hb hl => (setRow_other _ _ _ _ (by omega)).trans (hbc.block b hl))
        go_wp2_with (refine wpList_store_row rfl 32 _ _ rfl (w.heap.size + 1) _ rfl rfl 32 _ hrc (by kernel_rfl : (Try.prog.info? 32).map (·.size) = some 11) rfl (cells_one hd (some ⟨b, off, none⟩) 2 c) ?_)
        have cR := hr3.cell
        clear cx ca' cb'
        refine bodyPost_ret (v := ?_) ?_ rfl ?_
        rotate_left
        · simp [results, Try.results65, go_sem, cR]; exact rfl
        rw [HR.out]
        exact ⟨⟨_, rfl, _, rfl, he3⟩, hbw3⟩

end Go.Proofs.Ytnelgblmogciiaa
