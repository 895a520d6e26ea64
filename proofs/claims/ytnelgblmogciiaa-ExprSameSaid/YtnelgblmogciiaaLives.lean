/- The law package of expressions: lives() answers true. -/
import Derived.Test.YtnelgblmogciiaaLits
import Derived.Test.YtnelgblmogciiaaSizes
set_option linter.unusedSimpArgs false
set_option linter.unusedVariables false
namespace Go.Proofs.Ytnelgblmogciiaa
open Go.RowKit

def attrT : Hd := ⟨2, 0, 0, noStr, 0, 0, noStr, 1, ({ data := #[111, 110, 111, 102, 102] } : ByteArray), ({ data := #[111, 110] } : ByteArray)⟩
def numT (n : Int) : LExpr := .mk (valH 2 n noStr) []
def andT : LExpr := .mk (bareH 7) [.mk (litB true) [], .mk attrT []]
def sumT : LExpr := .mk (bareH 11) [numT 2, .mk (bareH 13) [numT 3, numT 4]]
theorem andT_check : (walkS visCheck andT 1 (0, 0)).1.2 = 0 := by kernel_rfl
theorem notT_check : (walkS visCheck (.mk (bareH 6) []) 1 (0, 0)).1.2 = 1 := by kernel_rfl
theorem andT_size : (walkS visSize andT 1 0).1 = 3 := by kernel_rfl
theorem andT_depth : (walkS visDepth andT 1 0).1 = 2 := by kernel_rfl
theorem andT_keys : (walkS visK andT 1 0).1 = 1 := by kernel_rfl
theorem andT_cost : costE cstK andT ≤ 1 := by decide
theorem sumT_fold : sameE (foldE sumT) (numT 14) = true := by kernel_rfl
theorem attrT_ok : attrT.ok := by constructor <;> first | (unfold I64 attrT; simp; done) | (unfold attrT; simp; done)
theorem litT_check : nodeCheck (litB true) 0 = 0 := by kernel_rfl
theorem attrT_check : nodeCheck attrT 0 = 0 := by kernel_rfl
theorem leafI (W : World) (B : Nat) (h : Hd) (hok : h.ok) (A : Option Addr) (c : Nat) : IsExpr B W (.mk h []) (h.cells (.slice A 0 c)) := (leafP (fun _ => False) W h hok A c).toB (fun _ h _ => h.elim)
theorem valT_ok (n : Int) (h : 0 ≤ n ∧ n ≤ 100 := by omega) : (valH 2 n noStr).ok := by constructor <;> first | (unfold I64 valH; dsimp only; omega) | (unfold valH; simp; done)
theorem andCheck (W : World) (cs : List Value) (h : IsExpr W.heap.size W andT cs) : Calls Try.prog 29 #[.agg cs.toArray] W fun r w' => r = .returned (.int .i64 0) ∧ Below W.heap.size W w' := by
  have H := checkE_any andT cs _ W (Nat.le_refl _) h
  rwa [andT_check] at H
theorem notCheck (W : World) : Calls Try.prog 29 #[.agg #[.int .i64 6, .int .i64 0, .int .i64 0, .string { data := #[] }, .int .i64 0, .int .i64 0, .string { data := #[] }, .int .i64 0, .string { data := #[] }, .string { data := #[] }, .slice none 0 0]] W fun r w' => r = .returned (.int .i64 1) ∧ Below W.heap.size W w' := by
  have H := checkE_any (.mk (bareH 6) []) ((bareH 6).cells (.slice none 0 0)) _ W (Nat.le_refl _) (leafI _ _ _ (bareH_ok (by unfold I64; omega)) none 0)
  rwa [notT_check] at H
theorem andSize (W : World) (cs : List Value) (h : IsExpr W.heap.size W andT cs) : Calls Try.prog 31 #[.agg cs.toArray] W fun r w' => r = .returned (.int .i64 3) ∧ Below W.heap.size W w' := by
  have H := size_any andT cs _ W (Nat.le_refl _) h
  rwa [andT_size] at H
theorem andDepth (W : World) (cs : List Value) (h : IsExpr W.heap.size W andT cs) : Calls Try.prog 32 #[.agg cs.toArray] W fun r w' => r = .returned (.int .i64 2) ∧ Below W.heap.size W w' := by
  have H := depth_any andT cs _ W (Nat.le_refl _) h
  rwa [andT_depth] at H
theorem andKeys (W : World) (cs : List Value) (h : IsExpr W.heap.size W andT cs) : Calls Try.prog 34 #[.agg cs.toArray] W fun r w' => (∃ A c, r = .returned (.slice A 1 c)) ∧ Below W.heap.size W w' := by
  have H := keysOne_any andT cs _ W (Nat.le_refl _) h andT_cost
  rwa [andT_keys] at H
theorem sumSame (W : World) (cs : List Value) (h : IsExpr W.heap.size W (foldE sumT) cs) : Calls Try.prog 36 #[.agg cs.toArray, .agg ((valH 2 14 noStr).cells (.slice none 0 0)).toArray] W fun r w' => r = .returned (.bool true) ∧ Below W.heap.size W w' := by
  have H := rsame_any (foldE sumT) (numT 14) cs ((valH 2 14 noStr).cells (.slice none 0 0)) _ W (Nat.le_refl _) h (leafI _ _ _ (valT_ok 14 (by omega)) none 0)
  rwa [sumT_fold] at H
set_option maxRecDepth 100000 in
set_option maxHeartbeats 4000000 in
theorem lives_any (w : World) : Calls Try.prog 30 #[] w fun r w' => r = .returned (.bool true) ∧ Below w.heap.size w w' := by
  go_enter Try.func30, Try.ntmps30
  have hx1 : Blk ((w.alloc (.cells #[.int .i64 0, .int .i64 0, .int .i64 0, .string { data := #[] }, .int .i64 0, .int .i64 0, .string { data := #[] }, .int .i64 0, .string { data := #[] }, .string { data := #[] }, .slice none 0 0] 32)).setRow w.heap.size #[.int .i64 2, .int .i64 0, .int .i64 0, .string { data := #[] }, .int .i64 0, .int .i64 0, .string { data := #[] }, .int .i64 1, .string ({ data := #[111, 110, 111, 102, 102] } : ByteArray), .string ({ data := #[111, 110] } : ByteArray), .slice none 0 0]) w.heap.size 32 #[.int .i64 2, .int .i64 0, .int .i64 0, .string { data := #[] }, .int .i64 0, .int .i64 0, .string { data := #[] }, .int .i64 1, .string ({ data := #[111, 110, 111, 102, 102] } : ByteArray), .string ({ data := #[111, 110] } : ByteArray), .slice none 0 0] := (Blk.new w 32 #[.int .i64 0, .int .i64 0, .int .i64 0, .string { data := #[] }, .int .i64 0, .int .i64 0, .string { data := #[] }, .int .i64 0, .string { data := #[] }, .string { data := #[] }, .slice none 0 0]).setRow #[.int .i64 2, .int .i64 0, .int .i64 0, .string { data := #[] }, .int .i64 0, .int .i64 0, .string { data := #[] }, .int .i64 1, .string ({ data := #[111, 110, 111, 102, 102] } : ByteArray), .string ({ data := #[111, 110] } : ByteArray), .slice none 0 0]
  have hbw1 : Below w.heap.size w ((w.alloc (.cells #[.int .i64 0, .int .i64 0, .int .i64 0, .string { data := #[] }, .int .i64 0, .int .i64 0, .string { data := #[] }, .int .i64 0, .string { data := #[] }, .string { data := #[] }, .slice none 0 0] 32)).setRow w.heap.size #[.int .i64 2, .int .i64 0, .int .i64 0, .string { data := #[] }, .int .i64 0, .int .i64 0, .string { data := #[] }, .int .i64 1, .string ({ data := #[111, 110, 111, 102, 102] } : ByteArray), .string ({ data := #[111, 110] } : ByteArray), .slice none 0 0]) := below_setRow ((Below.refl _ _).al _) (Nat.le_refl _) _
  go_wp2_with (refine wpList_store_row rfl 32 _ _ rfl w.heap.size _ rfl rfl 32 _ (Blk.new w 32 #[.int .i64 0, .int .i64 0, .int .i64 0, .string { data := #[] }, .int .i64 0, .int .i64 0, .string { data := #[] }, .int .i64 0, .string { data := #[] }, .string { data := #[] }, .slice none 0 0]) (by kernel_rfl : (Try.prog.info? 32).map (·.size) = some 11) rfl (cells_one attrT none 0 0) ?_)
  generalize (w.alloc (.cells #[.int .i64 0, .int .i64 0, .int .i64 0, .string { data := #[] }, .int .i64 0, .int .i64 0, .string { data := #[] }, .int .i64 0, .string { data := #[] }, .string { data := #[] }, .slice none 0 0] 32)).setRow w.heap.size #[.int .i64 2, .int .i64 0, .int .i64 0, .string { data := #[] }, .int .i64 0, .int .i64 0, .string { data := #[] }, .int .i64 1, .string ({ data := #[111, 110, 111, 102, 102] } : ByteArray), .string ({ data := #[111, 110] } : ByteArray), .slice none 0 0] = W1 at *
  simp only [Act.put]
  refine wp_rely_last (n := 5) (by kernel_rfl) (by kernel_rfl) rfl (by kernel_rfl) ?_
  simp only [List.take_succ_cons, List.take_zero]
  apply RelyL.val
  · intro ν w' hL hF K hK
    go_simp
    refine (rflag_any true w').mono ?_
    rintro r w'' ⟨rfl, hbp⟩
    exact hK.out _ _ rfl hbp
  simp only [Act.put, List.setIfInBounds_toArray, List.set_cons_zero, List.set_cons_succ, Nat.reduceAdd]
  apply RelyL.val
  · intro ν w' hL hF K hK
    refine take_op rfl ?_
    refine wp_load_blk rfl rfl (hx1.lat hL) Try.underlying32 rfl (by kernel_rfl : (Try.prog.info? 32).map (·.size) = some 11) rfl ?_
    exact hK.out _ _ rfl (Lat.refl _)
  simp only [Act.put, List.setIfInBounds_toArray, List.set_cons_zero, List.set_cons_succ, Nat.reduceAdd]
  refine RelyL.law (IsSl [.mk (litB true) [], .mk attrT []]) (fun v w1 w2 hl h => IsSl.lat h hl) (fun ν w' hL hF K hK => ?_) ?_
  · simp only [Hd.cells, litB, litH, noStr, if_true]
    go_simp
    exact hK.out _ _ _ rfl (IsSl.two (c0 := (litB true).cells (.slice none 0 0)) (c1 := attrT.cells (.slice none 0 0)) _ (Blk.new _ _ _) (leafI _ _ _ (litB_ok true) none 0) (leafI _ _ _ attrT_ok none 0)) (Lat.al _ _)
  simp only [Act.put, List.setIfInBounds_toArray, List.set_cons_zero, List.set_cons_succ, Nat.reduceAdd]
  refine RelyL.law (IsEx andT) (fun v w1 w2 hl h => IsEx.lat h hl) (fun ν w' hL hF K hK => ?_) ?_
  · have h2 := hF.get 0 rfl (by kernel_rfl)
    dsimp only at h2
    generalize ν 2 = x2 at *
    obtain ⟨A2, c2, rfl⟩ := h2.form
    have h3 : IsEx andT _ w' := IsEx.of_form h2 (bareH_ok (n := 7) (by unfold I64; omega))
    go_simp
    exact hK.out _ _ _ rfl h3 (Lat.refl _)
  simp only [Act.put, List.setIfInBounds_toArray, List.set_cons_zero, List.set_cons_succ, Nat.reduceAdd]
  refine RelyL.law (fun v w => ∃ g, v = .pointer (some ⟨g, 0, none⟩) ∧ W1.heap.size ≤ g ∧ Blk w g 32 zero11) (fun v w1 w2 hl h => by obtain ⟨g, h1, h2, h3⟩ := h; exact ⟨g, h1, h2, h3.lat hl⟩) (fun ν w' hL hF K hK => ?_) ?_
  · go_simp
    exact hK.out _ _ _ rfl ⟨_, rfl, hL.size, Blk.new _ _ _⟩ (Lat.al _ _)
  simp only [Act.put, List.setIfInBounds_toArray, List.set_cons_zero, List.set_cons_succ, Nat.reduceAdd]
  refine RelyL.done fun ν w2 hL hF => ?_
  have h3 := hF.get 1 rfl
  have h4 := hF.get 0 rfl
  dsimp only at h3 h4
  generalize ν 3 = x3 at *
  generalize ν 4 = x4 at *
  obtain ⟨A3, c3, rfl, s3, y3⟩ := IsEx.opened h3
  obtain ⟨g4, rfl, hg4, hx4⟩ := h4
  clear h3 hF s3
  have y4 := sep_zero hx4 ((bareH 7).cells (.slice A3 2 c3)).toArray y3 (by
    intro k hk
    simp only [LExpr.kids, List.mem_cons, List.not_mem_nil, or_false] at hk
    rcases hk with rfl | rfl
    · rw [okE]; exact ⟨litT_check, fun k hk => by cases hk⟩
    · rw [okE]; exact ⟨attrT_check, fun k hk => by cases hk⟩)
  have b24 : Below W1.heap.size w2 (w2.setRow g4 ((bareH 7).cells (.slice A3 2 c3)).toArray) := lat_setRow _ hg4
  have hbw := hbw1.th (show Below W1.heap.size W1 _ from Below.trans hL b24)
  have hg := hx4.setRow ((bareH 7).cells (.slice A3 2 c3)).toArray
  have ya := y4.mono b24.size
  clear hL b24 y4 y3 hbw1
  refine wpOp_step rfl (fun K hK => ?_)
  refine take_op rfl ?_
  refine wp_store_row 32 _ _ rfl g4 _ rfl rfl 32 _ hx4 (by kernel_rfl : (Try.prog.info? 32).map (·.size) = some 11) rfl (cells_one _ _ _ _) ?_
  refine hK _ _ ?_
  clear hx4
  simp only [List.length_cons, List.length_nil, Nat.reduceAdd, Hd.cells, bareH, noStr] at hg ya hbw ⊢
  generalize w2.setRow g4 _ = W2 at *
  clear hx1
  go_wp2_with fail
  refine (number28_any 2 _).mono ?_
  rintro r wa ⟨rfl, hba⟩
  replace hg := hg.lat hba
  replace ya := ya.lat (Nat.le_refl _) hba
  replace hbw := hbw.th hba
  clear hba
  go_wp2_with fail
  refine (number28_any 3 _).mono ?_
  rintro r wb ⟨rfl, hba⟩
  replace hg := hg.lat hba
  replace ya := ya.lat (Nat.le_refl _) hba
  replace hbw := hbw.th hba
  clear hba
  go_wp2_with fail
  refine (number28_any 4 _).mono ?_
  rintro r wc ⟨rfl, hba⟩
  replace hg := hg.lat hba
  replace ya := ya.lat (Nat.le_refl _) hba
  replace hbw := hbw.th hba
  clear hba
  simp only [Hd.cells, valH, noStr]
  go_upto_region 4 with fail
  have x13 := (IsSl.two (e0 := numT 3) (e1 := numT 4) (c0 := (valH 2 3 noStr).cells (.slice none 0 0)) (c1 := (valH 2 4 noStr).cells (.slice none 0 0)) 2 (Blk.new wc 32 #[.int .i64 1, .int .i64 0, .int .i64 0, .string { data := #[] }, .int .i64 2, .int .i64 3, .string { data := #[] }, .int .i64 0, .string { data := #[] }, .string { data := #[] }, .slice none 0 0, .int .i64 1, .int .i64 0, .int .i64 0, .string { data := #[] }, .int .i64 2, .int .i64 4, .string { data := #[] }, .int .i64 0, .string { data := #[] }, .string { data := #[] }, .slice none 0 0]) (leafI _ _ _ (valT_ok 3 (by omega)) none 0) (leafI _ _ _ (valT_ok 4 (by omega)) none 0)).node (bareH_ok (n := 13) (by unfold I64; omega))
  have x15 := (IsSl.two (e0 := numT 2) (c0 := (valH 2 2 noStr).cells (.slice none 0 0)) (c1 := (bareH 13).cells (.slice (some ⟨wc.heap.size, 0, none⟩) 2 2)) 2 (Blk.at1 wc (.cells #[.int .i64 1, .int .i64 0, .int .i64 0, .string { data := #[] }, .int .i64 2, .int .i64 3, .string { data := #[] }, .int .i64 0, .string { data := #[] }, .string { data := #[] }, .slice none 0 0, .int .i64 1, .int .i64 0, .int .i64 0, .string { data := #[] }, .int .i64 2, .int .i64 4, .string { data := #[] }, .int .i64 0, .string { data := #[] }, .string { data := #[] }, .slice none 0 0] 32) 32 #[.int .i64 1, .int .i64 0, .int .i64 0, .string { data := #[] }, .int .i64 2, .int .i64 2, .string { data := #[] }, .int .i64 0, .string { data := #[] }, .string { data := #[] }, .slice none 0 0, .int .i64 13, .int .i64 0, .int .i64 0, .string { data := #[] }, .int .i64 0, .int .i64 0, .string { data := #[] }, .int .i64 0, .string { data := #[] }, .string { data := #[] }, .slice (some ⟨wc.heap.size, 0, none⟩) 2 2]) (leafI _ _ _ (valT_ok 2 (by omega)) none 0) (x13.lat (Nat.le_refl _) (Lat.al _ _))).node (bareH_ok (n := 11) (by unfold I64; omega))
  have ys : IsExpr _ (((wc.alloc (.cells #[.int .i64 1, .int .i64 0, .int .i64 0, .string { data := #[] }, .int .i64 2, .int .i64 3, .string { data := #[] }, .int .i64 0, .string { data := #[] }, .string { data := #[] }, .slice none 0 0, .int .i64 1, .int .i64 0, .int .i64 0, .string { data := #[] }, .int .i64 2, .int .i64 4, .string { data := #[] }, .int .i64 0, .string { data := #[] }, .string { data := #[] }, .slice none 0 0] 32)).alloc (.cells #[.int .i64 1, .int .i64 0, .int .i64 0, .string { data := #[] }, .int .i64 2, .int .i64 2, .string { data := #[] }, .int .i64 0, .string { data := #[] }, .string { data := #[] }, .slice none 0 0, .int .i64 13, .int .i64 0, .int .i64 0, .string { data := #[] }, .int .i64 0, .int .i64 0, .string { data := #[] }, .int .i64 0, .string { data := #[] }, .string { data := #[] }, .slice (some ⟨wc.heap.size, 0, none⟩) 2 2] 32)).alloc (.cells #[.int .i64 11, .int .i64 0, .int .i64 0, .string { data := #[] }, .int .i64 0, .int .i64 0, .string { data := #[] }, .int .i64 0, .string { data := #[] }, .string { data := #[] }, .slice (some ⟨wc.heap.size + 1, 0, none⟩) 2 2] 32)) sumT _ := x15.lat (Nat.le_refl _) (Lat.al _ (.cells #[.int .i64 11, .int .i64 0, .int .i64 0, .string { data := #[] }, .int .i64 0, .int .i64 0, .string { data := #[] }, .int .i64 0, .string { data := #[] }, .string { data := #[] }, .slice (some ⟨wc.heap.size + 1, 0, none⟩) 2 2] 32))
  have hs : Blk (((wc.alloc (.cells #[.int .i64 1, .int .i64 0, .int .i64 0, .string { data := #[] }, .int .i64 2, .int .i64 3, .string { data := #[] }, .int .i64 0, .string { data := #[] }, .string { data := #[] }, .slice none 0 0, .int .i64 1, .int .i64 0, .int .i64 0, .string { data := #[] }, .int .i64 2, .int .i64 4, .string { data := #[] }, .int .i64 0, .string { data := #[] }, .string { data := #[] }, .slice none 0 0] 32)).alloc (.cells #[.int .i64 1, .int .i64 0, .int .i64 0, .string { data := #[] }, .int .i64 2, .int .i64 2, .string { data := #[] }, .int .i64 0, .string { data := #[] }, .string { data := #[] }, .slice none 0 0, .int .i64 13, .int .i64 0, .int .i64 0, .string { data := #[] }, .int .i64 0, .int .i64 0, .string { data := #[] }, .int .i64 0, .string { data := #[] }, .string { data := #[] }, .slice (some ⟨wc.heap.size, 0, none⟩) 2 2] 32)).alloc (.cells #[.int .i64 11, .int .i64 0, .int .i64 0, .string { data := #[] }, .int .i64 0, .int .i64 0, .string { data := #[] }, .int .i64 0, .string { data := #[] }, .string { data := #[] }, .slice (some ⟨wc.heap.size + 1, 0, none⟩) 2 2] 32)) (wc.heap.size + 1 + 1) 32 #[.int .i64 11, .int .i64 0, .int .i64 0, .string { data := #[] }, .int .i64 0, .int .i64 0, .string { data := #[] }, .int .i64 0, .string { data := #[] }, .string { data := #[] }, .slice (some ⟨wc.heap.size + 1, 0, none⟩) 2 2] := Blk.at2 _ _ _ _ _
  have hlw : Lat wc (((wc.alloc (.cells #[.int .i64 1, .int .i64 0, .int .i64 0, .string { data := #[] }, .int .i64 2, .int .i64 3, .string { data := #[] }, .int .i64 0, .string { data := #[] }, .string { data := #[] }, .slice none 0 0, .int .i64 1, .int .i64 0, .int .i64 0, .string { data := #[] }, .int .i64 2, .int .i64 4, .string { data := #[] }, .int .i64 0, .string { data := #[] }, .string { data := #[] }, .slice none 0 0] 32)).alloc (.cells #[.int .i64 1, .int .i64 0, .int .i64 0, .string { data := #[] }, .int .i64 2, .int .i64 2, .string { data := #[] }, .int .i64 0, .string { data := #[] }, .string { data := #[] }, .slice none 0 0, .int .i64 13, .int .i64 0, .int .i64 0, .string { data := #[] }, .int .i64 0, .int .i64 0, .string { data := #[] }, .int .i64 0, .string { data := #[] }, .string { data := #[] }, .slice (some ⟨wc.heap.size, 0, none⟩) 2 2] 32)).alloc (.cells #[.int .i64 11, .int .i64 0, .int .i64 0, .string { data := #[] }, .int .i64 0, .int .i64 0, .string { data := #[] }, .int .i64 0, .string { data := #[] }, .string { data := #[] }, .slice (some ⟨wc.heap.size + 1, 0, none⟩) 2 2] 32)) := ((Lat.al _ _).trans (Lat.al _ _)).trans (Lat.al _ _)
  replace hg := hg.lat hlw
  replace ya := ya.lat (Nat.le_refl _) hlw
  replace hbw := hbw.th hlw
  clear hlw x13 x15
  generalize ((wc.alloc (.cells #[.int .i64 1, .int .i64 0, .int .i64 0, .string { data := #[] }, .int .i64 2, .int .i64 3, .string { data := #[] }, .int .i64 0, .string { data := #[] }, .string { data := #[] }, .slice none 0 0, .int .i64 1, .int .i64 0, .int .i64 0, .string { data := #[] }, .int .i64 2, .int .i64 4, .string { data := #[] }, .int .i64 0, .string { data := #[] }, .string { data := #[] }, .slice none 0 0] 32)).alloc (.cells #[.int .i64 1, .int .i64 0, .int .i64 0, .string { data := #[] }, .int .i64 2, .int .i64 2, .string { data := #[] }, .int .i64 0, .string { data := #[] }, .string { data := #[] }, .slice none 0 0, .int .i64 13, .int .i64 0, .int .i64 0, .string { data := #[] }, .int .i64 0, .int .i64 0, .string { data := #[] }, .int .i64 0, .string { data := #[] }, .string { data := #[] }, .slice (some ⟨wc.heap.size, 0, none⟩) 2 2] 32)).alloc (.cells #[.int .i64 11, .int .i64 0, .int .i64 0, .string { data := #[] }, .int .i64 0, .int .i64 0, .string { data := #[] }, .int .i64 0, .string { data := #[] }, .string { data := #[] }, .slice (some ⟨wc.heap.size + 1, 0, none⟩) 2 2] 32) = W3 at *
  simp only [Hd.cells, bareH, noStr] at ys
  have cg := hg.cell
  have cs := hs.cell
  go_wp2_with fail
  refine (andCheck _ _ ya).mono ?_
  rintro r w4 ⟨rfl, hb⟩
  have hl := hb
  replace hg := hg.lat hl
  replace hs := hs.lat hl
  replace ya := ya.lat (Nat.le_refl _) hl
  replace ys := ys.lat (Nat.le_refl _) hl
  replace hbw := hbw.th hl
  clear hl
  have cg := hg.cell
  have cs := hs.cell
  go_wp2_with fail
  refine (notCheck _).mono ?_
  rintro r w4 ⟨rfl, hb⟩
  have hl := hb
  replace hg := hg.lat hl
  replace hs := hs.lat hl
  replace ya := ya.lat (Nat.le_refl _) hl
  replace ys := ys.lat (Nat.le_refl _) hl
  replace hbw := hbw.th hl
  clear hl
  have cg := hg.cell
  have cs := hs.cell
  go_wp2_with fail
  refine (andSize _ _ ya).mono ?_
  rintro r w4 ⟨rfl, hb⟩
  have hl := hb
  replace hg := hg.lat hl
  replace hs := hs.lat hl
  replace ya := ya.lat (Nat.le_refl _) hl
  replace ys := ys.lat (Nat.le_refl _) hl
  replace hbw := hbw.th hl
  clear hl
  have cg := hg.cell
  have cs := hs.cell
  go_wp2_with fail
  refine (andDepth _ _ ya).mono ?_
  rintro r w4 ⟨rfl, hb⟩
  have hl := hb
  replace hg := hg.lat hl
  replace hs := hs.lat hl
  replace ya := ya.lat (Nat.le_refl _) hl
  replace ys := ys.lat (Nat.le_refl _) hl
  replace hbw := hbw.th hl
  clear hl
  have cg := hg.cell
  have cs := hs.cell
  go_wp2_with fail
  refine (andKeys _ _ ya).mono ?_
  rintro r w4 ⟨⟨A4, c4, rfl⟩, hb⟩
  have hl := hb
  replace hg := hg.lat hl
  replace hs := hs.lat hl
  replace ya := ya.lat (Nat.le_refl _) hl
  replace ys := ys.lat (Nat.le_refl _) hl
  replace hbw := hbw.th hl
  clear hl
  have cg := hg.cell
  have cs := hs.cell
  go_wp2_with fail
  refine (fold_any sumT _ _ _ (Nat.le_refl _) ys).mono ?_
  rintro r w4 ⟨⟨v5, rfl, cs5, rfl, hf⟩, hb⟩
  have y5 := hf.toIs
  clear hf
  have hl := hb
  replace hg := hg.lat hl
  replace hs := hs.lat hl
  replace ya := ya.lat (Nat.le_refl _) hl
  replace ys := ys.lat (Nat.le_refl _) hl
  replace hbw := hbw.th hl
  clear hl
  have cg := hg.cell
  have cs := hs.cell
  go_wp2_with fail
  refine (number28_any 14 _).mono ?_
  rintro r w5 ⟨rfl, hb⟩
  replace y5 := y5.lat (Nat.le_refl _) hb
  have hl := hb
  replace hg := hg.lat hl
  replace hs := hs.lat hl
  replace ya := ya.lat (Nat.le_refl _) hl
  replace ys := ys.lat (Nat.le_refl _) hl
  replace hbw := hbw.th hl
  clear hl
  have cg := hg.cell
  have cs := hs.cell
  go_wp2_with fail
  refine (sumSame _ _ y5).mono ?_
  rintro r w6 ⟨rfl, hb⟩
  have hl := hb
  replace hg := hg.lat hl
  replace hs := hs.lat hl
  replace ya := ya.lat (Nat.le_refl _) hl
  replace ys := ys.lat (Nat.le_refl _) hl
  replace hbw := hbw.th hl
  clear hl
  have cg := hg.cell
  have cs := hs.cell
  go_wp2_with fail
  go_ret
  exact ⟨rfl, hbw⟩
end Go.Proofs.Ytnelgblmogciiaa
