/- Guard: the examples. -/
import Derived.Test.YtmgalnbacenbbaaGreatGLivesP
set_option linter.unusedSimpArgs false
set_option linter.unusedVariables false
namespace Go.Proofs.YtmgalnbacenbbaaGreat
open Go.RowKit

set_option maxRecDepth 100000 in
set_option maxHeartbeats 1000000 in
theorem flag_any (n : Int) (w : World) : Calls Tryz.prog 10 #[.int .i64 n] w fun r w' => r = .returned (.agg #[.int .i64 1, .int .i64 n, .string ⟨#[]⟩]) ∧ Lat w w' := by
  have hL := Lat.al w (.cells #[.int .i64 0, .int .i64 0, .string { data := #[] }] 32)
  have hb1 := Blk.new w 32 #[.int .i64 0, .int .i64 0, .string { data := #[] }]
  go_enter Tryz.func10, Tryz.ntmps10
  go_wp2_with (refine wpList_store_row rfl 32 _ _ rfl (w.heap.size) _ rfl rfl 32 _ hb1 (by kernel_rfl : (Tryz.prog.info? 32).map (·.size) = some 3) rfl (by kernel_rfl) ?_)
  have cR := (hb1.setRow #[.int .i64 1, .int .i64 n, .string { data := #[] }]).cell
  refine bodyPost_ret (v := ?_) ?_ rfl ?_
  rotate_left
  · simp [results, Tryz.results10, go_sem, cR]; exact rfl
  exact ⟨rfl, lat_row hb1 _ (Nat.le_refl _) hL⟩
section
variable (g g1 g2 ga : Nat) (w : World) (hx : RdL w (ps0 g1 g2) (.slice (some ⟨g, 0, none⟩) 2 2)) (hy : ES.Rd w [(⟨#[103, 97, 115]⟩ : ByteArray), (⟨#[119, 97, 116, 101, 114]⟩ : ByteArray)] (.slice (some ⟨ga, 0, none⟩) 2 2))
include hx hy
theorem lv_forced : Calls Tryz.prog 11 #[.slice (some ⟨g, 0, none⟩) 2 2, .slice (some ⟨ga, 0, none⟩) 2 2] w fun r w' => (∃ A c, r = .returned (.slice A 1 c) ∧ EW.Rd w' [⟨(⟨2, ⟨#[118, 97, 108, 118, 101]⟩, ⟨#[111, 112, 101, 110]⟩⟩ : LKey), (⟨1, 0, ⟨#[]⟩⟩ : LVal), 4, (⟨#[103, 97, 115]⟩ : ByteArray), 99, 0⟩] (.slice A 1 c)) ∧ Lat w w' := by
  refine (forcedW_any (ps0 g1 g2) (some ⟨g, 0, none⟩) 2 [(⟨#[103, 97, 115]⟩ : ByteArray), (⟨#[119, 97, 116, 101, 114]⟩ : ByteArray)] (some ⟨ga, 0, none⟩) 2 w hx hy (by show 2 < 40; decide) (by show 2 ≤ _; decide) (its0 g1 g2)).mono ?_
  rintro r w' ⟨ks, v, rfl, hown, hasc, hmem, hl⟩
  rw [strg_both] at hown hmem
  have hk := keys_both g1 g2 ks hasc hmem
  subst hk
  rw [frc_both] at hown
  obtain ⟨A, c, rfl⟩ := hown.slice
  exact ⟨⟨A, c, rfl, hown.rd⟩, hl⟩
theorem lv_conf : Calls Tryz.prog 12 #[.slice (some ⟨g, 0, none⟩) 2 2, .slice (some ⟨ga, 0, none⟩) 2 2] w fun r w' => (∃ A c, r = .returned (.slice A 1 c) ∧ EK.Rd w' [(⟨2, ⟨#[118, 97, 108, 118, 101]⟩, ⟨#[111, 112, 101, 110]⟩⟩ : LKey)] (.slice A 1 c)) ∧ Lat w w' := by
  refine (conflicts_any (ps0 g1 g2) (some ⟨g, 0, none⟩) 2 [(⟨#[103, 97, 115]⟩ : ByteArray), (⟨#[119, 97, 116, 101, 114]⟩ : ByteArray)] (some ⟨ga, 0, none⟩) 2 w hx hy (by show 2 < 40; decide) (by show 2 ≤ _; decide) (its0 g1 g2)).mono ?_
  rintro r w' ⟨ks, v, rfl, hown, hasc, hmem, hl⟩
  rw [strg_both] at hown hmem
  have hk := keys_both g1 g2 ks hasc hmem
  subst hk
  rw [con_both] at hown
  obtain ⟨A, c, rfl⟩ := hown.slice
  exact ⟨⟨A, c, rfl, hown.rd⟩, hl⟩
theorem lv_b1 : Calls Tryz.prog 13 #[.slice (some ⟨g, 0, none⟩) 2 2, .slice (some ⟨ga, 0, none⟩) 2 2, .agg #[.int .i64 2, .string ⟨#[118, 97, 108, 118, 101]⟩, .string ⟨#[111, 112, 101, 110]⟩], .agg #[.int .i64 1, .int .i64 1, .string ⟨#[]⟩]] w fun r w' => r = .returned (.string (⟨#[103, 97, 115]⟩ : ByteArray)) ∧ Lat w w' := by
  have h := blocked_any (ps0 g1 g2) (some ⟨g, 0, none⟩) 2 [(⟨#[103, 97, 115]⟩ : ByteArray), (⟨#[119, 97, 116, 101, 114]⟩ : ByteArray)] (some ⟨ga, 0, none⟩) 2 (⟨2, ⟨#[118, 97, 108, 118, 101]⟩, ⟨#[111, 112, 101, 110]⟩⟩ : LKey) (⟨1, 1, ⟨#[]⟩⟩ : LVal) w hx hy (by show 2 < 40; decide) (by show 2 ≤ _; decide) (few0 g1 g2)
  rw [blk1] at h
  exact h
theorem lv_a0 : Calls Tryz.prog 14 #[.slice (some ⟨g, 0, none⟩) 2 2, .slice (some ⟨ga, 0, none⟩) 2 2, .agg #[.int .i64 2, .string ⟨#[118, 97, 108, 118, 101]⟩, .string ⟨#[111, 112, 101, 110]⟩], .agg #[.int .i64 1, .int .i64 0, .string ⟨#[]⟩]] w fun r w' => r = .returned (.bool true) ∧ Lat w w' := by
  have h := allowed_any (ps0 g1 g2) (some ⟨g, 0, none⟩) 2 [(⟨#[103, 97, 115]⟩ : ByteArray), (⟨#[119, 97, 116, 101, 114]⟩ : ByteArray)] (some ⟨ga, 0, none⟩) 2 (⟨2, ⟨#[118, 97, 108, 118, 101]⟩, ⟨#[111, 112, 101, 110]⟩⟩ : LKey) (⟨1, 0, ⟨#[]⟩⟩ : LVal) w hx hy (by show 2 < 40; decide) (by show 2 ≤ _; decide) (few0 g1 g2)
  rw [blk0, decide_eq_true (by rfl)] at h
  exact h
end
theorem lv_bw (g g1 g2 ga : Nat) (w : World) (hx : RdL w (ps0 g1 g2) (.slice (some ⟨g, 0, none⟩) 2 2)) (hy : ES.Rd w [(⟨#[119, 97, 116, 101, 114]⟩ : ByteArray)] (.slice (some ⟨ga, 0, none⟩) 1 1)) : Calls Tryz.prog 13 #[.slice (some ⟨g, 0, none⟩) 2 2, .slice (some ⟨ga, 0, none⟩) 1 1, .agg #[.int .i64 2, .string ⟨#[118, 97, 108, 118, 101]⟩, .string ⟨#[111, 112, 101, 110]⟩], .agg #[.int .i64 1, .int .i64 0, .string ⟨#[]⟩]] w fun r w' => r = .returned (.string (⟨#[119, 97, 116, 101, 114]⟩ : ByteArray)) ∧ Lat w w' := by
  have h := blocked_any (ps0 g1 g2) (some ⟨g, 0, none⟩) 2 [(⟨#[119, 97, 116, 101, 114]⟩ : ByteArray)] (some ⟨ga, 0, none⟩) 1 (⟨2, ⟨#[118, 97, 108, 118, 101]⟩, ⟨#[111, 112, 101, 110]⟩⟩ : LKey) (⟨1, 0, ⟨#[]⟩⟩ : LVal) w hx hy (by show 2 < 40; decide) (by show 1 ≤ _; decide) (few0 g1 g2)
  rw [blkw] at h
  exact h
structure LCs where
  k : Int
  n : ByteArray
  p : Int
  deriving DecidableEq
def cC (x : LCs) : List Value := [.int .i64 x.k, .string x.n, .int .i64 x.p]
theorem eqlCs (p q : LCs) (w : World) : (Op.equalIn 10000 42 (.agg (cC p).toArray) (.agg (cC q).toArray)).run Tryz.prog w = .ok (decide (p = q)) w := by
  obtain ⟨p1, p2, p3⟩ := p
  obtain ⟨q1, q2, q3⟩ := q
  have h := eqlC 9998 p1 p2 p3 q1 q2 q3 w
  rw [show cC ⟨p1, p2, p3⟩ = [.int .i64 p1, .string p2, .int .i64 p3] from rfl, show cC ⟨q1, q2, q3⟩ = [.int .i64 q1, .string q2, .int .i64 q3] from rfl]
  rw [show decide ((⟨p1, p2, p3⟩ : LCs) = ⟨q1, q2, q3⟩) = decide (p1 = q1 ∧ p2 = q2 ∧ p3 = q3) from by simp]
  exact h
theorem eql_c (p q : LCs) (w : World) : (binOp .eql 42 (.agg (cC p).toArray) (.agg (cC q).toArray)).run Tryz.prog w = .ok (.bool (decide (p = q))) w := by
  have h : (Op.equalIn 10000 42 (.agg (cC p).toArray) (.agg (cC q).toArray)).run Tryz.prog w = .ok (decide (p = q)) w := eqlCs p q w
  rw [run_eql_struct]
  generalize (Op.equalIn 10000 42 (.agg (cC p).toArray) (.agg (cC q).toArray)).run Tryz.prog w = R at *
  rw [h]; rfl
set_option maxRecDepth 100000 in
theorem guard_c (op : BinOp) (a b : Operand) (p q : LCs) (w : World) : (eqGuard op 42 a b (.agg (cC p).toArray) (.agg (cC q).toArray)).run Tryz.prog w = .ok () w := run_eqGuard_agg w op 42 a b _ _ (by kernel_rfl)
theorem wp_eql_c {o : Oper} {a : Act} {w : World} {K : Act → World → Prop} {Q : Exit → Act → World → Prop} (x y : Operand) (T : TypeId) (ho : o.op = .binOp .eql 42 x y T) (p q : LCs) (hx : a.eval x = .agg (cC p).toArray) (hy : a.eval y = .agg (cC q).toArray) {E : Bool} (hE : decide (p = q) = E)
    (h : K (a.put o.dst (.bool E)) w) : o.wp Tryz.prog a w K Q := by
  unfold Oper.wp execOp
  simp only [ho, hx, hy, Sem.run_bind, guard_c, eql_c, Result.andThen_ok, Sem.run_pure, hE]
  exact h
set_option maxRecDepth 100000 in
set_option maxHeartbeats 8000000 in
theorem lives_any (w : World) : Calls Tryz.prog 6 #[] w fun r w' => r = .returned (.bool true) ∧ Lat w w' := by
  have hL0 : Lat w (w.alloc (.cells #[.int .i64 2, .string ⟨#[118, 97, 108, 118, 101]⟩, .string ⟨#[111, 112, 101, 110]⟩] 34)) := Lat.al _ _
  have hb0 := Blk.new w 34 #[.int .i64 2, .string ⟨#[118, 97, 108, 118, 101]⟩, .string ⟨#[111, 112, 101, 110]⟩]
  go_enter Tryz.func6, Tryz.ntmps6
  go_wp2_with fail
  generalize w.alloc (.cells #[.int .i64 2, .string ⟨#[118, 97, 108, 118, 101]⟩, .string ⟨#[111, 112, 101, 110]⟩] 34) = w1 at *
  generalize w.heap.size = g0 at *
  have hk0 := hb0.row
  have hg0 := hb0.lt
  refine wp_rely (by kernel_rfl) (by kernel_rfl) ?_
  apply RelyL.val
  · intro ν w' hL hF K hK'
    refine take_op rfl ?_
    refine wp_load_at 34 _ rfl g0 (0) rfl _ _ (hk0.below hL hg0) Tryz.underlying34 rfl (by kernel_rfl) ?_
    exact hK'.out _ _ rfl (Lat.refl _)
  simp only [Act.put, List.setIfInBounds_toArray, List.set_cons_zero, List.set_cons_succ, Nat.reduceAdd]
  apply RelyL.val
  · intro ν w' hL hF K hK'
    have H := Lib.hid (flag_any 1 w')
    go_simp
    go_at_call 10
    refine H.out.mono ?_
    rintro r w'' ⟨rfl, hbp⟩
    exact hK'.out _ _ rfl hbp
  simp only [Act.put, List.setIfInBounds_toArray, List.set_cons_zero, List.set_cons_succ, Nat.reduceAdd]
  apply RelyL.val
  · intro ν w' hL hF K hK'
    go_simp
    exact hK'.out _ _ rfl (Lat.refl _)
  simp only [Act.put, List.setIfInBounds_toArray, List.set_cons_zero, List.set_cons_succ, Nat.reduceAdd]
  refine RelyL.law (fun v w => ∃ g1, v = .slice (some ⟨g1, 0, none⟩) 1 1 ∧ Blk w g1 51 #[.int .i64 2, .string ⟨#[118, 97, 108, 118, 101]⟩, .string ⟨#[111, 112, 101, 110]⟩, .int .i64 1, .int .i64 1, .string ⟨#[]⟩, .int .i64 0]) (fun v w1 w2 hl h => by obtain ⟨g1, h1, h2⟩ := h; exact ⟨g1, h1, h2.lat hl⟩) (fun ν w' hL hF K hK => ?_) ?_
  · go_simp
    exact hK.out _ _ _ rfl ⟨_, rfl, Blk.new _ _ _⟩ (Lat.al _ _)
  simp only [Act.put, List.setIfInBounds_toArray, List.set_cons_zero, List.set_cons_succ, Nat.reduceAdd]
  refine RelyL.law (fun v w => ∃ g1, v = .agg #[.string (⟨#[119, 97, 116, 101, 114]⟩ : ByteArray), .int .i64 2, .int .i64 0, .int .i64 0, .int .i64 0, .string ⟨#[]⟩, .int .i64 0, .int .i64 0, .string ⟨#[]⟩, .int .i64 0, .string ⟨#[]⟩, .string ⟨#[]⟩, .slice none 0 0, .bool false, .slice (some ⟨g1, 0, none⟩) 1 1, .slice none 0 0] ∧ Blk w g1 51 #[.int .i64 2, .string ⟨#[118, 97, 108, 118, 101]⟩, .string ⟨#[111, 112, 101, 110]⟩, .int .i64 1, .int .i64 1, .string ⟨#[]⟩, .int .i64 0]) (fun v w1 w2 hl h => by obtain ⟨g1, h1, h2⟩ := h; exact ⟨g1, h1, h2.lat hl⟩) (fun ν w' hL hF K hK => ?_) ?_
  · have h4 := hF.get 0 rfl (by kernel_rfl)
    dsimp only at h4
    generalize ν 3 = y3 at *
    obtain ⟨g1, rfl, hb⟩ := h4
    clear hF
    go_simp
    exact hK.out _ _ _ rfl ⟨g1, rfl, hb⟩ (Lat.refl _)
  simp only [Act.put, List.setIfInBounds_toArray, List.set_cons_zero, List.set_cons_succ, Nat.reduceAdd]
  apply RelyL.val
  · intro ν w' hL hF K hK'
    refine take_op rfl ?_
    refine wp_load_at 34 _ rfl g0 (0) rfl _ _ (hk0.below hL hg0) Tryz.underlying34 rfl (by kernel_rfl) ?_
    exact hK'.out _ _ rfl (Lat.refl _)
  simp only [Act.put, List.setIfInBounds_toArray, List.set_cons_zero, List.set_cons_succ, Nat.reduceAdd]
  apply RelyL.val
  · intro ν w' hL hF K hK'
    have H := Lib.hid (flag_any 0 w')
    go_simp
    go_at_call 10
    refine H.out.mono ?_
    rintro r w'' ⟨rfl, hbp⟩
    exact hK'.out _ _ rfl hbp
  simp only [Act.put, List.setIfInBounds_toArray, List.set_cons_zero, List.set_cons_succ, Nat.reduceAdd]
  apply RelyL.val
  · intro ν w' hL hF K hK'
    go_simp
    exact hK'.out _ _ rfl (Lat.refl _)
  simp only [Act.put, List.setIfInBounds_toArray, List.set_cons_zero, List.set_cons_succ, Nat.reduceAdd]
  refine RelyL.law (fun v w => ∃ g1, v = .slice (some ⟨g1, 0, none⟩) 1 1 ∧ Blk w g1 51 #[.int .i64 2, .string ⟨#[118, 97, 108, 118, 101]⟩, .string ⟨#[111, 112, 101, 110]⟩, .int .i64 1, .int .i64 0, .string ⟨#[]⟩, .int .i64 0]) (fun v w1 w2 hl h => by obtain ⟨g1, h1, h2⟩ := h; exact ⟨g1, h1, h2.lat hl⟩) (fun ν w' hL hF K hK => ?_) ?_
  · go_simp
    exact hK.out _ _ _ rfl ⟨_, rfl, Blk.new _ _ _⟩ (Lat.al _ _)
  simp only [Act.put, List.setIfInBounds_toArray, List.set_cons_zero, List.set_cons_succ, Nat.reduceAdd]
  refine RelyL.law (fun v w => ∃ g2, v = .agg #[.string (⟨#[103, 97, 115]⟩ : ByteArray), .int .i64 1, .int .i64 0, .int .i64 0, .int .i64 0, .string ⟨#[]⟩, .int .i64 0, .int .i64 0, .string ⟨#[]⟩, .int .i64 0, .string ⟨#[]⟩, .string ⟨#[]⟩, .slice none 0 0, .bool false, .slice (some ⟨g2, 0, none⟩) 1 1, .slice none 0 0] ∧ Blk w g2 51 #[.int .i64 2, .string ⟨#[118, 97, 108, 118, 101]⟩, .string ⟨#[111, 112, 101, 110]⟩, .int .i64 1, .int .i64 0, .string ⟨#[]⟩, .int .i64 0]) (fun v w1 w2 hl h => by obtain ⟨g1, h1, h2⟩ := h; exact ⟨g1, h1, h2.lat hl⟩) (fun ν w' hL hF K hK => ?_) ?_
  · have h4 := hF.get 0 rfl (by kernel_rfl)
    dsimp only at h4
    generalize ν 8 = y3 at *
    obtain ⟨g1, rfl, hb⟩ := h4
    clear hF
    go_simp
    exact hK.out _ _ _ rfl ⟨g1, rfl, hb⟩ (Lat.refl _)
  simp only [Act.put, List.setIfInBounds_toArray, List.set_cons_zero, List.set_cons_succ, Nat.reduceAdd]
  refine RelyL.law (fun v w => ∃ g g1 g2, v = .slice (some ⟨g, 0, none⟩) 2 2 ∧ Blk w g 40 #[.string (⟨#[119, 97, 116, 101, 114]⟩ : ByteArray), .int .i64 2, .int .i64 0, .int .i64 0, .int .i64 0, .string ⟨#[]⟩, .int .i64 0, .int .i64 0, .string ⟨#[]⟩, .int .i64 0, .string ⟨#[]⟩, .string ⟨#[]⟩, .slice none 0 0, .bool false, .slice (some ⟨g1, 0, none⟩) 1 1, .slice none 0 0, .string (⟨#[103, 97, 115]⟩ : ByteArray), .int .i64 1, .int .i64 0, .int .i64 0, .int .i64 0, .string ⟨#[]⟩, .int .i64 0, .int .i64 0, .string ⟨#[]⟩, .int .i64 0, .string ⟨#[]⟩, .string ⟨#[]⟩, .slice none 0 0, .bool false, .slice (some ⟨g2, 0, none⟩) 1 1, .slice none 0 0] ∧ Blk w g1 51 #[.int .i64 2, .string ⟨#[118, 97, 108, 118, 101]⟩, .string ⟨#[111, 112, 101, 110]⟩, .int .i64 1, .int .i64 1, .string ⟨#[]⟩, .int .i64 0] ∧ Blk w g2 51 #[.int .i64 2, .string ⟨#[118, 97, 108, 118, 101]⟩, .string ⟨#[111, 112, 101, 110]⟩, .int .i64 1, .int .i64 0, .string ⟨#[]⟩, .int .i64 0]) (fun v w1 w2 hl h => by obtain ⟨g, g1, g2, h1, h2, h3, h4⟩ := h; exact ⟨g, g1, g2, h1, h2.lat hl, h3.lat hl, h4.lat hl⟩) (fun ν w' hL hF K hK => ?_) ?_
  · have h9 := hF.get 0 rfl (by kernel_rfl)
    have h4 := hF.get 2 rfl (by kernel_rfl)
    dsimp only at h4 h9
    generalize ν 4 = y4 at *
    generalize ν 9 = y9 at *
    obtain ⟨g1, rfl, hb1⟩ := h4
    obtain ⟨g2, rfl, hb2⟩ := h9
    clear hF
    go_simp
    exact hK.out _ _ _ rfl ⟨_, g1, g2, rfl, Blk.new _ _ _, hb1.alloc _, hb2.alloc _⟩ (Lat.al _ _)
  simp only [Act.put, List.setIfInBounds_toArray, List.set_cons_zero, List.set_cons_succ, Nat.reduceAdd]
  refine RelyL.law (fun v w => ∃ g g1 g2, v = .slice (some ⟨g, 0, none⟩) 2 2 ∧ Blk w g 40 #[.string (⟨#[119, 97, 116, 101, 114]⟩ : ByteArray), .int .i64 2, .int .i64 0, .int .i64 0, .int .i64 0, .string ⟨#[]⟩, .int .i64 0, .int .i64 0, .string ⟨#[]⟩, .int .i64 0, .string ⟨#[]⟩, .string ⟨#[]⟩, .slice none 0 0, .bool false, .slice (some ⟨g1, 0, none⟩) 1 1, .slice none 0 0, .string (⟨#[103, 97, 115]⟩ : ByteArray), .int .i64 1, .int .i64 0, .int .i64 0, .int .i64 0, .string ⟨#[]⟩, .int .i64 0, .int .i64 0, .string ⟨#[]⟩, .int .i64 0, .string ⟨#[]⟩, .string ⟨#[]⟩, .slice none 0 0, .bool false, .slice (some ⟨g2, 0, none⟩) 1 1, .slice none 0 0] ∧ Blk w g1 51 #[.int .i64 2, .string ⟨#[118, 97, 108, 118, 101]⟩, .string ⟨#[111, 112, 101, 110]⟩, .int .i64 1, .int .i64 1, .string ⟨#[]⟩, .int .i64 0] ∧ Blk w g2 51 #[.int .i64 2, .string ⟨#[118, 97, 108, 118, 101]⟩, .string ⟨#[111, 112, 101, 110]⟩, .int .i64 1, .int .i64 0, .string ⟨#[]⟩, .int .i64 0]) (fun v w1 w2 hl h => by obtain ⟨g, g1, g2, h1, h2, h3, h4⟩ := h; exact ⟨g, g1, g2, h1, h2.lat hl, h3.lat hl, h4.lat hl⟩) (fun ν w' hL hF K hK => ?_) ?_
  · have h4 := hF.get 0 rfl (by kernel_rfl)
    dsimp only at h4
    generalize ν 10 = y10 at *
    obtain ⟨g, g1, g2, rfl, hb, hb1, hb2⟩ := h4
    clear hF
    go_simp
    exact hK.out _ _ _ rfl ⟨g, g1, g2, rfl, hb, hb1, hb2⟩ (Lat.refl _)
  simp only [Act.put, List.setIfInBounds_toArray, List.set_cons_zero, List.set_cons_succ, Nat.reduceAdd]
  refine RelyL.done fun ν w2 hL hF => ?_
  have h4 := hF.get 0 rfl
  dsimp only at h4
  clear hF
  generalize ν 11 = y11 at *
  obtain ⟨g, g1, g2, rfl, hb, hb1, hb2⟩ := h4
  have hrd : RdL w2 (ps0 g1 g2) (.slice (some ⟨g, 0, none⟩) 2 2) := rd_ps hb hb1 hb2
  have hLW := hL0.trans hL
  have hb0' := hb0.lat hL
  clear hb hb1 hb2 hk0 hg0 hb0 hL0 hL
  generalize ν 3 = y3 at *
  generalize ν 4 = y4 at *
  generalize ν 8 = y8 at *
  generalize ν 9 = y9 at *
  generalize ν 10 = y10 at *
  have hL3 : Lat w2 (w2.alloc (.cells #[.string (⟨#[103, 97, 115]⟩ : ByteArray), .string (⟨#[119, 97, 116, 101, 114]⟩ : ByteArray)] 9)) := Lat.al _ _
  have hn3 := rd_n2 (⟨#[103, 97, 115]⟩ : ByteArray) (⟨#[119, 97, 116, 101, 114]⟩ : ByteArray) (Blk.new w2 9 #[.string (⟨#[103, 97, 115]⟩ : ByteArray), .string (⟨#[119, 97, 116, 101, 114]⟩ : ByteArray)])
  have hrd3 := hrd.lat hL3
  have hb3 := hb0'.lat hL3
  have hLW3 := hLW.trans hL3
  clear hrd hb0' hLW hL3
  go_wp2_with fail
  generalize w2.alloc (.cells #[.string (⟨#[103, 97, 115]⟩ : ByteArray), .string (⟨#[119, 97, 116, 101, 114]⟩ : ByteArray)] 9) = w3 at *
  generalize w2.heap.size = ga at *
  refine (lv_forced g g1 g2 ga w3 hrd3 hn3).mono ?_
  rintro r w4 ⟨⟨A4, c4, rfl, hr4⟩, hl4⟩
  have hrd4 := hrd3.lat hl4
  have hn4 := hn3.lat hl4
  have hb4 := hb3.lat hl4
  have hLW4 := hLW3.trans hl4
  clear hrd3 hn3 hb3 hLW3 hl4
  go_wp2_with fail
  refine (lv_conf g g1 g2 ga w4 hrd4 hn4).mono ?_
  rintro r w5 ⟨⟨A5, c5, rfl, hr5⟩, hl5⟩
  have hrd5 := hrd4.lat hl5
  have hn5 := hn4.lat hl5
  have hk0 := (hb4.lat hl5).row
  have hg0 := (hb4.lat hl5).lt
  have hLW5 := hLW4.trans hl5
  obtain ⟨bf, of, hA4, hbf, hrf0⟩ := (hr4.lat hl5).row 0 (by decide)
  obtain ⟨bc, oc, hA5, hbc, hrc0⟩ := hr5.row 0 (by decide)
  subst hA4 hA5
  have hrf : RowAt w5 bf of [.int .i64 2, .string ⟨#[118, 97, 108, 118, 101]⟩, .string ⟨#[111, 112, 101, 110]⟩, .int .i64 1, .int .i64 0, .string ⟨#[]⟩, .int .i64 4, .string (⟨#[103, 97, 115]⟩ : ByteArray), .int .i64 99, .int .i64 0] := by rw [Nat.zero_mul, Nat.add_zero] at hrf0; exact hrf0
  have hrc : RowAt w5 bc oc [.int .i64 2, .string ⟨#[118, 97, 108, 118, 101]⟩, .string ⟨#[111, 112, 101, 110]⟩] := by rw [Nat.zero_mul, Nat.add_zero] at hrc0; exact hrc0
  have hrv : RowAt w5 bf (of + 3) [.int .i64 1, .int .i64 0, .string ⟨#[]⟩] := fun q v hq => by
    have hq3 : q < 3 := (List.getElem?_eq_some_iff.1 hq).1
    rw [Nat.add_assoc, Nat.add_comm 3 q]
    refine hrf (q + 3) v ?_
    match q, hq3 with
    | 0, _ => exact hq
    | 1, _ => exact hq
    | 2, _ => exact hq
  have hrz : RowAt w5 bf (of + 6) [.int .i64 4, .string (⟨#[103, 97, 115]⟩ : ByteArray), .int .i64 99] := fun q v hq => by
    have hq3 : q < 3 := (List.getElem?_eq_some_iff.1 hq).1
    rw [Nat.add_assoc, Nat.add_comm 6 q]
    refine hrf (q + 6) v ?_
    match q, hq3 with
    | 0, _ => exact hq
    | 1, _ => exact hq
    | 2, _ => exact hq
  clear hrd4 hn4 hb4 hLW4 hl5 hr4 hr5 hrf0 hrc0 hrf
  go_wp2_with fail
  refine wp_rely (by kernel_rfl) (by kernel_rfl) ?_
  apply RelyL.val
  · intro ν w' hL hF K hK'
    go_simp
    exact hK'.out _ _ rfl (Lat.refl _)
  simp only [Act.put, List.setIfInBounds_toArray, List.set_cons_zero, List.set_cons_succ, Nat.reduceAdd]
  apply RelyL.val
  · intro ν w' hL hF K hK'
    go_simp
    exact hK'.out _ _ rfl (Lat.refl _)
  simp only [Act.put, List.setIfInBounds_toArray, List.set_cons_zero, List.set_cons_succ, Nat.reduceAdd]
  apply RelyL.val
  · intro ν w' hL hF K hK'
    go_simp
    exact hK'.out _ _ rfl (Lat.refl _)
  simp only [Act.put, List.setIfInBounds_toArray, List.set_cons_zero, List.set_cons_succ, Nat.reduceAdd]
  apply RelyL.val
  · intro ν w' hL hF K hK'
    go_simp
    exact hK'.out _ _ rfl (Lat.refl _)
  simp only [Act.put, List.setIfInBounds_toArray, List.set_cons_zero, List.set_cons_succ, Nat.reduceAdd]
  apply RelyL.val
  · intro ν w' hL hF K hK'
    go_simp
    exact hK'.out _ _ rfl (Lat.refl _)
  simp only [Act.put, List.setIfInBounds_toArray, List.set_cons_zero, List.set_cons_succ, Nat.reduceAdd]
  apply RelyL.val
  · intro ν w' hL hF K hK'
    go_simp
    exact hK'.out _ _ rfl (Lat.refl _)
  simp only [Act.put, List.setIfInBounds_toArray, List.set_cons_zero, List.set_cons_succ, Nat.reduceAdd]
  apply RelyL.val
  · intro ν w' hL hF K hK'
    go_simp
    exact hK'.out _ _ rfl (Lat.refl _)
  simp only [Act.put, List.setIfInBounds_toArray, List.set_cons_zero, List.set_cons_succ, Nat.reduceAdd]
  apply RelyL.val
  · intro ν w' hL hF K hK'
    refine take_op rfl ?_
    refine wp_load_at 32 _ rfl bf ((of + 3)) rfl _ _ (hrv.below hL hbf) Tryz.underlying32 rfl (by kernel_rfl) ?_
    exact hK'.out _ _ rfl (Lat.refl _)
  simp only [Act.put, List.setIfInBounds_toArray, List.set_cons_zero, List.set_cons_succ, Nat.reduceAdd]
  apply RelyL.val
  · intro ν w' hL hF K hK'
    have H := Lib.hid (flag_any 0 w')
    go_simp
    go_at_call 10
    refine H.out.mono ?_
    rintro r w'' ⟨rfl, hbp⟩
    exact hK'.out _ _ rfl hbp
  simp only [Act.put, List.setIfInBounds_toArray, List.set_cons_zero, List.set_cons_succ, Nat.reduceAdd]
  apply RelyL.val
  · intro ν w' hL hF K hK'
    refine take_op rfl ?_
    refine wp_eql_v _ _ _ rfl (⟨1, 0, ⟨#[]⟩⟩ : LVal) (⟨1, 0, ⟨#[]⟩⟩ : LVal) rfl rfl (decide_eq_true rfl) ?_
    exact hK'.out _ _ rfl (Lat.refl _)
  simp only [Act.put, List.setIfInBounds_toArray, List.set_cons_zero, List.set_cons_succ, Nat.reduceAdd]
  apply RelyL.val
  · intro ν w' hL hF K hK'
    go_simp
    exact hK'.out _ _ rfl (Lat.refl _)
  simp only [Act.put, List.setIfInBounds_toArray, List.set_cons_zero, List.set_cons_succ, Nat.reduceAdd]
  apply RelyL.val
  · intro ν w' hL hF K hK'
    go_simp
    exact hK'.out _ _ rfl (Lat.refl _)
  simp only [Act.put, List.setIfInBounds_toArray, List.set_cons_zero, List.set_cons_succ, Nat.reduceAdd]
  apply RelyL.val
  · intro ν w' hL hF K hK'
    go_simp
    exact hK'.out _ _ rfl (Lat.refl _)
  simp only [Act.put, List.setIfInBounds_toArray, List.set_cons_zero, List.set_cons_succ, Nat.reduceAdd]
  apply RelyL.val
  · intro ν w' hL hF K hK'
    go_simp
    exact hK'.out _ _ rfl (Lat.refl _)
  simp only [Act.put, List.setIfInBounds_toArray, List.set_cons_zero, List.set_cons_succ, Nat.reduceAdd]
  apply RelyL.val
  · intro ν w' hL hF K hK'
    go_simp
    exact hK'.out _ _ rfl (Lat.refl _)
  simp only [Act.put, List.setIfInBounds_toArray, List.set_cons_zero, List.set_cons_succ, Nat.reduceAdd]
  apply RelyL.val
  · intro ν w' hL hF K hK'
    refine take_op rfl ?_
    refine wp_load_at 42 _ rfl bf ((of + 6)) rfl _ _ (hrz.below hL hbf) Tryz.underlying42 rfl (by kernel_rfl) ?_
    exact hK'.out _ _ rfl (Lat.refl _)
  simp only [Act.put, List.setIfInBounds_toArray, List.set_cons_zero, List.set_cons_succ, Nat.reduceAdd]
  apply RelyL.val
  · intro ν w' hL hF K hK'
    go_simp
    exact hK'.out _ _ rfl (Lat.refl _)
  simp only [Act.put, List.setIfInBounds_toArray, List.set_cons_zero, List.set_cons_succ, Nat.reduceAdd]
  apply RelyL.val
  · intro ν w' hL hF K hK'
    refine take_op rfl ?_
    refine wp_eql_c _ _ _ rfl ⟨4, (⟨#[103, 97, 115]⟩ : ByteArray), 99⟩ ⟨4, (⟨#[103, 97, 115]⟩ : ByteArray), 99⟩ rfl rfl (decide_eq_true rfl) ?_
    exact hK'.out _ _ rfl (Lat.refl _)
  simp only [Act.put, List.setIfInBounds_toArray, List.set_cons_zero, List.set_cons_succ, Nat.reduceAdd]
  apply RelyL.val
  · intro ν w' hL hF K hK'
    go_simp
    exact hK'.out _ _ rfl (Lat.refl _)
  simp only [Act.put, List.setIfInBounds_toArray, List.set_cons_zero, List.set_cons_succ, Nat.reduceAdd]
  apply RelyL.val
  · intro ν w' hL hF K hK'
    go_simp
    exact hK'.out _ _ rfl (Lat.refl _)
  simp only [Act.put, List.setIfInBounds_toArray, List.set_cons_zero, List.set_cons_succ, Nat.reduceAdd]
  apply RelyL.val
  · intro ν w' hL hF K hK'
    go_simp
    exact hK'.out _ _ rfl (Lat.refl _)
  simp only [Act.put, List.setIfInBounds_toArray, List.set_cons_zero, List.set_cons_succ, Nat.reduceAdd]
  apply RelyL.val
  · intro ν w' hL hF K hK'
    go_simp
    exact hK'.out _ _ rfl (Lat.refl _)
  simp only [Act.put, List.setIfInBounds_toArray, List.set_cons_zero, List.set_cons_succ, Nat.reduceAdd]
  apply RelyL.val
  · intro ν w' hL hF K hK'
    refine take_op rfl ?_
    refine wp_load_at 34 _ rfl g0 (0) rfl _ _ (hk0.below hL hg0) Tryz.underlying34 rfl (by kernel_rfl) ?_
    exact hK'.out _ _ rfl (Lat.refl _)
  simp only [Act.put, List.setIfInBounds_toArray, List.set_cons_zero, List.set_cons_succ, Nat.reduceAdd]
  apply RelyL.val
  · intro ν w' hL hF K hK'
    have H := Lib.hid (flag_any 1 w')
    go_simp
    go_at_call 10
    refine H.out.mono ?_
    rintro r w'' ⟨rfl, hbp⟩
    exact hK'.out _ _ rfl hbp
  simp only [Act.put, List.setIfInBounds_toArray, List.set_cons_zero, List.set_cons_succ, Nat.reduceAdd]
  apply RelyL.val
  · intro ν w' hL hF K hK'
    have H := Lib.hid (lv_b1 g g1 g2 ga w' (hrd5.lat hL) (hn5.lat hL))
    go_simp
    go_at_call 13
    refine H.out.mono ?_
    rintro r w'' ⟨rfl, hbp⟩
    exact hK'.out _ _ rfl hbp
  simp only [Act.put, List.setIfInBounds_toArray, List.set_cons_zero, List.set_cons_succ, Nat.reduceAdd]
  apply RelyL.val
  · intro ν w' hL hF K hK'
    go_simp
    exact hK'.out _ _ rfl (Lat.refl _)
  simp only [Act.put, List.setIfInBounds_toArray, List.set_cons_zero, List.set_cons_succ, Nat.reduceAdd]
  apply RelyL.val
  · intro ν w' hL hF K hK'
    go_simp
    exact hK'.out _ _ rfl (Lat.refl _)
  simp only [Act.put, List.setIfInBounds_toArray, List.set_cons_zero, List.set_cons_succ, Nat.reduceAdd]
  apply RelyL.val
  · intro ν w' hL hF K hK'
    go_simp
    exact hK'.out _ _ rfl (Lat.refl _)
  simp only [Act.put, List.setIfInBounds_toArray, List.set_cons_zero, List.set_cons_succ, Nat.reduceAdd]
  apply RelyL.val
  · intro ν w' hL hF K hK'
    go_simp
    exact hK'.out _ _ rfl (Lat.refl _)
  simp only [Act.put, List.setIfInBounds_toArray, List.set_cons_zero, List.set_cons_succ, Nat.reduceAdd]
  apply RelyL.val
  · intro ν w' hL hF K hK'
    go_simp
    exact hK'.out _ _ rfl (Lat.refl _)
  simp only [Act.put, List.setIfInBounds_toArray, List.set_cons_zero, List.set_cons_succ, Nat.reduceAdd]
  apply RelyL.val
  · intro ν w' hL hF K hK'
    refine take_op rfl ?_
    refine wp_load_at 34 _ rfl g0 (0) rfl _ _ (hk0.below hL hg0) Tryz.underlying34 rfl (by kernel_rfl) ?_
    exact hK'.out _ _ rfl (Lat.refl _)
  simp only [Act.put, List.setIfInBounds_toArray, List.set_cons_zero, List.set_cons_succ, Nat.reduceAdd]
  apply RelyL.val
  · intro ν w' hL hF K hK'
    have H := Lib.hid (flag_any 0 w')
    go_simp
    go_at_call 10
    refine H.out.mono ?_
    rintro r w'' ⟨rfl, hbp⟩
    exact hK'.out _ _ rfl hbp
  simp only [Act.put, List.setIfInBounds_toArray, List.set_cons_zero, List.set_cons_succ, Nat.reduceAdd]
  apply RelyL.val
  · intro ν w' hL hF K hK'
    have H := Lib.hid (lv_a0 g g1 g2 ga w' (hrd5.lat hL) (hn5.lat hL))
    go_simp
    go_at_call 14
    refine H.out.mono ?_
    rintro r w'' ⟨rfl, hbp⟩
    exact hK'.out _ _ rfl hbp
  simp only [Act.put, List.setIfInBounds_toArray, List.set_cons_zero, List.set_cons_succ, Nat.reduceAdd]
  apply RelyL.val
  · intro ν w' hL hF K hK'
    go_simp
    exact hK'.out _ _ rfl (Lat.refl _)
  simp only [Act.put, List.setIfInBounds_toArray, List.set_cons_zero, List.set_cons_succ, Nat.reduceAdd]
  apply RelyL.val
  · intro ν w' hL hF K hK'
    go_simp
    exact hK'.out _ _ rfl (Lat.refl _)
  simp only [Act.put, List.setIfInBounds_toArray, List.set_cons_zero, List.set_cons_succ, Nat.reduceAdd]
  apply RelyL.val
  · intro ν w' hL hF K hK'
    go_simp
    exact hK'.out _ _ rfl (Lat.refl _)
  simp only [Act.put, List.setIfInBounds_toArray, List.set_cons_zero, List.set_cons_succ, Nat.reduceAdd]
  apply RelyL.val
  · intro ν w' hL hF K hK'
    go_simp
    exact hK'.out _ _ rfl (Lat.refl _)
  simp only [Act.put, List.setIfInBounds_toArray, List.set_cons_zero, List.set_cons_succ, Nat.reduceAdd]
  apply RelyL.val
  · intro ν w' hL hF K hK'
    go_simp
    exact hK'.out _ _ rfl (Lat.refl _)
  simp only [Act.put, List.setIfInBounds_toArray, List.set_cons_zero, List.set_cons_succ, Nat.reduceAdd]
  apply RelyL.val
  · intro ν w' hL hF K hK'
    go_simp
    exact hK'.out _ _ rfl (Lat.refl _)
  simp only [Act.put, List.setIfInBounds_toArray, List.set_cons_zero, List.set_cons_succ, Nat.reduceAdd]
  apply RelyL.val
  · intro ν w' hL hF K hK'
    go_simp
    exact hK'.out _ _ rfl (Lat.refl _)
  simp only [Act.put, List.setIfInBounds_toArray, List.set_cons_zero, List.set_cons_succ, Nat.reduceAdd]
  apply RelyL.val
  · intro ν w' hL hF K hK'
    go_simp
    exact hK'.out _ _ rfl (Lat.refl _)
  simp only [Act.put, List.setIfInBounds_toArray, List.set_cons_zero, List.set_cons_succ, Nat.reduceAdd]
  apply RelyL.val
  · intro ν w' hL hF K hK'
    go_simp
    exact hK'.out _ _ rfl (Lat.refl _)
  simp only [Act.put, List.setIfInBounds_toArray, List.set_cons_zero, List.set_cons_succ, Nat.reduceAdd]
  apply RelyL.val
  · intro ν w' hL hF K hK'
    refine take_op rfl ?_
    refine wp_load_at 34 _ rfl bc (oc) rfl _ _ (hrc.below hL hbc) Tryz.underlying34 rfl (by kernel_rfl) ?_
    exact hK'.out _ _ rfl (Lat.refl _)
  simp only [Act.put, List.setIfInBounds_toArray, List.set_cons_zero, List.set_cons_succ, Nat.reduceAdd]
  apply RelyL.val
  · intro ν w' hL hF K hK'
    refine take_op rfl ?_
    refine wp_load_at 34 _ rfl g0 (0) rfl _ _ (hk0.below hL hg0) Tryz.underlying34 rfl (by kernel_rfl) ?_
    exact hK'.out _ _ rfl (Lat.refl _)
  simp only [Act.put, List.setIfInBounds_toArray, List.set_cons_zero, List.set_cons_succ, Nat.reduceAdd]
  apply RelyL.val
  · intro ν w' hL hF K hK'
    refine take_op rfl ?_
    refine wp_eql_k _ _ _ rfl (⟨2, ⟨#[118, 97, 108, 118, 101]⟩, ⟨#[111, 112, 101, 110]⟩⟩ : LKey) (⟨2, ⟨#[118, 97, 108, 118, 101]⟩, ⟨#[111, 112, 101, 110]⟩⟩ : LKey) rfl rfl (decide_eq_true rfl) ?_
    exact hK'.out _ _ rfl (Lat.refl _)
  simp only [Act.put, List.setIfInBounds_toArray, List.set_cons_zero, List.set_cons_succ, Nat.reduceAdd]
  apply RelyL.val
  · intro ν w' hL hF K hK'
    go_simp
    exact hK'.out _ _ rfl (Lat.refl _)
  simp only [Act.put, List.setIfInBounds_toArray, List.set_cons_zero, List.set_cons_succ, Nat.reduceAdd]
  apply RelyL.val
  · intro ν w' hL hF K hK'
    go_simp
    exact hK'.out _ _ rfl (Lat.refl _)
  simp only [Act.put, List.setIfInBounds_toArray, List.set_cons_zero, List.set_cons_succ, Nat.reduceAdd]
  apply RelyL.val
  · intro ν w' hL hF K hK'
    go_simp
    exact hK'.out _ _ rfl (Lat.refl _)
  simp only [Act.put, List.setIfInBounds_toArray, List.set_cons_zero, List.set_cons_succ, Nat.reduceAdd]
  refine RelyL.law (fun v w => ∃ g1, v = .slice (some ⟨g1, 0, none⟩) 1 1 ∧ Blk w g1 9 #[.string (⟨#[119, 97, 116, 101, 114]⟩ : ByteArray)]) (fun v w1 w2 hl h => by obtain ⟨g1, h1, h2⟩ := h; exact ⟨g1, h1, h2.lat hl⟩) (fun ν w' hL hF K hK => ?_) ?_
  · go_simp
    exact hK.out _ _ _ rfl ⟨_, rfl, Blk.new _ _ _⟩ (Lat.al _ _)
  simp only [Act.put, List.setIfInBounds_toArray, List.set_cons_zero, List.set_cons_succ, Nat.reduceAdd]
  apply RelyL.val
  · intro ν w' hL hF K hK'
    refine take_op rfl ?_
    refine wp_load_at 34 _ rfl g0 (0) rfl _ _ (hk0.below hL hg0) Tryz.underlying34 rfl (by kernel_rfl) ?_
    exact hK'.out _ _ rfl (Lat.refl _)
  simp only [Act.put, List.setIfInBounds_toArray, List.set_cons_zero, List.set_cons_succ, Nat.reduceAdd]
  apply RelyL.val
  · intro ν w' hL hF K hK'
    have H := Lib.hid (flag_any 0 w')
    go_simp
    go_at_call 10
    refine H.out.mono ?_
    rintro r w'' ⟨rfl, hbp⟩
    exact hK'.out _ _ rfl hbp
  simp only [Act.put, List.setIfInBounds_toArray, List.set_cons_zero, List.set_cons_succ, Nat.reduceAdd]
  apply RelyL.val
  · intro ν w' hL hF K hK'
    have h4 := hF.get 0 rfl (by kernel_rfl)
    dsimp only at h4
    generalize ν 48 = y48 at *
    obtain ⟨gw, rfl, hbw⟩ := h4
    have H := Lib.hid (lv_bw g g1 g2 gw w' (hrd5.lat hL) (rd_n1 (⟨#[119, 97, 116, 101, 114]⟩ : ByteArray) hbw))
    clear hF
    go_simp
    go_at_call 13
    refine H.out.mono ?_
    rintro r w'' ⟨rfl, hbp⟩
    exact hK'.out _ _ rfl hbp
  simp only [Act.put, List.setIfInBounds_toArray, List.set_cons_zero, List.set_cons_succ, Nat.reduceAdd]
  apply RelyL.val
  · intro ν w' hL hF K hK'
    go_simp
    exact hK'.out _ _ rfl (Lat.refl _)
  simp only [Act.put, List.setIfInBounds_toArray, List.set_cons_zero, List.set_cons_succ, Nat.reduceAdd]
  apply RelyL.val
  · intro ν w' hL hF K hK'
    go_simp
    exact hK'.out _ _ rfl (Lat.refl _)
  simp only [Act.put, List.setIfInBounds_toArray, List.set_cons_zero, List.set_cons_succ, Nat.reduceAdd]
  apply RelyL.val
  · intro ν w' hL hF K hK'
    go_simp
    exact hK'.out _ _ rfl (Lat.refl _)
  simp only [Act.put, List.setIfInBounds_toArray, List.set_cons_zero, List.set_cons_succ, Nat.reduceAdd]
  refine RelyL.done fun ν w9 hL9 hF => ?_
  clear hF
  generalize ν 48 = y48 at *
  have hLW9 := hLW5.trans hL9
  go_wp2_with fail
  go_ret
  exact ⟨rfl, hLW9⟩
end Go.Proofs.YtmgalnbacenbbaaGreat
