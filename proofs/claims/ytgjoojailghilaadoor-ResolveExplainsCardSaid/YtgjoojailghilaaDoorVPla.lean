/- Resolve: the reference's place. -/
import Derived.Test.YtgjoojailghilaaDoorVIns
set_option linter.unusedSimpArgs false
set_option linter.unusedVariables false
namespace Go.Proofs.YtgjoojailghilaaDoor
open Go.RowKit

/-- A decision of which only the key is laid in. -/
def zC (k : LKey) : List Value := [.int .i64 k.dev, .string k.cl, .string k.at_, .int .i64 0, .string { data := #[] }, .string { data := #[] }, .int .i64 0, .int .i64 0, .string { data := #[] }, .int .i64 0, .string { data := #[] }, .int .i64 0, .int .i64 0, .slice none 0 0, .int .i64 0]
theorem zC_is (k : LKey) : zC k = DR.cells ⟨k, ⟨⟨0, noStr, noStr⟩, ⟨0, 0, noStr⟩, 0, noStr, 0, 0⟩, none, 0, 0, 0⟩ := rfl
noncomputable def EZ : Elt LKey := { ED with
  f := zC
  len := fun x => rfl
  one := fun x u hu => by rw [zC_is] at hu; exact ED.one _ u hu }
theorem foldZ (x : LKey) : List.foldl (fun cs x => Array.setIfInBounds cs x.snd x.fst) #[Value.int .i64 0, .string { data := #[] }, .string { data := #[] }, .int .i64 0, .string { data := #[] }, .string { data := #[] }, .int .i64 0, .int .i64 0, .string { data := #[] }, .int .i64 0, .string { data := #[] }, .int .i64 0, .int .i64 0, .slice none 0 0, .int .i64 0] (zC x).zipIdx = (zC x).toArray := by
  obtain ⟨x1, x2, x3⟩ := x
  simp [zC]
theorem foldK (x : LKey) : List.foldl (fun cs x => Array.setIfInBounds cs x.snd x.fst) #[Value.int .i64 0, .string { data := #[] }, .string { data := #[] }, .int .i64 0, .string { data := #[] }, .string { data := #[] }, .int .i64 0, .int .i64 0, .string { data := #[] }, .int .i64 0, .string { data := #[] }, .int .i64 0, .int .i64 0, .slice none 0 0, .int .i64 0] (kC x).zipIdx = (zC x).toArray := by
  obtain ⟨x1, x2, x3⟩ := x
  simp [zC, kC]
theorem zC_key {w : World} {b off : Nat} {k : LKey} (h : RowAt w b off (zC k)) : RowAt w b off (kC k) := fun q v hq => h q v (by
  match q, hq with
  | 0, hq => exact hq
  | 1, hq => exact hq
  | 2, hq => exact hq
  | q + 3, hq => simp [kC] at hq)
theorem rless_c (x y : LKey) (w : World) {e : Bool} (h : kless x y = e) : Calls Tryd.prog 30 #[.agg (kC x).toArray, .agg (kC y).toArray] w fun r w' => r = .returned (.bool e) ∧ Lat w w' := by
  subst h; exact less_r x y w

set_option maxRecDepth 100000 in
set_option maxHeartbeats 4000000 in
theorem place_any (l : List LKey) (x : LKey) (v : Value) (base : Nat) (w : World) (hin : EZ.Own w base l v) (hbase : base ≤ w.heap.size) (hl : l.length ≤ 100000) :
    Calls Tryd.prog 37 #[v, .agg (kC x).toArray] w fun r w' => (∃ v', r = .returned v' ∧ EZ.Own w' base (insB kless l x) v') ∧ Lat w w' := by
  obtain ⟨A, c, rfl⟩ := hin.slice
  have hx := hin.rd
  have HR : Hid (insB kless l x = l.take 0 ++ insB kless (l.drop 0) x) := Lib.hid (by simp)
  generalize insB kless l x = R at *
  have hL0 : Lat w (w.alloc (.cells (kC x).toArray 23)) := Lat.al _ _
  have hbox := Blk.new w 23 (kC x).toArray
  go_enter Tryd.func37, Tryd.ntmps37
  go_wp2_with fail
  go_loopw [5, 6] (fun v i wr => ∃ j : Nat, j ≤ l.length ∧ i = .int .i64 j ∧ EZ.Own wr (w.heap.size + 1) (l.take j) v ∧ Hid (R = l.take j ++ insB kless (l.drop j) x) ∧ Lat (w.alloc (.cells (kC x).toArray 23)) wr) (fun _ i _ => l.length - (intOf i).toNat)
  case atStart => exact ⟨0, Nat.zero_le _, rfl, Elt.Own.nil _ _, HR, Lat.refl _⟩
  case round =>
    clear HR
    obtain ⟨j, hjl, rfl, hown, HR, hLW⟩ := hrel
    have hxr := hbox.lat hLW
    have hrx : RowAt wr w.heap.size 0 (kC x) := hxr.row
    have hbx := hxr.lt
    by_cases hlt : j < l.length
    · obtain ⟨b, off, hA, hb1, hr1'⟩ := (hx.lat (hL0.trans hLW)).row j hlt
      subst hA
      have hr1 : RowAt wr b (off + j * 15) (zC l[j]) := hr1'
      have hk1 := zC_key hr1
      clear hr1'
      have hdj : l.drop j = l[j] :: l.drop (j + 1) := List.drop_eq_getElem_cons hlt
      cases hbe : kless l[j] x
      · have HE := Lib.hid hbe
        rw [hdj, insB, hbe, if_neg (by simp), ← hdj] at HR
        go_wp2_with fail
        refine wp_rely (by kernel_rfl) (by kernel_rfl) ?_
        apply RelyL.val
        · intro ν w' hL hF K hK'
          go_simp
          exact hK'.out _ _ rfl (Lat.refl _)
        simp only [Act.put, List.setIfInBounds_toArray, List.set_cons_zero, List.set_cons_succ, Nat.reduceAdd]
        apply RelyL.val
        · intro ν w' hL hF K hK'
          go_simp
          exact hK'.out _ _ rfl (Lat.refl _)
        simp only [Act.put, List.setIfInBounds_toArray, List.set_cons_zero, List.set_cons_succ, Nat.reduceAdd]
        apply RelyL.val
        · intro ν w' hL hF K hK'
          go_simp
          exact hK'.out _ _ rfl (Lat.refl _)
        simp only [Act.put, List.setIfInBounds_toArray, List.set_cons_zero, List.set_cons_succ, Nat.reduceAdd]
        apply RelyL.val
        · intro ν w' hL hF K hK'
          go_simp
          exact hK'.out _ _ rfl (Lat.refl _)
        simp only [Act.put, List.setIfInBounds_toArray, List.set_cons_zero, List.set_cons_succ, Nat.reduceAdd]
        apply RelyL.val
        · intro ν w' hL hF K hK'
          go_simp
          exact hK'.out _ _ rfl (Lat.refl _)
        simp only [Act.put, List.setIfInBounds_toArray, List.set_cons_zero, List.set_cons_succ, Nat.reduceAdd]
        apply RelyL.val
        · intro ν w' hL hF K hK'
          go_simp
          exact hK'.out _ _ rfl (Lat.refl _)
        simp only [Act.put, List.setIfInBounds_toArray, List.set_cons_zero, List.set_cons_succ, Nat.reduceAdd]
        apply RelyL.val
        · intro ν w' hL hF K hK'
          go_simp
          exact hK'.out _ _ rfl (Lat.refl _)
        simp only [Act.put, List.setIfInBounds_toArray, List.set_cons_zero, List.set_cons_succ, Nat.reduceAdd]
        apply RelyL.val
        · intro ν w' hL hF K hK'
          go_simp
          exact hK'.out _ _ rfl (Lat.refl _)
        simp only [Act.put, List.setIfInBounds_toArray, List.set_cons_zero, List.set_cons_succ, Nat.reduceAdd]
        apply RelyL.val
        · intro ν w' hL hF K hK'
          go_simp
          exact hK'.out _ _ rfl (Lat.refl _)
        simp only [Act.put, List.setIfInBounds_toArray, List.set_cons_zero, List.set_cons_succ, Nat.reduceAdd]
        apply RelyL.val
        · intro ν w' hL hF K hK'
          refine take_op rfl ?_
          refine wp_load_at 23 _ rfl b ((off + j * 15)) rfl _ _ (hk1.below hL hb1) Tryd.underlying23 rfl (by kernel_rfl) ?_
          exact hK'.out _ _ rfl (Lat.refl _)
        simp only [Act.put, List.setIfInBounds_toArray, List.set_cons_zero, List.set_cons_succ, Nat.reduceAdd]
        apply RelyL.val
        · intro ν w' hL hF K hK'
          refine take_op rfl ?_
          refine wp_load_at 23 _ rfl w.heap.size (0) rfl _ _ (hrx.below hL hbx) Tryd.underlying23 rfl (by kernel_rfl) ?_
          exact hK'.out _ _ rfl (Lat.refl _)
        simp only [Act.put, List.setIfInBounds_toArray, List.set_cons_zero, List.set_cons_succ, Nat.reduceAdd]
        apply RelyL.val
        · intro ν w' hL hF K hK'
          have H := Lib.hid (rless_c l[j] x w' HE.out)
          go_simp
          go_at_call 30
          refine H.out.mono ?_
          rintro r w'' ⟨rfl, hbp⟩
          exact hK'.out _ _ rfl hbp
        simp only [Act.put, List.setIfInBounds_toArray, List.set_cons_zero, List.set_cons_succ, Nat.reduceAdd]
        apply RelyL.val
        · intro ν w' hL hF K hK'
          go_simp
          exact hK'.out _ _ rfl (Lat.refl _)
        simp only [Act.put, List.setIfInBounds_toArray, List.set_cons_zero, List.set_cons_succ, Nat.reduceAdd]
        refine RelyL.done fun ν w4 hL hF => ?_
        clear hF
        have hk1 := hk1.below hL hb1
        have hrx := hrx.below hL hbx
        have hb1 := Nat.lt_of_lt_of_le hb1 hL.size
        have hbx := Nat.lt_of_lt_of_le hbx hL.size
        have hown4 := hown.lat hL
        have hLW4 := hLW.trans hL
        clear HE hown hLW hxr hbe hdj hL
        by_cases he : l[j] = x
        · have HE := Lib.hid (decide_eq_true he)
          have HEQ := Lib.hid he
          clear he
          go_wp2_with fail
          refine wp_rely (by kernel_rfl) (by kernel_rfl) ?_
          apply RelyL.val
          · intro ν w' hL hF K hK'
            go_simp
            exact hK'.out _ _ rfl (Lat.refl _)
          simp only [Act.put, List.setIfInBounds_toArray, List.set_cons_zero, List.set_cons_succ, Nat.reduceAdd]
          apply RelyL.val
          · intro ν w' hL hF K hK'
            go_simp
            exact hK'.out _ _ rfl (Lat.refl _)
          simp only [Act.put, List.setIfInBounds_toArray, List.set_cons_zero, List.set_cons_succ, Nat.reduceAdd]
          apply RelyL.val
          · intro ν w' hL hF K hK'
            go_simp
            exact hK'.out _ _ rfl (Lat.refl _)
          simp only [Act.put, List.setIfInBounds_toArray, List.set_cons_zero, List.set_cons_succ, Nat.reduceAdd]
          apply RelyL.val
          · intro ν w' hL hF K hK'
            go_simp
            exact hK'.out _ _ rfl (Lat.refl _)
          simp only [Act.put, List.setIfInBounds_toArray, List.set_cons_zero, List.set_cons_succ, Nat.reduceAdd]
          apply RelyL.val
          · intro ν w' hL hF K hK'
            go_simp
            exact hK'.out _ _ rfl (Lat.refl _)
          simp only [Act.put, List.setIfInBounds_toArray, List.set_cons_zero, List.set_cons_succ, Nat.reduceAdd]
          apply RelyL.val
          · intro ν w' hL hF K hK'
            go_simp
            exact hK'.out _ _ rfl (Lat.refl _)
          simp only [Act.put, List.setIfInBounds_toArray, List.set_cons_zero, List.set_cons_succ, Nat.reduceAdd]
          apply RelyL.val
          · intro ν w' hL hF K hK'
            go_simp
            exact hK'.out _ _ rfl (Lat.refl _)
          simp only [Act.put, List.setIfInBounds_toArray, List.set_cons_zero, List.set_cons_succ, Nat.reduceAdd]
          apply RelyL.val
          · intro ν w' hL hF K hK'
            go_simp
            exact hK'.out _ _ rfl (Lat.refl _)
          simp only [Act.put, List.setIfInBounds_toArray, List.set_cons_zero, List.set_cons_succ, Nat.reduceAdd]
          apply RelyL.val
          · intro ν w' hL hF K hK'
            go_simp
            exact hK'.out _ _ rfl (Lat.refl _)
          simp only [Act.put, List.setIfInBounds_toArray, List.set_cons_zero, List.set_cons_succ, Nat.reduceAdd]
          apply RelyL.val
          · intro ν w' hL hF K hK'
            refine take_op rfl ?_
            refine wp_load_at 23 _ rfl b ((off + j * 15)) rfl _ _ (hk1.below hL hb1) Tryd.underlying23 rfl (by kernel_rfl) ?_
            exact hK'.out _ _ rfl (Lat.refl _)
          simp only [Act.put, List.setIfInBounds_toArray, List.set_cons_zero, List.set_cons_succ, Nat.reduceAdd]
          apply RelyL.val
          · intro ν w' hL hF K hK'
            refine take_op rfl ?_
            refine wp_load_at 23 _ rfl w.heap.size (0) rfl _ _ (hrx.below hL hbx) Tryd.underlying23 rfl (by kernel_rfl) ?_
            exact hK'.out _ _ rfl (Lat.refl _)
          simp only [Act.put, List.setIfInBounds_toArray, List.set_cons_zero, List.set_cons_succ, Nat.reduceAdd]
          apply RelyL.val
          · intro ν w' hL hF K hK'
            refine take_op rfl ?_
            refine wp_eql_k _ _ _ rfl l[j] x rfl rfl HE.out ?_
            exact hK'.out _ _ rfl (Lat.refl _)
          simp only [Act.put, List.setIfInBounds_toArray, List.set_cons_zero, List.set_cons_succ, Nat.reduceAdd]
          apply RelyL.val
          · intro ν w' hL hF K hK'
            go_simp
            exact hK'.out _ _ rfl (Lat.refl _)
          simp only [Act.put, List.setIfInBounds_toArray, List.set_cons_zero, List.set_cons_succ, Nat.reduceAdd]
          refine RelyL.done fun ν w5 hL5 hF => ?_
          clear hF
          have hown5 := hin.lat (hL0.trans (hLW4.trans hL5))
          have hLW5 := hL0.trans (hLW4.trans hL5)
          clear HE hk1 hr1 hrx hb1 hbx hown4 hLW4 hL5 hL0 hx hbox
          go_wp2_with fail
          go_ret
          refine ⟨⟨_, rfl, ?_⟩, hLW5⟩
          rw [HR.out, if_pos HEQ.out, List.take_append_drop]
          exact hown5
        · have HE := Lib.hid (decide_eq_false he)
          have HEQ := Lib.hid he
          clear he
          go_wp2_with fail
          refine wp_rely (by kernel_rfl) (by kernel_rfl) ?_
          apply RelyL.val
          · intro ν w' hL hF K hK'
            go_simp
            exact hK'.out _ _ rfl (Lat.refl _)
          simp only [Act.put, List.setIfInBounds_toArray, List.set_cons_zero, List.set_cons_succ, Nat.reduceAdd]
          apply RelyL.val
          · intro ν w' hL hF K hK'
            go_simp
            exact hK'.out _ _ rfl (Lat.refl _)
          simp only [Act.put, List.setIfInBounds_toArray, List.set_cons_zero, List.set_cons_succ, Nat.reduceAdd]
          apply RelyL.val
          · intro ν w' hL hF K hK'
            go_simp
            exact hK'.out _ _ rfl (Lat.refl _)
          simp only [Act.put, List.setIfInBounds_toArray, List.set_cons_zero, List.set_cons_succ, Nat.reduceAdd]
          apply RelyL.val
          · intro ν w' hL hF K hK'
            go_simp
            exact hK'.out _ _ rfl (Lat.refl _)
          simp only [Act.put, List.setIfInBounds_toArray, List.set_cons_zero, List.set_cons_succ, Nat.reduceAdd]
          apply RelyL.val
          · intro ν w' hL hF K hK'
            go_simp
            exact hK'.out _ _ rfl (Lat.refl _)
          simp only [Act.put, List.setIfInBounds_toArray, List.set_cons_zero, List.set_cons_succ, Nat.reduceAdd]
          apply RelyL.val
          · intro ν w' hL hF K hK'
            go_simp
            exact hK'.out _ _ rfl (Lat.refl _)
          simp only [Act.put, List.setIfInBounds_toArray, List.set_cons_zero, List.set_cons_succ, Nat.reduceAdd]
          apply RelyL.val
          · intro ν w' hL hF K hK'
            go_simp
            exact hK'.out _ _ rfl (Lat.refl _)
          simp only [Act.put, List.setIfInBounds_toArray, List.set_cons_zero, List.set_cons_succ, Nat.reduceAdd]
          apply RelyL.val
          · intro ν w' hL hF K hK'
            go_simp
            exact hK'.out _ _ rfl (Lat.refl _)
          simp only [Act.put, List.setIfInBounds_toArray, List.set_cons_zero, List.set_cons_succ, Nat.reduceAdd]
          apply RelyL.val
          · intro ν w' hL hF K hK'
            go_simp
            exact hK'.out _ _ rfl (Lat.refl _)
          simp only [Act.put, List.setIfInBounds_toArray, List.set_cons_zero, List.set_cons_succ, Nat.reduceAdd]
          apply RelyL.val
          · intro ν w' hL hF K hK'
            refine take_op rfl ?_
            refine wp_load_at 23 _ rfl b ((off + j * 15)) rfl _ _ (hk1.below hL hb1) Tryd.underlying23 rfl (by kernel_rfl) ?_
            exact hK'.out _ _ rfl (Lat.refl _)
          simp only [Act.put, List.setIfInBounds_toArray, List.set_cons_zero, List.set_cons_succ, Nat.reduceAdd]
          apply RelyL.val
          · intro ν w' hL hF K hK'
            refine take_op rfl ?_
            refine wp_load_at 23 _ rfl w.heap.size (0) rfl _ _ (hrx.below hL hbx) Tryd.underlying23 rfl (by kernel_rfl) ?_
            exact hK'.out _ _ rfl (Lat.refl _)
          simp only [Act.put, List.setIfInBounds_toArray, List.set_cons_zero, List.set_cons_succ, Nat.reduceAdd]
          apply RelyL.val
          · intro ν w' hL hF K hK'
            refine take_op rfl ?_
            refine wp_eql_k _ _ _ rfl l[j] x rfl rfl HE.out ?_
            exact hK'.out _ _ rfl (Lat.refl _)
          simp only [Act.put, List.setIfInBounds_toArray, List.set_cons_zero, List.set_cons_succ, Nat.reduceAdd]
          apply RelyL.val
          · intro ν w' hL hF K hK'
            go_simp
            exact hK'.out _ _ rfl (Lat.refl _)
          simp only [Act.put, List.setIfInBounds_toArray, List.set_cons_zero, List.set_cons_succ, Nat.reduceAdd]
          refine RelyL.done fun ν w5 hL5 hF => ?_
          clear hF
          have hownT := hown4.lat hL5
          have hLT := hLW4.trans hL5
          have hxT := hrx.below hL5 hbx
          clear HE hown4 hLW4 hk1 hr1 hrx hb1 hbx hL5 hbox hx
          have HR2 : Hid (R = l.take j ++ [x] ++ l.drop j) := Lib.hid (by rw [HR.out, if_neg HEQ.out]; simp)
          clear HR
          have hfw := foldZ x
          have hfk := foldK x
          have hwl : (zC x).length = 15 := rfl
          have hkl : (kC x).length = 3 := rfl
          have hownT6 := hownT.al (.cells (zC x).toArray 44)
          have hLW6 : Lat (w.alloc (.cells (kC x).toArray 23)) (w5.alloc (.cells (zC x).toArray 44)) := hLT.trans (Lat.al _ _)
          have hnew := Blk.new w5 44 (zC x).toArray
          have hlen : (l.take j).length = j := by rw [List.length_take]; omega
          have hdl : (l.drop j).length = l.length - j := List.length_drop
          have hmax : (l.take j).length + 1 ≤ maxLen := by unfold maxLen; omega
          have hby : ((l.take j).length + 1) * EZ.bytes ≤ 140737488355328 := Nat.le_trans (Nat.mul_le_mul_right EZ.bytes (by omega : (l.take j).length + 1 ≤ 1000000)) (by decide)
          have hbse : w.heap.size + 1 ≤ (w5.alloc (.cells (zC x).toArray 44)).heap.size := by have := hLW6.size; rw [World.size_alloc] at this; exact this
          have hmax2 : (l.take j ++ [x]).length + (l.drop j).length ≤ maxLen := by rw [List.length_append, List.length_singleton]; unfold maxLen; omega
          have hby2 : ((l.take j ++ [x]).length + (l.drop j).length) * EZ.bytes ≤ 140737488355328 := Nat.le_trans (Nat.mul_le_mul_right EZ.bytes (by rw [List.length_append, List.length_singleton]; omega : (l.take j ++ [x]).length + (l.drop j).length ≤ 1000000)) (by decide)
          have HT := Lib.hid (fun k (hk : u5.ownBlock = some k) => (hownT.lt k hk).1)
          have HF := EZ.run_from hin.rd hin.cap j hjl
          obtain ⟨AD, cd, hsl0, hrdd⟩ := HF
          have hsl : ∀ w, (Instr.slice 36 (.slice (some ⟨b, off, none⟩) l.length c) (some (.int .i64 (j : Int))) none none).run Tryd.prog w = .ok (.slice AD (l.length - j) cd) w := hsl0
          have HX := Lib.hid hrdd
          clear hsl0 hrdd
          have HLW6 := Lib.hid hLW6
          have HM1 := Lib.hid hmax
          have HM2 := Lib.hid hby
          have HM3 := Lib.hid hmax2
          have HM4 := Lib.hid hby2
          have HB := Lib.hid hbse
          have HHL := Lib.hid hl
          have HIN := Lib.hid hin
          clear hownT hLT hlen hdl hLW6 hmax hby hmax2 hby2 hbse hl hin
          go_wp2_with (first | (with_reducible refine wpList_load_at rfl 23 _ rfl w.heap.size 0 rfl _ _ hxT Tryd.underlying23 rfl (by kernel_rfl) ?_) | (at_builtin; refine EZ.append rfl _ _ rfl (w.heap.size + 1) (l.take j) _ rfl hownT6 w5.heap.size 1 x rfl 44 hnew HM1.out HM2.out HB.out ?_; intro v6 w6 hown6 hg6 hw6; go_must (have hLW7 : Lat (w.alloc (.cells (kC x).toArray 23)) w6 := HLW6.out.grown hg6 (Nat.le_trans (Nat.le_of_eq (World.size_alloc _ _)) HB.out) (fun k hk => Nat.le_trans (Nat.le_of_eq (World.size_alloc _ _)) (HT.out k hk)); have hbse7 : w.heap.size + 1 ≤ w6.heap.size := Nat.le_trans (Nat.le_of_eq (World.size_alloc _ _).symm) hLW7.size; obtain ⟨A8, m8, ev, hr8, hn8⟩ := HX.out.lat (hL0.trans hLW7); injection ev with f1 f2 f3; subst f1 f3; clear f2 hnew hg6 hw6 hownT6 hxT)) | (at_builtin; refine EZ.appends rfl _ _ rfl (w.heap.size + 1) (l.take j ++ [x]) _ rfl hown6 AD (l.length - j) cd (l.drop j) rfl List.length_drop.symm (fun e => by have := hn8 e; rw [List.length_drop] at this; exact this) hr8 HM3.out HM4.out hbse7 ?_; intro v8 w8 hown8 hg8; go_must (have hLW9 : Lat (w.alloc (.cells (kC x).toArray 23)) w8 := hLW7.grown hg8 hLW7.size (fun k hk => Nat.le_trans (Nat.le_of_eq (World.size_alloc _ _)) (hown6.lt k hk).1); clear hg8 hr8 hown6)))
          go_ret
          exact ⟨⟨_, rfl, by rw [HR2.out]; exact hown8.mono (by omega)⟩, hL0.trans hLW9⟩
      · have HE := Lib.hid hbe
        rw [List.drop_eq_getElem_cons hlt, insB, if_pos hbe] at HR
        clear hbe
        go_wp2_with fail
        refine wp_rely (by kernel_rfl) (by kernel_rfl) ?_
        apply RelyL.val
        · intro ν w' hL hF K hK'
          go_simp
          exact hK'.out _ _ rfl (Lat.refl _)
        simp only [Act.put, List.setIfInBounds_toArray, List.set_cons_zero, List.set_cons_succ, Nat.reduceAdd]
        apply RelyL.val
        · intro ν w' hL hF K hK'
          go_simp
          exact hK'.out _ _ rfl (Lat.refl _)
        simp only [Act.put, List.setIfInBounds_toArray, List.set_cons_zero, List.set_cons_succ, Nat.reduceAdd]
        apply RelyL.val
        · intro ν w' hL hF K hK'
          go_simp
          exact hK'.out _ _ rfl (Lat.refl _)
        simp only [Act.put, List.setIfInBounds_toArray, List.set_cons_zero, List.set_cons_succ, Nat.reduceAdd]
        apply RelyL.val
        · intro ν w' hL hF K hK'
          go_simp
          exact hK'.out _ _ rfl (Lat.refl _)
        simp only [Act.put, List.setIfInBounds_toArray, List.set_cons_zero, List.set_cons_succ, Nat.reduceAdd]
        apply RelyL.val
        · intro ν w' hL hF K hK'
          go_simp
          exact hK'.out _ _ rfl (Lat.refl _)
        simp only [Act.put, List.setIfInBounds_toArray, List.set_cons_zero, List.set_cons_succ, Nat.reduceAdd]
        apply RelyL.val
        · intro ν w' hL hF K hK'
          go_simp
          exact hK'.out _ _ rfl (Lat.refl _)
        simp only [Act.put, List.setIfInBounds_toArray, List.set_cons_zero, List.set_cons_succ, Nat.reduceAdd]
        apply RelyL.val
        · intro ν w' hL hF K hK'
          go_simp
          exact hK'.out _ _ rfl (Lat.refl _)
        simp only [Act.put, List.setIfInBounds_toArray, List.set_cons_zero, List.set_cons_succ, Nat.reduceAdd]
        apply RelyL.val
        · intro ν w' hL hF K hK'
          go_simp
          exact hK'.out _ _ rfl (Lat.refl _)
        simp only [Act.put, List.setIfInBounds_toArray, List.set_cons_zero, List.set_cons_succ, Nat.reduceAdd]
        apply RelyL.val
        · intro ν w' hL hF K hK'
          go_simp
          exact hK'.out _ _ rfl (Lat.refl _)
        simp only [Act.put, List.setIfInBounds_toArray, List.set_cons_zero, List.set_cons_succ, Nat.reduceAdd]
        apply RelyL.val
        · intro ν w' hL hF K hK'
          refine take_op rfl ?_
          refine wp_load_at 23 _ rfl b ((off + j * 15)) rfl _ _ (hk1.below hL hb1) Tryd.underlying23 rfl (by kernel_rfl) ?_
          exact hK'.out _ _ rfl (Lat.refl _)
        simp only [Act.put, List.setIfInBounds_toArray, List.set_cons_zero, List.set_cons_succ, Nat.reduceAdd]
        apply RelyL.val
        · intro ν w' hL hF K hK'
          refine take_op rfl ?_
          refine wp_load_at 23 _ rfl w.heap.size (0) rfl _ _ (hrx.below hL hbx) Tryd.underlying23 rfl (by kernel_rfl) ?_
          exact hK'.out _ _ rfl (Lat.refl _)
        simp only [Act.put, List.setIfInBounds_toArray, List.set_cons_zero, List.set_cons_succ, Nat.reduceAdd]
        apply RelyL.val
        · intro ν w' hL hF K hK'
          have H := Lib.hid (rless_c l[j] x w' HE.out)
          go_simp
          go_at_call 30
          refine H.out.mono ?_
          rintro r w'' ⟨rfl, hbp⟩
          exact hK'.out _ _ rfl hbp
        simp only [Act.put, List.setIfInBounds_toArray, List.set_cons_zero, List.set_cons_succ, Nat.reduceAdd]
        apply RelyL.val
        · intro ν w' hL hF K hK'
          go_simp
          exact hK'.out _ _ rfl (Lat.refl _)
        simp only [Act.put, List.setIfInBounds_toArray, List.set_cons_zero, List.set_cons_succ, Nat.reduceAdd]
        refine RelyL.done fun ν w4 hL hF => ?_
        clear hF
        have hr2 := hr1.below hL hb1
        have hown4 := (hown.lat hL).al (.cells (zC l[j]).toArray 44)
        have hLW4 := hLW.trans hL
        have hLW5 : Lat (w.alloc (.cells (kC x).toArray 23)) (w4.alloc (.cells (zC l[j]).toArray 44)) := hLW4.trans (Lat.al _ _)
        have hnew := Blk.new w4 44 (zC l[j]).toArray
        have hlen : (l.take j).length = j := by rw [List.length_take]; omega
        have hmax : (l.take j).length + 1 ≤ maxLen := by unfold maxLen; omega
        have hby : ((l.take j).length + 1) * EZ.bytes ≤ 140737488355328 := Nat.le_trans (Nat.mul_le_mul_right EZ.bytes (by omega : (l.take j).length + 1 ≤ 1000000)) (by decide)
        have hbse : w.heap.size + 1 ≤ (w4.alloc (.cells (zC l[j]).toArray 44)).heap.size := by have := hLW5.size; rw [World.size_alloc] at this; exact this
        have HT := Lib.hid (fun k (hk : u5.ownBlock = some k) => (hown.lt k hk).1)
        have hfw := foldZ l[j]
        have hwl : (zC l[j]).length = 15 := rfl
        have HM1 := Lib.hid hmax
        have HM2 := Lib.hid hby
        have HB := Lib.hid hbse
        clear hown hk1 hr1 hLW hLW4 hL hxr hrx hbx HE hmax hby hbse
        go_wp2_with (first | (with_reducible refine wpList_load_at rfl 44 _ rfl b (off + j * 15) rfl _ _ hr2 Tryd.underlying44 rfl (by kernel_rfl) ?_) | (at_builtin; refine EZ.append rfl _ _ rfl (w.heap.size + 1) (l.take j) _ rfl hown4 w4.heap.size 1 l[j] rfl 44 hnew HM1.out HM2.out HB.out ?_; intro v6 w6 hown6 hg6 hw6; go_must (have hLW7 : Lat (w.alloc (.cells (kC x).toArray 23)) w6 := hLW5.grown hg6 (Nat.le_trans (Nat.le_of_eq (World.size_alloc _ _)) HB.out) (fun k hk => Nat.le_trans (Nat.le_of_eq (World.size_alloc _ _)) (HT.out k hk)); clear hnew hg6 hw6)))
        go_roundw
        case rel => exact ⟨j + 1, by omega, by go_num, by rw [List.take_succ_eq_append_getElem hlt]; exact hown6, Lib.hid (HR.out.trans (by rw [List.take_succ_eq_append_getElem hlt]; simp only [List.append_assoc, List.cons_append, List.nil_append])), hLW7⟩
        case measure => simp [intOf]; omega
    · have hdj : l.drop j = [] := List.drop_of_length_le (by omega)
      have HR2 : Hid (R = l.take j ++ [x] ++ l.drop j) := Lib.hid (by rw [HR.out, hdj]; simp [insB])
      clear HR hdj
      go_wp2_with fail
      refine wp_rely (by kernel_rfl) (by kernel_rfl) ?_
      apply RelyL.val
      · intro ν w' hL hF K hK'
        go_simp
        exact hK'.out _ _ rfl (Lat.refl _)
      simp only [Act.put, List.setIfInBounds_toArray, List.set_cons_zero, List.set_cons_succ, Nat.reduceAdd]
      apply RelyL.val
      · intro ν w' hL hF K hK'
        go_simp
        exact hK'.out _ _ rfl (Lat.refl _)
      simp only [Act.put, List.setIfInBounds_toArray, List.set_cons_zero, List.set_cons_succ, Nat.reduceAdd]
      apply RelyL.val
      · intro ν w' hL hF K hK'
        go_simp
        exact hK'.out _ _ rfl (Lat.refl _)
      simp only [Act.put, List.setIfInBounds_toArray, List.set_cons_zero, List.set_cons_succ, Nat.reduceAdd]
      apply RelyL.val
      · intro ν w' hL hF K hK'
        go_simp
        exact hK'.out _ _ rfl (Lat.refl _)
      simp only [Act.put, List.setIfInBounds_toArray, List.set_cons_zero, List.set_cons_succ, Nat.reduceAdd]
      apply RelyL.val
      · intro ν w' hL hF K hK'
        go_simp
        exact hK'.out _ _ rfl (Lat.refl _)
      simp only [Act.put, List.setIfInBounds_toArray, List.set_cons_zero, List.set_cons_succ, Nat.reduceAdd]
      apply RelyL.val
      · intro ν w' hL hF K hK'
        refine skip_op rfl ?_
        exact hK'.out _ _ rfl (Lat.refl _)
      simp only [Act.put, List.setIfInBounds_toArray, List.set_cons_zero, List.set_cons_succ, Nat.reduceAdd]
      apply RelyL.val
      · intro ν w' hL hF K hK'
        refine skip_op rfl ?_
        exact hK'.out _ _ rfl (Lat.refl _)
      simp only [Act.put, List.setIfInBounds_toArray, List.set_cons_zero, List.set_cons_succ, Nat.reduceAdd]
      apply RelyL.val
      · intro ν w' hL hF K hK'
        refine skip_op rfl ?_
        exact hK'.out _ _ rfl (Lat.refl _)
      simp only [Act.put, List.setIfInBounds_toArray, List.set_cons_zero, List.set_cons_succ, Nat.reduceAdd]
      apply RelyL.val
      · intro ν w' hL hF K hK'
        refine skip_op rfl ?_
        exact hK'.out _ _ rfl (Lat.refl _)
      simp only [Act.put, List.setIfInBounds_toArray, List.set_cons_zero, List.set_cons_succ, Nat.reduceAdd]
      apply RelyL.val
      · intro ν w' hL hF K hK'
        refine skip_op rfl ?_
        exact hK'.out _ _ rfl (Lat.refl _)
      simp only [Act.put, List.setIfInBounds_toArray, List.set_cons_zero, List.set_cons_succ, Nat.reduceAdd]
      apply RelyL.val
      · intro ν w' hL hF K hK'
        refine skip_op rfl ?_
        exact hK'.out _ _ rfl (Lat.refl _)
      simp only [Act.put, List.setIfInBounds_toArray, List.set_cons_zero, List.set_cons_succ, Nat.reduceAdd]
      apply RelyL.val
      · intro ν w' hL hF K hK'
        refine skip_op rfl ?_
        exact hK'.out _ _ rfl (Lat.refl _)
      simp only [Act.put, List.setIfInBounds_toArray, List.set_cons_zero, List.set_cons_succ, Nat.reduceAdd]
      apply RelyL.val
      · intro ν w' hL hF K hK'
        go_simp
        exact hK'.out _ _ rfl (Lat.refl _)
      simp only [Act.put, List.setIfInBounds_toArray, List.set_cons_zero, List.set_cons_succ, Nat.reduceAdd]
      refine RelyL.done fun ν w4 hL hF => ?_
      clear hF
      have hown4 := hown.lat hL
      have hLW4 := hLW.trans hL
      have hrx := hrx.below hL hbx
      have hbx := Nat.lt_of_lt_of_le hbx hL.size
      clear hown hLW hxr hL
      go_wp2_with fail
      refine wp_rely (by kernel_rfl) (by kernel_rfl) ?_
      apply RelyL.val
      · intro ν w' hL hF K hK'
        go_simp
        exact hK'.out _ _ rfl (Lat.refl _)
      simp only [Act.put, List.setIfInBounds_toArray, List.set_cons_zero, List.set_cons_succ, Nat.reduceAdd]
      apply RelyL.val
      · intro ν w' hL hF K hK'
        go_simp
        exact hK'.out _ _ rfl (Lat.refl _)
      simp only [Act.put, List.setIfInBounds_toArray, List.set_cons_zero, List.set_cons_succ, Nat.reduceAdd]
      apply RelyL.val
      · intro ν w' hL hF K hK'
        go_simp
        exact hK'.out _ _ rfl (Lat.refl _)
      simp only [Act.put, List.setIfInBounds_toArray, List.set_cons_zero, List.set_cons_succ, Nat.reduceAdd]
      apply RelyL.val
      · intro ν w' hL hF K hK'
        go_simp
        exact hK'.out _ _ rfl (Lat.refl _)
      simp only [Act.put, List.setIfInBounds_toArray, List.set_cons_zero, List.set_cons_succ, Nat.reduceAdd]
      apply RelyL.val
      · intro ν w' hL hF K hK'
        go_simp
        exact hK'.out _ _ rfl (Lat.refl _)
      simp only [Act.put, List.setIfInBounds_toArray, List.set_cons_zero, List.set_cons_succ, Nat.reduceAdd]
      apply RelyL.val
      · intro ν w' hL hF K hK'
        refine skip_op rfl ?_
        exact hK'.out _ _ rfl (Lat.refl _)
      simp only [Act.put, List.setIfInBounds_toArray, List.set_cons_zero, List.set_cons_succ, Nat.reduceAdd]
      apply RelyL.val
      · intro ν w' hL hF K hK'
        refine skip_op rfl ?_
        exact hK'.out _ _ rfl (Lat.refl _)
      simp only [Act.put, List.setIfInBounds_toArray, List.set_cons_zero, List.set_cons_succ, Nat.reduceAdd]
      apply RelyL.val
      · intro ν w' hL hF K hK'
        refine skip_op rfl ?_
        exact hK'.out _ _ rfl (Lat.refl _)
      simp only [Act.put, List.setIfInBounds_toArray, List.set_cons_zero, List.set_cons_succ, Nat.reduceAdd]
      apply RelyL.val
      · intro ν w' hL hF K hK'
        refine skip_op rfl ?_
        exact hK'.out _ _ rfl (Lat.refl _)
      simp only [Act.put, List.setIfInBounds_toArray, List.set_cons_zero, List.set_cons_succ, Nat.reduceAdd]
      apply RelyL.val
      · intro ν w' hL hF K hK'
        refine skip_op rfl ?_
        exact hK'.out _ _ rfl (Lat.refl _)
      simp only [Act.put, List.setIfInBounds_toArray, List.set_cons_zero, List.set_cons_succ, Nat.reduceAdd]
      apply RelyL.val
      · intro ν w' hL hF K hK'
        refine skip_op rfl ?_
        exact hK'.out _ _ rfl (Lat.refl _)
      simp only [Act.put, List.setIfInBounds_toArray, List.set_cons_zero, List.set_cons_succ, Nat.reduceAdd]
      apply RelyL.val
      · intro ν w' hL hF K hK'
        refine skip_op rfl ?_
        exact hK'.out _ _ rfl (Lat.refl _)
      simp only [Act.put, List.setIfInBounds_toArray, List.set_cons_zero, List.set_cons_succ, Nat.reduceAdd]
      apply RelyL.val
      · intro ν w' hL hF K hK'
        go_simp
        exact hK'.out _ _ rfl (Lat.refl _)
      simp only [Act.put, List.setIfInBounds_toArray, List.set_cons_zero, List.set_cons_succ, Nat.reduceAdd]
      refine RelyL.done fun ν w4 hL hF => ?_
      clear hF
      have hownT := hown4.lat hL
      have hLT := hLW4.trans hL
      have hxT := hrx.below hL hbx
      clear hown4 hLW4 hrx hbx hL hbox hx
      have hfw := foldZ x
      have hfk := foldK x
      have hwl : (zC x).length = 15 := rfl
      have hkl : (kC x).length = 3 := rfl
      have hownT6 := hownT.al (.cells (zC x).toArray 44)
      have hLW6 : Lat (w.alloc (.cells (kC x).toArray 23)) (w4.alloc (.cells (zC x).toArray 44)) := hLT.trans (Lat.al _ _)
      have hnew := Blk.new w4 44 (zC x).toArray
      have hlen : (l.take j).length = j := by rw [List.length_take]; omega
      have hdl : (l.drop j).length = l.length - j := List.length_drop
      have hmax : (l.take j).length + 1 ≤ maxLen := by unfold maxLen; omega
      have hby : ((l.take j).length + 1) * EZ.bytes ≤ 140737488355328 := Nat.le_trans (Nat.mul_le_mul_right EZ.bytes (by omega : (l.take j).length + 1 ≤ 1000000)) (by decide)
      have hbse : w.heap.size + 1 ≤ (w4.alloc (.cells (zC x).toArray 44)).heap.size := by have := hLW6.size; rw [World.size_alloc] at this; exact this
      have hmax2 : (l.take j ++ [x]).length + (l.drop j).length ≤ maxLen := by rw [List.length_append, List.length_singleton]; unfold maxLen; omega
      have hby2 : ((l.take j ++ [x]).length + (l.drop j).length) * EZ.bytes ≤ 140737488355328 := Nat.le_trans (Nat.mul_le_mul_right EZ.bytes (by rw [List.length_append, List.length_singleton]; omega : (l.take j ++ [x]).length + (l.drop j).length ≤ 1000000)) (by decide)
      have HT := Lib.hid (fun k (hk : u5.ownBlock = some k) => (hownT.lt k hk).1)
      have HF := EZ.run_from hin.rd hin.cap j hjl
      obtain ⟨AD, cd, hsl0, hrdd⟩ := HF
      have hsl : ∀ w, (Instr.slice 36 (.slice A l.length c) (some (.int .i64 (j : Int))) none none).run Tryd.prog w = .ok (.slice AD (l.length - j) cd) w := hsl0
      have HX := Lib.hid hrdd
      clear hsl0 hrdd
      have HLW6 := Lib.hid hLW6
      have HM1 := Lib.hid hmax
      have HM2 := Lib.hid hby
      have HM3 := Lib.hid hmax2
      have HM4 := Lib.hid hby2
      have HB := Lib.hid hbse
      have HHL := Lib.hid hl
      have HIN := Lib.hid hin
      clear hownT hLT hlen hdl hLW6 hmax hby hmax2 hby2 hbse hl hin
      go_wp2_with (first | (with_reducible refine wpList_load_at rfl 23 _ rfl w.heap.size 0 rfl _ _ hxT Tryd.underlying23 rfl (by kernel_rfl) ?_) | (at_builtin; refine EZ.append rfl _ _ rfl (w.heap.size + 1) (l.take j) _ rfl hownT6 w4.heap.size 1 x rfl 44 hnew HM1.out HM2.out HB.out ?_; intro v6 w6 hown6 hg6 hw6; go_must (have hLW7 : Lat (w.alloc (.cells (kC x).toArray 23)) w6 := HLW6.out.grown hg6 (Nat.le_trans (Nat.le_of_eq (World.size_alloc _ _)) HB.out) (fun k hk => Nat.le_trans (Nat.le_of_eq (World.size_alloc _ _)) (HT.out k hk)); have hbse7 : w.heap.size + 1 ≤ w6.heap.size := Nat.le_trans (Nat.le_of_eq (World.size_alloc _ _).symm) hLW7.size; obtain ⟨A8, m8, ev, hr8, hn8⟩ := HX.out.lat (hL0.trans hLW7); injection ev with f1 f2 f3; subst f1 f3; clear f2 hnew hg6 hw6 hownT6 hxT)) | (at_builtin; refine EZ.appends rfl _ _ rfl (w.heap.size + 1) (l.take j ++ [x]) _ rfl hown6 AD (l.length - j) cd (l.drop j) rfl List.length_drop.symm (fun e => by have := hn8 e; rw [List.length_drop] at this; exact this) hr8 HM3.out HM4.out hbse7 ?_; intro v8 w8 hown8 hg8; go_must (have hLW9 : Lat (w.alloc (.cells (kC x).toArray 23)) w8 := hLW7.grown hg8 hLW7.size (fun k hk => Nat.le_trans (Nat.le_of_eq (World.size_alloc _ _)) (hown6.lt k hk).1); clear hg8 hr8 hown6)))
      go_ret
      exact ⟨⟨_, rfl, by rw [HR2.out]; exact hown8.mono (by omega)⟩, hL0.trans hLW9⟩
end Go.Proofs.YtgjoojailghilaaDoor
