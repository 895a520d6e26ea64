/- Resolve: the reference's insert. -/
import Derived.Test.YtgjoojailghilaaDoorVEqu
import Derived.Test.YtgjoojailghilaaDoorVRefP
import Derived.Test.YtgjoojailghilaaDoorVBef
set_option linter.unusedSimpArgs false
set_option linter.unusedVariables false
namespace Go.Proofs.YtgjoojailghilaaDoor
open Go.RowKit


theorem drLat' {w w' : World} (h : Dr.Lat w w') : Lat w w' := ⟨h.os, h.tape, h.output, h.size, h.block⟩
theorem rbefore_c (x y : LW) (w : World) {e : Bool} (h : bef x y = e) : Calls Tryd.prog 13 #[.agg (wC x).toArray, .agg (wC y).toArray] w fun r w' => r = .returned (.bool e) ∧ Lat w w' := by
  subst h; exact (rbefore_any x y w).mono (fun r w' h => ⟨h.1, drLat' h.2⟩)
theorem Elt.Rd.drop {α : Type} {E : Elt α} {w : World} {xs : List α} {A : Option Addr} {c : Nat} (h : E.Rd w xs (.slice A xs.length c)) (j : Nat) {b off : Nat} (hA : A = some ⟨b, off, none⟩) : IsRows w.heap.size w E.n ((xs.drop j).map E.f) (some ⟨b, off + j * E.n, none⟩) := fun h0 => by
  have hj : j < xs.length := by simp at h0; omega
  refine ⟨b, off + j * E.n, rfl, ?_, fun i hi => ?_⟩
  · obtain ⟨b', off', e, hb, _⟩ := h.row j hj
    rw [hA] at e; injection e with e; injection e with e1; subst e1; exact hb
  · have hi' : i < xs.length - j := by simpa using hi
    obtain ⟨b', off', e, hb, hr⟩ := h.row (j + i) (by omega)
    rw [hA] at e; injection e with e; injection e with e1 e2; subst e1 e2
    rw [Nat.add_assoc, ← Nat.add_mul, List.getElem_map, List.getElem_drop]
    exact hr
theorem Elt.Own.cap {α : Type} {E : Elt α} {w : World} {base : Nat} {xs : List α} {A : Option Addr} {n c : Nat} (h : E.Own w base xs (.slice A n c)) : xs.length ≤ c := by
  obtain ⟨hl, ⟨hv, h0⟩ | ⟨g, cap, cur, hv, r⟩⟩ := h
  · omega
  · injection hv with _ e2 e3
    obtain ⟨_, _, h3, _⟩ := r
    omega
theorem Elt.run_from {α : Type} (E : Elt α) {w0 : World} {xs : List α} {A : Option Addr} {c : Nat} (h : E.Rd w0 xs (.slice A xs.length c)) (hc : xs.length ≤ c) (j : Nat) (hj : j ≤ xs.length) :
    ∃ A' c', (∀ w, (Instr.slice E.t (.slice A xs.length c) (some (.int .i64 (j : Int))) none none).run Tryd.prog w = .ok (.slice A' (xs.length - j) c') w) ∧ E.Rd w0 (xs.drop j) (.slice A' (xs.length - j) c') := by
  have hel : Tryd.prog.elem E.t = E.e := by simp [Program.elem, E.ht]
  have hu : Tryd.prog.underlying E.t = some (.slice (Tryd.prog.elem E.t)) := by rw [hel]; exact E.ht
  have hrun : ∀ w, (Instr.slice E.t (.slice A xs.length c) (some (.int .i64 (j : Int))) none none).run Tryd.prog w = .ok (.slice (if c = j then A else A.map (·.add (j * E.n))) (xs.length - j) (c - j)) w := fun w => by
    rw [run_slice_l w E.t A xs.length c hu .i64 j (by omega) (by omega), hel]
    simp [sizeOf, typeInfo, E.hi, E.hs, Sem.run_bind, sliced]
  refine ⟨_, _, hrun, _, c - j, by rw [List.length_drop], fun h0 => ?_, fun hA => ?_⟩
  · have hj' : j < xs.length := by simp at h0; omega
    obtain ⟨b, off, rfl, hb, _⟩ := h.row j hj'
    rw [if_neg (by omega)]
    have := h.drop j rfl h0
    rw [Option.map_some, show (⟨b, off, none⟩ : Addr).add (j * E.n) = ⟨b, off + j * E.n, none⟩ from by unfold Addr.add; split <;> simp_all]
    exact this
  · obtain ⟨A1, c1, e, _, hn⟩ := h
    injection e with e1 e2 e3
    subst e1 e3
    have hA' : A = none := by
      split at hA
      · exact hA
      · simpa using hA
    obtain ⟨h1, h2⟩ := hn hA'
    rw [List.length_drop]
    omega
theorem foldW (x : LW) : List.foldl (fun cs x => Array.setIfInBounds cs x.snd x.fst) #[Value.int IntKind.i64 0, Value.string { data := #[] }, Value.string { data := #[] }, Value.int IntKind.i64 0, Value.int IntKind.i64 0, Value.string { data := #[] }, Value.int IntKind.i64 0, Value.string { data := #[] }, Value.int IntKind.i64 0, Value.int IntKind.i64 0] (wC x).zipIdx = (wC x).toArray := by
  obtain ⟨⟨x1, x2, x3⟩, ⟨x4, x5, x6⟩, x7, x8, x9, x10⟩ := x
  simp [wC, kC, vC]
set_option maxRecDepth 100000 in
set_option maxHeartbeats 4000000 in
theorem insert_any (l : List LW) (x : LW) (v : Value) (base : Nat) (w : World) (hin : EW.Own w base l v) (hbase : base ≤ w.heap.size) (hl : l.length ≤ 100000) :
    Calls Tryd.prog 38 #[v, .agg (wC x).toArray] w fun r w' => (∃ v', r = .returned v' ∧ EW.Own w' base (insB bef l x) v') ∧ Lat w w' := by
  obtain ⟨A, c, rfl⟩ := hin.slice
  have hx := hin.rd
  have HR : Hid (insB bef l x = l.take 0 ++ insB bef (l.drop 0) x) := Lib.hid (by simp)
  generalize insB bef l x = R at *
  have hL0 : Lat w (w.alloc (.cells (wC x).toArray 29)) := Lat.al _ _
  have hbox := Blk.new w 29 (wC x).toArray
  go_enter Tryd.func38, Tryd.ntmps38
  go_wp2_with fail
  go_loopw [5, 6] (fun v i wr => ∃ j : Nat, j ≤ l.length ∧ i = .int .i64 j ∧ EW.Own wr (w.heap.size + 1) (l.take j) v ∧ Hid (R = l.take j ++ insB bef (l.drop j) x) ∧ Lat (w.alloc (.cells (wC x).toArray 29)) wr) (fun _ i _ => l.length - (intOf i).toNat)
  case atStart => exact ⟨0, Nat.zero_le _, rfl, Elt.Own.nil _ _, HR, Lat.refl _⟩
  case round =>
    clear HR
    obtain ⟨j, hjl, rfl, hown, HR, hLW⟩ := hrel
    have hxr := hbox.lat hLW
    have hrx : RowAt wr w.heap.size 0 (wC x) := hxr.row
    have hbx := hxr.lt
    by_cases hlt : j < l.length
    · obtain ⟨b, off, hA, hb1, hr1'⟩ := (hx.lat (hL0.trans hLW)).row j hlt
      subst hA
      have hr1 : RowAt wr b (off + j * 10) (wC l[j]) := hr1'
      clear hr1'
      have hdj : l.drop j = l[j] :: l.drop (j + 1) := List.drop_eq_getElem_cons hlt
      cases hbe : bef l[j] x
      · have HE := Lib.hid hbe
        rw [hdj, insB, hbe, if_neg (by simp), ← hdj] at HR
        go_wp2_with fail
        refine wp_rely (by kernel_rfl) (by kernel_rfl) ?_
        apply RelyL.val
        · intro ν w' hL hF K hK'
          go_simp
          exact hK'.out _ _ rfl (Lat.refl _)
        simp only [Act.put, List.setIfInBounds_toArray, List.set_cons_zero, List.set_cons_succ, Nat.reduceAdd]
        apply RelyL.val
        · intro ν w' hL hF K hK'
          go_simp
          exact hK'.out _ _ rfl (Lat.refl _)
        simp only [Act.put, List.setIfInBounds_toArray, List.set_cons_zero, List.set_cons_succ, Nat.reduceAdd]
        apply RelyL.val
        · intro ν w' hL hF K hK'
          go_simp
          exact hK'.out _ _ rfl (Lat.refl _)
        simp only [Act.put, List.setIfInBounds_toArray, List.set_cons_zero, List.set_cons_succ, Nat.reduceAdd]
        apply RelyL.val
        · intro ν w' hL hF K hK'
          go_simp
          exact hK'.out _ _ rfl (Lat.refl _)
        simp only [Act.put, List.setIfInBounds_toArray, List.set_cons_zero, List.set_cons_succ, Nat.reduceAdd]
        apply RelyL.val
        · intro ν w' hL hF K hK'
          go_simp
          exact hK'.out _ _ rfl (Lat.refl _)
        simp only [Act.put, List.setIfInBounds_toArray, List.set_cons_zero, List.set_cons_succ, Nat.reduceAdd]
        apply RelyL.val
        · intro ν w' hL hF K hK'
          go_simp
          exact hK'.out _ _ rfl (Lat.refl _)
        simp only [Act.put, List.setIfInBounds_toArray, List.set_cons_zero, List.set_cons_succ, Nat.reduceAdd]
        apply RelyL.val
        · intro ν w' hL hF K hK'
          go_simp
          exact hK'.out _ _ rfl (Lat.refl _)
        simp only [Act.put, List.setIfInBounds_toArray, List.set_cons_zero, List.set_cons_succ, Nat.reduceAdd]
        apply RelyL.val
        · intro ν w' hL hF K hK'
          go_simp
          exact hK'.out _ _ rfl (Lat.refl _)
        simp only [Act.put, List.setIfInBounds_toArray, List.set_cons_zero, List.set_cons_succ, Nat.reduceAdd]
        apply RelyL.val
        · intro ν w' hL hF K hK'
          refine take_op rfl ?_
          refine wp_load_at 29 _ rfl b ((off + j * 10)) rfl _ _ (hr1.below hL hb1) Tryd.underlying29 rfl (by kernel_rfl) ?_
          exact hK'.out _ _ rfl (Lat.refl _)
        simp only [Act.put, List.setIfInBounds_toArray, List.set_cons_zero, List.set_cons_succ, Nat.reduceAdd]
        apply RelyL.val
        · intro ν w' hL hF K hK'
          refine take_op rfl ?_
          refine wp_load_at 29 _ rfl w.heap.size (0) rfl _ _ (hrx.below hL hbx) Tryd.underlying29 rfl (by kernel_rfl) ?_
          exact hK'.out _ _ rfl (Lat.refl _)
        simp only [Act.put, List.setIfInBounds_toArray, List.set_cons_zero, List.set_cons_succ, Nat.reduceAdd]
        apply RelyL.val
        · intro ν w' hL hF K hK'
          have H := Lib.hid (rbefore_c l[j] x w' HE.out)
          go_simp
          go_at_call 13
          refine H.out.mono ?_
          rintro r w'' ⟨rfl, hbp⟩
          exact hK'.out _ _ rfl hbp
        simp only [Act.put, List.setIfInBounds_toArray, List.set_cons_zero, List.set_cons_succ, Nat.reduceAdd]
        apply RelyL.val
        · intro ν w' hL hF K hK'
          go_simp
          exact hK'.out _ _ rfl (Lat.refl _)
        simp only [Act.put, List.setIfInBounds_toArray, List.set_cons_zero, List.set_cons_succ, Nat.reduceAdd]
        refine RelyL.done fun ν w4 hL hF => ?_
        clear hF
        have hr1 := hr1.below hL hb1
        have hrx := hrx.below hL hbx
        have hb1 := Nat.lt_of_lt_of_le hb1 hL.size
        have hbx := Nat.lt_of_lt_of_le hbx hL.size
        have hown4 := hown.lat hL
        have hLW4 := hLW.trans hL
        clear HE hown hLW hxr hbe hdj hL
        by_cases he : l[j] = x
        · have HE := Lib.hid (decide_eq_true he)
          have HEQ := Lib.hid he
          clear he
          go_wp2_with fail
          refine wp_rely (by kernel_rfl) (by kernel_rfl) ?_
          apply RelyL.val
          · intro ν w' hL hF K hK'
            go_simp
            exact hK'.out _ _ rfl (Lat.refl _)
          simp only [Act.put, List.setIfInBounds_toArray, List.set_cons_zero, List.set_cons_succ, Nat.reduceAdd]
          apply RelyL.val
          · intro ν w' hL hF K hK'
            go_simp
            exact hK'.out _ _ rfl (Lat.refl _)
          simp only [Act.put, List.setIfInBounds_toArray, List.set_cons_zero, List.set_cons_succ, Nat.reduceAdd]
          apply RelyL.val
          · intro ν w' hL hF K hK'
            go_simp
            exact hK'.out _ _ rfl (Lat.refl _)
          simp only [Act.put, List.setIfInBounds_toArray, List.set_cons_zero, List.set_cons_succ, Nat.reduceAdd]
          apply RelyL.val
          · intro ν w' hL hF K hK'
            go_simp
            exact hK'.out _ _ rfl (Lat.refl _)
          simp only [Act.put, List.setIfInBounds_toArray, List.set_cons_zero, List.set_cons_succ, Nat.reduceAdd]
          apply RelyL.val
          · intro ν w' hL hF K hK'
            go_simp
            exact hK'.out _ _ rfl (Lat.refl _)
          simp only [Act.put, List.setIfInBounds_toArray, List.set_cons_zero, List.set_cons_succ, Nat.reduceAdd]
          apply RelyL.val
          · intro ν w' hL hF K hK'
            go_simp
            exact hK'.out _ _ rfl (Lat.refl _)
          simp only [Act.put, List.setIfInBounds_toArray, List.set_cons_zero, List.set_cons_succ, Nat.reduceAdd]
          apply RelyL.val
          · intro ν w' hL hF K hK'
            go_simp
            exact hK'.out _ _ rfl (Lat.refl _)
          simp only [Act.put, List.setIfInBounds_toArray, List.set_cons_zero, List.set_cons_succ, Nat.reduceAdd]
          apply RelyL.val
          · intro ν w' hL hF K hK'
            go_simp
            exact hK'.out _ _ rfl (Lat.refl _)
          simp only [Act.put, List.setIfInBounds_toArray, List.set_cons_zero, List.set_cons_succ, Nat.reduceAdd]
          apply RelyL.val
          · intro ν w' hL hF K hK'
            refine take_op rfl ?_
            refine wp_load_at 29 _ rfl b ((off + j * 10)) rfl _ _ (hr1.below hL hb1) Tryd.underlying29 rfl (by kernel_rfl) ?_
            exact hK'.out _ _ rfl (Lat.refl _)
          simp only [Act.put, List.setIfInBounds_toArray, List.set_cons_zero, List.set_cons_succ, Nat.reduceAdd]
          apply RelyL.val
          · intro ν w' hL hF K hK'
            refine take_op rfl ?_
            refine wp_load_at 29 _ rfl w.heap.size (0) rfl _ _ (hrx.below hL hbx) Tryd.underlying29 rfl (by kernel_rfl) ?_
            exact hK'.out _ _ rfl (Lat.refl _)
          simp only [Act.put, List.setIfInBounds_toArray, List.set_cons_zero, List.set_cons_succ, Nat.reduceAdd]
          apply RelyL.val
          · intro ν w' hL hF K hK'
            refine take_op rfl ?_
            refine wp_eql_w _ _ _ rfl l[j] x rfl rfl HE.out ?_
            exact hK'.out _ _ rfl (Lat.refl _)
          simp only [Act.put, List.setIfInBounds_toArray, List.set_cons_zero, List.set_cons_succ, Nat.reduceAdd]
          apply RelyL.val
          · intro ν w' hL hF K hK'
            go_simp
            exact hK'.out _ _ rfl (Lat.refl _)
          simp only [Act.put, List.setIfInBounds_toArray, List.set_cons_zero, List.set_cons_succ, Nat.reduceAdd]
          refine RelyL.done fun ν w5 hL5 hF => ?_
          clear hF
          have hown5 := hin.lat (hL0.trans (hLW4.trans hL5))
          have hLW5 := hL0.trans (hLW4.trans hL5)
          clear HE hr1 hrx hb1 hbx hown4 hLW4 hL5 hL0 hx hbox
          go_wp2_with fail
          go_ret
          refine ⟨⟨_, rfl, ?_⟩, hLW5⟩
          rw [HR.out, if_pos HEQ.out, List.take_append_drop]
          exact hown5
        · have HE := Lib.hid (decide_eq_false he)
          have HEQ := Lib.hid he
          clear he
          go_wp2_with fail
          refine wp_rely (by kernel_rfl) (by kernel_rfl) ?_
          apply RelyL.val
          · intro ν w' hL hF K hK'
            go_simp
            exact hK'.out _ _ rfl (Lat.refl _)
          simp only [Act.put, List.setIfInBounds_toArray, List.set_cons_zero, List.set_cons_succ, Nat.reduceAdd]
          apply RelyL.val
          · intro ν w' hL hF K hK'
            go_simp
            exact hK'.out _ _ rfl (Lat.refl _)
          simp only [Act.put, List.setIfInBounds_toArray, List.set_cons_zero, List.set_cons_succ, Nat.reduceAdd]
          apply RelyL.val
          · intro ν w' hL hF K hK'
            go_simp
            exact hK'.out _ _ rfl (Lat.refl _)
          simp only [Act.put, List.setIfInBounds_toArray, List.set_cons_zero, List.set_cons_succ, Nat.reduceAdd]
          apply RelyL.val
          · intro ν w' hL hF K hK'
            go_simp
            exact hK'.out _ _ rfl (Lat.refl _)
          simp only [Act.put, List.setIfInBounds_toArray, List.set_cons_zero, List.set_cons_succ, Nat.reduceAdd]
          apply RelyL.val
          · intro ν w' hL hF K hK'
            go_simp
            exact hK'.out _ _ rfl (Lat.refl _)
          simp only [Act.put, List.setIfInBounds_toArray, List.set_cons_zero, List.set_cons_succ, Nat.reduceAdd]
          apply RelyL.val
          · intro ν w' hL hF K hK'
            go_simp
            exact hK'.out _ _ rfl (Lat.refl _)
          simp only [Act.put, List.setIfInBounds_toArray, List.set_cons_zero, List.set_cons_succ, Nat.reduceAdd]
          apply RelyL.val
          · intro ν w' hL hF K hK'
            go_simp
            exact hK'.out _ _ rfl (Lat.refl _)
          simp only [Act.put, List.setIfInBounds_toArray, List.set_cons_zero, List.set_cons_succ, Nat.reduceAdd]
          apply RelyL.val
          · intro ν w' hL hF K hK'
            go_simp
            exact hK'.out _ _ rfl (Lat.refl _)
          simp only [Act.put, List.setIfInBounds_toArray, List.set_cons_zero, List.set_cons_succ, Nat.reduceAdd]
          apply RelyL.val
          · intro ν w' hL hF K hK'
            refine take_op rfl ?_
            refine wp_load_at 29 _ rfl b ((off + j * 10)) rfl _ _ (hr1.below hL hb1) Tryd.underlying29 rfl (by kernel_rfl) ?_
            exact hK'.out _ _ rfl (Lat.refl _)
          simp only [Act.put, List.setIfInBounds_toArray, List.set_cons_zero, List.set_cons_succ, Nat.reduceAdd]
          apply RelyL.val
          · intro ν w' hL hF K hK'
            refine take_op rfl ?_
            refine wp_load_at 29 _ rfl w.heap.size (0) rfl _ _ (hrx.below hL hbx) Tryd.underlying29 rfl (by kernel_rfl) ?_
            exact hK'.out _ _ rfl (Lat.refl _)
          simp only [Act.put, List.setIfInBounds_toArray, List.set_cons_zero, List.set_cons_succ, Nat.reduceAdd]
          apply RelyL.val
          · intro ν w' hL hF K hK'
            refine take_op rfl ?_
            refine wp_eql_w _ _ _ rfl l[j] x rfl rfl HE.out ?_
            exact hK'.out _ _ rfl (Lat.refl _)
          simp only [Act.put, List.setIfInBounds_toArray, List.set_cons_zero, List.set_cons_succ, Nat.reduceAdd]
          apply RelyL.val
          · intro ν w' hL hF K hK'
            go_simp
            exact hK'.out _ _ rfl (Lat.refl _)
          simp only [Act.put, List.setIfInBounds_toArray, List.set_cons_zero, List.set_cons_succ, Nat.reduceAdd]
          refine RelyL.done fun ν w5 hL5 hF => ?_
          clear hF
          have hownT := hown4.lat hL5
          have hLT := hLW4.trans hL5
          have hxT := hrx.below hL5 hbx
          clear HE hown4 hLW4 hr1 hrx hb1 hbx hL5 hbox hx
          have HR2 : Hid (R = l.take j ++ [x] ++ l.drop j) := Lib.hid (by rw [HR.out, if_neg HEQ.out]; simp)
          clear HR
          have hfw := foldW x
          have hwl : (wC x).length = 10 := rfl
          have hownT6 := hownT.al (.cells (wC x).toArray 29)
          have hLW6 : Lat (w.alloc (.cells (wC x).toArray 29)) (w5.alloc (.cells (wC x).toArray 29)) := hLT.trans (Lat.al _ _)
          have hnew := Blk.new w5 29 (wC x).toArray
          have hlen : (l.take j).length = j := by rw [List.length_take]; omega
          have hdl : (l.drop j).length = l.length - j := List.length_drop
          have hmax : (l.take j).length + 1 ≤ maxLen := by unfold maxLen; omega
          have hby : ((l.take j).length + 1) * EW.bytes ≤ 140737488355328 := Nat.le_trans (Nat.mul_le_mul_right EW.bytes (by omega : (l.take j).length + 1 ≤ 1000000)) (by decide)
          have hbse : w.heap.size + 1 ≤ (w5.alloc (.cells (wC x).toArray 29)).heap.size := by have := hLW6.size; rw [World.size_alloc] at this; exact this
          have hmax2 : (l.take j ++ [x]).length + (l.drop j).length ≤ maxLen := by rw [List.length_append, List.length_singleton]; unfold maxLen; omega
          have hby2 : ((l.take j ++ [x]).length + (l.drop j).length) * EW.bytes ≤ 140737488355328 := Nat.le_trans (Nat.mul_le_mul_right EW.bytes (by rw [List.length_append, List.length_singleton]; omega : (l.take j ++ [x]).length + (l.drop j).length ≤ 1000000)) (by decide)
          have HT := Lib.hid (fun k (hk : u5.ownBlock = some k) => (hownT.lt k hk).1)
          have HF := EW.run_from hin.rd hin.cap j hjl
          obtain ⟨AD, cd, hsl0, hrdd⟩ := HF
          have hsl : ∀ w, (Instr.slice 33 (.slice (some ⟨b, off, none⟩) l.length c) (some (.int .i64 (j : Int))) none none).run Tryd.prog w = .ok (.slice AD (l.length - j) cd) w := hsl0
          have HX := Lib.hid hrdd
          clear hsl0 hrdd
          have HLW6 := Lib.hid hLW6
          have HM1 := Lib.hid hmax
          have HM2 := Lib.hid hby
          have HM3 := Lib.hid hmax2
          have HM4 := Lib.hid hby2
          have HB := Lib.hid hbse
          have HHL := Lib.hid hl
          have HIN := Lib.hid hin
          clear hownT hLT hlen hdl hLW6 hmax hby hmax2 hby2 hbse hl hin
          go_wp2_with (first | (with_reducible refine wpList_load_at rfl 29 _ rfl w.heap.size 0 rfl _ _ hxT Tryd.underlying29 rfl (by kernel_rfl) ?_) | (at_builtin; refine EW.append rfl _ _ rfl (w.heap.size + 1) (l.take j) _ rfl hownT6 w5.heap.size 1 x rfl 29 hnew HM1.out HM2.out HB.out ?_; intro v6 w6 hown6 hg6 hw6; go_must (have hLW7 : Lat (w.alloc (.cells (wC x).toArray 29)) w6 := HLW6.out.grown hg6 (Nat.le_trans (Nat.le_of_eq (World.size_alloc _ _)) HB.out) (fun k hk => Nat.le_trans (Nat.le_of_eq (World.size_alloc _ _)) (HT.out k hk)); have hbse7 : w.heap.size + 1 ≤ w6.heap.size := Nat.le_trans (Nat.le_of_eq (World.size_alloc _ _).symm) hLW7.size; obtain ⟨A8, m8, ev, hr8, hn8⟩ := HX.out.lat (hL0.trans hLW7); injection ev with f1 f2 f3; subst f1 f3; clear f2 hnew hg6 hw6 hownT6 hxT)) | (at_builtin; refine EW.appends rfl _ _ rfl (w.heap.size + 1) (l.take j ++ [x]) _ rfl hown6 AD (l.length - j) cd (l.drop j) rfl List.length_drop.symm (fun e => by have := hn8 e; rw [List.length_drop] at this; exact this) hr8 HM3.out HM4.out hbse7 ?_; intro v8 w8 hown8 hg8; go_must (have hLW9 : Lat (w.alloc (.cells (wC x).toArray 29)) w8 := hLW7.grown hg8 hLW7.size (fun k hk => Nat.le_trans (Nat.le_of_eq (World.size_alloc _ _)) (hown6.lt k hk).1); clear hg8 hr8 hown6)))
          go_ret
          exact ⟨⟨_, rfl, by rw [HR2.out]; exact hown8.mono (by omega)⟩, hL0.trans hLW9⟩
      · have HE := Lib.hid hbe
        rw [List.drop_eq_getElem_cons hlt, insB, if_pos hbe] at HR
        clear hbe
        go_wp2_with fail
        refine wp_rely (by kernel_rfl) (by kernel_rfl) ?_
        apply RelyL.val
        · intro ν w' hL hF K hK'
          go_simp
          exact hK'.out _ _ rfl (Lat.refl _)
        simp only [Act.put, List.setIfInBounds_toArray, List.set_cons_zero, List.set_cons_succ, Nat.reduceAdd]
        apply RelyL.val
        · intro ν w' hL hF K hK'
          go_simp
          exact hK'.out _ _ rfl (Lat.refl _)
        simp only [Act.put, List.setIfInBounds_toArray, List.set_cons_zero, List.set_cons_succ, Nat.reduceAdd]
        apply RelyL.val
        · intro ν w' hL hF K hK'
          go_simp
          exact hK'.out _ _ rfl (Lat.refl _)
        simp only [Act.put, List.setIfInBounds_toArray, List.set_cons_zero, List.set_cons_succ, Nat.reduceAdd]
        apply RelyL.val
        · intro ν w' hL hF K hK'
          go_simp
          exact hK'.out _ _ rfl (Lat.refl _)
        simp only [Act.put, List.setIfInBounds_toArray, List.set_cons_zero, List.set_cons_succ, Nat.reduceAdd]
        apply RelyL.val
        · intro ν w' hL hF K hK'
          go_simp
          exact hK'.out _ _ rfl (Lat.refl _)
        simp only [Act.put, List.setIfInBounds_toArray, List.set_cons_zero, List.set_cons_succ, Nat.reduceAdd]
        apply RelyL.val
        · intro ν w' hL hF K hK'
          go_simp
          exact hK'.out _ _ rfl (Lat.refl _)
        simp only [Act.put, List.setIfInBounds_toArray, List.set_cons_zero, List.set_cons_succ, Nat.reduceAdd]
        apply RelyL.val
        · intro ν w' hL hF K hK'
          go_simp
          exact hK'.out _ _ rfl (Lat.refl _)
        simp only [Act.put, List.setIfInBounds_toArray, List.set_cons_zero, List.set_cons_succ, Nat.reduceAdd]
        apply RelyL.val
        · intro ν w' hL hF K hK'
          go_simp
          exact hK'.out _ _ rfl (Lat.refl _)
        simp only [Act.put, List.setIfInBounds_toArray, List.set_cons_zero, List.set_cons_succ, Nat.reduceAdd]
        apply RelyL.val
        · intro ν w' hL hF K hK'
          refine take_op rfl ?_
          refine wp_load_at 29 _ rfl b ((off + j * 10)) rfl _ _ (hr1.below hL hb1) Tryd.underlying29 rfl (by kernel_rfl) ?_
          exact hK'.out _ _ rfl (Lat.refl _)
        simp only [Act.put, List.setIfInBounds_toArray, List.set_cons_zero, List.set_cons_succ, Nat.reduceAdd]
        apply RelyL.val
        · intro ν w' hL hF K hK'
          refine take_op rfl ?_
          refine wp_load_at 29 _ rfl w.heap.size (0) rfl _ _ (hrx.below hL hbx) Tryd.underlying29 rfl (by kernel_rfl) ?_
          exact hK'.out _ _ rfl (Lat.refl _)
        simp only [Act.put, List.setIfInBounds_toArray, List.set_cons_zero, List.set_cons_succ, Nat.reduceAdd]
        apply RelyL.val
        · intro ν w' hL hF K hK'
          have H := Lib.hid (rbefore_c l[j] x w' HE.out)
          go_simp
          go_at_call 13
          refine H.out.mono ?_
          rintro r w'' ⟨rfl, hbp⟩
          exact hK'.out _ _ rfl hbp
        simp only [Act.put, List.setIfInBounds_toArray, List.set_cons_zero, List.set_cons_succ, Nat.reduceAdd]
        apply RelyL.val
        · intro ν w' hL hF K hK'
          go_simp
          exact hK'.out _ _ rfl (Lat.refl _)
        simp only [Act.put, List.setIfInBounds_toArray, List.set_cons_zero, List.set_cons_succ, Nat.reduceAdd]
        refine RelyL.done fun ν w4 hL hF => ?_
        clear hF
        have hr2 := hr1.below hL hb1
        have hown4 := (hown.lat hL).al (.cells (wC l[j]).toArray 29)
        have hLW4 := hLW.trans hL
        have hLW5 : Lat (w.alloc (.cells (wC x).toArray 29)) (w4.alloc (.cells (wC l[j]).toArray 29)) := hLW4.trans (Lat.al _ _)
        have hnew := Blk.new w4 29 (wC l[j]).toArray
        have hlen : (l.take j).length = j := by rw [List.length_take]; omega
        have hmax : (l.take j).length + 1 ≤ maxLen := by unfold maxLen; omega
        have hby : ((l.take j).length + 1) * EW.bytes ≤ 140737488355328 := Nat.le_trans (Nat.mul_le_mul_right EW.bytes (by omega : (l.take j).length + 1 ≤ 1000000)) (by decide)
        have hbse : w.heap.size + 1 ≤ (w4.alloc (.cells (wC l[j]).toArray 29)).heap.size := by have := hLW5.size; rw [World.size_alloc] at this; exact this
        have HT := Lib.hid (fun k (hk : u5.ownBlock = some k) => (hown.lt k hk).1)
        have hfw := foldW l[j]
        have hwl : (wC l[j]).length = 10 := rfl
        have HM1 := Lib.hid hmax
        have HM2 := Lib.hid hby
        have HB := Lib.hid hbse
        clear hown hr1 hLW hLW4 hL hxr hrx hbx HE hmax hby hbse
        go_wp2_with (first | (with_reducible refine wpList_load_at rfl 29 _ rfl b (off + j * 10) rfl _ _ hr2 Tryd.underlying29 rfl (by kernel_rfl) ?_) | (at_builtin; refine EW.append rfl _ _ rfl (w.heap.size + 1) (l.take j) _ rfl hown4 w4.heap.size 1 l[j] rfl 29 hnew HM1.out HM2.out HB.out ?_; intro v6 w6 hown6 hg6 hw6; go_must (have hLW7 : Lat (w.alloc (.cells (wC x).toArray 29)) w6 := hLW5.grown hg6 (Nat.le_trans (Nat.le_of_eq (World.size_alloc _ _)) HB.out) (fun k hk => Nat.le_trans (Nat.le_of_eq (World.size_alloc _ _)) (HT.out k hk)); clear hnew hg6 hw6)))
        go_roundw
        case rel => exact ⟨j + 1, by omega, by go_num, by rw [List.take_succ_eq_append_getElem hlt]; exact hown6, Lib.hid (HR.out.trans (by rw [List.take_succ_eq_append_getElem hlt]; simp only [List.append_assoc, List.cons_append, List.nil_append])), hLW7⟩
        case measure => simp [intOf]; omega
    · have hdj : l.drop j = [] := List.drop_of_length_le (by omega)
      have HR2 : Hid (R = l.take j ++ [x] ++ l.drop j) := Lib.hid (by rw [HR.out, hdj]; simp [insB])
      clear HR hdj
      go_wp2_with fail
      refine wp_rely (by kernel_rfl) (by kernel_rfl) ?_
      apply RelyL.val
      · intro ν w' hL hF K hK'
        go_simp
        exact hK'.out _ _ rfl (Lat.refl _)
      simp only [Act.put, List.setIfInBounds_toArray, List.set_cons_zero, List.set_cons_succ, Nat.reduceAdd]
      apply RelyL.val
      · intro ν w' hL hF K hK'
        go_simp
        exact hK'.out _ _ rfl (Lat.refl _)
      simp only [Act.put, List.setIfInBounds_toArray, List.set_cons_zero, List.set_cons_succ, Nat.reduceAdd]
      apply RelyL.val
      · intro ν w' hL hF K hK'
        go_simp
        exact hK'.out _ _ rfl (Lat.refl _)
      simp only [Act.put, List.setIfInBounds_toArray, List.set_cons_zero, List.set_cons_succ, Nat.reduceAdd]
      apply RelyL.val
      · intro ν w' hL hF K hK'
        go_simp
        exact hK'.out _ _ rfl (Lat.refl _)
      simp only [Act.put, List.setIfInBounds_toArray, List.set_cons_zero, List.set_cons_succ, Nat.reduceAdd]
      apply RelyL.val
      · intro ν w' hL hF K hK'
        go_simp
        exact hK'.out _ _ rfl (Lat.refl _)
      simp only [Act.put, List.setIfInBounds_toArray, List.set_cons_zero, List.set_cons_succ, Nat.reduceAdd]
      apply RelyL.val
      · intro ν w' hL hF K hK'
        refine skip_op rfl ?_
        exact hK'.out _ _ rfl (Lat.refl _)
      simp only [Act.put, List.setIfInBounds_toArray, List.set_cons_zero, List.set_cons_succ, Nat.reduceAdd]
      apply RelyL.val
      · intro ν w' hL hF K hK'
        refine skip_op rfl ?_
        exact hK'.out _ _ rfl (Lat.refl _)
      simp only [Act.put, List.setIfInBounds_toArray, List.set_cons_zero, List.set_cons_succ, Nat.reduceAdd]
      apply RelyL.val
      · intro ν w' hL hF K hK'
        refine skip_op rfl ?_
        exact hK'.out _ _ rfl (Lat.refl _)
      simp only [Act.put, List.setIfInBounds_toArray, List.set_cons_zero, List.set_cons_succ, Nat.reduceAdd]
      apply RelyL.val
      · intro ν w' hL hF K hK'
        refine skip_op rfl ?_
        exact hK'.out _ _ rfl (Lat.refl _)
      simp only [Act.put, List.setIfInBounds_toArray, List.set_cons_zero, List.set_cons_succ, Nat.reduceAdd]
      apply RelyL.val
      · intro ν w' hL hF K hK'
        refine skip_op rfl ?_
        exact hK'.out _ _ rfl (Lat.refl _)
      simp only [Act.put, List.setIfInBounds_toArray, List.set_cons_zero, List.set_cons_succ, Nat.reduceAdd]
      apply RelyL.val
      · intro ν w' hL hF K hK'
        refine skip_op rfl ?_
        exact hK'.out _ _ rfl (Lat.refl _)
      simp only [Act.put, List.setIfInBounds_toArray, List.set_cons_zero, List.set_cons_succ, Nat.reduceAdd]
      apply RelyL.val
      · intro ν w' hL hF K hK'
        go_simp
        exact hK'.out _ _ rfl (Lat.refl _)
      simp only [Act.put, List.setIfInBounds_toArray, List.set_cons_zero, List.set_cons_succ, Nat.reduceAdd]
      refine RelyL.done fun ν w4 hL hF => ?_
      clear hF
      have hown4 := hown.lat hL
      have hLW4 := hLW.trans hL
      have hrx := hrx.below hL hbx
      have hbx := Nat.lt_of_lt_of_le hbx hL.size
      clear hown hLW hxr hL
      go_wp2_with fail
      refine wp_rely (by kernel_rfl) (by kernel_rfl) ?_
      apply RelyL.val
      · intro ν w' hL hF K hK'
        go_simp
        exact hK'.out _ _ rfl (Lat.refl _)
      simp only [Act.put, List.setIfInBounds_toArray, List.set_cons_zero, List.set_cons_succ, Nat.reduceAdd]
      apply RelyL.val
      · intro ν w' hL hF K hK'
        go_simp
        exact hK'.out _ _ rfl (Lat.refl _)
      simp only [Act.put, List.setIfInBounds_toArray, List.set_cons_zero, List.set_cons_succ, Nat.reduceAdd]
      apply RelyL.val
      · intro ν w' hL hF K hK'
        go_simp
        exact hK'.out _ _ rfl (Lat.refl _)
      simp only [Act.put, List.setIfInBounds_toArray, List.set_cons_zero, List.set_cons_succ, Nat.reduceAdd]
      apply RelyL.val
      · intro ν w' hL hF K hK'
        go_simp
        exact hK'.out _ _ rfl (Lat.refl _)
      simp only [Act.put, List.setIfInBounds_toArray, List.set_cons_zero, List.set_cons_succ, Nat.reduceAdd]
      apply RelyL.val
      · intro ν w' hL hF K hK'
        go_simp
        exact hK'.out _ _ rfl (Lat.refl _)
      simp only [Act.put, List.setIfInBounds_toArray, List.set_cons_zero, List.set_cons_succ, Nat.reduceAdd]
      apply RelyL.val
      · intro ν w' hL hF K hK'
        refine skip_op rfl ?_
        exact hK'.out _ _ rfl (Lat.refl _)
      simp only [Act.put, List.setIfInBounds_toArray, List.set_cons_zero, List.set_cons_succ, Nat.reduceAdd]
      apply RelyL.val
      · intro ν w' hL hF K hK'
        refine skip_op rfl ?_
        exact hK'.out _ _ rfl (Lat.refl _)
      simp only [Act.put, List.setIfInBounds_toArray, List.set_cons_zero, List.set_cons_succ, Nat.reduceAdd]
      apply RelyL.val
      · intro ν w' hL hF K hK'
        refine skip_op rfl ?_
        exact hK'.out _ _ rfl (Lat.refl _)
      simp only [Act.put, List.setIfInBounds_toArray, List.set_cons_zero, List.set_cons_succ, Nat.reduceAdd]
      apply RelyL.val
      · intro ν w' hL hF K hK'
        refine skip_op rfl ?_
        exact hK'.out _ _ rfl (Lat.refl _)
      simp only [Act.put, List.setIfInBounds_toArray, List.set_cons_zero, List.set_cons_succ, Nat.reduceAdd]
      apply RelyL.val
      · intro ν w' hL hF K hK'
        refine skip_op rfl ?_
        exact hK'.out _ _ rfl (Lat.refl _)
      simp only [Act.put, List.setIfInBounds_toArray, List.set_cons_zero, List.set_cons_succ, Nat.reduceAdd]
      apply RelyL.val
      · intro ν w' hL hF K hK'
        refine skip_op rfl ?_
        exact hK'.out _ _ rfl (Lat.refl _)
      simp only [Act.put, List.setIfInBounds_toArray, List.set_cons_zero, List.set_cons_succ, Nat.reduceAdd]
      apply RelyL.val
      · intro ν w' hL hF K hK'
        go_simp
        exact hK'.out _ _ rfl (Lat.refl _)
      simp only [Act.put, List.setIfInBounds_toArray, List.set_cons_zero, List.set_cons_succ, Nat.reduceAdd]
      refine RelyL.done fun ν w4 hL hF => ?_
      clear hF
      have hownT := hown4.lat hL
      have hLT := hLW4.trans hL
      have hxT := hrx.below hL hbx
      clear hown4 hLW4 hrx hbx hL hbox hx
      have hfw := foldW x
      have hwl : (wC x).length = 10 := rfl
      have hownT6 := hownT.al (.cells (wC x).toArray 29)
      have hLW6 : Lat (w.alloc (.cells (wC x).toArray 29)) (w4.alloc (.cells (wC x).toArray 29)) := hLT.trans (Lat.al _ _)
      have hnew := Blk.new w4 29 (wC x).toArray
      have hlen : (l.take j).length = j := by rw [List.length_take]; omega
      have hdl : (l.drop j).length = l.length - j := List.length_drop
      have hmax : (l.take j).length + 1 ≤ maxLen := by unfold maxLen; omega
      have hby : ((l.take j).length + 1) * EW.bytes ≤ 140737488355328 := Nat.le_trans (Nat.mul_le_mul_right EW.bytes (by omega : (l.take j).length + 1 ≤ 1000000)) (by decide)
      have hbse : w.heap.size + 1 ≤ (w4.alloc (.cells (wC x).toArray 29)).heap.size := by have := hLW6.size; rw [World.size_alloc] at this; exact this
      have hmax2 : (l.take j ++ [x]).length + (l.drop j).length ≤ maxLen := by rw [List.length_append, List.length_singleton]; unfold maxLen; omega
      have hby2 : ((l.take j ++ [x]).length + (l.drop j).length) * EW.bytes ≤ 140737488355328 := Nat.le_trans (Nat.mul_le_mul_right EW.bytes (by rw [List.length_append, List.length_singleton]; omega : (l.take j ++ [x]).length + (l.drop j).length ≤ 1000000)) (by decide)
      have HT := Lib.hid (fun k (hk : u5.ownBlock = some k) => (hownT.lt k hk).1)
      have HF := EW.run_from hin.rd hin.cap j hjl
      obtain ⟨AD, cd, hsl0, hrdd⟩ := HF
      have hsl : ∀ w, (Instr.slice 33 (.slice A l.length c) (some (.int .i64 (j : Int))) none none).run Tryd.prog w = .ok (.slice AD (l.length - j) cd) w := hsl0
      have HX := Lib.hid hrdd
      clear hsl0 hrdd
      have HLW6 := Lib.hid hLW6
      have HM1 := Lib.hid hmax
      have HM2 := Lib.hid hby
      have HM3 := Lib.hid hmax2
      have HM4 := Lib.hid hby2
      have HB := Lib.hid hbse
      have HHL := Lib.hid hl
      have HIN := Lib.hid hin
      clear hownT hLT hlen hdl hLW6 hmax hby hmax2 hby2 hbse hl hin
      go_wp2_with (first | (with_reducible refine wpList_load_at rfl 29 _ rfl w.heap.size 0 rfl _ _ hxT Tryd.underlying29 rfl (by kernel_rfl) ?_) | (at_builtin; refine EW.append rfl _ _ rfl (w.heap.size + 1) (l.take j) _ rfl hownT6 w4.heap.size 1 x rfl 29 hnew HM1.out HM2.out HB.out ?_; intro v6 w6 hown6 hg6 hw6; go_must (have hLW7 : Lat (w.alloc (.cells (wC x).toArray 29)) w6 := HLW6.out.grown hg6 (Nat.le_trans (Nat.le_of_eq (World.size_alloc _ _)) HB.out) (fun k hk => Nat.le_trans (Nat.le_of_eq (World.size_alloc _ _)) (HT.out k hk)); have hbse7 : w.heap.size + 1 ≤ w6.heap.size := Nat.le_trans (Nat.le_of_eq (World.size_alloc _ _).symm) hLW7.size; obtain ⟨A8, m8, ev, hr8, hn8⟩ := HX.out.lat (hL0.trans hLW7); injection ev with f1 f2 f3; subst f1 f3; clear f2 hnew hg6 hw6 hownT6 hxT)) | (at_builtin; refine EW.appends rfl _ _ rfl (w.heap.size + 1) (l.take j ++ [x]) _ rfl hown6 AD (l.length - j) cd (l.drop j) rfl List.length_drop.symm (fun e => by have := hn8 e; rw [List.length_drop] at this; exact this) hr8 HM3.out HM4.out hbse7 ?_; intro v8 w8 hown8 hg8; go_must (have hLW9 : Lat (w.alloc (.cells (wC x).toArray 29)) w8 := hLW7.grown hg8 hLW7.size (fun k hk => Nat.le_trans (Nat.le_of_eq (World.size_alloc _ _)) (hown6.lt k hk).1); clear hg8 hr8 hown6)))
      go_ret
      exact ⟨⟨_, rfl, by rw [HR2.out]; exact hown8.mono (by omega)⟩, hL0.trans hLW9⟩
end Go.Proofs.YtgjoojailghilaaDoor
