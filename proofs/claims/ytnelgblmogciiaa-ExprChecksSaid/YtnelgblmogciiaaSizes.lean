/- The number of nodes and of levels. -/
import Derived.Test.YtnelgblmogciiaaSize
import Derived.Test.YtnelgblmogciiaaWalks
set_option linter.unusedSimpArgs false
set_option linter.unusedVariables false
namespace Go.Proofs.Ytnelgblmogciiaa
open Go.RowKit

theorem wrap_add (a b : Int) : wrap64 (wrap64 a + wrap64 b) = wrap64 (a + b) := by unfold wrap64; omega
theorem wrap_add1 (a b : Int) : wrap64 (wrap64 a + b) = wrap64 (a + b) := by unfold wrap64; omega
theorem wrap_small (n : Nat) (h : n ≤ 1000000000000) : wrap64 n = n := by unfold wrap64; omega

set_option maxRecDepth 100000 in
set_option maxHeartbeats 1000000 in
/-- The number of nodes, by the reference. -/
theorem rsize_any (e : LExpr) : ∀ (cs : List Value) (B : Nat) (w : World), B ≤ w.heap.size → IsExpr B w e cs →
    Calls Try.prog 28 #[.agg cs.toArray] w fun r w' => r = .returned (.int .i64 (wrap64 (sizeE e))) ∧ Below w.heap.size w w' := by
  induction e using LExpr.ind with | _ hd ks ih => ?_
  intro cs B w hB he
  cases he with
  | mk _ _ A c b off cs ok hlen hA hsz hrow hk =>
  go_enter Try.func28, Try.ntmps28
  unfold Hd.cells
  have hlk2 : ks.length ≤ 140737488351232 := by omega
  go_wp2_with fail
  go_loopw [3, 4] (fun n i wr => ∃ (k : Nat) (q : Int), k ≤ ks.length ∧ i = .int .i64 k ∧ n = .int .i64 q ∧ Hid (q = wrap64 (1 + (sizeL (ks.take k) : Int))) ∧ Below w.heap.size w wr ∧ w.heap.size < wr.heap.size ∧ wr.cell? ⟨w.heap.size, 10, none⟩ = some (.slice A ks.length c)) (fun _ i _ => ks.length - (intOf i).toNat)
  case atStart => exact ⟨0, 1, Nat.zero_le _, rfl, rfl, Lib.hid (by simp [sizeL]; unfold wrap64; decide), (Below.refl _ _).al _, by simp, by simp [World.cell?_alloc_new]⟩
  case round =>
    obtain ⟨k, q, hkl, rfl, rfl, HQ, hbw, hsz2, hc⟩ := hrel
    by_cases hlk : k < ks.length
    · obtain ⟨rfl, hbB⟩ := hA (by omega)
      have hr := (hrow k hlk).below hbw (Nat.lt_of_lt_of_le hbB hB)
      have HI := Lib.hid (ih k hlk (cs k) B wr (by omega) ((hk k hlk).carry (hbw.mono hB)))
      have hst := sizeL_take ks k hlk
      have hnx : wrap64 (q + wrap64 (sizeE ks[k])) = wrap64 (1 + (sizeL (ks.take (k + 1)) : Int)) := by
        rw [HQ.out, wrap_add, hst]; congr 1; push_cast; omega
      have HX := Lib.hid hnx
      clear ih hA hrow hk HQ hst hnx
      generalize wrap64 (sizeE ks[k] : Int) = v at *
      go_wp2_with (first | (with_reducible refine wpList_load_at rfl 32 _ rfl b (off + k * 11) rfl (cs k) _ hr Try.underlying32 rfl (by rw [hsz]; kernel_rfl) ?_))
      refine HI.out.mono ?_
      rintro r w3 ⟨rfl, hb3⟩
      have hc3 := (hb3.cell (p := ⟨w.heap.size, 10, none⟩) hsz2).trans hc
      have hs3 := Nat.lt_of_lt_of_le hsz2 hb3.size
      clear HI
      go_wp2_with fail
      exact ⟨⟨k + 1, wrap64 (q + v), by omega, by go_num, rfl, HX, hbw.th hb3, hs3, hc3⟩, by simp [intOf]; omega⟩
    · have hq3 := HQ.out
      rw [List.take_of_length_le (by omega)] at hq3
      have hfin : q = wrap64 (sizeE (.mk hd ks) : Int) := by rw [hq3]; simp only [sizeE]; push_cast; rfl
      have HF := Lib.hid hfin
      clear hfin hq3 HQ
      go_wp2_with fail
      go_ret
      exact ⟨ret_int HF.out, hbw⟩

/-- The visitors of Size and of Depth. -/
def visSize (_ : LExpr) (_ : Int) (s : Int) : Int × Bool := (wrap64 (s + 1), true)
def visDepth (_ : LExpr) (lv : Int) (s : Int) : Int × Bool := (max s lv, true)

theorem walk_size (e : LExpr) : ∀ (lv s : Int), walkS visSize e lv s = (wrap64 (s + sizeE e), true) ∨ (s ≠ wrap64 s) := by
  induction e using LExpr.ind with | _ hd ks ih => ?_
  have hL : ∀ (l : List LExpr), (∀ (i : Nat) (hi : i < l.length), ∀ lv s : Int, walkS visSize l[i] lv s = (wrap64 (s + sizeE l[i]), true) ∨ (s ≠ wrap64 s)) → ∀ lv s : Int, s = wrap64 s → walkL visSize l lv s = (wrap64 (s + sizeL l), true) := by
    intro l
    induction l with
    | nil => intro _ lv s hs; simp only [walkL, sizeL]; rw [show s + ((0 : Nat) : Int) = s from by omega, ← hs]
    | cons k l ihl =>
      intro h lv s hs
      have hk := (h 0 (by simp) lv s).resolve_right (by simpa using hs)
      simp only [List.getElem_cons_zero] at hk
      rw [walkL, hk]
      simp only [if_true]
      rw [ihl (fun i hi => by have := h (i + 1) (by simpa using hi); simpa using this) lv _ (by unfold wrap64; omega), wrap_add1]
      simp only [sizeL]
      congr 2
      push_cast; omega
  intro lv s
  by_cases hs : s = wrap64 s
  · refine .inl ?_
    rw [walkS]
    simp only [visSize, if_true]
    rw [hL ks ih _ _ (by unfold wrap64; omega), wrap_add1]
    simp only [sizeE]
    congr 2
    push_cast; omega
  · exact .inr hs

def ROne (b : Nat) (s : Int) (w : World) : Prop := Var w b 3 (.int .i64 s)

set_option maxHeartbeats 1000000 in
theorem size1_any (B b : Nat) (hb : B ≤ b) (e : LExpr) (cs : List Value) (lv : Int) (w : World) (s : Int) (hB : B ≤ w.heap.size) (he : IsExpr B w e cs) (hR : ROne b s w) :
    Calls Try.prog 53 #[.agg cs.toArray, .int .i64 lv, .pointer (some ⟨b, 0, none⟩)] w fun r w' => r = .returned (.bool (visSize e lv s).2) ∧ ROne b (visSize e lv s).1 w' ∧ Fr B w w' := by
  obtain ⟨hd, ks, A, c, rfl, rfl, hlen⟩ := he.form
  have l1 := Var.lt hR
  have a1 := Var.cell hR
  have f1 := Var.free hR
  clear he
  go_enter Try.func53, Try.ntmps53
  unfold Hd.cells
  go_wp2_with fail
  go_ret
  exact ⟨rfl, (Var.set hR _).alloc _, ((Fr.refl B w).set hR (by decide) hb _).alloc (by simpa using hB) _⟩

set_option maxHeartbeats 1000000 in
theorem depth1_any (B b : Nat) (hb : B ≤ b) (e : LExpr) (cs : List Value) (lv : Int) (w : World) (s : Int) (hB : B ≤ w.heap.size) (he : IsExpr B w e cs) (hR : ROne b s w) :
    Calls Try.prog 54 #[.agg cs.toArray, .int .i64 lv, .pointer (some ⟨b, 0, none⟩)] w fun r w' => r = .returned (.bool (visDepth e lv s).2) ∧ ROne b (visDepth e lv s).1 w' ∧ Fr B w w' := by
  obtain ⟨hd, ks, A, c, rfl, rfl, hlen⟩ := he.form
  have l1 := Var.lt hR
  have a1 := Var.cell hR
  have f1 := Var.free hR
  clear he
  go_enter Try.func54, Try.ntmps54
  unfold Hd.cells
  go_wp2_with fail
  all_goals go_ret
  all_goals first
    | (have e1 : visDepth (.mk hd ks) lv s = (lv, true) := by simp only [visDepth]; congr 1; omega
       rw [e1]
       exact ⟨rfl, (Var.set hR _).alloc _, ((Fr.refl B w).set hR (by decide) hb _).alloc (by simpa using hB) _⟩)
    | (have e1 : visDepth (.mk hd ks) lv s = (s, true) := by simp only [visDepth]; congr 1; omega
       rw [e1]
       exact ⟨rfl, (Var.set hR _).alloc _, ((Fr.refl B w).set hR (by decide) hb _).alloc (by simpa using hB) _⟩)

set_option maxHeartbeats 1000000 in
theorem size_any (e : LExpr) (cs : List Value) (B : Nat) (w : World) (hB : B ≤ w.heap.size) (he : IsExpr B w e cs) :
    Calls Try.prog 31 #[.agg cs.toArray] w fun r w' => r = .returned (.int .i64 (walkS visSize e 1 0).1) ∧ Below w.heap.size w w' := by
  obtain ⟨hd, ks, A, c, rfl, rfl, hlen⟩ := he.form
  have hcall : ∀ (args : Array Value) (w : World), (callFunc 53 args).run Try.prog w = .ok (.enter 53 args) w := fun args w => by kernel_rfl
  have HW := fun W s hB' he' hR' => Lib.hid (walk_any visSize (ROne (w.heap.size + 1)) w.heap.size 53 #[.pointer (some ⟨w.heap.size + 1, 0, none⟩)] hcall
    (fun s w o h => Var.alloc h o) (fun e cs lv w' s hB he hR => size1_any w.heap.size (w.heap.size + 1) (by omega) e cs lv w' s hB he hR)
    (.mk hd ks) (hd.cells (.slice A ks.length c)) W s hB' he' hR')
  clear hcall
  have he1 := he.mono hB
  clear he
  go_enter Try.func31, Try.ntmps31
  unfold Hd.cells
  go_wp2_with fail
  refine (HW _ 0 ?_ ?_ ?_).out.mono ?_
  · simp; omega
  · exact he1.carry (((Below.refl _ _).al _).al _)
  · exact Blk.at1 _ _ _ _
  rintro r w1 ⟨rfl, hR1, F1⟩
  have b1 := Var.cell hR1
  clear HW he1
  go_wp2_with fail
  go_ret
  exact ⟨rfl, (((Below.refl _ _).al _).al _).trans F1.low⟩
set_option maxHeartbeats 1000000 in
theorem depth_any (e : LExpr) (cs : List Value) (B : Nat) (w : World) (hB : B ≤ w.heap.size) (he : IsExpr B w e cs) :
    Calls Try.prog 32 #[.agg cs.toArray] w fun r w' => r = .returned (.int .i64 (walkS visDepth e 1 0).1) ∧ Below w.heap.size w w' := by
  obtain ⟨hd, ks, A, c, rfl, rfl, hlen⟩ := he.form
  have hcall : ∀ (args : Array Value) (w : World), (callFunc 54 args).run Try.prog w = .ok (.enter 54 args) w := fun args w => by kernel_rfl
  have HW := fun W s hB' he' hR' => Lib.hid (walk_any visDepth (ROne (w.heap.size + 1)) w.heap.size 54 #[.pointer (some ⟨w.heap.size + 1, 0, none⟩)] hcall
    (fun s w o h => Var.alloc h o) (fun e cs lv w' s hB he hR => depth1_any w.heap.size (w.heap.size + 1) (by omega) e cs lv w' s hB he hR)
    (.mk hd ks) (hd.cells (.slice A ks.length c)) W s hB' he' hR')
  clear hcall
  have he1 := he.mono hB
  clear he
  go_enter Try.func32, Try.ntmps32
  unfold Hd.cells
  go_wp2_with fail
  refine (HW _ 0 ?_ ?_ ?_).out.mono ?_
  · simp; omega
  · exact he1.carry (((Below.refl _ _).al _).al _)
  · exact Blk.at1 _ _ _ _
  rintro r w1 ⟨rfl, hR1, F1⟩
  have b1 := Var.cell hR1
  clear HW he1
  go_wp2_with fail
  go_ret
  exact ⟨rfl, (((Below.refl _ _).al _).al _).trans F1.low⟩

end Go.Proofs.Ytnelgblmogciiaa
