/- The law package's small functions. -/
import Derived.Test.YtnelgblmogciiaaFindZ
set_option linter.unusedSimpArgs false
set_option linter.unusedVariables false
namespace Go.Proofs.Ytnelgblmogciiaa
open Go.RowKit

/-- A boolean literal. -/
def litH (n : Int) : Hd := ⟨1, 0, 0, noStr, 1, n, noStr, 0, noStr, noStr⟩
/-- A node with kids and nothing else. -/
def bareH (k : Int) : Hd := ⟨k, 0, 0, noStr, 0, 0, noStr, 0, noStr, noStr⟩
theorem litH_ok {n : Int} (h : I64 n) : (litH n).ok := by constructor <;> first | exact h | (unfold I64 litH; simp)
theorem bareH_ok {n : Int} (h : I64 n) : (bareH n).ok := by constructor <;> first | exact h | (unfold I64 bareH; simp)

set_option maxHeartbeats 400000 in
theorem ltruth_any (n : Int) (w : World) : Calls Try.prog 42 #[.int .i64 n] w fun r w' => r = .returned (.agg ((litH n).cells (.slice none 0 0)).toArray) ∧ Below w.heap.size w w' := by
  go_enter Try.func42, Try.ntmps42
  go_wp2_with fail
  refine bodyPost_ret (v := ?_) ?_ rfl ?_
  rotate_left
  · simp [results, Try.results42, go_sem]; exact rfl
  refine ⟨by simp [Hd.cells, litH, noStr]; try rfl, ?_⟩
  (repeat (first | exact Below.refl _ _ | refine Below.al ?_ _ | refine Below.st ?_ (by simp) _))

set_option maxHeartbeats 400000 in
theorem lnode_any (k : Int) (A : Option Addr) (n c : Nat) (w : World) : Calls Try.prog 26 #[.int .i64 k, .slice A n c] w fun r w' => r = .returned (.agg ((bareH k).cells (.slice A n c)).toArray) ∧ Below w.heap.size w w' := by
  go_enter Try.func26, Try.ntmps26
  go_wp2_with fail
  refine bodyPost_ret (v := ?_) ?_ rfl ?_
  rotate_left
  · simp [results, Try.results26, go_sem]; exact rfl
  refine ⟨by simp [Hd.cells, bareH, noStr]; try rfl, ?_⟩
  (repeat (first | exact Below.refl _ _ | refine Below.al ?_ _ | refine Below.st ?_ (by simp) _))

/-- A leaf reads as an expression wherever it lies. -/
theorem leaf_is (B : Nat) (W : World) (h : Hd) (ok : h.ok) (A : Option Addr) (c : Nat) : IsExpr B W (.mk h []) (h.cells (.slice A 0 c)) :=
  .mk h [] A c 0 0 (fun _ => List.replicate 11 undef) ok (by simp) (fun h0 => by simp at h0) (fun _ => by simp) (fun i hi => by simp at hi) (fun i hi => by simp at hi)
theorem row_of_blk {W : World} {g : Nat} {t : TypeId} {l : List Value} (h : Blk W g t l.toArray) (off : Nat) (cs : List Value) (hc : ∀ j v, cs[j]? = some v → l[off + j]? = some v) : RowAt W g off cs := fun j v hj => by
  rw [h.cell]
  simpa using hc j v hj
theorem pair_is {B : Nat} {W : World} {h : Hd} (ok : h.ok) {g : Nat} {t : TypeId} {e0 e1 : LExpr} {c0 c1 : List Value} (c : Nat) (hb : Blk W g t (c0 ++ c1).toArray) (hg : g < B) (h0 : IsExpr B W e0 c0) (h1 : IsExpr B W e1 c1) :
    IsExpr B W (.mk h [e0, e1]) (h.cells (.slice (some ⟨g, 0, none⟩) 2 c)) := by
  have l0 := h0.len
  have l1 := h1.len
  refine .mk h [e0, e1] _ c g 0 (fun i => if i = 0 then c0 else c1) ok (by simp) (fun _ => ⟨rfl, hg⟩) (fun i => by split <;> assumption) (fun i hi => ?_) (fun i hi => ?_)
  · match i, hi with
    | 0, _ => exact row_of_blk hb _ _ (fun j v hj => by have : j < c0.length := (List.getElem?_eq_some_iff.1 hj).1; simp only [Nat.zero_mul, Nat.add_zero, Nat.zero_add]; rw [List.getElem?_append_left this]; exact hj)
    | 1, _ => exact row_of_blk hb _ _ (fun j v hj => by rw [List.getElem?_append_right (by omega)]; simpa [l0] using hj)
  · match i, hi with
    | 0, _ => exact h0
    | 1, _ => exact h1
theorem triple_is {B : Nat} {W : World} {h : Hd} (ok : h.ok) {g : Nat} {t : TypeId} {e0 e1 e2 : LExpr} {c0 c1 c2 : List Value} (c : Nat) (hb : Blk W g t (c0 ++ (c1 ++ c2)).toArray) (hg : g < B) (h0 : IsExpr B W e0 c0) (h1 : IsExpr B W e1 c1) (h2 : IsExpr B W e2 c2) :
    IsExpr B W (.mk h [e0, e1, e2]) (h.cells (.slice (some ⟨g, 0, none⟩) 3 c)) := by
  have l0 := h0.len
  have l1 := h1.len
  have l2 := h2.len
  refine .mk h [e0, e1, e2] _ c g 0 (fun i => if i = 0 then c0 else if i = 1 then c1 else c2) ok (by simp) (fun _ => ⟨rfl, hg⟩) (fun i => by split; assumption; split <;> assumption) (fun i hi => ?_) (fun i hi => ?_)
  · match i, hi with
    | 0, _ => exact row_of_blk hb _ _ (fun j v hj => by have : j < c0.length := (List.getElem?_eq_some_iff.1 hj).1; simp only [Nat.zero_mul, Nat.add_zero, Nat.zero_add]; rw [List.getElem?_append_left this]; exact hj)
    | 1, _ => exact row_of_blk hb _ _ (fun j v hj => by have : j < c1.length := (List.getElem?_eq_some_iff.1 hj).1; rw [List.getElem?_append_right (by omega), List.getElem?_append_left (by omega)]; simpa [l0] using hj)
    | 2, _ => exact row_of_blk hb _ _ (fun j v hj => by rw [List.getElem?_append_right (by omega), List.getElem?_append_right (by omega)]; have e : 0 + 2 * 11 + j - c0.length - c1.length = j := by omega
                                                        rw [e]; exact hj)
  · match i, hi with
    | 0, _ => exact h0
    | 1, _ => exact h1
    | 2, _ => exact h2

def onoff : ByteArray := { data := #[111, 110, 111, 102, 102] }
def onStr : ByteArray := { data := #[111, 110] }
def dayStr : ByteArray := { data := #[100, 97, 121] }
def attrH : Hd := ⟨2, 0, 0, noStr, 0, 0, noStr, 1, onoff, onStr⟩
theorem attrH_ok : attrH.ok := by constructor <;> (unfold I64 attrH; simp)
def view0 : LView := ⟨[], dayStr, 0, []⟩
theorem view0_is (B : Nat) (W : World) (A A' : Option Addr) (c c' : Nat) : IsView B W view0 [.slice A 0 c, .string dayStr, .int .i64 0, .slice A' 0 c'] :=
  ⟨A, c, A', c', rfl, fun h => by simp [view0] at h, fun h => by simp [view0] at h, by unfold I64; decide, by decide, by decide⟩

theorem ground1 : evalE view0 (.mk (bareH 7) [.mk attrH [], .mk (litH 0) []]) = truthE false := by kernel_rfl
theorem ground2 : evalE view0 (.mk (bareH 8) [.mk attrH [], .mk (litH 0) []]) = unknownE := by kernel_rfl
theorem ground3 : isTrue (evalE view0 (.mk ⟨4, 1320, 360, noStr, 0, 0, noStr, 0, noStr, noStr⟩ [])) = true := by kernel_rfl
theorem ground4 : isTrue (evalE view0 (.mk ⟨5, 32, 0, noStr, 0, 0, noStr, 0, noStr, noStr⟩ [])) = true := by kernel_rfl
theorem ground5 : isTrue (evalE view0 (.mk ⟨5, 31, 0, noStr, 0, 0, noStr, 0, noStr, noStr⟩ [])) = false := by kernel_rfl
theorem ground6 : isTrue (evalE view0 (.mk ⟨3, 0, 0, dayStr, 0, 0, noStr, 0, noStr, noStr⟩ [])) = true := by kernel_rfl
theorem ground7 : isTrue (evalE view0 (.mk (bareH 14) [.mk (litH 1) [], .mk (litH 1) [], .mk attrH []])) = true := by kernel_rfl

end Go.Proofs.Ytnelgblmogciiaa
