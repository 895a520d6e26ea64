/- Hold: byName: timers by the names of their rules. -/
import Derived.Test.YtafodibbcfoclaaGreatHVal
set_option linter.unusedSimpArgs false
set_option linter.unusedVariables false
namespace Go.Proofs.YtafodibbcfoclaaGreat
open Go.RowKit

def valT (t : LTim) : Value := .agg (tC t).toArray
def mapV (l : List LTim) (s : ByteArray) : Option Value := (mapT l s).map valT
theorem mapV_take (l : List LTim) (j : Nat) (h : j < l.length) : mapV (l.take (j + 1)) = fun s => if s = l[j].rule then some (valT l[j]) else mapV (l.take j) s := by
  funext s
  unfold mapV
  rw [mapT_take l j h]
  split <;> rfl
set_option maxRecDepth 100000 in
set_option maxHeartbeats 2000000 in
theorem byName_any (l : List LTim) (A : Option Addr) (c : Nat) (w : World) (hx : RdT w l (.slice A l.length c)) (hl : l.length ≤ 1000000) :
    Calls Tryz.prog 16 #[.slice A l.length c] w fun r w' => (∃ b, r = .returned (.map (some b)) ∧ w.heap.size ≤ b ∧ OMap w' b l.length (mapV l)) ∧ Lat w w' := by
  have hmm := @run_makeMap Tryz.prog
  go_enter Tryz.func16, Tryz.ntmps16
  go_wp2_with fail
  have hL0 : Lat w (w.alloc (.map #[] 0)) := Lat.al _ _
  go_loopw [9] (fun i wr => ∃ j : Nat, j ≤ l.length ∧ i = .int .i64 j ∧ OMap wr w.heap.size j (mapV (l.take j)) ∧ Lat w wr) (fun i _ => l.length - (intOf i).toNat)
  case atStart => exact ⟨0, Nat.zero_le _, rfl, OMap.made w, hL0⟩
  case round =>
    clear hL0 hmm
    obtain ⟨j, hjl, rfl, hom, hLW⟩ := hrel
    by_cases hlt : j < l.length
    · obtain ⟨b, off, hA, hb0, hr1'⟩ := (hx.1.lat hLW).row j hlt
      subst hA
      have hr1 : RowAt wr b (off + j * 3) (tC l[j]) := hr1'
      have hs := hx.2 _ (List.getElem_mem hlt)
      have HM := Lib.hid (mapV_take l j hlt)
      have hLB : Lat wr (wr.alloc (.cells (tC l[j]).toArray 50)) := Lat.al _ _
      have hrow : RowAt (wr.alloc (.cells (tC l[j]).toArray 50)) wr.heap.size 0 (tC l[j]) := (Blk.new wr 50 (tC l[j]).toArray).row
      have hom2 := hom.lat hLB
      have hn : j < maxLen := by unfold maxLen; omega
      have hwb : w.heap.size < wr.heap.size := hom.lt
      have HLW3 := Lib.hid (hLW.trans hLB)
      have HJL : Hid (j < l.length) := Lib.hid hlt
      unfold valT at HM
      clear hr1' hom hLW
      generalize l[j] = X at *
      obtain ⟨x1, x2, x3⟩ := X
      simp only [tC] at hr1 hrow hom2 hs HM hLB HLW3
      go_wp2_with (first | (with_reducible refine wpList_load_at rfl 50 _ rfl b (off + j * 3) rfl _ _ hr1 Tryz.underlying50 rfl (by kernel_rfl) ?_) | (with_reducible refine wpList_load_at rfl 50 _ rfl wr.heap.size 0 rfl _ _ hrow Tryz.underlying50 rfl (by kernel_rfl) ?_) | (at_mapUpdate; refine wpl_put _ rfl _ _ _ 55 50 rfl Tryz.underlying55 w.heap.size j _ rfl hom2 hn x1 rfl hs (.agg #[.string x1, .int .i64 x2, .bool x3]) rfl ?_; intro w6 hom6 hg6; go_must (have hLW6 : Lat w w6 := HLW3.out.grown hg6 HLW3.out.size (fun k hk => by injection hk with hk; omega); rw [← HM.out] at hom6; clear hg6 hom2 hrow hr1)))
      go_roundw
      case rel => exact ⟨j + 1, by omega, by go_num, hom6, hLW6⟩
      case measure => simp [intOf]; omega
    · have hj : j = l.length := by omega
      subst hj
      rw [List.take_length] at hom
      go_wp2_with fail
      go_ret
      exact ⟨⟨_, rfl, Nat.le_refl _, hom⟩, hLW⟩
end Go.Proofs.YtafodibbcfoclaaGreat
