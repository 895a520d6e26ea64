/- Hold: nodes: what an expression leaves of a number. -/
import Derived.Test.YtafodibbcfoclaaHMem
set_option linter.unusedSimpArgs false
set_option linter.unusedVariables false
namespace Go.Proofs.Ytafodibbcfoclaa
open Go.RowKit

def NodesOut (n : Nat) (w : World) (r : Ending) (w' : World) : Prop := (∃ z : Int, r = .returned (.int .i64 z) ∧ -1 ≤ z ∧ z ≤ n) ∧ Lat w w'
theorem isExpr_form {B : Nat} {w : World} {e : Ev.LExpr} {cs : List Value} (h : Ev.IsExpr B w e cs) : ∃ hd A l c, cs = Ev.Hd.cells hd (.slice A l c) := by
  cases h
  exact ⟨_, _, _, _, rfl⟩
set_option maxRecDepth 100000 in
set_option maxHeartbeats 1000000 in
theorem nodes_zero (e : Ev.LExpr) (cs : List Value) (B : Nat) (w : World) (hB : B ≤ w.heap.size) (he : Ev.IsExpr B w e cs) : Calls Try.prog 22 #[.agg cs.toArray, .int .i64 ((0 : Nat) : Int)] w fun r w' => NodesOut 0 w r w' := by
  obtain ⟨⟨z1, z2, z3, z4, z5, z6, z7, z8, z9, z10⟩, A, l, c, rfl⟩ := isExpr_form he
  simp only [Ev.Hd.cells]
  clear he
  go_enter Try.func22, Try.ntmps22
  go_wp2_with fail
  go_ret
  exact ⟨⟨_, rfl, by omega, by omega⟩, Lat.al _ _⟩
set_option maxRecDepth 100000 in
set_option maxHeartbeats 4000000 in
theorem nodes_step (m : Nat) (hm : m ≤ 1000) (IH : ∀ (q : Nat), q ≤ m → ∀ (e : Ev.LExpr) (cs : List Value) (B : Nat) (w : World), B ≤ w.heap.size → Ev.IsExpr B w e cs → Calls Try.prog 22 #[.agg cs.toArray, .int .i64 (q : Int)] w fun r w' => NodesOut q w r w')
    (e : Ev.LExpr) (cs : List Value) (B : Nat) (w : World) (hB : B ≤ w.heap.size) (he : Ev.IsExpr B w e cs) : Calls Try.prog 22 #[.agg cs.toArray, .int .i64 ((m : Int) + 1)] w fun r w' => NodesOut (m + 1) w r w' := by
  cases he with
  | mk hd ks A c b off cs ok hlen hA hsz hrow hk =>
    have HIH := fun q hq e cs B w h1 h2 => Lib.hid (IH q hq e cs B w h1 h2)
    have HROW : Hid (∀ (i : Nat) (hi : i < ks.length), A = some ⟨b, off, none⟩ ∧ b < B ∧ Ev.RowAt w b (off + i * 11) (cs i) ∧ Ev.IsExpr B w ks[i] (cs i)) := Lib.hid (fun i hi => ⟨(hA (by omega)).1, (hA (by omega)).2, hrow i hi, hk i hi⟩)
    obtain ⟨z1, z2, z3, z4, z5, z6, z7, z8, z9, z10⟩ := hd
    simp only [Ev.Hd.cells]
    clear hA hrow hk hsz ok IH
    have hL0 : Lat w (w.alloc (.cells #[.int .i64 z1, .int .i64 z2, .int .i64 z3, .string z4, .int .i64 z5, .int .i64 z6, .string z7, .int .i64 z8, .string z9, .string z10, .slice A ks.length c] 47)) := Lat.al _ _
    have hm1 : ¬ ((m : Int) < 0) := by omega
    by_cases h60 : 60 < ks.length
    · have a1 : (60 : Int) < (ks.length : Int) := by omega
      clear HIH HROW
      go_enter Try.func22, Try.ntmps22
      go_wp2_with fail
      go_ret
      exact ⟨⟨_, rfl, by omega, by omega⟩, hL0⟩
    · have a1 : ¬ ((60 : Int) < (ks.length : Int)) := by omega
      go_enter Try.func22, Try.ntmps22
      go_wp2_with fail
      go_loopw [1, 20] (fun v i wr => ∃ (j q : Nat), j ≤ ks.length ∧ q ≤ m ∧ i = .int .i64 j ∧ v = .int .i64 q ∧ Lat w wr) (fun _ i _ => ks.length - (intOf i).toNat)
      case atStart => exact ⟨0, m, Nat.zero_le _, Nat.le_refl _, rfl, rfl, hL0⟩
      case round =>
        clear hL0
        obtain ⟨j, q, hjl, hqm, rfl, rfl, hLW⟩ := hrel
        by_cases hlt : j < ks.length
        · obtain ⟨rfl, hbB, hrow, hex⟩ := HROW.out j hlt
          have hex := hex.carry (hLW.mono hB)
          have hrow : RowAt wr b (off + j * 11) (cs j) := fun i v hi => (hLW.cell (p := ⟨b, off + j * 11 + i, none⟩) (Nat.lt_of_lt_of_le hbB hB)).trans (hrow i v hi)
          generalize cs j = cj at *
          obtain ⟨⟨y1, y2, y3, y4, y5, y6, y7, y8, y9, y10⟩, A', l', c', rfl⟩ := isExpr_form hex
          simp only [Ev.Hd.cells] at hex hrow
          have hL1 : Lat wr (wr.alloc (.cells #[.int .i64 y1, .int .i64 y2, .int .i64 y3, .string y4, .int .i64 y5, .int .i64 y6, .string y7, .int .i64 y8, .string y9, .string y10, .slice A' l' c'] 47)) := Lat.al _ _
          have hrk : RowAt (wr.alloc (.cells #[.int .i64 y1, .int .i64 y2, .int .i64 y3, .string y4, .int .i64 y5, .int .i64 y6, .string y7, .int .i64 y8, .string y9, .string y10, .slice A' l' c'] 47)) wr.heap.size 0 [.int .i64 y1, .int .i64 y2, .int .i64 y3, .string y4, .int .i64 y5, .int .i64 y6, .string y7, .int .i64 y8, .string y9, .string y10, .slice A' l' c'] := (Blk.new wr 47 #[.int .i64 y1, .int .i64 y2, .int .i64 y3, .string y4, .int .i64 y5, .int .i64 y6, .string y7, .int .i64 y8, .string y9, .string y10, .slice A' l' c']).row
          have HC := HIH q hqm ks[j] _ B (wr.alloc (.cells #[.int .i64 y1, .int .i64 y2, .int .i64 y3, .string y4, .int .i64 y5, .int .i64 y6, .string y7, .int .i64 y8, .string y9, .string y10, .slice A' l' c'] 47)) (Nat.le_trans hB (Nat.le_trans hLW.size hL1.size)) (hex.carry (hL1.mono (Nat.le_trans hB hLW.size)))
          have HL2 := Lib.hid (hLW.trans hL1)
          clear hex hL1 hLW HIH
          go_wp2_with (first | (with_reducible refine wpList_load_at rfl 47 _ rfl b (off + j * 11) rfl _ _ hrow Try.underlying47 rfl (by kernel_rfl) ?_) | (with_reducible refine wpList_load_at rfl 47 _ rfl wr.heap.size 0 rfl _ _ hrk Try.underlying47 rfl (by kernel_rfl) ?_))
          refine HC.out.mono ?_
          rintro r w5 ⟨⟨z, rfl, hz1, hz2⟩, hl5⟩
          have hL5 := HL2.out.trans hl5
          clear HC HL2 hrow hrk hl5
          by_cases hz : z < 0
          · go_wp2_with fail
            go_ret
            exact ⟨⟨_, rfl, by omega, by omega⟩, hL5⟩
          · obtain ⟨q', rfl⟩ : ∃ q' : Nat, z = (q' : Int) := ⟨z.toNat, by omega⟩
            go_wp2_with fail
            go_roundw
            case rel => exact ⟨j + 1, q', by omega, by omega, by go_num, rfl, hL5⟩
            case measure => simp [intOf]; omega
        · have hj : j = ks.length := by omega
          subst hj
          clear HIH HROW
          go_wp2_with fail
          go_ret
          exact ⟨⟨_, rfl, by omega, by omega⟩, hLW⟩
theorem nodes_all : ∀ (n : Nat), n ≤ 1000 → ∀ (q : Nat), q ≤ n → ∀ (e : Ev.LExpr) (cs : List Value) (B : Nat) (w : World), B ≤ w.heap.size → Ev.IsExpr B w e cs → Calls Try.prog 22 #[.agg cs.toArray, .int .i64 (q : Int)] w fun r w' => NodesOut q w r w'
  | 0, _, q, hq, e, cs, B, w, hB, he => by
    obtain rfl : q = 0 := by omega
    exact nodes_zero e cs B w hB he
  | n + 1, hn, q, hq, e, cs, B, w, hB, he => by
    by_cases h : q ≤ n
    · exact nodes_all n (by omega) q h e cs B w hB he
    · obtain rfl : q = n + 1 := by omega
      have := nodes_step n (by omega) (fun q hq e cs B w h1 h2 => nodes_all n (by omega) q hq e cs B w h1 h2) e cs B w hB he
      rwa [Int.natCast_add]
theorem nodes_any (e : Ev.LExpr) (cs : List Value) (B : Nat) (w : World) (hB : B ≤ w.heap.size) (he : Ev.IsExpr B w e cs) : Calls Try.prog 22 #[.agg cs.toArray, .int .i64 60] w fun r w' => NodesOut 60 w r w' :=
  nodes_all 60 (by omega) 60 (by omega) e cs B w hB he
end Go.Proofs.Ytafodibbcfoclaa
