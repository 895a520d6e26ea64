/- Hold: nodes: what an expression leaves of a number. Hold: few. -/
import Derived.Test.YtafodibbcfoclaaGreatHMem
import Derived.Test.YtafodibbcfoclaaGreatHPlains
namespace Go.Proofs.YtafodibbcfoclaaGreat
section
set_option linter.unusedSimpArgs false
set_option linter.unusedVariables false
open Go.RowKit

def NodesOut (n : Nat) (w : World) (r : Ending) (w' : World) : Prop := (∃ z : Int, r = .returned (.int .i64 z) ∧ -1 ≤ z ∧ z ≤ n) ∧ Lat w w'
theorem isExpr_form {B : Nat} {w : World} {e : Ev.LExpr} {cs : List Value} (h : Ev.IsExpr B w e cs) : ∃ hd A l c, cs = Ev.Hd.cells hd (.slice A l c) := by
  cases h
  exact ⟨_, _, _, _, rfl⟩
set_option maxRecDepth 100000 in
set_option maxHeartbeats 1000000 in
theorem nodes_zero (e : Ev.LExpr) (cs : List Value) (B : Nat) (w : World) (hB : B ≤ w.heap.size) (he : Ev.IsExpr B w e cs) : Calls Tryz.prog 10 #[.agg cs.toArray, .int .i64 ((0 : Nat) : Int)] w fun r w' => NodesOut 0 w r w' := by
  obtain ⟨⟨z1, z2, z3, z4, z5, z6, z7, z8, z9, z10⟩, A, l, c, rfl⟩ := isExpr_form he
  simp only [Ev.Hd.cells]
  clear he
  go_enter Tryz.func10, Tryz.ntmps10
  go_wp2_with fail
  go_ret
  exact ⟨⟨_, rfl, by omega, by omega⟩, Lat.al _ _⟩
set_option maxRecDepth 100000 in
set_option maxHeartbeats 4000000 in
theorem nodes_step (m : Nat) (hm : m ≤ 1000) (IH : ∀ (q : Nat), q ≤ m → ∀ (e : Ev.LExpr) (cs : List Value) (B : Nat) (w : World), B ≤ w.heap.size → Ev.IsExpr B w e cs → Calls Tryz.prog 10 #[.agg cs.toArray, .int .i64 (q : Int)] w fun r w' => NodesOut q w r w')
    (e : Ev.LExpr) (cs : List Value) (B : Nat) (w : World) (hB : B ≤ w.heap.size) (he : Ev.IsExpr B w e cs) : Calls Tryz.prog 10 #[.agg cs.toArray, .int .i64 ((m : Int) + 1)] w fun r w' => NodesOut (m + 1) w r w' := by
  cases he with
  | mk hd ks A c b off cs ok hlen hA hsz hrow hk =>
    have HIH := fun q hq e cs B w h1 h2 => Lib.hid (IH q hq e cs B w h1 h2)
    have HROW : Hid (∀ (i : Nat) (hi : i < ks.length), A = some ⟨b, off, none⟩ ∧ b < B ∧ Ev.RowAt w b (off + i * 11) (cs i) ∧ Ev.IsExpr B w ks[i] (cs i)) := Lib.hid (fun i hi => ⟨(hA (by omega)).1, (hA (by omega)).2, hrow i hi, hk i hi⟩)
    obtain ⟨z1, z2, z3, z4, z5, z6, z7, z8, z9, z10⟩ := hd
    simp only [Ev.Hd.cells]
    clear hA hrow hk hsz ok IH
    have hL0 : Lat w (w.alloc (.cells #[.int .i64 z1, .int .i64 z2, .int .i64 z3, .string z4, .int .i64 z5, .int .i64 z6, .string z7, .int .i64 z8, .string z9, .string z10, .slice A ks.length c] 41)) := Lat.al _ _
    have hm1 : ¬ ((m : Int) < 0) := by omega
    by_cases h60 : 60 < ks.length
    · have a1 : (60 : Int) < (ks.length : Int) := by omega
      clear HIH HROW
      go_enter Tryz.func10, Tryz.ntmps10
      go_wp2_with fail
      go_ret
      exact ⟨⟨_, rfl, by omega, by omega⟩, hL0⟩
    · have a1 : ¬ ((60 : Int) < (ks.length : Int)) := by omega
      go_enter Tryz.func10, Tryz.ntmps10
      go_wp2_with fail
      go_loopw [1, 20] (fun v i wr => ∃ (j q : Nat), j ≤ ks.length ∧ q ≤ m ∧ i = .int .i64 j ∧ v = .int .i64 q ∧ Lat w wr) (fun _ i _ => ks.length - (intOf i).toNat)
      case atStart => exact ⟨0, m, Nat.zero_le _, Nat.le_refl _, rfl, rfl, hL0⟩
      case round =>
        clear hL0
        obtain ⟨j, q, hjl, hqm, rfl, rfl, hLW⟩ := hrel
        by_cases hlt : j < ks.length
        · obtain ⟨rfl, hbB, hrow, hex⟩ := HROW.out j hlt
          have hex := hex.carry (hLW.mono hB)
          have hrow : RowAt wr b (off + j * 11) (cs j) := fun i v hi => (hLW.cell (p := ⟨b, off + j * 11 + i, none⟩) (Nat.lt_of_lt_of_le hbB hB)).trans (hrow i v hi)
          generalize cs j = cj at *
          obtain ⟨⟨y1, y2, y3, y4, y5, y6, y7, y8, y9, y10⟩, A', l', c', rfl⟩ := isExpr_form hex
          simp only [Ev.Hd.cells] at hex hrow
          have hL1 : Lat wr (wr.alloc (.cells #[.int .i64 y1, .int .i64 y2, .int .i64 y3, .string y4, .int .i64 y5, .int .i64 y6, .string y7, .int .i64 y8, .string y9, .string y10, .slice A' l' c'] 41)) := Lat.al _ _
          have hrk : RowAt (wr.alloc (.cells #[.int .i64 y1, .int .i64 y2, .int .i64 y3, .string y4, .int .i64 y5, .int .i64 y6, .string y7, .int .i64 y8, .string y9, .string y10, .slice A' l' c'] 41)) wr.heap.size 0 [.int .i64 y1, .int .i64 y2, .int .i64 y3, .string y4, .int .i64 y5, .int .i64 y6, .string y7, .int .i64 y8, .string y9, .string y10, .slice A' l' c'] := (Blk.new wr 41 #[.int .i64 y1, .int .i64 y2, .int .i64 y3, .string y4, .int .i64 y5, .int .i64 y6, .string y7, .int .i64 y8, .string y9, .string y10, .slice A' l' c']).row
          have HC := HIH q hqm ks[j] _ B (wr.alloc (.cells #[.int .i64 y1, .int .i64 y2, .int .i64 y3, .string y4, .int .i64 y5, .int .i64 y6, .string y7, .int .i64 y8, .string y9, .string y10, .slice A' l' c'] 41)) (Nat.le_trans hB (Nat.le_trans hLW.size hL1.size)) (hex.carry (hL1.mono (Nat.le_trans hB hLW.size)))
          have HL2 := Lib.hid (hLW.trans hL1)
          clear hex hL1 hLW HIH
          go_wp2_with (first | (with_reducible refine wpList_load_at rfl 41 _ rfl b (off + j * 11) rfl _ _ hrow Tryz.underlying41 rfl (by kernel_rfl) ?_) | (with_reducible refine wpList_load_at rfl 41 _ rfl wr.heap.size 0 rfl _ _ hrk Tryz.underlying41 rfl (by kernel_rfl) ?_))
          refine HC.out.mono ?_
          rintro r w5 ⟨⟨z, rfl, hz1, hz2⟩, hl5⟩
          have hL5 := HL2.out.trans hl5
          clear HC HL2 hrow hrk hl5
          by_cases hz : z < 0
          · go_wp2_with fail
            go_ret
            exact ⟨⟨_, rfl, by omega, by omega⟩, hL5⟩
          · obtain ⟨q', rfl⟩ : ∃ q' : Nat, z = (q' : Int) := ⟨z.toNat, by omega⟩
            go_wp2_with fail
            go_roundw
            case rel => exact ⟨j + 1, q', by omega, by omega, by go_num, rfl, hL5⟩
            case measure => simp [intOf]; omega
        · have hj : j = ks.length := by omega
          subst hj
          clear HIH HROW
          go_wp2_with fail
          go_ret
          exact ⟨⟨_, rfl, by omega, by omega⟩, hLW⟩
theorem nodes_all : ∀ (n : Nat), n ≤ 1000 → ∀ (q : Nat), q ≤ n → ∀ (e : Ev.LExpr) (cs : List Value) (B : Nat) (w : World), B ≤ w.heap.size → Ev.IsExpr B w e cs → Calls Tryz.prog 10 #[.agg cs.toArray, .int .i64 (q : Int)] w fun r w' => NodesOut q w r w'
  | 0, _, q, hq, e, cs, B, w, hB, he => by
    obtain rfl : q = 0 := by omega
    exact nodes_zero e cs B w hB he
  | n + 1, hn, q, hq, e, cs, B, w, hB, he => by
    by_cases h : q ≤ n
    · exact nodes_all n (by omega) q h e cs B w hB he
    · obtain rfl : q = n + 1 := by omega
      have := nodes_step n (by omega) (fun q hq e cs B w h1 h2 => nodes_all n (by omega) q hq e cs B w h1 h2) e cs B w hB he
      rwa [Int.natCast_add]
theorem nodes_any (e : Ev.LExpr) (cs : List Value) (B : Nat) (w : World) (hB : B ≤ w.heap.size) (he : Ev.IsExpr B w e cs) : Calls Tryz.prog 10 #[.agg cs.toArray, .int .i64 60] w fun r w' => NodesOut 60 w r w' :=
  nodes_all 60 (by omega) 60 (by omega) e cs B w hB he
end
end Go.Proofs.YtafodibbcfoclaaGreat

namespace Go.Proofs.YtafodibbcfoclaaGreat
section
set_option linter.unusedSimpArgs false
set_option linter.unusedVariables false
open Go.RowKit

structure FewR (l : List LTim) (ps : List RP) : Prop where
  tims : l.length ≤ 50
  rules : ps.length ≤ 50
  ons : ∀ p ∈ ps, p.2.on.length ≤ 12
def FewOut (l : List LTim) (ps : List RP) (r : Ending) : Prop := ∃ b, r = .returned (.bool b) ∧ (b = true → FewR l ps)
set_option maxRecDepth 100000 in
set_option maxHeartbeats 4000000 in
theorem few_any (l : List LTim) (A : Option Addr) (c : Nat) (ps : List RP) (B : Option Addr) (m : Nat) (w : World) (hy : RdR w ps (.slice B ps.length m)) :
    Calls Tryz.prog 4 #[.slice A l.length c, .slice B ps.length m] w fun r w' => FewOut l ps r ∧ Lat w w' := by
  by_cases h1 : 50 < l.length
  · have a1 : (50 : Int) < (l.length : Int) := by omega
    clear hy
    go_enter Tryz.func4, Tryz.ntmps4
    go_wp2_with fail
    go_ret
    exact ⟨⟨_, rfl, fun e => by cases e⟩, Lat.refl _⟩
  · have a1 : ¬ ((50 : Int) < (l.length : Int)) := by omega
    by_cases h2 : 50 < ps.length
    · have a2 : (50 : Int) < (ps.length : Int) := by omega
      clear hy
      go_enter Tryz.func4, Tryz.ntmps4
      go_wp2_with fail
      go_ret
      exact ⟨⟨_, rfl, fun e => by cases e⟩, Lat.refl _⟩
    · have a2 : ¬ ((50 : Int) < (ps.length : Int)) := by omega
      go_enter Tryz.func4, Tryz.ntmps4
      go_wp2_with fail
      go_loopw [17] (fun i wr => ∃ j : Nat, j ≤ ps.length ∧ i = .int .i64 j ∧ Hid (∀ (k : Nat) (hk : k < ps.length), k < j → ps[k].2.on.length ≤ 12) ∧ Lat w wr) (fun i _ => ps.length - (intOf i).toNat)
      case atStart => exact ⟨0, Nat.zero_le _, rfl, Lib.hid (fun k _ h => by omega), Lat.refl _⟩
      case round =>
        obtain ⟨j, hjl, rfl, HN, hLW⟩ := hrel
        by_cases hlt : j < ps.length
        · obtain ⟨b, off, hA, hb0, hr1, hsay⟩ := (hy.lat hLW).row j hlt
          subst hA
          have hL1 : Lat wr (wr.alloc (.cells (rC ps[j].1).toArray 44)) := Lat.al _ _
          have HND := Lib.hid (nodes_any ps[j].2.ife ps[j].1.ex _ (wr.alloc (.cells (rC ps[j].1).toArray 44)) (Nat.le_refl _) ((hsay.lat hL1).ife))
          have HN2 : Hid (ps[j].2.on.length ≤ 12 → ∀ (k : Nat) (hk : k < ps.length), k < j + 1 → ps[k].2.on.length ≤ 12) := Lib.hid (fun h k hk hlt => by
            by_cases e : k = j
            · subst e; exact h
            · exact HN.out k hk (by omega))
          have hol := Says.on_len hsay
          have hhx := Blk.new wr 44 (rC ps[j].1).toArray
          have HL := Lib.hid (hLW.trans hL1)
          clear hsay HN hL1 hLW hy
          generalize ps[j].2.on.length = O at *
          generalize ps[j].1 = P at *
          obtain ⟨x1, x2, x3, x4, x5, ⟨y1, y2, y3, y4, y5, y6, y7, y8, y9, y10⟩, x6, x7, x8, x9, x10, x11⟩ := P
          simp only [rC, RlR.ex, Ev.Hd.cells, List.cons_append, List.nil_append] at hr1 hhx HND HL
          dsimp only at hol
          subst hol
          by_cases h12 : 12 < x4
          · have a3 : (12 : Int) < (x4 : Int) := by omega
            clear HND HN2 hhx
            go_wp2_with (with_reducible refine wpList_load_at rfl 44 _ rfl b (off + j * 15) rfl _ _ hr1 Tryz.underlying44 rfl (by kernel_rfl) ?_)
            go_ret
            exact ⟨⟨_, rfl, fun e => by cases e⟩, HL.out⟩
          · have a3 : ¬ ((12 : Int) < (x4 : Int)) := by omega
            have hre : RowAt (wr.alloc (.cells #[.string x1, .int .i64 x2, .slice x3 x4 x5, .int .i64 y1, .int .i64 y2, .int .i64 y3, .string y4, .int .i64 y5, .int .i64 y6, .string y7, .int .i64 y8, .string y9, .string y10, .slice x6 x7 x8, .slice x9 x10 x11] 44)) wr.heap.size 3 [.int .i64 y1, .int .i64 y2, .int .i64 y3, .string y4, .int .i64 y5, .int .i64 y6, .string y7, .int .i64 y8, .string y9, .string y10, .slice x6 x7 x8] := row_of_blk (l := (#[.string x1, .int .i64 x2, .slice x3 x4 x5, .int .i64 y1, .int .i64 y2, .int .i64 y3, .string y4, .int .i64 y5, .int .i64 y6, .string y7, .int .i64 y8, .string y9, .string y10, .slice x6 x7 x8, .slice x9 x10 x11]).toList) hhx 3 _ (fun i v hi => by
              match i, hi with
              | 0, hi => exact hi
              | 1, hi => exact hi
              | 2, hi => exact hi
              | 3, hi => exact hi
              | 4, hi => exact hi
              | 5, hi => exact hi
              | 6, hi => exact hi
              | 7, hi => exact hi
              | 8, hi => exact hi
              | 9, hi => exact hi
              | 10, hi => exact hi
              | i + 11, hi => simp at hi)
            clear hhx
            go_wp2_with (first | (with_reducible refine wpList_load_at rfl 44 _ rfl b (off + j * 15) rfl _ _ hr1 Tryz.underlying44 rfl (by kernel_rfl) ?_) | (refine wpList_load_atG rfl 41 _ rfl wr.heap.size 3 rfl _ _ hre Tryz.underlying41 rfl (by kernel_rfl) ?_))
            refine HND.out.mono ?_
            rintro r w5 ⟨⟨z, rfl, hz1, hz2⟩, hl5⟩
            have hL5 := HL.out.trans hl5
            have HN3 := Lib.hid (HN2.out (by omega))
            clear HND HN2 hre hr1 HL hl5
            by_cases hz : z < 0
            · go_wp2_with fail
              go_ret
              exact ⟨⟨_, rfl, fun e => by cases e⟩, hL5⟩
            · go_wp2_with fail
              go_roundw
              case rel => exact ⟨j + 1, by omega, by go_num, HN3, hL5⟩
              case measure => simp [intOf]; omega
        · have hj : j = ps.length := by omega
          subst hj
          have hF : FewR l ps := ⟨by omega, by omega, fun p hp => by
            obtain ⟨k, hk, rfl⟩ := List.getElem_of_mem hp
            exact HN.out k hk hk⟩
          have HF := Lib.hid hF
          clear hF HN
          go_wp2_with fail
          go_ret
          exact ⟨⟨_, rfl, fun _ => HF.out⟩, hLW⟩
end
end Go.Proofs.YtafodibbcfoclaaGreat
