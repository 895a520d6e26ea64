/- Hold: few. -/
import Derived.Test.YtafodibbcfoclaaHNodes
import Derived.Test.YtafodibbcfoclaaHPlains
set_option linter.unusedSimpArgs false
set_option linter.unusedVariables false
namespace Go.Proofs.Ytafodibbcfoclaa
open Go.RowKit

structure FewR (l : List LTim) (ps : List RP) : Prop where
  tims : l.length ≤ 50
  rules : ps.length ≤ 50
  ons : ∀ p ∈ ps, p.2.on.length ≤ 12
def FewOut (l : List LTim) (ps : List RP) (r : Ending) : Prop := ∃ b, r = .returned (.bool b) ∧ (b = true → FewR l ps)
set_option maxRecDepth 100000 in
set_option maxHeartbeats 4000000 in
theorem few_any (l : List LTim) (A : Option Addr) (c : Nat) (ps : List RP) (B : Option Addr) (m : Nat) (w : World) (hy : RdR w ps (.slice B ps.length m)) :
    Calls Try.prog 8 #[.slice A l.length c, .slice B ps.length m] w fun r w' => FewOut l ps r ∧ Lat w w' := by
  by_cases h1 : 50 < l.length
  · have a1 : (50 : Int) < (l.length : Int) := by omega
    clear hy
    go_enter Try.func8, Try.ntmps8
    go_wp2_with fail
    go_ret
    exact ⟨⟨_, rfl, fun e => by cases e⟩, Lat.refl _⟩
  · have a1 : ¬ ((50 : Int) < (l.length : Int)) := by omega
    by_cases h2 : 50 < ps.length
    · have a2 : (50 : Int) < (ps.length : Int) := by omega
      clear hy
      go_enter Try.func8, Try.ntmps8
      go_wp2_with fail
      go_ret
      exact ⟨⟨_, rfl, fun e => by cases e⟩, Lat.refl _⟩
    · have a2 : ¬ ((50 : Int) < (ps.length : Int)) := by omega
      go_enter Try.func8, Try.ntmps8
      go_wp2_with fail
      go_loopw [17] (fun i wr => ∃ j : Nat, j ≤ ps.length ∧ i = .int .i64 j ∧ Hid (∀ (k : Nat) (hk : k < ps.length), k < j → ps[k].2.on.length ≤ 12) ∧ Lat w wr) (fun i _ => ps.length - (intOf i).toNat)
      case atStart => exact ⟨0, Nat.zero_le _, rfl, Lib.hid (fun k _ h => by omega), Lat.refl _⟩
      case round =>
        obtain ⟨j, hjl, rfl, HN, hLW⟩ := hrel
        by_cases hlt : j < ps.length
        · obtain ⟨b, off, hA, hb0, hr1, hsay⟩ := (hy.lat hLW).row j hlt
          subst hA
          have hL1 : Lat wr (wr.alloc (.cells (rC ps[j].1).toArray 50)) := Lat.al _ _
          have HND := Lib.hid (nodes_any ps[j].2.ife ps[j].1.ex _ (wr.alloc (.cells (rC ps[j].1).toArray 50)) (Nat.le_refl _) ((hsay.lat hL1).ife))
          have HN2 : Hid (ps[j].2.on.length ≤ 12 → ∀ (k : Nat) (hk : k < ps.length), k < j + 1 → ps[k].2.on.length ≤ 12) := Lib.hid (fun h k hk hlt => by
            by_cases e : k = j
            · subst e; exact h
            · exact HN.out k hk (by omega))
          have hol := Says.on_len hsay
          have hhx := Blk.new wr 50 (rC ps[j].1).toArray
          have HL := Lib.hid (hLW.trans hL1)
          clear hsay HN hL1 hLW hy
          generalize ps[j].2.on.length = O at *
          generalize ps[j].1 = P at *
          obtain ⟨x1, x2, x3, x4, x5, ⟨y1, y2, y3, y4, y5, y6, y7, y8, y9, y10⟩, x6, x7, x8, x9, x10, x11⟩ := P
          simp only [rC, RlR.ex, Ev.Hd.cells, List.cons_append, List.nil_append] at hr1 hhx HND HL
          dsimp only at hol
          subst hol
          by_cases h12 : 12 < x4
          · have a3 : (12 : Int) < (x4 : Int) := by omega
            clear HND HN2 hhx
            go_wp2_with (with_reducible refine wpList_load_at rfl 50 _ rfl b (off + j * 15) rfl _ _ hr1 Try.underlying50 rfl (by kernel_rfl) ?_)
            go_ret
            exact ⟨⟨_, rfl, fun e => by cases e⟩, HL.out⟩
          · have a3 : ¬ ((12 : Int) < (x4 : Int)) := by omega
            have hre : RowAt (wr.alloc (.cells #[.string x1, .int .i64 x2, .slice x3 x4 x5, .int .i64 y1, .int .i64 y2, .int .i64 y3, .string y4, .int .i64 y5, .int .i64 y6, .string y7, .int .i64 y8, .string y9, .string y10, .slice x6 x7 x8, .slice x9 x10 x11] 50)) wr.heap.size 3 [.int .i64 y1, .int .i64 y2, .int .i64 y3, .string y4, .int .i64 y5, .int .i64 y6, .string y7, .int .i64 y8, .string y9, .string y10, .slice x6 x7 x8] := row_of_blk (l := (#[.string x1, .int .i64 x2, .slice x3 x4 x5, .int .i64 y1, .int .i64 y2, .int .i64 y3, .string y4, .int .i64 y5, .int .i64 y6, .string y7, .int .i64 y8, .string y9, .string y10, .slice x6 x7 x8, .slice x9 x10 x11]).toList) hhx 3 _ (fun i v hi => by
              match i, hi with
              | 0, hi => exact hi
              | 1, hi => exact hi
              | 2, hi => exact hi
              | 3, hi => exact hi
              | 4, hi => exact hi
              | 5, hi => exact hi
              | 6, hi => exact hi
              | 7, hi => exact hi
              | 8, hi => exact hi
              | 9, hi => exact hi
              | 10, hi => exact hi
              | i + 11, hi => simp at hi)
            clear hhx
            go_wp2_with (first | (with_reducible refine wpList_load_at rfl 50 _ rfl b (off + j * 15) rfl _ _ hr1 Try.underlying50 rfl (by kernel_rfl) ?_) | (refine wpList_load_atG rfl 47 _ rfl wr.heap.size 3 rfl _ _ hre Try.underlying47 rfl (by kernel_rfl) ?_))
            refine HND.out.mono ?_
            rintro r w5 ⟨⟨z, rfl, hz1, hz2⟩, hl5⟩
            have hL5 := HL.out.trans hl5
            have HN3 := Lib.hid (HN2.out (by omega))
            clear HND HN2 hre hr1 HL hl5
            by_cases hz : z < 0
            · go_wp2_with fail
              go_ret
              exact ⟨⟨_, rfl, fun e => by cases e⟩, hL5⟩
            · go_wp2_with fail
              go_roundw
              case rel => exact ⟨j + 1, by omega, by go_num, HN3, hL5⟩
              case measure => simp [intOf]; omega
        · have hj : j = ps.length := by omega
          subst hj
          have hF : FewR l ps := ⟨by omega, by omega, fun p hp => by
            obtain ⟨k, hk, rfl⟩ := List.getElem_of_mem hp
            exact HN.out k hk hk⟩
          have HF := Lib.hid hF
          clear hF HN
          go_wp2_with fail
          go_ret
          exact ⟨⟨_, rfl, fun _ => HF.out⟩, hLW⟩
end Go.Proofs.Ytafodibbcfoclaa
