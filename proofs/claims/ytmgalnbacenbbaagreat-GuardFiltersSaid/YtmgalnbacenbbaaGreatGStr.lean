/- Guard: the active locks, the strongest first: the program's. -/
import Derived.Test.YtmgalnbacenbbaaGreatGSort
import Derived.Test.YtmgalnbacenbbaaGreatGFind
set_option linter.unusedSimpArgs false
set_option linter.unusedVariables false
namespace Go.Proofs.YtmgalnbacenbbaaGreat
open Go.RowKit

/-- Whether a lock is active. -/
def actP (acts : List ByteArray) (p : LkR × LLock) : Bool := acts.any (fun x => decide (x = p.1.name))
def strg (ps : List (LkR × LLock)) (acts : List ByteArray) : List (LkR × LLock) := Go.Proofs.YtmgalnbacenbbaaGreat.stab strP (ps.filter (actP acts))
theorem fst_take (ps : List (LkR × LLock)) (acts : List ByteArray) (j : Nat) (h : j < ps.length) : ((ps.take (j + 1)).filter (actP acts)).map Prod.fst = ((ps.take j).filter (actP acts)).map Prod.fst ++ (if actP acts ps[j] then [ps[j].1] else []) := by
  rw [List.take_succ_eq_append_getElem h, List.filter_append, List.map_append]
  congr 1
  by_cases q : actP acts ps[j] = true
  · rw [if_pos q]; simp [q]
  · rw [if_neg q]; simp [q]
theorem strg_mem {ps : List (LkR × LLock)} {acts : List ByteArray} {p : LkR × LLock} (h : p ∈ strg ps acts) : p ∈ ps := (List.mem_filter.1 ((stab_perm _ _).mem_iff.1 h)).1
theorem strg_len (ps : List (LkR × LLock)) (acts : List ByteArray) : (strg ps acts).length ≤ ps.length := by
  unfold strg; rw [stab_len]; exact List.length_filter_le _ _
set_option maxRecDepth 100000 in
set_option maxHeartbeats 2000000 in
theorem strongest_any (ps : List (LkR × LLock)) (A : Option Addr) (c : Nat) (acts : List ByteArray) (B : Option Addr) (m : Nat) (w : World) (hx : RdL w ps (.slice A ps.length c)) (hy : ES.Rd w acts (.slice B acts.length m)) (hl : ps.length < 40) (hbig : acts.length ≤ 1000000) :
    Calls Tryz.prog 15 #[.slice A ps.length c, .slice B acts.length m] w fun r w' => ∃ v, r = .returned v ∧ OwnL w' w.heap.size (strg ps acts) v ∧ Lat w w' := by
  have HSays : Hid (∀ p ∈ strg ps acts, p.1.Says w p.2) := Lib.hid (fun p hp => hx.2 p (strg_mem hp))
  have HFL : Hid ((ps.filter (actP acts)).length < 40) := Lib.hid (Nat.lt_of_le_of_lt (List.length_filter_le _ _) hl)
  have HSTR : Hid (strg ps acts = stab strP (ps.filter (actP acts))) := Lib.hid rfl
  go_enter Tryz.func15, Tryz.ntmps15
  go_wp2_with fail
  go_loopw [5, 10] (fun v i wr => ∃ j : Nat, j ≤ ps.length ∧ i = .int .i64 j ∧ EL.Own wr w.heap.size (((ps.take j).filter (actP acts)).map Prod.fst) v ∧ Lat w wr) (fun _ i _ => ps.length - (intOf i).toNat)
  case atStart => exact ⟨0, Nat.zero_le _, rfl, Elt.Own.nil _ _, Lat.refl _⟩
  case round =>
    obtain ⟨j, hjl, rfl, hown, hLW⟩ := hrel
    by_cases hlt : j < ps.length
    · obtain ⟨b, off, hA, hb1, hr1, _⟩ := (hx.lat hLW).row j hlt
      subst hA
      have htk := fst_take ps acts j hlt
      have hAc : actP acts ps[j] = acts.any (fun x => decide (x = ps[j].1.name)) := rfl
      have hlen : (((ps.take j).filter (actP acts)).map Prod.fst).length ≤ 40 := by
        rw [List.length_map]; exact Nat.le_trans (List.length_filter_le _ _) (by rw [List.length_take]; omega)
      rw [hAc] at htk
      generalize hX : ps[j].1 = X at *
      generalize ((ps.take j).filter (actP acts)).map Prod.fst = Y at *
      have HTK := Lib.hid htk
      clear hX htk hAc
      obtain ⟨a1, a2, ⟨b1, b2, b3, b4, ⟨b5, b6, b7⟩, ⟨b8, b9, b10⟩, b11, b12, b13⟩, a3, a4, a5, a6, a7, a8, a9⟩ := X
      simp only [lkC, whC, kC, vC, List.cons_append, List.nil_append] at hr1 HTK
      have hLB : Lat wr (wr.alloc (.cells #[.string a1, .int .i64 a2, .int .i64 b1, .int .i64 b2, .int .i64 b3, .string b4, .int .i64 b5, .int .i64 b6, .string b7, .int .i64 b8, .string b9, .string b10, .slice b11 b12 b13, .bool a3, .slice a4 a5 a6, .slice a7 a8 a9] 40)) := Lat.al _ _
      have hbx := Blk.new wr 40 #[.string a1, .int .i64 a2, .int .i64 b1, .int .i64 b2, .int .i64 b3, .string b4, .int .i64 b5, .int .i64 b6, .string b7, .int .i64 b8, .string b9, .string b10, .slice b11 b12 b13, .bool a3, .slice a4 a5 a6, .slice a7 a8 a9]
      have HC := Lib.hid (contains_any acts B m a1 _ (hy.lat (hLW.trans hLB)) hbig)
      go_wp2_with (with_reducible refine wpList_load_at rfl 40 _ rfl b (off + j * 16) rfl _ _ hr1 Tryz.underlying40 rfl (by kernel_rfl) ?_)
      refine HC.out.mono ?_
      rintro r w2 ⟨rfl, hl2⟩
      have hL2 := hLB.trans hl2
      have hown2 := hown.lat hL2
      have hLW2 := hLW.trans hL2
      have hbx2 := hbx.lat hl2
      clear HC hbx hl2 hr1 hLB
      cases hq : acts.any (fun x => decide (x = a1))
      · have HQ := Lib.hid hq
        clear hq hown hbx2
        go_wp2_with fail
        go_roundw
        case rel => exact ⟨j + 1, by omega, by go_num, by rw [HTK.out, if_neg (by rw [HQ.out]; decide), List.append_nil]; exact hown2, hLW2⟩
        case measure => simp [intOf]; omega
      · have HQ := Lib.hid hq
        have hrb : RowAt w2 wr.heap.size 0 [.string a1, .int .i64 a2, .int .i64 b1, .int .i64 b2, .int .i64 b3, .string b4, .int .i64 b5, .int .i64 b6, .string b7, .int .i64 b8, .string b9, .string b10, .slice b11 b12 b13, .bool a3, .slice a4 a5 a6, .slice a7 a8 a9] := hbx2.row
        have hown3 := hown2.al (.cells #[.string a1, .int .i64 a2, .int .i64 b1, .int .i64 b2, .int .i64 b3, .string b4, .int .i64 b5, .int .i64 b6, .string b7, .int .i64 b8, .string b9, .string b10, .slice b11 b12 b13, .bool a3, .slice a4 a5 a6, .slice a7 a8 a9] 40)
        have hnew := Blk.new w2 40 #[.string a1, .int .i64 a2, .int .i64 b1, .int .i64 b2, .int .i64 b3, .string b4, .int .i64 b5, .int .i64 b6, .string b7, .int .i64 b8, .string b9, .string b10, .slice b11 b12 b13, .bool a3, .slice a4 a5 a6, .slice a7 a8 a9]
        have hL3 : Lat w (w2.alloc (.cells #[.string a1, .int .i64 a2, .int .i64 b1, .int .i64 b2, .int .i64 b3, .string b4, .int .i64 b5, .int .i64 b6, .string b7, .int .i64 b8, .string b9, .string b10, .slice b11 b12 b13, .bool a3, .slice a4 a5 a6, .slice a7 a8 a9] 40)) := hLW2.trans (Lat.al _ _)
        have hbse := hL3.size
        have hmax : Y.length + 1 ≤ maxLen := by unfold maxLen; omega
        have hby : (Y.length + 1) * EL.bytes ≤ 140737488355328 := Nat.le_trans (Nat.mul_le_mul_right EL.bytes (by omega : Y.length + 1 ≤ 1000000)) (by decide)
        have HL := Lib.hid hL3
        have HT := Lib.hid (fun k (hk : u5.ownBlock = some k) => (hown.lt k hk).1)
        clear hq hown hbx2 hL3 hLW2 hown2 hlen
        go_wp2_with (first | (with_reducible refine wpList_load_at rfl 40 _ rfl wr.heap.size 0 rfl _ _ hrb Tryz.underlying40 rfl (by kernel_rfl) ?_) | (at_builtin; refine EL.append rfl _ _ rfl w.heap.size Y _ rfl hown3 w2.heap.size 1 (⟨a1, a2, ⟨b1, b2, b3, b4, ⟨b5, b6, b7⟩, ⟨b8, b9, b10⟩, b11, b12, b13⟩, a3, a4, a5, a6, a7, a8, a9⟩ : LkR) rfl 40 hnew hmax hby hbse ?_; intro v6 w6 hown6 hg6 hw6; go_must (have hLW7 : Lat w w6 := HL.out.grown hg6 hbse HT.out; clear hnew hg6 hw6 hrb)))
        go_roundw
        case rel => exact ⟨j + 1, by omega, by go_num, by rw [HTK.out, if_pos HQ.out]; exact hown6, hLW7⟩
        case measure => simp [intOf]; omega
    · have hj : j = ps.length := by omega
      subst hj
      rw [List.take_length] at hown
      have HS := Lib.hid (sortLk_any _ u5 w.heap.size wr hown HFL.out)
      clear hown
      go_wp2_with fail
      refine HS.out.mono ?_
      rintro e w2 ⟨rfl, hown2, htn⟩
      have hL2 : Lat w w2 := Below.trans hLW (htn.2 w.heap.size (Nat.le_refl _) hLW.size)
      go_wp2_with fail
      go_ret
      have h := HSTR.out
      exact ⟨_, rfl, ⟨by rw [h]; exact hown2, fun p hp => (HSays.out p hp).lat hL2⟩, hL2⟩
end Go.Proofs.YtmgalnbacenbbaaGreat
