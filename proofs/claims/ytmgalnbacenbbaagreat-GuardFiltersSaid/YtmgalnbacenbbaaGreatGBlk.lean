/- Guard: which lock blocks a value: the program's. -/
import Derived.Test.YtmgalnbacenbbaaGreatGForce
import Derived.Test.YtmgalnbacenbbaaGreatGStr
set_option linter.unusedSimpArgs false
set_option linter.unusedVariables false
namespace Go.Proofs.YtmgalnbacenbbaaGreat
open Go.RowKit

/-- An item of a key and a value. -/
def isKV (k : LKey) (v : LVal) (x : LItem) : Bool := decide (x.key = k) && decide (x.val = v)
/-- The name of the lock that blocks, of the strongest first. -/
def blkN (k : LKey) (v : LVal) : List LLock → ByteArray
  | [] => ⟨#[]⟩
  | l :: r => if hasI l.force k then (if (getI l.force k).val = v then ⟨#[]⟩ else l.name) else if l.forbid.any (isKV k v) then l.name else blkN k v r
theorem iC_key {w : World} {b off : Nat} {x : LItem} (h : RowAt w b off (iC x)) : RowAt w b off (kC x.key) := by
  intro i v hi
  exact h i v (by rw [iC, List.append_assoc, List.getElem?_append_left (by exact (List.getElem?_eq_some_iff.1 hi).1)]; exact hi)
theorem iC_val {w : World} {b off : Nat} {x : LItem} (h : RowAt w b off (iC x)) : RowAt w b (off + 3) (vC x.val) := by
  intro i v hi
  have h3 : (kC x.key).length = 3 := rfl
  have := h (3 + i) v (by rw [iC, List.append_assoc, List.getElem?_append_right (by omega), h3, Nat.add_sub_cancel_left, List.getElem?_append_left (by exact (List.getElem?_eq_some_iff.1 hi).1)]; exact hi)
  rw [Nat.add_assoc]; exact this
set_option maxRecDepth 100000 in
set_option maxHeartbeats 1000000 in
theorem closure_fb (k : LKey) (v : LVal) (x : LItem) (g g' : Nat) (w : World) (hb : Blk w g 34 (kC k).toArray) (hb' : Blk w g' 32 (vC v).toArray) : Calls Tryz.prog 39 #[.agg (iC x).toArray, .pointer (some ⟨g, 0, none⟩), .pointer (some ⟨g', 0, none⟩)] w fun r w' => r = .returned (.bool (isKV k v x)) ∧ Lat w w' := by
  have HR : Hid (isKV k v x = (decide (x.key = k) && decide (x.val = v))) := Lib.hid rfl
  generalize isKV k v x = R at *
  have hL := Lat.al w (.cells (iC x).toArray 51)
  have hkk : RowAt (w.alloc (.cells (iC x).toArray 51)) g 0 (kC k) := (hb.alloc (.cells (iC x).toArray 51)).row
  have hvv : RowAt (w.alloc (.cells (iC x).toArray 51)) g' 0 (vC v) := (hb'.alloc (.cells (iC x).toArray 51)).row
  have hrx : RowAt (w.alloc (.cells (iC x).toArray 51)) w.heap.size 0 (iC x) := (Blk.new w 51 (iC x).toArray).row
  have hrk := iC_key hrx
  have hrv : RowAt (w.alloc (.cells (iC x).toArray 51)) w.heap.size 3 (vC x.val) := iC_val hrx
  clear hb hb' hrx
  by_cases h1 : x.key = k
  · have HE := Lib.hid (decide_eq_true h1)
    obtain ⟨E2, hE2⟩ : ∃ E2, E2 = decide (x.val = v) := ⟨_, rfl⟩
    have HR2 : Hid (R = E2) := Lib.hid (HR.out.trans (by rw [decide_eq_true h1, Bool.true_and, hE2]))
    have HE2 := Lib.hid hE2.symm
    clear h1 HR hE2
    go_enter Tryz.func39, Tryz.ntmps39
    go_wp2_with (first | (with_reducible refine wpList_load_at rfl 34 _ rfl w.heap.size 0 rfl _ _ hrk Tryz.underlying34 rfl (by kernel_rfl) ?_) | (with_reducible refine wpList_load_at rfl 34 _ rfl g 0 rfl _ _ hkk Tryz.underlying34 rfl (by kernel_rfl) ?_) | (refine wpList_load_atG rfl 32 _ rfl w.heap.size 3 rfl _ _ hrv Tryz.underlying32 rfl (by kernel_rfl) ?_) | (refine wpList_load_atG rfl 32 _ rfl g' 0 rfl _ _ hvv Tryz.underlying32 rfl (by kernel_rfl) ?_) | (refine wpl_eql_k rfl _ _ _ rfl x.key k rfl rfl HE.out ?_) | (refine wpl_eql_vG rfl _ _ _ rfl x.val v rfl rfl HE2.out ?_))
    go_ret
    rw [HR2.out]
    exact ⟨rfl, hL⟩
  · have HE := Lib.hid (decide_eq_false h1)
    have HR2 : Hid (R = false) := Lib.hid (HR.out.trans (by rw [decide_eq_false h1, Bool.false_and]))
    clear h1 HR
    go_enter Tryz.func39, Tryz.ntmps39
    go_wp2_with (first | (with_reducible refine wpList_load_at rfl 34 _ rfl w.heap.size 0 rfl _ _ hrk Tryz.underlying34 rfl (by kernel_rfl) ?_) | (with_reducible refine wpList_load_at rfl 34 _ rfl g 0 rfl _ _ hkk Tryz.underlying34 rfl (by kernel_rfl) ?_) | (refine wpList_load_atG rfl 32 _ rfl w.heap.size 3 rfl _ _ hrv Tryz.underlying32 rfl (by kernel_rfl) ?_) | (refine wpList_load_atG rfl 32 _ rfl g' 0 rfl _ _ hvv Tryz.underlying32 rfl (by kernel_rfl) ?_) | (refine wpl_eql_k rfl _ _ _ rfl x.key k rfl rfl HE.out ?_))
    go_ret
    rw [HR2.out]
    exact ⟨rfl, hL⟩
theorem containsFunc_any (l : List LItem) (A : Option Addr) (c : Nat) (g : Nat) (cb : Array Value) (p : LItem → Bool) (w : World) (hx : EI.Rd w l (.slice A l.length c)) (hbig : l.length ≤ 1000000)
    (eg : ∀ args w, (callFunc g args).run Tryz.prog w = .ok (.enter g args) w) (HP : ∀ x w', Lat w w' → Calls Tryz.prog g (#[.agg (iC x).toArray] ++ cb) w' fun r w'' => r = .returned (.bool (p x)) ∧ Lat w' w'') :
    Calls Tryz.prog 38 #[.slice A l.length c, .func (.func g) #[] cb] w fun r w' => r = .returned (.bool (l.any p)) ∧ Lat w w' := by
  have H := Lib.hid (indexFunc_any l A c g cb p w hx hbig eg HP)
  generalize hB : l.any p = B at *
  have HB := Lib.hid hB
  clear hB HP
  go_enter Tryz.func38, Tryz.ntmps38
  go_wp2_with fail
  refine H.out.mono ?_
  rintro r w1 ⟨⟨z, rfl, hz⟩, hl1⟩
  have e := Lib.hid (hz.any)
  clear hz
  go_wp2_with fail
  go_ret
  rw [← HB.out, ← e.out]
  exact ⟨ret_bool (by simp), hl1⟩
theorem blkN_drop (k : LKey) (v : LVal) (ls : List LLock) (j : Nat) (h : j < ls.length) : blkN k v (ls.drop j) = if hasI ls[j].force k then (if (getI ls[j].force k).val = v then ⟨#[]⟩ else ls[j].name) else if ls[j].forbid.any (isKV k v) then ls[j].name else blkN k v (ls.drop (j + 1)) := by
  rw [List.drop_eq_getElem_cons h, blkN]
/-- Few items in each lock. -/
def FewI (ps : List (LkR × LLock)) : Prop := ∀ p ∈ ps, p.2.force.length ≤ 1000000 ∧ p.2.forbid.length ≤ 1000000
set_option maxRecDepth 100000 in
set_option maxHeartbeats 2000000 in
theorem blocker_any (ps : List (LkR × LLock)) (A : Option Addr) (c : Nat) (k : LKey) (v : LVal) (w : World) (hx : RdL w ps (.slice A ps.length c)) (hl : ps.length ≤ 1000000) (hfi : FewI ps) :
    Calls Tryz.prog 18 #[.slice A ps.length c, .agg (kC k).toArray, .agg (vC v).toArray] w fun r w' => r = .returned (.string (blkN k v (ps.map Prod.snd))) ∧ Lat w w' := by
  have eg : ∀ args w, (callFunc 39 args).run Tryz.prog w = .ok (.enter 39 args) w := Go.Proofs.enters_of Tryz.func39 (by kernel_rfl) rfl
  have H0 : Hid (blkN k v (ps.map Prod.snd) = blkN k v ((ps.map Prod.snd).drop 0)) := Lib.hid rfl
  have HFI := Lib.hid hfi
  generalize blkN k v (ps.map Prod.snd) = R at *
  have HCL := fun (g g' : Nat) (w' : World) (h1 : Blk w' g 34 (kC k).toArray) (h2 : Blk w' g' 32 (vC v).toArray) (l : List LItem) (A : Option Addr) (c : Nat) (hx : EI.Rd w' l (.slice A l.length c)) (hbig : l.length ≤ 1000000) => Lib.hid (containsFunc_any l A c 39 #[.pointer (some ⟨g, 0, none⟩), .pointer (some ⟨g', 0, none⟩)] (isKV k v) w' hx hbig eg (fun x w'' hl => closure_fb k v x g g' w'' (h1.below hl) (h2.below hl)))
  have HFO := fun (r : LkR) (l : LLock) (w' : World) (hs : r.Says w' l) (hbig : l.force.length ≤ 1000000) => Lib.hid (forced_any r l k w' hs hbig)
  have hk2 := Blk.alloc (Blk.new w 34 (kC k).toArray) (.cells (vC v).toArray 32)
  have hv2 := Blk.at1 w (.cells (kC k).toArray 34) 32 (vC v).toArray
  have hL0 : Lat w ((w.alloc (.cells (kC k).toArray 34)).alloc (.cells (vC v).toArray 32)) := (Lat.al _ _).trans (Lat.al _ _)
  clear hfi eg
  obtain ⟨k1, k2, k3⟩ := k
  obtain ⟨v1, v2, v3⟩ := v
  simp only [kC, vC] at HCL HFO hk2 hv2 hL0 ⊢
  go_enter Tryz.func18, Tryz.ntmps18
  go_wp2_with fail
  generalize ((w.alloc (.cells #[.int .i64 k1, .string k2, .string k3] 34)).alloc (.cells #[.int .i64 v1, .int .i64 v2, .string v3] 32)) = w1 at *
  generalize hgg : w.heap.size = g at *
  have hgg2 : Hid (g = w.heap.size) := Lib.hid hgg.symm
  clear hgg
  go_loopw [13] (fun i wr => ∃ j : Nat, j ≤ ps.length ∧ i = .int .i64 j ∧ Hid (R = blkN ⟨k1, k2, k3⟩ ⟨v1, v2, v3⟩ ((ps.map Prod.snd).drop j)) ∧ Lat w1 wr) (fun i _ => ps.length - (intOf i).toNat)
  case atStart => exact ⟨0, Nat.zero_le _, rfl, H0, Lat.refl _⟩
  case round =>
    clear H0
    obtain ⟨j, hjl, rfl, HJ, hLW⟩ := hrel
    have hLL := hL0.trans hLW
    by_cases hlt : j < ps.length
    · obtain ⟨b, off, hA, hb1, hr1, hsy⟩ := (hx.lat hLL).row j hlt
      subst hA
      have hbl := blkN_drop ⟨k1, k2, k3⟩ ⟨v1, v2, v3⟩ (ps.map Prod.snd) j (by simpa using hlt)
      rw [List.getElem_map] at hbl
      have hfi := HFI.out ps[j] (List.getElem_mem hlt)
      generalize ps[j].2 = Y at *
      have hnm := hsy.name
      generalize ps[j].1 = X at *
      have hLB := Lat.al wr (.cells (lkC X).toArray 40)
      have HF := HFO X Y (wr.alloc (.cells (lkC X).toArray 40)) (hsy.lat hLB) hfi.1
      have hgn := Says.gn hsy
      have HNEW := Lib.hid (HJ.out.trans hbl)
      have hck := (hk2.lat (hLW.trans hLB)).cell
      have hcv := (hv2.lat (hLW.trans hLB)).cell
      have hbx := Blk.new wr 40 (lkC X).toArray
      clear HJ hbl
      generalize hB : hasI Y.force ⟨k1, k2, k3⟩ = B at *
      generalize hZ : (getI Y.force ⟨k1, k2, k3⟩) = Z at *
      simp only [gotV, hB, hZ] at HF
      clear hB hZ
      obtain ⟨z0, ⟨z1, z2, z3⟩, z4⟩ := Z
      obtain ⟨a1, a2, ⟨b1, b2, b3, b4, ⟨b5, b6, b7⟩, ⟨b8, b9, b10⟩, b11, b12, b13⟩, a3, a4, a5, a6, a7, a8, a9⟩ := X
      simp only [lkC, whC, kC, vC, List.cons_append, List.nil_append] at hr1 HF hLB hck hcv hbx
      dsimp only at hnm hgn HNEW
      have HNM := Lib.hid hnm
      have HGN := Lib.hid hgn
      clear hnm hgn
      have hrb : RowAt (wr.alloc (.cells #[.string a1, .int .i64 a2, .int .i64 b1, .int .i64 b2, .int .i64 b3, .string b4, .int .i64 b5, .int .i64 b6, .string b7, .int .i64 b8, .string b9, .string b10, .slice b11 b12 b13, .bool a3, .slice a4 a5 a6, .slice a7 a8 a9] 40)) wr.heap.size 0 [.string a1, .int .i64 a2, .int .i64 b1, .int .i64 b2, .int .i64 b3, .string b4, .int .i64 b5, .int .i64 b6, .string b7, .int .i64 b8, .string b9, .string b10, .slice b11 b12 b13, .bool a3, .slice a4 a5 a6, .slice a7 a8 a9] := hbx.row
      go_wp2_with (first | (with_reducible refine wpList_load_at rfl 40 _ rfl b (off + j * 16) rfl _ _ hr1 Tryz.underlying40 rfl (by kernel_rfl) ?_) | (with_reducible refine wpList_load_at rfl 40 _ rfl wr.heap.size 0 rfl _ _ hrb Tryz.underlying40 rfl (by kernel_rfl) ?_))
      refine HF.out.mono ?_
      rintro e w2 ⟨rfl, hl2⟩
      have hL2 := (hLW.trans hLB).trans hl2
      have hbx2 := hbx.lat hl2
      have hLv := hL2.trans (Lat.al w2 (.cells #[.int .i64 z1, .int .i64 z2, .string z3] 32))
      have hbx3 := (hbx2.alloc (.cells #[.int .i64 z1, .int .i64 z2, .string z3] 32)).cell
      have hk3 := hk2.lat hLv
      have hv3 := hv2.lat hLv
      have hvc := hv3.cell
      clear HF hbx hrb hck hcv hr1
      cases B
      · have hEI : EI.Rd w2 Y.forbid (.slice a7 Y.forbid.length a9) := by have := (hsy.forbid).lat (hLB.trans hl2); rw [HGN.out] at this; exact this
        have hEI3 := hEI.lat (Lat.al w2 (.cells #[.int .i64 z1, .int .i64 z2, .string z3] 32))
        have HC := HCL g (g + 1) _ hk3 hv3 Y.forbid a7 a9 hEI3 hfi.2
        rw [← HGN.out] at HC
        generalize hq : Y.forbid.any (isKV ⟨k1, k2, k3⟩ ⟨v1, v2, v3⟩) = Q at *
        clear hEI hEI3 hq
        go_wp2_with fail
        refine HC.out.mono ?_
        rintro e w4 ⟨rfl, hl4⟩
        have hL4 := hLv.trans hl4
        have cn := ((hbx2.alloc (.cells #[.int .i64 z1, .int .i64 z2, .string z3] 32)).lat hl4).cell
        clear HC hbx3 hk3 hv3 hvc hbx2
        cases Q
        · have HN2 := Lib.hid (HNEW.out.trans (by rw [if_neg (by decide), if_neg (by decide)]))
          clear HNEW
          go_wp2_with fail
          go_roundw
          case rel => exact ⟨j + 1, by omega, by go_num, HN2, hL4⟩
          case measure => simp [intOf]; omega
        · have HN2 : Hid (R = a1) := Lib.hid (HNEW.out.trans (by rw [if_neg (by decide), if_pos rfl]; exact HNM.out.symm))
          clear HNEW
          go_wp2_with fail
          go_ret
          rw [HN2.out]
          exact ⟨rfl, hL0.trans hL4⟩
      · by_cases he : (⟨z1, z2, z3⟩ : LVal) = ⟨v1, v2, v3⟩
        · have HE := Lib.hid (decide_eq_true he)
          have HN2 : Hid (R = ⟨#[]⟩) := Lib.hid (HNEW.out.trans (by rw [if_pos rfl, if_pos he]))
          clear he HNEW
          go_wp2_with (refine wpl_eql_v rfl _ _ _ rfl ⟨z1, z2, z3⟩ ⟨v1, v2, v3⟩ rfl rfl HE.out ?_)
          go_ret
          rw [HN2.out]
          exact ⟨rfl, hL0.trans hLv⟩
        · have HE := Lib.hid (decide_eq_false he)
          have HN2 : Hid (R = a1) := Lib.hid (HNEW.out.trans (by rw [if_pos rfl, if_neg he]; exact HNM.out.symm))
          clear he HNEW
          go_wp2_with (refine wpl_eql_v rfl _ _ _ rfl ⟨z1, z2, z3⟩ ⟨v1, v2, v3⟩ rfl rfl HE.out ?_)
          go_ret
          rw [HN2.out]
          exact ⟨rfl, hL0.trans hLv⟩
    · have hj : (ps.map Prod.snd).drop j = [] := List.drop_of_length_le (by rw [List.length_map]; omega)
      have HN2 : Hid (R = ⟨#[]⟩) := Lib.hid (HJ.out.trans (by rw [hj]; rfl))
      clear hj HJ
      go_wp2_with fail
      go_ret
      rw [HN2.out]
      exact ⟨rfl, hLL⟩
end Go.Proofs.YtmgalnbacenbbaaGreat
