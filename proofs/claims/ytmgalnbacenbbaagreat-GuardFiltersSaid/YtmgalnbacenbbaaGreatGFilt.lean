/- Guard: Filter of the program. -/
import Derived.Test.YtmgalnbacenbbaaGreatGFilP
import Derived.Test.YtmgalnbacenbbaaGreatVMerge
import Derived.Test.YtmgalnbacenbbaaGreatVDecs
set_option linter.unusedSimpArgs false
set_option linter.unusedVariables false
namespace Go.Proofs.YtmgalnbacenbbaaGreat
open Go.RowKit

theorem nodup_len {α : Type} [DecidableEq α] : ∀ (l m : List α), l.Pairwise (fun a b => a ≠ b) → (∀ x ∈ l, x ∈ m) → l.length ≤ m.length
  | [], _, _, _ => Nat.zero_le _
  | x :: l, m, h, hs => by
    rw [List.pairwise_cons] at h
    have h1 := nodup_len l (m.erase x) h.2 (fun y hy => (List.mem_erase_of_ne (fun e => h.1 y hy e.symm)).2 (hs y (List.mem_cons_of_mem _ hy)))
    have hx := hs x (by simp)
    rw [List.length_erase_of_mem hx] at h1
    have := List.length_pos_of_mem hx
    rw [List.length_cons]; omega
theorem Good.nodup {S : LW → Prop} {ds : List LD} (h : Good S ds) : (allW ds).Pairwise (fun a b => a ≠ b) := by
  unfold allW
  rw [List.pairwise_flatten]
  refine ⟨fun l hl => ?_, ?_⟩
  · obtain ⟨d, hd, rfl⟩ := List.mem_map.1 hl
    exact (h.ord d hd).imp (fun hb => sto_bef.ne hb)
  · rw [List.pairwise_map]
    refine h.keys.imp_of_mem (fun {a b} ha hb hk x hx y hy e => ?_)
    subst e
    have h1 := h.key a ha x hx
    have h2 := h.key b hb x hy
    rw [h1] at h2
    rw [h2, sto_kless.irrefl] at hk
    cases hk
theorem Good.allW_len {l : List LW} {ds : List LD} (h : Good (fun x => x ∈ l) ds) : (allW ds).length ≤ l.length :=
  nodup_len _ _ h.nodup (fun x hx => by obtain ⟨d, hd, hm⟩ := mem_allW.1 hx; exact h.sound d hd x hm)
theorem len_allW : ∀ ds : List LD, ds.length ≤ (allW ds).length
  | [] => Nat.zero_le _
  | d :: r => by
    have := len_allW r
    rw [show allW (d :: r) = d.all ++ allW r from rfl, List.length_append]
    simp only [LD.all, List.length_cons]; omega
theorem allW_few : ∀ (ds : List LD) (n : Nat), (∀ d ∈ ds, d.los.length ≤ n) → (allW ds).length ≤ ds.length * (n + 1)
  | [], _, _ => Nat.zero_le _
  | d :: r, n, h => by
    have h1 := allW_few r n (fun x hx => h x (List.mem_cons_of_mem _ hx))
    have h2 := h d (by simp)
    rw [show allW (d :: r) = d.all ++ allW r from rfl, List.length_append]
    simp only [LD.all, List.length_cons]
    rw [Nat.add_mul]; omega
theorem allW_app (xs ys : List LD) : allW (xs ++ ys) = allW xs ++ allW ys := by simp [allW]
theorem Good.through {xs ys : List LD} {S : LW → Prop} {ds : List LD} (h : Good (fun x => x ∈ allW (xs ++ ys)) ds) (hy : Good S ys) : Good (fun x => x ∈ allW xs ∨ S x) ds := h.congr fun x => by
  rw [allW_app, List.mem_append]
  constructor
  · rintro (h1 | h1)
    · exact .inl h1
    · obtain ⟨d, hd, hm⟩ := mem_allW.1 h1
      exact .inr (hy.sound d hd x hm)
  · rintro (h1 | h1)
    · exact .inl h1
    · exact .inr (mem_allW.2 (hy.full x h1))
/-- The list with the first decisions' errors laid. -/
def fixed (ps : List (LkR × LLock)) (acts : List ByteArray) (ds : List LD) (j : Nat) : List LD := (ds.take j).map (fixE ps acts) ++ ds.drop j
theorem fixed_len (ps : List (LkR × LLock)) (acts : List ByteArray) (ds : List LD) (j : Nat) (h : j ≤ ds.length) : (fixed ps acts ds j).length = ds.length := by
  unfold fixed; rw [List.length_append, List.length_map, List.length_take, List.length_drop]; omega
theorem fixed_get (ps : List (LkR × LLock)) (acts : List ByteArray) (ds : List LD) (j : Nat) (h : j < ds.length) : (fixed ps acts ds j)[j]'(by rw [fixed_len _ _ _ _ (by omega)]; exact h) = ds[j] := by
  unfold fixed
  rw [List.getElem_append_right (by rw [List.length_map, List.length_take]; omega)]
  simp only [List.length_map, List.length_take, List.getElem_drop]
  congr 1; omega
theorem fixed_set (ps : List (LkR × LLock)) (acts : List ByteArray) (ds : List LD) (j : Nat) (h : j < ds.length) (y : LD) (hy : y = fixE ps acts ds[j]) : (fixed ps acts ds j).set j y = fixed ps acts ds (j + 1) := by
  subst hy
  unfold fixed
  rw [List.set_append_right _ _ (by rw [List.length_map, List.length_take]; omega), List.length_map, List.length_take, show j - min j ds.length = 0 from by omega, List.drop_eq_getElem_cons h, List.set_cons_zero, List.take_succ_eq_append_getElem h, List.map_append]
  simp
/-- What Filter hands back. -/
def FiOut (ps : List (LkR × LLock)) (acts : List ByteArray) (xs : List LD) (w : World) (r : Ending) : Prop := ∃ ks ds v, r = .returned v ∧ Good (fun x => x ∈ allW xs ∨ x ∈ frc (strg ps acts) ks) ds ∧
  ks.Pairwise (fun a b => kless a b = true) ∧ (∀ k, k ∈ ks ↔ HasKey (strg ps acts) k) ∧ ds.length ≤ 100000 ∧ RdD w (ds.map (fixE ps acts)) v
theorem FiOut.lat {ps : List (LkR × LLock)} {acts : List ByteArray} {xs : List LD} {w w' : World} {r : Ending} (h : FiOut ps acts xs w r) (hl : Lat w w') : FiOut ps acts xs w' r := by
  obtain ⟨ks, ds, v, h1, h2, h3, h4, h5, h6⟩ := h
  exact ⟨ks, ds, v, h1, h2, h3, h4, h5, h6.lat hl⟩
set_option maxRecDepth 100000 in
set_option maxHeartbeats 4000000 in
theorem filter_any (ps : List (LkR × LLock)) (A : Option Addr) (c : Nat) (acts : List ByteArray) (B : Option Addr) (m : Nat) (xs : List LD) (D : Option Addr) (q : Nat) (w : World) (hx : RdL w ps (.slice A ps.length c)) (hy : ES.Rd w acts (.slice B acts.length m)) (hd : RdD w xs (.slice D xs.length q)) (hl : ps.length < 40) (hbig : acts.length ≤ 1000000) (hfi : FewI ps) (hfew : ∀ p ∈ ps, (itsOf p).length ≤ 60) (hxl : xs.length ≤ 30) (hxs : ∀ d ∈ xs, d.los.length ≤ 30) :
    Calls Tryz.prog 8 #[.slice A ps.length c, .slice B acts.length m, .slice D xs.length q] w fun r w' => FiOut ps acts xs w' r ∧ Lat w w' := by
  have HST := Lib.hid (strongest_any ps A c acts B m w hx hy hl hbig)
  have HFO := fun (w' : World) (h : Lat w w') => Lib.hid (forcedW_any ps A c acts B m w' (hx.lat h) (hy.lat h) hl hbig hfew)
  have hql : (strg ps acts).length ≤ 1000000 := by have := strg_len ps acts; omega
  have HKL : Hid (∀ ks : List LKey, ks.Pairwise (fun a b => kless a b = true) → (∀ k, k ∈ ks ↔ HasKey (strg ps acts) k) → (frc (strg ps acts) ks).length ≤ 3000) := Lib.hid (fun ks h1 h2 => by
    have e1 := frc_len (strg ps acts) ks
    have e2 : ks.length ≤ (keysOf (strg ps acts)).length := nodup_len _ _ (h1.imp (fun hb => sto_kless.ne hb)) (fun k hk => mem_keysOf.2 ((h2 k).1 hk))
    have e3 := keysOf_len (strg ps acts) (fun p hp => hfew p (strg_mem hp))
    have e4 := strg_len ps acts
    omega)
  have HBK := fun (A : Option Addr) (c : Nat) (k : LKey) (v : LVal) (w' : World) (h : RdL w' (strg ps acts) (.slice A (strg ps acts).length c)) => Lib.hid (show Calls Tryz.prog 18 #[.slice A (strg ps acts).length c, .agg (kC k).toArray, .agg (vC v).toArray] w' fun r w'' => r = .returned (.string (blkAll ps acts k v)) ∧ Lat w' w'' from blocker_any (strg ps acts) A c k v w' h hql (few_strg acts hfi))
  have hal := allW_few xs 30 hxs
  clear hx hy hfi hfew hxs
  go_enter Tryz.func8, Tryz.ntmps8
  go_wp2_with fail
  refine HST.out.mono ?_
  rintro r w1 ⟨v1, rfl, hown1, hl1⟩
  obtain ⟨A1, c1, rfl⟩ := hown1.rd.slice
  have hrd1 := hown1.rd
  clear HST hown1
  go_wp2_with fail
  refine (HFO _ hl1).out.mono ?_
  rintro r w2 ⟨ks, v2, rfl, hown2, hks, hkm, hl2⟩
  obtain ⟨A2, c2, rfl⟩ := hown2.slice
  have hfl := HKL.out ks hks hkm
  have hrd2 := hown2.rd
  have HK := Lib.hid (And.intro hks hkm)
  clear HFO hown2 hks hkm HKL
  have HDE := Lib.hid (decide_any (frc (strg ps acts) ks) A2 c2 w2 hrd2 (by omega))
  clear hrd2
  go_wp2_with fail
  refine HDE.out.mono ?_
  rintro r w3 ⟨⟨ys, v3, rfl, hgy, hry⟩, hl3⟩
  obtain ⟨A3, c3, rfl⟩ := hry.slice
  have hya := hgy.allW_len
  have hyl := len_allW ys
  have HME := Lib.hid (mergeO_any xs ys D A3 q c3 w3 (hd.lat (hl1.trans (hl2.trans hl3))) hry (by omega) (by rw [allW_app, List.length_append]; omega))
  clear HDE hry hd
  go_wp2_with fail
  refine HME.out.mono ?_
  rintro r w4 ⟨⟨ds, v4, base, rfl, hg4, hbase, hown4⟩, hl4⟩
  have hdl := hg4.allW_len
  have hdl2 := len_allW ds
  rw [allW_app, List.length_append] at hdl
  have hdsl : ds.length ≤ 100000 := by omega
  have HG := Lib.hid (hg4.through hgy)
  have hown4 := hown4.toX
  have hL4 : Lat w1 w4 := hl2.trans (hl3.trans hl4)
  have hb1 : w1.heap.size ≤ base := Nat.le_trans (hl2.trans hl3).size hbase
  clear HME hg4 hgy hdl hdl2 hya hyl hal hbase hl2 hl3 hl4 hfl hxl
  obtain ⟨A4, c4, rfl⟩ := hown4.slice
  go_wp2_with fail
  go_loopw [22] (fun i wr => ∃ j : Nat, j ≤ ds.length ∧ i = .int .i64 j ∧ OwnX wr base (fixed ps acts ds j) (.slice A4 ds.length c4) ∧ Lat w1 wr) (fun i _ => ds.length - (intOf i).toNat)
  case atStart => exact ⟨0, Nat.zero_le _, rfl, by simpa [fixed] using hown4, hL4⟩
  case round =>
    clear hown4 hL4
    obtain ⟨j, hjl, rfl, hown, hLW⟩ := hrel
    by_cases hlt : j < ds.length
    · have hjf : j < (fixed ps acts ds j).length := by rw [fixed_len _ _ _ _ hjl]; exact hlt
      have hfg : (fixed ps acts ds j)[j] = ds[j] := fixed_get ps acts ds j hlt
      have hfs := fun y h => Lib.hid (fixed_set ps acts ds j hlt y h)
      have HFE : Hid (fixE ps acts ds[j] = ⟨ds[j].key, ds[j].win, ds[j].los, if (blkAll ps acts ds[j].win.key ds[j].win.val).size = 0 then 0 else 19⟩) := Lib.hid rfl
      have HB0 := fun (w' : World) (h : RdL w' (strg ps acts) (.slice A1 (strg ps acts).length c1)) => HBK A1 c1 ds[j].win.key ds[j].win.val w' h
      clear HBK
      generalize hY1 : fixed ps acts ds (j + 1) = Y1 at *
      have HY1 := Lib.hid hY1
      clear hY1
      generalize fixE ps acts ds[j] = FE at *
      generalize fixed ps acts ds j = Y at *
      obtain ⟨g, rfl, hbg, hgl, ⟨A1', n1, m1, hr1⟩, hfr, hset⟩ := hown.place j hjf
      rw [hfg] at hr1
      have HFG := Lib.hid hfg
      have c14w := hr1 14 _ rfl
      clear hfg
      generalize blkAll ps acts ds[j].win.key ds[j].win.val = R at *
      generalize hX : ds[j] = X at *
      obtain ⟨⟨k1, k2, k3⟩, ⟨⟨x1, x2, x3⟩, ⟨x4, x5, x6⟩, x7, x8, x9, x10⟩, los, e⟩ := X
      dsimp only at hr1 HB0 HFE
      simp only [wC, kC, vC, List.cons_append, List.nil_append] at hr1
      have hwg : w1.heap.size ≤ g := by omega
      have hsz : (wr.setCell ⟨g, j * 15 + 14, none⟩ (.int .i64 0)).heap.size = wr.heap.size := by simp
      have hown6 := (hset 0).lat (Lat.al _ (.cells #[.int .i64 k1, .string k2, .string k3, .int .i64 x1, .string x2, .string x3, .int .i64 x4, .int .i64 x5, .string x6, .int .i64 x7, .string x8, .int .i64 x9, .int .i64 x10, .slice A1' n1 m1, .int .i64 e] 48))
      have hLW6 : Lat w1 ((wr.setCell ⟨g, j * 15 + 14, none⟩ (.int .i64 0)).alloc (.cells #[.int .i64 k1, .string k2, .string k3, .int .i64 x1, .string x2, .string x3, .int .i64 x4, .int .i64 x5, .string x6, .int .i64 x7, .string x8, .int .i64 x9, .int .i64 x10, .slice A1' n1 m1, .int .i64 e] 48)) := Lat.trans (hLW.setCell (p := ⟨g, j * 15 + 14, none⟩) hwg (.int .i64 0)) (Lat.al _ (.cells #[.int .i64 k1, .string k2, .string k3, .int .i64 x1, .string x2, .string x3, .int .i64 x4, .int .i64 x5, .string x6, .int .i64 x7, .string x8, .int .i64 x9, .int .i64 x10, .slice A1' n1 m1, .int .i64 e] 48))
      have hbx6 := Blk.new (wr.setCell ⟨g, j * 15 + 14, none⟩ (.int .i64 0)) 48 #[.int .i64 k1, .string k2, .string k3, .int .i64 x1, .string x2, .string x3, .int .i64 x4, .int .i64 x5, .string x6, .int .i64 x7, .string x8, .int .i64 x9, .int .i64 x10, .slice A1' n1 m1, .int .i64 e]
      rw [hsz] at hbx6
      have hrk : RowAt ((wr.setCell ⟨g, j * 15 + 14, none⟩ (.int .i64 0)).alloc (.cells #[.int .i64 k1, .string k2, .string k3, .int .i64 x1, .string x2, .string x3, .int .i64 x4, .int .i64 x5, .string x6, .int .i64 x7, .string x8, .int .i64 x9, .int .i64 x10, .slice A1' n1 m1, .int .i64 e] 48)) wr.heap.size 3 [.int .i64 x1, .string x2, .string x3] := row_of_blk (l := (#[.int .i64 k1, .string k2, .string k3, .int .i64 x1, .string x2, .string x3, .int .i64 x4, .int .i64 x5, .string x6, .int .i64 x7, .string x8, .int .i64 x9, .int .i64 x10, .slice A1' n1 m1, .int .i64 e]).toList) hbx6 3 _ (fun i v hi => by
        match i, hi with
        | 0, hi => exact hi
        | 1, hi => exact hi
        | 2, hi => exact hi
        | i + 3, hi => simp at hi)
      have hrv : RowAt ((wr.setCell ⟨g, j * 15 + 14, none⟩ (.int .i64 0)).alloc (.cells #[.int .i64 k1, .string k2, .string k3, .int .i64 x1, .string x2, .string x3, .int .i64 x4, .int .i64 x5, .string x6, .int .i64 x7, .string x8, .int .i64 x9, .int .i64 x10, .slice A1' n1 m1, .int .i64 e] 48)) wr.heap.size 6 [.int .i64 x4, .int .i64 x5, .string x6] := row_of_blk (l := (#[.int .i64 k1, .string k2, .string k3, .int .i64 x1, .string x2, .string x3, .int .i64 x4, .int .i64 x5, .string x6, .int .i64 x7, .string x8, .int .i64 x9, .int .i64 x10, .slice A1' n1 m1, .int .i64 e]).toList) hbx6 6 _ (fun i v hi => by
        match i, hi with
        | 0, hi => exact hi
        | 1, hi => exact hi
        | 2, hi => exact hi
        | i + 3, hi => simp at hi)
      have HB := HB0 ((wr.setCell ⟨g, j * 15 + 14, none⟩ (.int .i64 0)).alloc (.cells #[.int .i64 k1, .string k2, .string k3, .int .i64 x1, .string x2, .string x3, .int .i64 x4, .int .i64 x5, .string x6, .int .i64 x7, .string x8, .int .i64 x9, .int .i64 x10, .slice A1' n1 m1, .int .i64 e] 48)) (hrd1.lat hLW6)
      simp only [kC, vC] at HB
      have HO := Lib.hid hown6
      have HLW := Lib.hid hLW6
      clear hown hLW hset hown6 hLW6 hbx6 hbg HB0 hsz
      go_wp2_with (first | (with_reducible refine wpList_load_at rfl 48 _ rfl g (j * 15) rfl _ _ hr1 Tryz.underlying48 rfl (by kernel_rfl) ?_) | (with_reducible refine wpList_load_at rfl 34 _ rfl wr.heap.size 3 rfl _ _ hrk Tryz.underlying34 rfl (by kernel_rfl) ?_) | (with_reducible refine wpList_load_at rfl 32 _ rfl wr.heap.size 6 rfl _ _ hrv Tryz.underlying32 rfl (by kernel_rfl) ?_))
      have hown6 := HO.out
      have hLW6 := HLW.out
      clear HO HLW hr1 c14w hfr hrk hrv
      refine HB.out.mono ?_
      rintro r w7 ⟨rfl, hl7⟩
      have hLW7 := hLW6.trans hl7
      have hown7 := hown6.lat hl7
      clear HB hown6 hLW6 hl7
      by_cases hz : R.size = 0
      · have HQ : Hid (Y.set j ⟨Y[j].key, Y[j].win, Y[j].los, 0⟩ = Y1) := Lib.hid ((hfs _ (by rw [HFE.out, if_pos hz]; rw [HFG.out])).out)
        obtain rfl := size_nil hz
        clear hfs HFE hz
        go_wp2_with fail
        go_roundw
        case rel => exact ⟨j + 1, by omega, by go_num, by rw [HY1.out, ← HQ.out]; exact hown7, hLW7⟩
        case measure => simp [intOf]; omega
      · have HQ : Hid (Y.set j ⟨Y[j].key, Y[j].win, Y[j].los, 19⟩ = Y1) := Lib.hid ((hfs _ (by rw [HFE.out, if_neg hz]; rw [HFG.out])).out)
        have hs1 : ¬ R.toList = [] := fun h => hz ((toList_nil R).1 h)
        have hs2 : R.toList.isEmpty = false := by simpa using hs1
        have hjf2 : j < (Y.set j ⟨Y[j].key, Y[j].win, Y[j].los, 0⟩).length := by rw [List.length_set]; exact hjf
        obtain ⟨g', eg, -, -, ⟨A2, n2, m2, hr2⟩, hfr2, hset2⟩ := hown7.place j hjf2
        injection eg with eg
        injection eg with eg
        subst eg
        have c14 : w7.cell? ⟨g, j * 15 + 14, none⟩ = some (.int .i64 (Y.set j ⟨Y[j].key, Y[j].win, Y[j].los, 0⟩)[j].err) := hr2 14 _ rfl
        have hown8 := hset2 19
        rw [List.set_set] at hown8
        simp only [List.getElem_set_self] at hown8
        rw [HQ.out] at hown8
        have hLW8 := hLW7.setCell (p := ⟨g, j * 15 + 14, none⟩) hwg (.int .i64 19)
        clear hfs HFE hz hr2 hset2 hown7 hLW7
        go_wp2_with fail
        go_roundw
        case rel => exact ⟨j + 1, by omega, by go_num, by rw [HY1.out]; exact hown8, hLW8⟩
        case measure => simp [intOf]; omega
    · have hj : j = ds.length := by omega
      subst hj
      have hrd4 := hown.rd
      rw [show fixed ps acts ds ds.length = ds.map (fixE ps acts) from by unfold fixed; rw [List.take_length, List.drop_length, List.append_nil]] at hrd4
      have hL := hl1.trans hLW
      clear HBK
      go_wp2_with fail
      go_ret
      exact ⟨⟨ks, ds, _, rfl, HG.out, HK.out.1, HK.out.2, hdsl, hrd4⟩, hL⟩
end Go.Proofs.YtmgalnbacenbbaaGreat
