/- Hold: holds: the watched rules. -/
import Derived.Test.YtafodibbcfoclaaGreatHPlains
import Derived.Test.YtafodibbcfoclaaGreatHSort
import Derived.Test.YtafodibbcfoclaaGreatHVal
set_option linter.unusedSimpArgs false
set_option linter.unusedVariables false
namespace Go.Proofs.YtafodibbcfoclaaGreat
open Go.RowKit

theorem run_toX {α : Type} (E : Elt α) {w0 : World} {xs : List α} {A : Option Addr} {c : Nat} (h : E.Rd w0 xs (.slice A xs.length c)) (hc : xs.length ≤ c) (j : Nat) (hj : j ≤ xs.length) :
    ∀ w, (Instr.slice E.t (.slice A xs.length c) none (some (.int .i64 (j : Int))) none).run Tryz.prog w = .ok (.slice A j c) w := fun w => by
  have hel : Tryz.prog.elem E.t = E.e := by simp [Program.elem, E.ht]
  have hu : Tryz.prog.underlying E.t = some (.slice (Tryz.prog.elem E.t)) := by rw [hel]; exact E.ht
  have hA : A.map (·.add (0 * E.n)) = A := by
    cases A with
    | none => rfl
    | some a => simp [Addr.add_zero']
  rw [run_slice_h w E.t A xs.length c hu .i64 j (by omega) (by omega), hel]
  simp [sizeOf, typeInfo, E.hi, E.hs, Sem.run_bind, sliced]
  intro _
  simpa using hA
/-- What the map of names seen gives. -/
def seenV (l : List RP) (s : ByteArray) : Option Value := if hasN (l.map (fun q => q.1.name)) s then some (.bool true) else none
theorem hasN_snoc (l : List ByteArray) (x s : ByteArray) : hasN (l ++ [x]) s = (hasN l s || decide (x = s)) := by
  unfold hasN; simp
theorem seenV_take (ps : List RP) (j : Nat) (h : j < ps.length) : seenV (ps.take (j + 1)) = fun s => if s = ps[j].1.name then some (.bool true) else seenV (ps.take j) s := by
  funext s
  unfold seenV
  rw [List.take_succ_eq_append_getElem h, List.map_append]
  simp only [List.map_cons, List.map_nil]
  rw [hasN_snoc]
  by_cases e : s = ps[j].1.name
  · subst e; simp
  · have : ¬ ps[j].1.name = s := fun h => e h.symm
    simp [e, this]
set_option maxRecDepth 100000 in
set_option maxHeartbeats 8000000 in
theorem holds_any (ps : List RP) (A : Option Addr) (c : Nat) (w : World) (hx : RdR w ps (.slice A ps.length c)) (hl : ps.length ≤ 100000) (hon : ∀ p ∈ ps, p.2.on.length ≤ 1000000) :
    Calls Tryz.prog 18 #[.slice A ps.length c] w fun r w' => (∃ v, r = .returned v ∧ EH.Rd w' ((holdsP ps).map encH) v ∧ ∀ g, g < w.heap.size → EH.RdS g w' ((holdsP ps).map encH) v) ∧ Lat w w' := by
  have hmm := @run_makeMap Tryz.prog
  have HLM := fun n w => Lib.hid (limit_any n w)
  have hz : ∀ w, (zeroValue 4).run Tryz.prog w = .ok (.bool false) w := fun w => Tryz.zeroValue4 w
  have HON : Hid (∀ (j : Nat) (h : j < ps.length), ps[j].2.on.length ≤ 1000000) := Lib.hid (fun j h => hon _ (List.getElem_mem h))
  clear hon
  go_enter Tryz.func18, Tryz.ntmps18
  go_wp2_with fail
  have hL0 : Lat w (w.alloc (.map #[] 0)) := Lat.al _ _
  go_loopw [4, 12] (fun v i wr => ∃ j : Nat, j ≤ ps.length ∧ i = .int .i64 j ∧ EH.Own wr (w.heap.size + 1) ((candF [] (ps.take j)).map encH) v ∧ OMap wr w.heap.size j (seenV (ps.take j)) ∧ w.heap.size + 1 ≤ wr.heap.size ∧ Lat w wr) (fun _ i _ => ps.length - (intOf i).toNat)
  case atStart => exact ⟨0, Nat.zero_le _, rfl, Elt.Own.nil _ _, OMap.made w, by simp, hL0⟩
  case round =>
    clear hL0 hmm
    obtain ⟨j, hjl, rfl, hown, hom, hsz, hLW⟩ := hrel
    by_cases hlt : j < ps.length
    · obtain ⟨b, off, hA, hb0, hr1, hsy⟩ := (hx.lat hLW).row j hlt
      subst hA
      have HCT := Lib.hid (candF_take ps j hlt)
      have HSV := Lib.hid (seenV_take ps j hlt)
      have HSYW : Hid (ps[j].1.Says w ps[j].2) := Lib.hid (hx.2 _ (List.getElem_mem hlt))
      have hsm : ps[j].1.name.size ≤ maxLen := by rw [hsy.name]; exact hsy.small
      have HOL := Lib.hid (HON.out j hlt)
      have HCL : Hid ((candF [] (ps.take j)).length ≤ 100000) := Lib.hid (by
        have h1 := candF_len (ps.take j) []
        rw [List.length_take] at h1
        omega)
      have hBL : Lat wr (wr.alloc (.cells (rC ps[j].1).toArray 44)) := Lat.al _ _
      have hrow : Blk (wr.alloc (.cells (rC ps[j].1).toArray 44)) wr.heap.size 44 (rC ps[j].1).toArray := Blk.new _ _ _
      have hown2 := hown.lat hBL
      have hom2 := hom.lat hBL
      have hLW2 := hLW.trans hBL
      have hjm : j < maxLen := by unfold maxLen; omega
      clear hown hom hBL hsy hLW
      generalize hP : ps[j] = P at *
      obtain ⟨⟨x1, x2, x3, x4, x5, ⟨y1, y2, y3, y4, y5, y6, y7, y8, y9, y10⟩, x6, x7, x8, x9, x10, x11⟩, rl⟩ := P
      simp only [rC] at hr1 hrow hown2 hom2 hLW2 hsm HCT HSV HSYW
      dsimp only at hsm HCT HSV HOL
      cases hseen : hasN ((ps.take j).map (fun q => q.1.name)) x1 with
      | true =>
        have hu : (seenV (ps.take j) x1).getD (.bool false) = .bool true := by unfold seenV; rw [if_pos hseen]; rfl
        have HSV2 : Hid (seenV (ps.take (j + 1)) = seenV (ps.take j)) := Lib.hid (by
          rw [HSV.out]
          funext s
          by_cases e : s = x1
          · rw [if_pos e, e]; unfold seenV; rw [if_pos hseen]
          · rw [if_neg e])
        have HCT2 : Hid (candF [] (ps.take (j + 1)) = candF [] (ps.take j)) := Lib.hid (by rw [HCT.out, hseen]; simp)
        have HO := Lib.hid hown2
        have HOM := Lib.hid hom2
        have HL := Lib.hid hLW2
        clear HSV HCT hseen hP hown2 hLW2
        go_wp2_with (first | (with_reducible refine wpList_load_at rfl 44 _ rfl b (off + j * 15) rfl _ _ hr1 Tryz.underlying44 rfl (by kernel_rfl) ?_) | (at_lookup; refine wpl_look _ rfl _ _ 76 4 rfl Tryz.underlying76 (hz _) w.heap.size j _ rfl hom2 x1 rfl hsm _ hu ?_))
        go_roundw
        case rel => exact ⟨j + 1, by omega, by go_num, by rw [HCT2.out]; exact HO.out, by rw [HSV2.out]; exact HOM.out.mono (by omega), by simp; omega, HL.out⟩
        case measure => simp [intOf]; omega
      | false =>
        have hu : (seenV (ps.take j) x1).getD (.bool false) = .bool false := by unfold seenV; rw [if_neg (by rw [hseen]; decide)]; rfl
        obtain ⟨R0, hR0⟩ : ∃ R0, R0 = (⟨x1, x2, x3, x4, x5, ⟨y1, y2, y3, y4, y5, y6, y7, y8, y9, y10⟩, x6, x7, x8, x9, x10, x11⟩ : RlR) := ⟨_, rfl⟩
        have HCT2 : Hid (candF [] (ps.take (j + 1)) = candF [] (ps.take j) ++ opH (R0, rl)) := Lib.hid (by rw [HCT.out, hseen, hR0]; simp)
        have HE0 : Hid (∀ tt : Int, EH.f (encH ((R0, rl), tt)) = [.string x1, .int .i64 x2, .slice x3 x4 x5, .int .i64 y1, .int .i64 y2, .int .i64 y3, .string y4, .int .i64 y5, .int .i64 y6, .string y7, .int .i64 y8, .string y9, .string y10, .slice x6 x7 x8, .slice x9 x10 x11, .int .i64 tt]) := Lib.hid (fun tt => by rw [hR0]; rfl)
        have HO := Lib.hid hown2
        have HL := Lib.hid hLW2
        have HSZ2 := Lib.hid (show w.heap.size + 1 ≤ (wr.alloc (.cells #[.string x1, .int .i64 x2, .slice x3 x4 x5, .int .i64 y1, .int .i64 y2, .int .i64 y3, .string y4, .int .i64 y5, .int .i64 y6, .string y7, .int .i64 y8, .string y9, .string y10, .slice x6 x7 x8, .slice x9 x10 x11] 44)).heap.size by simp; omega)
        have HROW := Lib.hid hrow
        clear HCT hseen hP hown2 hLW2 hrow hR0
        go_upto_region 8 with (first | (with_reducible refine wpList_load_at rfl 44 _ rfl b (off + j * 15) rfl _ _ hr1 Tryz.underlying44 rfl (by kernel_rfl) ?_) | (at_lookup; refine wpl_look _ rfl _ _ 76 4 rfl Tryz.underlying76 (hz _) w.heap.size j _ rfl hom2 x1 rfl hsm _ hu ?_) | (at_mapUpdate; refine wpl_put _ rfl _ _ _ 76 4 rfl Tryz.underlying76 w.heap.size j _ rfl hom2 hjm x1 rfl hsm (.bool true) rfl ?_; intro w6 hom6 hg6))
        have hL6 : Lat w w6 := HL.out.grown hg6 HL.out.size (fun k hk => by injection hk with hk; omega)
        have hb6 := HROW.out.grown hg6 (fun e => by injection e with e; omega)
        have hown6 := HO.out.carry (fun k hk => hg6.block k (HO.out.lt k hk).2 (fun e => by injection e with e; have := (HO.out.lt k hk).1; omega))
        have hsy6 := HSYW.out.lat hL6
        have hsz6 : w.heap.size + 1 ≤ w6.heap.size := Nat.le_trans HSZ2.out hg6.size
        rw [← HSV.out] at hom6
        have hgr : EG.Rd w6 rl.on (.slice x3 x4 x5) := hsy6.on
        have hln : x4 = rl.on.length := Says.on_len hsy6
        subst hln
        have HT0 : Hid (trg rl.on = trg (rl.on.drop 0)) := Lib.hid rfl
        have hol := HOL.out
        have hbc := hb6.cell
        have HB6 := Lib.hid hb6
        have HOW6 := Lib.hid hown6
        have HOM6 := Lib.hid hom6
        have HL6 := Lib.hid hL6
        have HSZ6 := Lib.hid hsz6
        clear hg6 HO HL HSZ2 HROW hr1 hom2 hu HSV HSYW hsy6 hb6 hown6 hom6 hL6 hsz6
        go_wp2_with fail
        clear hbc
        go_loopw [4, 26] (fun v k wr2 => ∃ n : Nat, n ≤ rl.on.length ∧ k = .int .i64 n ∧ v = u4 ∧ Hid (trg rl.on = trg (rl.on.drop n)) ∧ Lat w6 wr2) (fun _ k _ => rl.on.length - (intOf k).toNat)
        case atStart => exact ⟨0, Nat.zero_le _, rfl, rfl, HT0, Lat.refl _⟩
        case round =>
          clear HT0
          obtain ⟨n, hnl, rfl, rfl, HT, hL2⟩ := hrel
          by_cases hn : n < rl.on.length
          · obtain ⟨b2, off2, hA2, hbb2, hr2'⟩ := (hgr.lat hL2).row n hn
            subst hA2
            have hr2 : RowAt wr b2 (off2 + n * 10) (gC rl.on[n]) := hr2'
            have HD := Lib.hid (trg_drop rl.on n hn)
            have hgx := Blk.new wr 73 (gC rl.on[n]).toArray
            have hL3 : Lat w6 (wr.alloc (.cells (gC rl.on[n]).toArray 73)) := hL2.trans (Lat.al _ _)
            clear hr2' hL2
            generalize rl.on[n] = G at *
            obtain ⟨g1, g2, g3, g4, g5, g6, g7, g8, g9, g10⟩ := G
            simp only [gC] at hr2 hgx hL3
            dsimp only at HD
            by_cases hk : g1 = 6
            · have hk2 : (g1 == 6) = true := by simpa using hk
              have HC2 : Hid (opH (R0, rl) = [((R0, rl), lim g9)]) := Lib.hid (by unfold opH; dsimp only; rw [HT.out, HD.out, if_pos hk]; rfl)
              clear HT HD hk
              go_upto_region 12 with (with_reducible refine wpList_load_at rfl 73 _ rfl b2 (off2 + n * 10) rfl _ _ hr2 Tryz.underlying73 rfl (by kernel_rfl) ?_)
              have hrx := HB6.out.lat hL3
              have hown7 := HOW6.out.lat hL3
              have hom7 := HOM6.out.lat hL3
              have hsz7 := Nat.le_trans HSZ6.out hL3.size
              have hL7 := HL6.out.trans hL3
              have HLIM := fun w' => HLM g9 w'
              have hcl := HCL.out
              have HE := Lib.hid (HE0.out (lim g9))
              clear hr2 hL3 HB6 HOW6 HOM6 HL6 HSZ6 HLM HE0
              generalize wr.alloc (.cells #[.int .i64 g1, .int .i64 g2, .string g3, .string g4, .int .i64 g5, .string g6, .string g7, .string g8, .int .i64 g9, .int .i64 g10] 73) = w7 at *
              generalize wr.heap.size = gg at *
              refine wp_rely_tail 7 (by kernel_rfl) (by kernel_rfl) (by decide) (by kernel_rfl) ?_
              simp only [List.take_succ_cons, List.take_zero, List.drop_succ_cons, List.drop_zero]
              apply RelyL.val
              · intro ν w' hL hF K hK'
                have cg := (hgx.lat hL).cell
                go_simp
                exact hK'.out _ _ rfl (Lat.refl _)
              simp only [Act.put, List.setIfInBounds_toArray, List.set_cons_zero, List.set_cons_succ, Nat.reduceAdd]
              apply RelyL.val
              · intro ν w' hL hF K hK'
                refine take_op rfl ?_
                refine wp_load_blk rfl rfl (hrx.lat hL) Tryz.underlying44 rfl (by kernel_rfl : (Tryz.prog.info? 44).map (·.size) = some 15) rfl ?_
                exact hK'.out _ _ rfl (Lat.refl _)
              simp only [Act.put, List.setIfInBounds_toArray, List.set_cons_zero, List.set_cons_succ, Nat.reduceAdd]
              apply RelyL.val
              · intro ν w' hL hF K hK'
                have cg := (hgx.lat hL).cell
                go_simp
                exact hK'.out _ _ rfl (Lat.refl _)
              simp only [Act.put, List.setIfInBounds_toArray, List.set_cons_zero, List.set_cons_succ, Nat.reduceAdd]
              apply RelyL.val
              · intro ν w' hL hF K hK'
                have cg := (hgx.lat hL).cell
                go_simp
                exact hK'.out _ _ rfl (Lat.refl _)
              simp only [Act.put, List.setIfInBounds_toArray, List.set_cons_zero, List.set_cons_succ, Nat.reduceAdd]
              apply RelyL.val
              · intro ν w' hL hF K hK'
                have H := HLIM w'
                go_simp
                go_at_call 20
                refine H.out.mono ?_
                rintro r w'' ⟨rfl, rfl⟩
                exact hK'.out _ _ rfl (Lat.refl _)
              simp only [Act.put, List.setIfInBounds_toArray, List.set_cons_zero, List.set_cons_succ, Nat.reduceAdd]
              apply RelyL.val
              · intro ν w' hL hF K hK'
                have cg := (hgx.lat hL).cell
                go_simp
                exact hK'.out _ _ rfl (Lat.refl _)
              simp only [Act.put, List.setIfInBounds_toArray, List.set_cons_zero, List.set_cons_succ, Nat.reduceAdd]
              refine RelyL.law (fun v w => ∃ g1, v = .slice (some ⟨g1, 0, none⟩) 1 1 ∧ Blk w g1 61 (EH.f (encH ((R0, rl), lim g9))).toArray) (fun v w1 w2 hl h => by obtain ⟨g1, h1, h2⟩ := h; exact ⟨g1, h1, h2.lat hl⟩) (fun ν w' hL hF K hK => ?_) ?_
              · go_simp
                exact hK.out _ _ _ rfl ⟨_, rfl, by rw [HE.out]; exact Blk.new _ _ _⟩ (Lat.al _ _)
              simp only [Act.put, List.setIfInBounds_toArray, List.set_cons_zero, List.set_cons_succ, Nat.reduceAdd]
              refine RelyL.done fun ν w8 hL hF => ?_
              have hnew := hF.get 0 rfl
              dsimp only at hnew
              generalize ν 6 = y6 at *
              obtain ⟨gn, rfl, hbn⟩ := hnew
              have hown8 := hown7.lat hL
              have hom8 := hom7.lat hL
              have hsz8 := Nat.le_trans hsz7 hL.size
              have hL8 := hL7.trans hL
              have HOM8 := Lib.hid hom8
              have HL8 := Lib.hid hL8
              have hbn' : Blk w8 gn 61 (EH.f (encH ((R0, rl), lim g9))).toArray := hbn
              have hmax : ((candF [] (ps.take j)).map encH).length + 1 ≤ maxLen := by rw [List.length_map]; unfold maxLen; omega
              have hby : (((candF [] (ps.take j)).map encH).length + 1) * EH.bytes ≤ 140737488355328 := Nat.le_trans (Nat.mul_le_mul_right EH.bytes (by rw [List.length_map]; omega : _ ≤ 1000000)) (by decide)
              have hws : w.heap.size ≤ w8.heap.size := hL8.size
              clear hF hL hrx hgx hown7 hom7 hsz7 hL7 hbn hom8 hL8 HLIM HE
              go_wp2_with (at_builtin; refine EH.append rfl _ _ rfl (w.heap.size + 1) _ _ rfl hown8 gn 1 (encH ((R0, rl), lim g9)) rfl 61 hbn' hmax hby hsz8 ?_; intro v9 w9 hown9 hg9 hw9; go_must (have hL9 : Lat w w9 := HL8.out.grown hg9 hws (fun k hk => by have := (hown8.lt k hk).1; omega); have hom9 := HOM8.out.grown hg9 (fun e => by have := (hown8.lt _ e.symm).1; omega); have hsz9 := Nat.le_trans hsz8 hg9.size; clear hown8 hg9 hw9 hbn'))
              go_roundw
              case rel => exact ⟨j + 1, by omega, by go_num, by rw [HCT2.out, HC2.out, List.map_append]; exact hown9, hom9, hsz9, hL9⟩
              case measure => simp [intOf]; omega
            · have hk2 : (g1 == 6) = false := by simpa using hk
              have HT2 : Hid (trg rl.on = trg (rl.on.drop (n + 1))) := Lib.hid (HT.out.trans (HD.out.trans (if_neg hk)))
              clear HT HD hk hgx
              go_wp2_with (with_reducible refine wpList_load_at rfl 73 _ rfl b2 (off2 + n * 10) rfl _ _ hr2 Tryz.underlying73 rfl (by kernel_rfl) ?_)
              go_roundw
              case rel => exact ⟨n + 1, by omega, by go_num, rfl, HT2, hL3⟩
              case measure => simp [intOf]; omega
          · have HC2 : Hid (opH (R0, rl) = []) := Lib.hid (by unfold opH; dsimp only; rw [HT.out, List.drop_of_length_le (by omega)]; rfl)
            have hn' : n = rl.on.length := by omega
            subst hn'
            clear HT
            go_wp2_with fail
            go_roundw
            case rel => exact ⟨j + 1, by omega, by go_num, by rw [HCT2.out, HC2.out, List.append_nil]; exact HOW6.out.lat hL2, HOM6.out.lat hL2, Nat.le_trans HSZ6.out hL2.size, HL6.out.trans hL2⟩
            case measure => simp [intOf]; omega
    · have hj : j = ps.length := by omega
      subst hj
      rw [List.take_length] at hown
      have hcl := candF_len ps []
      have HSO := Lib.hid (sortH_any (candF [] ps) u4 (w.heap.size + 1) wr hown (by omega))
      have hb1 : w.heap.size ≤ wr.heap.size := hLW.size
      clear hom hx HON HLM hz
      obtain ⟨A4, c4, rfl⟩ := hown.slice
      clear hown
      rw [List.length_map] at HSO ⊢
      go_wp2_with fail
      refine HSO.out.mono ?_
      rintro r w2 ⟨rfl, ⟨d, hperm, hsort, hown2⟩, hsz2, hbel⟩
      have hd := sortedH_is (candF_names ps []) hperm hsort
      subst hd
      have hL2 : Lat w w2 := Below.trans hLW (hbel _ (by omega) hb1)
      have hlen : (candF [] ps).length = ((sortedH (candF [] ps)).map encH).length := by rw [List.length_map, hperm.length_eq]
      rw [hlen] at hown2 ⊢
      have hcap := hown2.cap
      have hrd := hown2.rd
      have hrS : ∀ g, g < w.heap.size → EH.RdS g w2 ((sortedH (candF [] ps)).map encH) (.slice A4 ((sortedH (candF [] ps)).map encH).length c4) := fun g hg => hown2.rdS (by omega)
      have hm : (((sortedH (candF [] ps)).map encH).length : Int) ≤ 1000000 := by omega
      generalize hX : (sortedH (candF [] ps)).map encH = X at *
      have HZZ : Hid ((holdsP ps).map encH = X.take 40) := Lib.hid (by unfold holdsP; rw [List.map_take, hX])
      clear hown2 hperm hsort hbel HSO hX hlen
      by_cases h40 : 40 < X.length
      · have hsl := run_toX EH hrd hcap 40 (by omega)
        have hrd5 := hrd.take 40 (by omega)
        have hr5S : ∀ g, g < w.heap.size → EH.RdS g w2 (X.take 40) (.slice A4 40 c4) := fun g hg w' ho => (hrS g hg w' ho).take 40 (by omega)
        have hmi : ∀ (ats : Array TypeId) (ty : TypeId) (w : World), (Builtin.min_ ats ty #[.int .i64 (X.length : Int), .int .i64 40]).run Tryz.prog w = .ok (.int .i64 40) w := fun ats ty w => by
          have : (Builtin.min_ ats ty #[.int .i64 (X.length : Int), .int .i64 40]).run Tryz.prog w = .ok (.int .i64 (if (40 : Int) < X.length then 40 else X.length)) w := rfl
          rw [this, if_pos (by omega)]
        have hsl2 : ∀ w, (Instr.slice 58 (.slice A4 X.length c4) none (some (.int .i64 40)) none).run Tryz.prog w = .ok (.slice A4 40 c4) w := hsl
        clear hrd hcap hsl
        go_wp2_with fail
        go_ret
        exact ⟨⟨_, rfl, by rw [HZZ.out]; exact hrd5, fun g hg => by rw [HZZ.out]; exact hr5S g hg⟩, hL2⟩
      · have hsl := run_toX EH hrd hcap X.length (Nat.le_refl _)
        have hmi : ∀ (ats : Array TypeId) (ty : TypeId) (w : World), (Builtin.min_ ats ty #[.int .i64 (X.length : Int), .int .i64 40]).run Tryz.prog w = .ok (.int .i64 X.length) w := fun ats ty w => by
          have : (Builtin.min_ ats ty #[.int .i64 (X.length : Int), .int .i64 40]).run Tryz.prog w = .ok (.int .i64 (if (40 : Int) < X.length then 40 else X.length)) w := rfl
          rw [this, if_neg (by omega)]
        have hsl2 : ∀ w, (Instr.slice 58 (.slice A4 X.length c4) none (some (.int .i64 X.length)) none).run Tryz.prog w = .ok (.slice A4 X.length c4) w := hsl
        have HZ2 : Hid ((holdsP ps).map encH = X) := Lib.hid (HZZ.out.trans (List.take_of_length_le (by omega)))
        have hrd5 := hrd
        clear hrd hcap hsl HZZ
        go_wp2_with fail
        go_ret
        exact ⟨⟨_, rfl, by rw [HZ2.out]; exact hrd5, fun g hg => by rw [HZ2.out]; exact hrS g hg⟩, hL2⟩
end Go.Proofs.YtafodibbcfoclaaGreat
