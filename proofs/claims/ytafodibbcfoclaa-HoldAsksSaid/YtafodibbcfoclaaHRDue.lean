/- Hold: the reference's Due. -/
import Derived.Test.YtafodibbcfoclaaHRHolds
import Derived.Test.YtafodibbcfoclaaHRFind
import Derived.Test.YtafodibbcfoclaaHRMark
import Derived.Test.YtafodibbcfoclaaHDue
set_option linter.unusedSimpArgs false
set_option linter.unusedVariables false
namespace Go.Proofs.Ytafodibbcfoclaa
open Go.RowKit

set_option maxRecDepth 100000 in
set_option maxHeartbeats 4000000 in
theorem rdue_any (l : List LTim) (A : Option Addr) (c : Nat) (ps : List RP) (B : Option Addr) (m : Nat) (now : Int) (w : World) (hx : RdT w l (.slice A l.length c)) (hy : RdR w ps (.slice B ps.length m)) (hl : ps.length ≤ 1000) (hon : ∀ p ∈ ps, p.2.on.length ≤ 1000000) :
    Calls Try.prog 14 #[.slice A l.length c, .slice B ps.length m, .int .i64 now] w fun r w' => (∃ v, r = .returned v ∧ ES.Rd w' (dueP (holdsP ps) (validP l) now) v) ∧ Lat w w' := by
  have HV := Lib.hid (rsane_any l A c w hx.1)
  have HHO := fun (w' : World) (h : Lat w w') => Lib.hid (rholds_any ps B m w' (hy.lat h) hl hon)
  have HTK := fun (w' : World) => Lib.hid (tick_any now w')
  have HFI := fun (A1 : Option Addr) (c1 : Nat) (s : ByteArray) (w' : World) (h : ET.Rd w' (validP l) (.slice A1 (validP l).length c1)) => Lib.hid (rfind_any (validP l) A1 c1 s w' h (by have := validP_len l; omega))
  have HRN : Hid (∀ s, 0 ≤ (tmOf (validP l) s).since ∧ (tmOf (validP l) s).since ≤ MT) := Lib.hid (fun s => tmOf_rng (validP_ok l) s)
  have HDT := fun j h => Lib.hid (dueP_take (holdsP ps) (validP l) now j h)
  have HDL : Hid (∀ j, (dueP ((holdsP ps).take j) (validP l) now).length ≤ 40) := Lib.hid (fun j => Nat.le_trans (dueP_len _ _ _) (by rw [List.length_take]; have := holdsP_len ps; omega))
  have HFU : Hid (dueP (holdsP ps) (validP l) now = dueP ((holdsP ps).take (holdsP ps).length) (validP l) now) := Lib.hid (by rw [List.take_length])
  have HHL : Hid ((holdsP ps).length ≤ 40) := Lib.hid (holdsP_len ps)
  have hlim0 := lim_ge now
  have hlim1 := lim_le now
  unfold MT at hlim1
  generalize hVS : validP l = vs at *
  generalize hHP : holdsP ps = hp at *
  clear hVS hx
  go_enter Try.func14, Try.ntmps14
  go_wp2_with fail
  refine HV.out.mono ?_
  rintro r w1 ⟨⟨v1, rfl, hrd1⟩, hl1⟩
  obtain ⟨A1, c1, rfl⟩ := rd_slice hrd1
  have HHO1 := HHO w1 hl1
  clear HV HHO
  go_wp2_with fail
  refine HHO1.out.mono ?_
  rintro r w2 ⟨⟨hs, v2, rfl, hrd2, hat, hlt2⟩, hl2⟩
  obtain ⟨A2, c2, rfl⟩ := rd_slice hrd2
  have hL2 := hl1.trans hl2
  have hrd1' := hrd1.lat hl2
  have hln : hp.length = hs.length := by rw [← hHP, ← hat, List.length_map]
  have HX : Hid (∀ (j : Nat) (h : j < hs.length) (h' : j < hp.length) (hq : hs[j].1 < ps.length), hp[j] = (ps[hs[j].1], hs[j].2)) := Lib.hid (fun j h h' hq => by
    have e : hp = hs.map (atP ps) := by rw [← hHP, ← hat]
    subst e
    rw [List.getElem_map, atP_is hq])
  have HL2 := Lib.hid hlt2
  have hhl := HHL.out
  rw [hln] at hhl HFU
  clear HHO1 hrd1 hl1 hl2 hat hlt2 hHP HHL
  go_wp2_with fail
  go_loopw [8, 18] (fun v i wr => ∃ j : Nat, j ≤ hs.length ∧ i = .int .i64 j ∧ ES.Own wr w2.heap.size (dueP (hp.take j) vs now) v ∧ Lat w2 wr) (fun _ i _ => hs.length - (intOf i).toNat)
  case atStart => exact ⟨0, Nat.zero_le _, rfl, Elt.Own.nil _ _, Lat.refl _⟩
  case round =>
    obtain ⟨j, hjl, rfl, hown, hLW⟩ := hrel
    by_cases hlt : j < hs.length
    · have hjp : j < hp.length := by omega
      have hql := HL2.out _ (List.getElem_mem hlt)
      have HXJ := Lib.hid (HX.out j hlt hjp hql)
      have HD1 := HDT j hjp
      rw [HXJ.out] at HD1
      obtain ⟨b', off', hA2, hbb, hrow'⟩ := (hrd2.lat hLW).row j hlt
      subst hA2
      have hrow : RowAt wr b' (off' + j * 2) [.int .i64 (hs[j].1 : Int), .int .i64 hs[j].2] := hrow'
      have hro : wr.cell? ⟨b', off' + j * 2, none⟩ = some (.int .i64 (hs[j].1 : Int)) := hrow 0 _ rfl
      have hct0 : wr.cell? ⟨b', off' + j * 2 + 1, none⟩ = some (.int .i64 hs[j].2) := hrow 1 _ rfl
      obtain ⟨b, off, hB, hb0, hr1, -⟩ := (hy.lat (hL2.trans hLW)).row hs[j].1 hql
      subst hB
      have hcn : wr.cell? ⟨b, off + hs[j].1 * 15, none⟩ = some (.string (ps[hs[j].1]'hql).1.name) := hr1 0 _ rfl
      have HDE : Hid (due1 vs now (ps[hs[j].1]'hql, hs[j].2) = if (findT vs (ps[hs[j].1]'hql).1.name).isSome && !(tmOf vs (ps[hs[j].1]'hql).1.name).fired && decide (hs[j].2 ≤ lim now - (tmOf vs (ps[hs[j].1]'hql).1.name).since) then [(tmOf vs (ps[hs[j].1]'hql).1.name).rule] else []) := Lib.hid rfl
      have HFI1 := HFI A1 c1 (ps[hs[j].1]'hql).1.name wr (hrd1'.lat hLW)
      have hrn := HRN.out (ps[hs[j].1]'hql).1.name
      have hqi : (hs[j].1 : Int) < ps.length := by omega
      have hji : (j : Int) < hs.length := by omega
      have hdl := HDL.out j
      unfold MT at hrn
      clear hrow hrow' hr1 HX HXJ HDT HL2 HFI HRN HDL hrd1' hrd2 hy hon HFU
      rw [HDE.out] at HD1
      clear HDE
      generalize (ps[hs[j].1]'hql).1.name = NM at *
      generalize hs[j] = q at *
      obtain ⟨q1, q2⟩ := q
      dsimp only at hro hct0 hcn HD1 hqi
      generalize findT vs NM = F at *
      generalize tmOf vs NM = T at *
      obtain ⟨t1, t2, t3⟩ := T
      simp only [tC] at HFI1
      dsimp only at HD1 hrn
      obtain ⟨r1, r2⟩ := hrn
      have hw : IntKind.i64.wrap (lim now - t2) = lim now - t2 := by rw [IntKind.wrap_i64]; omega
      generalize lim now = L at *
      generalize dueP (hp.take j) vs now = D at *
      go_wp2_with fail
      refine HFI1.out.mono ?_
      rintro r w3 ⟨rfl, hl3⟩
      have hLb : Lat w3 (w3.alloc (.cells #[.string t1, .int .i64 t2, .bool t3] 56)) := Lat.al _ _
      have hbx := Blk.new w3 56 #[.string t1, .int .i64 t2, .bool t3]
      have hct : (w3.alloc (.cells #[.string t1, .int .i64 t2, .bool t3] 56)).cell? ⟨b', off' + j * 2 + 1, none⟩ = some (.int .i64 q2) := ((hl3.trans hLb).cell (p := ⟨b', off' + j * 2 + 1, none⟩) hbb).trans hct0
      have hown4 := hown.lat (hl3.trans hLb)
      have hLW4 := hLW.trans (hl3.trans hLb)
      have hbb := Nat.lt_of_lt_of_le hbb (hl3.trans hLb).size
      clear HFI1 hown hLW hl3 hLb hct0 hro hcn hb0
      go_upto_region 8 with fail
      generalize w3.alloc (.cells #[.string t1, .int .i64 t2, .bool t3] 56) = w4 at *
      generalize w3.heap.size = g at *
      cases hF : F.isSome
      · rw [hF] at HD1
        refine wp_rely (by kernel_rfl) (by kernel_rfl) ?_
        apply RelyL.val
        · intro ν w' hL hF K hK'
          have ct := (hbx.lat hL).cell
          have cq := (hL.cell (p := ⟨b', off' + j * 2 + 1, none⟩) hbb).trans hct
          go_simp
          exact hK'.out _ _ rfl (Lat.refl _)
        simp only [Act.put, List.setIfInBounds_toArray, List.set_cons_zero, List.set_cons_succ, Nat.reduceAdd]
        apply RelyL.val
        · intro ν w' hL hF K hK'
          have ct := (hbx.lat hL).cell
          have cq := (hL.cell (p := ⟨b', off' + j * 2 + 1, none⟩) hbb).trans hct
          go_simp
          exact hK'.out _ _ rfl (Lat.refl _)
        simp only [Act.put, List.setIfInBounds_toArray, List.set_cons_zero, List.set_cons_succ, Nat.reduceAdd]
        apply RelyL.val
        · intro ν w' hL hF K hK'
          refine skip_op rfl ?_
          exact hK'.out _ _ rfl (Lat.refl _)
        simp only [Act.put, List.setIfInBounds_toArray, List.set_cons_zero, List.set_cons_succ, Nat.reduceAdd]
        apply RelyL.val
        · intro ν w' hL hF K hK'
          refine skip_op rfl ?_
          exact hK'.out _ _ rfl (Lat.refl _)
        simp only [Act.put, List.setIfInBounds_toArray, List.set_cons_zero, List.set_cons_succ, Nat.reduceAdd]
        apply RelyL.val
        · intro ν w' hL hF K hK'
          refine skip_op rfl ?_
          exact hK'.out _ _ rfl (Lat.refl _)
        simp only [Act.put, List.setIfInBounds_toArray, List.set_cons_zero, List.set_cons_succ, Nat.reduceAdd]
        apply RelyL.val
        · intro ν w' hL hF K hK'
          have ct := (hbx.lat hL).cell
          have cq := (hL.cell (p := ⟨b', off' + j * 2 + 1, none⟩) hbb).trans hct
          go_simp
          exact hK'.out _ _ rfl (Lat.refl _)
        simp only [Act.put, List.setIfInBounds_toArray, List.set_cons_zero, List.set_cons_succ, Nat.reduceAdd]
        apply RelyL.val
        · intro ν w' hL hF K hK'
          have ct := (hbx.lat hL).cell
          have cq := (hL.cell (p := ⟨b', off' + j * 2 + 1, none⟩) hbb).trans hct
          go_simp
          exact hK'.out _ _ rfl (Lat.refl _)
        simp only [Act.put, List.setIfInBounds_toArray, List.set_cons_zero, List.set_cons_succ, Nat.reduceAdd]
        apply RelyL.val
        · intro ν w' hL hF K hK'
          refine skip_op rfl ?_
          exact hK'.out _ _ rfl (Lat.refl _)
        simp only [Act.put, List.setIfInBounds_toArray, List.set_cons_zero, List.set_cons_succ, Nat.reduceAdd]
        apply RelyL.val
        · intro ν w' hL hF K hK'
          refine skip_op rfl ?_
          exact hK'.out _ _ rfl (Lat.refl _)
        simp only [Act.put, List.setIfInBounds_toArray, List.set_cons_zero, List.set_cons_succ, Nat.reduceAdd]
        apply RelyL.val
        · intro ν w' hL hF K hK'
          refine skip_op rfl ?_
          exact hK'.out _ _ rfl (Lat.refl _)
        simp only [Act.put, List.setIfInBounds_toArray, List.set_cons_zero, List.set_cons_succ, Nat.reduceAdd]
        apply RelyL.val
        · intro ν w' hL hF K hK'
          refine skip_op rfl ?_
          exact hK'.out _ _ rfl (Lat.refl _)
        simp only [Act.put, List.setIfInBounds_toArray, List.set_cons_zero, List.set_cons_succ, Nat.reduceAdd]
        apply RelyL.val
        · intro ν w' hL hF K hK'
          refine skip_op rfl ?_
          exact hK'.out _ _ rfl (Lat.refl _)
        simp only [Act.put, List.setIfInBounds_toArray, List.set_cons_zero, List.set_cons_succ, Nat.reduceAdd]
        apply RelyL.val
        · intro ν w' hL hF K hK'
          refine skip_op rfl ?_
          exact hK'.out _ _ rfl (Lat.refl _)
        simp only [Act.put, List.setIfInBounds_toArray, List.set_cons_zero, List.set_cons_succ, Nat.reduceAdd]
        apply RelyL.val
        · intro ν w' hL hF K hK'
          refine skip_op rfl ?_
          exact hK'.out _ _ rfl (Lat.refl _)
        simp only [Act.put, List.setIfInBounds_toArray, List.set_cons_zero, List.set_cons_succ, Nat.reduceAdd]
        apply RelyL.val
        · intro ν w' hL hF K hK'
          refine skip_op rfl ?_
          exact hK'.out _ _ rfl (Lat.refl _)
        simp only [Act.put, List.setIfInBounds_toArray, List.set_cons_zero, List.set_cons_succ, Nat.reduceAdd]
        apply RelyL.val
        · intro ν w' hL hF K hK'
          refine skip_op rfl ?_
          exact hK'.out _ _ rfl (Lat.refl _)
        simp only [Act.put, List.setIfInBounds_toArray, List.set_cons_zero, List.set_cons_succ, Nat.reduceAdd]
        apply RelyL.val
        · intro ν w' hL hF K hK'
          refine skip_op rfl ?_
          exact hK'.out _ _ rfl (Lat.refl _)
        simp only [Act.put, List.setIfInBounds_toArray, List.set_cons_zero, List.set_cons_succ, Nat.reduceAdd]
        apply RelyL.val
        · intro ν w' hL hF K hK'
          refine skip_op rfl ?_
          exact hK'.out _ _ rfl (Lat.refl _)
        simp only [Act.put, List.setIfInBounds_toArray, List.set_cons_zero, List.set_cons_succ, Nat.reduceAdd]
        apply RelyL.val
        · intro ν w' hL hF K hK'
          have ct := (hbx.lat hL).cell
          have cq := (hL.cell (p := ⟨b', off' + j * 2 + 1, none⟩) hbb).trans hct
          go_simp
          exact hK'.out _ _ rfl (Lat.refl _)
        simp only [Act.put, List.setIfInBounds_toArray, List.set_cons_zero, List.set_cons_succ, Nat.reduceAdd]
        refine RelyL.done fun ν w5 hL hF => ?_
        have hL5 := hLW4.trans hL
        have hown5 := hown4.lat hL
        have hbx5 := hbx.lat hL
        clear hF hL hown4 hLW4 hbx hct hbb
        have HD2 : Hid (dueP (hp.take (j + 1)) vs now = D) := Lib.hid (by rw [HD1.out]; simp)
        clear HD1
        go_wp2_with fail
        go_roundw
        case rel => exact ⟨j + 1, by omega, by go_num, by rw [HD2.out]; exact hown5, hL5⟩
        case measure => simp [intOf]; omega
      · rw [hF] at HD1
        cases t3
        · by_cases hq : q2 ≤ L - t2
          · have HD2 : Hid (dueP (hp.take (j + 1)) vs now = D ++ [t1]) := Lib.hid (by rw [HD1.out]; simp [hq])
            clear HD1
            refine wp_rely (by kernel_rfl) (by kernel_rfl) ?_
            apply RelyL.val
            · intro ν w' hL hF K hK'
              have ct := (hbx.lat hL).cell
              have cq := (hL.cell (p := ⟨b', off' + j * 2 + 1, none⟩) hbb).trans hct
              go_simp
              exact hK'.out _ _ rfl (Lat.refl _)
            simp only [Act.put, List.setIfInBounds_toArray, List.set_cons_zero, List.set_cons_succ, Nat.reduceAdd]
            apply RelyL.val
            · intro ν w' hL hF K hK'
              have ct := (hbx.lat hL).cell
              have cq := (hL.cell (p := ⟨b', off' + j * 2 + 1, none⟩) hbb).trans hct
              go_simp
              exact hK'.out _ _ rfl (Lat.refl _)
            simp only [Act.put, List.setIfInBounds_toArray, List.set_cons_zero, List.set_cons_succ, Nat.reduceAdd]
            apply RelyL.val
            · intro ν w' hL hF K hK'
              have ct := (hbx.lat hL).cell
              have cq := (hL.cell (p := ⟨b', off' + j * 2 + 1, none⟩) hbb).trans hct
              go_simp
              exact hK'.out _ _ rfl (Lat.refl _)
            simp only [Act.put, List.setIfInBounds_toArray, List.set_cons_zero, List.set_cons_succ, Nat.reduceAdd]
            apply RelyL.val
            · intro ν w' hL hF K hK'
              have ct := (hbx.lat hL).cell
              have cq := (hL.cell (p := ⟨b', off' + j * 2 + 1, none⟩) hbb).trans hct
              go_simp
              exact hK'.out _ _ rfl (Lat.refl _)
            simp only [Act.put, List.setIfInBounds_toArray, List.set_cons_zero, List.set_cons_succ, Nat.reduceAdd]
            apply RelyL.val
            · intro ν w' hL hF K hK'
              have ct := (hbx.lat hL).cell
              have cq := (hL.cell (p := ⟨b', off' + j * 2 + 1, none⟩) hbb).trans hct
              go_simp
              exact hK'.out _ _ rfl (Lat.refl _)
            simp only [Act.put, List.setIfInBounds_toArray, List.set_cons_zero, List.set_cons_succ, Nat.reduceAdd]
            apply RelyL.val
            · intro ν w' hL hF K hK'
              have ct := (hbx.lat hL).cell
              have cq := (hL.cell (p := ⟨b', off' + j * 2 + 1, none⟩) hbb).trans hct
              go_simp
              exact hK'.out _ _ rfl (Lat.refl _)
            simp only [Act.put, List.setIfInBounds_toArray, List.set_cons_zero, List.set_cons_succ, Nat.reduceAdd]
            apply RelyL.val
            · intro ν w' hL hF K hK'
              have ct := (hbx.lat hL).cell
              have cq := (hL.cell (p := ⟨b', off' + j * 2 + 1, none⟩) hbb).trans hct
              go_simp
              exact hK'.out _ _ rfl (Lat.refl _)
            simp only [Act.put, List.setIfInBounds_toArray, List.set_cons_zero, List.set_cons_succ, Nat.reduceAdd]
            apply RelyL.val
            · intro ν w' hL hF K hK'
              have ct := (hbx.lat hL).cell
              have cq := (hL.cell (p := ⟨b', off' + j * 2 + 1, none⟩) hbb).trans hct
              go_simp
              exact hK'.out _ _ rfl (Lat.refl _)
            simp only [Act.put, List.setIfInBounds_toArray, List.set_cons_zero, List.set_cons_succ, Nat.reduceAdd]
            apply RelyL.val
            · intro ν w' hL hF K hK'
              have H := HTK w'
              go_simp
              go_at_call 21
              refine H.out.mono ?_
              rintro r w'' ⟨rfl, rfl⟩
              exact hK'.out _ _ rfl (Lat.refl _)
            simp only [Act.put, List.setIfInBounds_toArray, List.set_cons_zero, List.set_cons_succ, Nat.reduceAdd]
            apply RelyL.val
            · intro ν w' hL hF K hK'
              have ct := (hbx.lat hL).cell
              have cq := (hL.cell (p := ⟨b', off' + j * 2 + 1, none⟩) hbb).trans hct
              go_simp
              exact hK'.out _ _ rfl (Lat.refl _)
            simp only [Act.put, List.setIfInBounds_toArray, List.set_cons_zero, List.set_cons_succ, Nat.reduceAdd]
            apply RelyL.val
            · intro ν w' hL hF K hK'
              have ct := (hbx.lat hL).cell
              have cq := (hL.cell (p := ⟨b', off' + j * 2 + 1, none⟩) hbb).trans hct
              go_simp
              exact hK'.out _ _ rfl (Lat.refl _)
            simp only [Act.put, List.setIfInBounds_toArray, List.set_cons_zero, List.set_cons_succ, Nat.reduceAdd]
            apply RelyL.val
            · intro ν w' hL hF K hK'
              have ct := (hbx.lat hL).cell
              have cq := (hL.cell (p := ⟨b', off' + j * 2 + 1, none⟩) hbb).trans hct
              go_simp
              exact hK'.out _ _ rfl (Lat.refl _)
            simp only [Act.put, List.setIfInBounds_toArray, List.set_cons_zero, List.set_cons_succ, Nat.reduceAdd]
            apply RelyL.val
            · intro ν w' hL hF K hK'
              have ct := (hbx.lat hL).cell
              have cq := (hL.cell (p := ⟨b', off' + j * 2 + 1, none⟩) hbb).trans hct
              go_simp
              exact hK'.out _ _ rfl (Lat.refl _)
            simp only [Act.put, List.setIfInBounds_toArray, List.set_cons_zero, List.set_cons_succ, Nat.reduceAdd]
            apply RelyL.val
            · intro ν w' hL hF K hK'
              have ct := (hbx.lat hL).cell
              have cq := (hL.cell (p := ⟨b', off' + j * 2 + 1, none⟩) hbb).trans hct
              go_simp
              exact hK'.out _ _ rfl (Lat.refl _)
            simp only [Act.put, List.setIfInBounds_toArray, List.set_cons_zero, List.set_cons_succ, Nat.reduceAdd]
            apply RelyL.val
            · intro ν w' hL hF K hK'
              have ct := (hbx.lat hL).cell
              have cq := (hL.cell (p := ⟨b', off' + j * 2 + 1, none⟩) hbb).trans hct
              go_simp
              exact hK'.out _ _ rfl (Lat.refl _)
            simp only [Act.put, List.setIfInBounds_toArray, List.set_cons_zero, List.set_cons_succ, Nat.reduceAdd]
            apply RelyL.val
            · intro ν w' hL hF K hK'
              have ct := (hbx.lat hL).cell
              have cq := (hL.cell (p := ⟨b', off' + j * 2 + 1, none⟩) hbb).trans hct
              go_simp
              exact hK'.out _ _ rfl (Lat.refl _)
            simp only [Act.put, List.setIfInBounds_toArray, List.set_cons_zero, List.set_cons_succ, Nat.reduceAdd]
            apply RelyL.val
            · intro ν w' hL hF K hK'
              have ct := (hbx.lat hL).cell
              have cq := (hL.cell (p := ⟨b', off' + j * 2 + 1, none⟩) hbb).trans hct
              go_simp
              exact hK'.out _ _ rfl (Lat.refl _)
            simp only [Act.put, List.setIfInBounds_toArray, List.set_cons_zero, List.set_cons_succ, Nat.reduceAdd]
            apply RelyL.val
            · intro ν w' hL hF K hK'
              have ct := (hbx.lat hL).cell
              have cq := (hL.cell (p := ⟨b', off' + j * 2 + 1, none⟩) hbb).trans hct
              go_simp
              exact hK'.out _ _ rfl (Lat.refl _)
            simp only [Act.put, List.setIfInBounds_toArray, List.set_cons_zero, List.set_cons_succ, Nat.reduceAdd]
            apply RelyL.val
            · intro ν w' hL hF K hK'
              have ct := (hbx.lat hL).cell
              have cq := (hL.cell (p := ⟨b', off' + j * 2 + 1, none⟩) hbb).trans hct
              go_simp
              exact hK'.out _ _ rfl (Lat.refl _)
            simp only [Act.put, List.setIfInBounds_toArray, List.set_cons_zero, List.set_cons_succ, Nat.reduceAdd]
            refine RelyL.done fun ν w5 hL hF => ?_
            have hL5 := hLW4.trans hL
            have hown5 := hown4.lat hL
            have hbx5 := hbx.lat hL
            clear hF hL hown4 hLW4 hbx hct hbb
            have c0 := hbx5.cell 0
            have hmax : D.length + 1 ≤ maxLen := by unfold maxLen; omega
            have hby : (D.length + 1) * ES.bytes ≤ 140737488355328 := Nat.le_trans (Nat.mul_le_mul_right ES.bytes (by omega : _ ≤ 1000000)) (by decide)
            have hL6 : Lat w5 (w5.alloc (.cells #[.string t1] 9)) := Lat.al _ _
            have hbn : Blk (w5.alloc (.cells #[.string t1] 9)) w5.heap.size 9 (ES.f t1).toArray := Blk.new _ _ _
            have hown9 := hown5.lat hL6
            have HL := Lib.hid (hL5.trans hL6)
            have hLs := HL.out.size
            clear hown5 hL5 hL6 hbx5
            go_wp2_with (at_builtin; refine ES.append rfl _ _ rfl w2.heap.size _ _ rfl hown9 w5.heap.size 1 t1 rfl 9 hbn hmax hby hLs ?_; intro va wa howna hga hwa; go_must (have hLa : Lat w2 wa := HL.out.grown hga hLs (fun k hk => (hown9.lt k hk).1); clear hown9 hga hwa hbn))
            go_roundw
            case rel => exact ⟨j + 1, by omega, by go_num, by rw [HD2.out]; exact howna, hLa⟩
            case measure => simp [intOf]; omega
          · have HD2 : Hid (dueP (hp.take (j + 1)) vs now = D) := Lib.hid (by rw [HD1.out]; simp [hq])
            clear HD1
            refine wp_rely (by kernel_rfl) (by kernel_rfl) ?_
            apply RelyL.val
            · intro ν w' hL hF K hK'
              have ct := (hbx.lat hL).cell
              have cq := (hL.cell (p := ⟨b', off' + j * 2 + 1, none⟩) hbb).trans hct
              go_simp
              exact hK'.out _ _ rfl (Lat.refl _)
            simp only [Act.put, List.setIfInBounds_toArray, List.set_cons_zero, List.set_cons_succ, Nat.reduceAdd]
            apply RelyL.val
            · intro ν w' hL hF K hK'
              have ct := (hbx.lat hL).cell
              have cq := (hL.cell (p := ⟨b', off' + j * 2 + 1, none⟩) hbb).trans hct
              go_simp
              exact hK'.out _ _ rfl (Lat.refl _)
            simp only [Act.put, List.setIfInBounds_toArray, List.set_cons_zero, List.set_cons_succ, Nat.reduceAdd]
            apply RelyL.val
            · intro ν w' hL hF K hK'
              have ct := (hbx.lat hL).cell
              have cq := (hL.cell (p := ⟨b', off' + j * 2 + 1, none⟩) hbb).trans hct
              go_simp
              exact hK'.out _ _ rfl (Lat.refl _)
            simp only [Act.put, List.setIfInBounds_toArray, List.set_cons_zero, List.set_cons_succ, Nat.reduceAdd]
            apply RelyL.val
            · intro ν w' hL hF K hK'
              have ct := (hbx.lat hL).cell
              have cq := (hL.cell (p := ⟨b', off' + j * 2 + 1, none⟩) hbb).trans hct
              go_simp
              exact hK'.out _ _ rfl (Lat.refl _)
            simp only [Act.put, List.setIfInBounds_toArray, List.set_cons_zero, List.set_cons_succ, Nat.reduceAdd]
            apply RelyL.val
            · intro ν w' hL hF K hK'
              have ct := (hbx.lat hL).cell
              have cq := (hL.cell (p := ⟨b', off' + j * 2 + 1, none⟩) hbb).trans hct
              go_simp
              exact hK'.out _ _ rfl (Lat.refl _)
            simp only [Act.put, List.setIfInBounds_toArray, List.set_cons_zero, List.set_cons_succ, Nat.reduceAdd]
            apply RelyL.val
            · intro ν w' hL hF K hK'
              have ct := (hbx.lat hL).cell
              have cq := (hL.cell (p := ⟨b', off' + j * 2 + 1, none⟩) hbb).trans hct
              go_simp
              exact hK'.out _ _ rfl (Lat.refl _)
            simp only [Act.put, List.setIfInBounds_toArray, List.set_cons_zero, List.set_cons_succ, Nat.reduceAdd]
            apply RelyL.val
            · intro ν w' hL hF K hK'
              have ct := (hbx.lat hL).cell
              have cq := (hL.cell (p := ⟨b', off' + j * 2 + 1, none⟩) hbb).trans hct
              go_simp
              exact hK'.out _ _ rfl (Lat.refl _)
            simp only [Act.put, List.setIfInBounds_toArray, List.set_cons_zero, List.set_cons_succ, Nat.reduceAdd]
            apply RelyL.val
            · intro ν w' hL hF K hK'
              have ct := (hbx.lat hL).cell
              have cq := (hL.cell (p := ⟨b', off' + j * 2 + 1, none⟩) hbb).trans hct
              go_simp
              exact hK'.out _ _ rfl (Lat.refl _)
            simp only [Act.put, List.setIfInBounds_toArray, List.set_cons_zero, List.set_cons_succ, Nat.reduceAdd]
            apply RelyL.val
            · intro ν w' hL hF K hK'
              have H := HTK w'
              go_simp
              go_at_call 21
              refine H.out.mono ?_
              rintro r w'' ⟨rfl, rfl⟩
              exact hK'.out _ _ rfl (Lat.refl _)
            simp only [Act.put, List.setIfInBounds_toArray, List.set_cons_zero, List.set_cons_succ, Nat.reduceAdd]
            apply RelyL.val
            · intro ν w' hL hF K hK'
              have ct := (hbx.lat hL).cell
              have cq := (hL.cell (p := ⟨b', off' + j * 2 + 1, none⟩) hbb).trans hct
              go_simp
              exact hK'.out _ _ rfl (Lat.refl _)
            simp only [Act.put, List.setIfInBounds_toArray, List.set_cons_zero, List.set_cons_succ, Nat.reduceAdd]
            apply RelyL.val
            · intro ν w' hL hF K hK'
              have ct := (hbx.lat hL).cell
              have cq := (hL.cell (p := ⟨b', off' + j * 2 + 1, none⟩) hbb).trans hct
              go_simp
              exact hK'.out _ _ rfl (Lat.refl _)
            simp only [Act.put, List.setIfInBounds_toArray, List.set_cons_zero, List.set_cons_succ, Nat.reduceAdd]
            apply RelyL.val
            · intro ν w' hL hF K hK'
              have ct := (hbx.lat hL).cell
              have cq := (hL.cell (p := ⟨b', off' + j * 2 + 1, none⟩) hbb).trans hct
              go_simp
              exact hK'.out _ _ rfl (Lat.refl _)
            simp only [Act.put, List.setIfInBounds_toArray, List.set_cons_zero, List.set_cons_succ, Nat.reduceAdd]
            apply RelyL.val
            · intro ν w' hL hF K hK'
              have ct := (hbx.lat hL).cell
              have cq := (hL.cell (p := ⟨b', off' + j * 2 + 1, none⟩) hbb).trans hct
              go_simp
              exact hK'.out _ _ rfl (Lat.refl _)
            simp only [Act.put, List.setIfInBounds_toArray, List.set_cons_zero, List.set_cons_succ, Nat.reduceAdd]
            apply RelyL.val
            · intro ν w' hL hF K hK'
              have ct := (hbx.lat hL).cell
              have cq := (hL.cell (p := ⟨b', off' + j * 2 + 1, none⟩) hbb).trans hct
              go_simp
              exact hK'.out _ _ rfl (Lat.refl _)
            simp only [Act.put, List.setIfInBounds_toArray, List.set_cons_zero, List.set_cons_succ, Nat.reduceAdd]
            apply RelyL.val
            · intro ν w' hL hF K hK'
              have ct := (hbx.lat hL).cell
              have cq := (hL.cell (p := ⟨b', off' + j * 2 + 1, none⟩) hbb).trans hct
              go_simp
              exact hK'.out _ _ rfl (Lat.refl _)
            simp only [Act.put, List.setIfInBounds_toArray, List.set_cons_zero, List.set_cons_succ, Nat.reduceAdd]
            apply RelyL.val
            · intro ν w' hL hF K hK'
              have ct := (hbx.lat hL).cell
              have cq := (hL.cell (p := ⟨b', off' + j * 2 + 1, none⟩) hbb).trans hct
              go_simp
              exact hK'.out _ _ rfl (Lat.refl _)
            simp only [Act.put, List.setIfInBounds_toArray, List.set_cons_zero, List.set_cons_succ, Nat.reduceAdd]
            apply RelyL.val
            · intro ν w' hL hF K hK'
              have ct := (hbx.lat hL).cell
              have cq := (hL.cell (p := ⟨b', off' + j * 2 + 1, none⟩) hbb).trans hct
              go_simp
              exact hK'.out _ _ rfl (Lat.refl _)
            simp only [Act.put, List.setIfInBounds_toArray, List.set_cons_zero, List.set_cons_succ, Nat.reduceAdd]
            apply RelyL.val
            · intro ν w' hL hF K hK'
              have ct := (hbx.lat hL).cell
              have cq := (hL.cell (p := ⟨b', off' + j * 2 + 1, none⟩) hbb).trans hct
              go_simp
              exact hK'.out _ _ rfl (Lat.refl _)
            simp only [Act.put, List.setIfInBounds_toArray, List.set_cons_zero, List.set_cons_succ, Nat.reduceAdd]
            apply RelyL.val
            · intro ν w' hL hF K hK'
              have ct := (hbx.lat hL).cell
              have cq := (hL.cell (p := ⟨b', off' + j * 2 + 1, none⟩) hbb).trans hct
              go_simp
              exact hK'.out _ _ rfl (Lat.refl _)
            simp only [Act.put, List.setIfInBounds_toArray, List.set_cons_zero, List.set_cons_succ, Nat.reduceAdd]
            refine RelyL.done fun ν w5 hL hF => ?_
            have hL5 := hLW4.trans hL
            have hown5 := hown4.lat hL
            have hbx5 := hbx.lat hL
            clear hF hL hown4 hLW4 hbx hct hbb
            go_wp2_with fail
            go_roundw
            case rel => exact ⟨j + 1, by omega, by go_num, by rw [HD2.out]; exact hown5, hL5⟩
            case measure => simp [intOf]; omega
        · have HD2 : Hid (dueP (hp.take (j + 1)) vs now = D) := Lib.hid (by rw [HD1.out]; simp)
          clear HD1
          refine wp_rely (by kernel_rfl) (by kernel_rfl) ?_
          apply RelyL.val
          · intro ν w' hL hF K hK'
            have ct := (hbx.lat hL).cell
            have cq := (hL.cell (p := ⟨b', off' + j * 2 + 1, none⟩) hbb).trans hct
            go_simp
            exact hK'.out _ _ rfl (Lat.refl _)
          simp only [Act.put, List.setIfInBounds_toArray, List.set_cons_zero, List.set_cons_succ, Nat.reduceAdd]
          apply RelyL.val
          · intro ν w' hL hF K hK'
            have ct := (hbx.lat hL).cell
            have cq := (hL.cell (p := ⟨b', off' + j * 2 + 1, none⟩) hbb).trans hct
            go_simp
            exact hK'.out _ _ rfl (Lat.refl _)
          simp only [Act.put, List.setIfInBounds_toArray, List.set_cons_zero, List.set_cons_succ, Nat.reduceAdd]
          apply RelyL.val
          · intro ν w' hL hF K hK'
            have ct := (hbx.lat hL).cell
            have cq := (hL.cell (p := ⟨b', off' + j * 2 + 1, none⟩) hbb).trans hct
            go_simp
            exact hK'.out _ _ rfl (Lat.refl _)
          simp only [Act.put, List.setIfInBounds_toArray, List.set_cons_zero, List.set_cons_succ, Nat.reduceAdd]
          apply RelyL.val
          · intro ν w' hL hF K hK'
            have ct := (hbx.lat hL).cell
            have cq := (hL.cell (p := ⟨b', off' + j * 2 + 1, none⟩) hbb).trans hct
            go_simp
            exact hK'.out _ _ rfl (Lat.refl _)
          simp only [Act.put, List.setIfInBounds_toArray, List.set_cons_zero, List.set_cons_succ, Nat.reduceAdd]
          apply RelyL.val
          · intro ν w' hL hF K hK'
            have ct := (hbx.lat hL).cell
            have cq := (hL.cell (p := ⟨b', off' + j * 2 + 1, none⟩) hbb).trans hct
            go_simp
            exact hK'.out _ _ rfl (Lat.refl _)
          simp only [Act.put, List.setIfInBounds_toArray, List.set_cons_zero, List.set_cons_succ, Nat.reduceAdd]
          apply RelyL.val
          · intro ν w' hL hF K hK'
            have ct := (hbx.lat hL).cell
            have cq := (hL.cell (p := ⟨b', off' + j * 2 + 1, none⟩) hbb).trans hct
            go_simp
            exact hK'.out _ _ rfl (Lat.refl _)
          simp only [Act.put, List.setIfInBounds_toArray, List.set_cons_zero, List.set_cons_succ, Nat.reduceAdd]
          apply RelyL.val
          · intro ν w' hL hF K hK'
            have ct := (hbx.lat hL).cell
            have cq := (hL.cell (p := ⟨b', off' + j * 2 + 1, none⟩) hbb).trans hct
            go_simp
            exact hK'.out _ _ rfl (Lat.refl _)
          simp only [Act.put, List.setIfInBounds_toArray, List.set_cons_zero, List.set_cons_succ, Nat.reduceAdd]
          apply RelyL.val
          · intro ν w' hL hF K hK'
            refine skip_op rfl ?_
            exact hK'.out _ _ rfl (Lat.refl _)
          simp only [Act.put, List.setIfInBounds_toArray, List.set_cons_zero, List.set_cons_succ, Nat.reduceAdd]
          apply RelyL.val
          · intro ν w' hL hF K hK'
            refine skip_op rfl ?_
            exact hK'.out _ _ rfl (Lat.refl _)
          simp only [Act.put, List.setIfInBounds_toArray, List.set_cons_zero, List.set_cons_succ, Nat.reduceAdd]
          apply RelyL.val
          · intro ν w' hL hF K hK'
            refine skip_op rfl ?_
            exact hK'.out _ _ rfl (Lat.refl _)
          simp only [Act.put, List.setIfInBounds_toArray, List.set_cons_zero, List.set_cons_succ, Nat.reduceAdd]
          apply RelyL.val
          · intro ν w' hL hF K hK'
            refine skip_op rfl ?_
            exact hK'.out _ _ rfl (Lat.refl _)
          simp only [Act.put, List.setIfInBounds_toArray, List.set_cons_zero, List.set_cons_succ, Nat.reduceAdd]
          apply RelyL.val
          · intro ν w' hL hF K hK'
            refine skip_op rfl ?_
            exact hK'.out _ _ rfl (Lat.refl _)
          simp only [Act.put, List.setIfInBounds_toArray, List.set_cons_zero, List.set_cons_succ, Nat.reduceAdd]
          apply RelyL.val
          · intro ν w' hL hF K hK'
            refine skip_op rfl ?_
            exact hK'.out _ _ rfl (Lat.refl _)
          simp only [Act.put, List.setIfInBounds_toArray, List.set_cons_zero, List.set_cons_succ, Nat.reduceAdd]
          apply RelyL.val
          · intro ν w' hL hF K hK'
            refine skip_op rfl ?_
            exact hK'.out _ _ rfl (Lat.refl _)
          simp only [Act.put, List.setIfInBounds_toArray, List.set_cons_zero, List.set_cons_succ, Nat.reduceAdd]
          apply RelyL.val
          · intro ν w' hL hF K hK'
            refine skip_op rfl ?_
            exact hK'.out _ _ rfl (Lat.refl _)
          simp only [Act.put, List.setIfInBounds_toArray, List.set_cons_zero, List.set_cons_succ, Nat.reduceAdd]
          apply RelyL.val
          · intro ν w' hL hF K hK'
            refine skip_op rfl ?_
            exact hK'.out _ _ rfl (Lat.refl _)
          simp only [Act.put, List.setIfInBounds_toArray, List.set_cons_zero, List.set_cons_succ, Nat.reduceAdd]
          apply RelyL.val
          · intro ν w' hL hF K hK'
            refine skip_op rfl ?_
            exact hK'.out _ _ rfl (Lat.refl _)
          simp only [Act.put, List.setIfInBounds_toArray, List.set_cons_zero, List.set_cons_succ, Nat.reduceAdd]
          apply RelyL.val
          · intro ν w' hL hF K hK'
            refine skip_op rfl ?_
            exact hK'.out _ _ rfl (Lat.refl _)
          simp only [Act.put, List.setIfInBounds_toArray, List.set_cons_zero, List.set_cons_succ, Nat.reduceAdd]
          apply RelyL.val
          · intro ν w' hL hF K hK'
            have ct := (hbx.lat hL).cell
            have cq := (hL.cell (p := ⟨b', off' + j * 2 + 1, none⟩) hbb).trans hct
            go_simp
            exact hK'.out _ _ rfl (Lat.refl _)
          simp only [Act.put, List.setIfInBounds_toArray, List.set_cons_zero, List.set_cons_succ, Nat.reduceAdd]
          refine RelyL.done fun ν w5 hL hF => ?_
          have hL5 := hLW4.trans hL
          have hown5 := hown4.lat hL
          have hbx5 := hbx.lat hL
          clear hF hL hown4 hLW4 hbx hct hbb
          go_wp2_with fail
          go_roundw
          case rel => exact ⟨j + 1, by omega, by go_num, by rw [HD2.out]; exact hown5, hL5⟩
          case measure => simp [intOf]; omega
    · have hj : j = hs.length := by omega
      subst hj
      rw [← HFU.out] at hown
      have hL := hL2.trans hLW
      clear HTK HFI HRN HDT HDL HFU HX HL2
      go_wp2_with fail
      go_ret
      exact ⟨⟨_, rfl, hown.rd⟩, hL⟩
end Go.Proofs.Ytafodibbcfoclaa
