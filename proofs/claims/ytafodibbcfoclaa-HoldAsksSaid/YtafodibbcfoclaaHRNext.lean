/- Hold: the reference's Next. -/
import Derived.Test.YtafodibbcfoclaaHRHolds
import Derived.Test.YtafodibbcfoclaaHRFind
import Derived.Test.YtafodibbcfoclaaHRMark
import Derived.Test.YtafodibbcfoclaaHNext
set_option linter.unusedSimpArgs false
set_option linter.unusedVariables false
namespace Go.Proofs.Ytafodibbcfoclaa
open Go.RowKit

set_option maxRecDepth 100000 in
set_option maxHeartbeats 4000000 in
theorem rnext_any (l : List LTim) (A : Option Addr) (c : Nat) (ps : List RP) (B : Option Addr) (m : Nat) (w : World) (hx : RdT w l (.slice A l.length c)) (hy : RdR w ps (.slice B ps.length m)) (hl : ps.length ≤ 1000) (hon : ∀ p ∈ ps, p.2.on.length ≤ 1000000) :
    Calls Try.prog 11 #[.slice A l.length c, .slice B ps.length m] w fun r w' => r = .returned (.tuple #[.int .i64 (nextP (holdsP ps) (validP l)).1, .bool (nextP (holdsP ps) (validP l)).2]) ∧ Lat w w' := by
  have HV := Lib.hid (rsane_any l A c w hx.1)
  have HHO := fun (w' : World) (h : Lat w w') => Lib.hid (rholds_any ps B m w' (hy.lat h) hl hon)
  have HFI := fun (A1 : Option Addr) (c1 : Nat) (s : ByteArray) (w' : World) (h : ET.Rd w' (validP l) (.slice A1 (validP l).length c1)) => Lib.hid (rfind_any (validP l) A1 c1 s w' h (by have := validP_len l; omega))
  have HRN : Hid (∀ s, 0 ≤ (tmOf (validP l) s).since ∧ (tmOf (validP l) s).since ≤ MT) := Lib.hid (fun s => tmOf_rng (validP_ok l) s)
  have HTR : Hid (∀ (j : Nat) (h : j < (holdsP ps).length), 0 ≤ (holdsP ps)[j].2 ∧ (holdsP ps)[j].2 ≤ MT) := Lib.hid (fun j h => trg_range (holdsP_mem (List.getElem_mem h)).2)
  have HDT := fun j h => Lib.hid (nextP_take (holdsP ps) (validP l) j h)
  have HFU : Hid (nextP (holdsP ps) (validP l) = nextP ((holdsP ps).take (holdsP ps).length) (validP l)) := Lib.hid (by rw [List.take_length])
  have H00 : Hid (nextP ((holdsP ps).take 0) (validP l) = (0, false)) := Lib.hid rfl
  have HHL : Hid ((holdsP ps).length ≤ 40) := Lib.hid (holdsP_len ps)
  generalize nextP (holdsP ps) (validP l) = R at *
  obtain ⟨R1, R2⟩ := R
  generalize hVS : validP l = vs at *
  generalize hHP : holdsP ps = hp at *
  clear hVS hx
  go_enter Try.func11, Try.ntmps11
  go_wp2_with fail
  refine HV.out.mono ?_
  rintro r w1 ⟨⟨v1, rfl, hrd1⟩, hl1⟩
  obtain ⟨A1, c1, rfl⟩ := rd_slice hrd1
  have HHO1 := HHO w1 hl1
  clear HV HHO
  go_wp2_with fail
  refine HHO1.out.mono ?_
  rintro r w2 ⟨⟨hs, v2, rfl, hrd2, hat, hlt2⟩, hl2⟩
  obtain ⟨A2, c2, rfl⟩ := rd_slice hrd2
  have hL2 := hl1.trans hl2
  have hrd1' := hrd1.lat hl2
  have hln : hp.length = hs.length := by rw [← hHP, ← hat, List.length_map]
  have HX : Hid (∀ (j : Nat) (h : j < hs.length) (h' : j < hp.length) (hq : hs[j].1 < ps.length), hp[j] = (ps[hs[j].1], hs[j].2)) := Lib.hid (fun j h h' hq => by
    have e : hp = hs.map (atP ps) := by rw [← hHP, ← hat]
    subst e
    rw [List.getElem_map, atP_is hq])
  have HL2 := Lib.hid hlt2
  have hhl := HHL.out
  rw [hln] at hhl HFU
  clear HHO1 hrd1 hl1 hl2 hat hlt2 hHP HHL
  go_wp2_with fail
  go_loopw [7, 8, 18] (fun bv fv i wr => ∃ (j : Nat) (sb : Int) (sf : Bool), j ≤ hs.length ∧ i = .int .i64 j ∧ bv = .int .i64 sb ∧ fv = .bool sf ∧ Hid (nextP (hp.take j) vs = (sb, sf)) ∧ Lat w2 wr) (fun _ _ i _ => hs.length - (intOf i).toNat)
  case atStart => exact ⟨0, 0, false, Nat.zero_le _, rfl, rfl, rfl, H00, Lat.refl _⟩
  case round =>
    clear H00
    obtain ⟨j, sb, sf, hjl, rfl, rfl, rfl, HS, hLW⟩ := hrel
    by_cases hlt : j < hs.length
    · have hjp : j < hp.length := by omega
      have hql := HL2.out _ (List.getElem_mem hlt)
      have HXJ := Lib.hid (HX.out j hlt hjp hql)
      have HD1 := HDT j hjp
      have htr := HTR.out j hjp
      rw [HXJ.out] at htr
      rw [HXJ.out, HS.out] at HD1
      obtain ⟨b', off', hA2, hbb, hrow'⟩ := (hrd2.lat hLW).row j hlt
      subst hA2
      have hrow : RowAt wr b' (off' + j * 2) [.int .i64 (hs[j].1 : Int), .int .i64 hs[j].2] := hrow'
      have hro : wr.cell? ⟨b', off' + j * 2, none⟩ = some (.int .i64 (hs[j].1 : Int)) := hrow 0 _ rfl
      have hct0 : wr.cell? ⟨b', off' + j * 2 + 1, none⟩ = some (.int .i64 hs[j].2) := hrow 1 _ rfl
      obtain ⟨b, off, hB, hb0, hr1, -⟩ := (hy.lat (hL2.trans hLW)).row hs[j].1 hql
      subst hB
      have hcn : wr.cell? ⟨b, off + hs[j].1 * 15, none⟩ = some (.string (ps[hs[j].1]'hql).1.name) := hr1 0 _ rfl
      have HDE : Hid (nx vs (sb, sf) (ps[hs[j].1]'hql, hs[j].2) = if (findT vs (ps[hs[j].1]'hql).1.name).isSome && !(tmOf vs (ps[hs[j].1]'hql).1.name).fired then (if !sf || decide ((tmOf vs (ps[hs[j].1]'hql).1.name).since + hs[j].2 < sb) then ((tmOf vs (ps[hs[j].1]'hql).1.name).since + hs[j].2, true) else (sb, sf)) else (sb, sf)) := Lib.hid rfl
      have HFI1 := HFI A1 c1 (ps[hs[j].1]'hql).1.name wr (hrd1'.lat hLW)
      have hrn := HRN.out (ps[hs[j].1]'hql).1.name
      have hqi : (hs[j].1 : Int) < ps.length := by omega
      have hji : (j : Int) < hs.length := by omega
      unfold MT at hrn htr
      clear hrow hrow' hr1 HX HXJ HDT HL2 HFI HRN HTR HS hrd1' hrd2 hy hon HFU
      rw [HDE.out] at HD1
      clear HDE
      generalize (ps[hs[j].1]'hql).1.name = NM at *
      generalize hs[j] = q at *
      obtain ⟨q1, q2⟩ := q
      dsimp only at hro hct0 hcn HD1 hqi htr
      generalize findT vs NM = F at *
      generalize tmOf vs NM = T at *
      obtain ⟨t1, t2, t3⟩ := T
      simp only [tC] at HFI1
      dsimp only at HD1 hrn
      obtain ⟨r1, r2⟩ := hrn
      obtain ⟨r3, r4⟩ := htr
      have hw : IntKind.i64.wrap (t2 + q2) = t2 + q2 := by rw [IntKind.wrap_i64]; omega
      go_wp2_with fail
      refine HFI1.out.mono ?_
      rintro r w3 ⟨rfl, hl3⟩
      have hLb : Lat w3 (w3.alloc (.cells #[.string t1, .int .i64 t2, .bool t3] 56)) := Lat.al _ _
      have hbx := Blk.new w3 56 #[.string t1, .int .i64 t2, .bool t3]
      have hct : (w3.alloc (.cells #[.string t1, .int .i64 t2, .bool t3] 56)).cell? ⟨b', off' + j * 2 + 1, none⟩ = some (.int .i64 q2) := ((hl3.trans hLb).cell (p := ⟨b', off' + j * 2 + 1, none⟩) hbb).trans hct0
      have hLW4 := hLW.trans (hl3.trans hLb)
      have hbb := Nat.lt_of_lt_of_le hbb (hl3.trans hLb).size
      clear HFI1 hLW hl3 hLb hct0 hro hcn hb0
      go_upto_region 8 with fail
      generalize w3.alloc (.cells #[.string t1, .int .i64 t2, .bool t3] 56) = w4 at *
      generalize w3.heap.size = g at *
      cases hF : F.isSome
      · rw [hF] at HD1
        have HD2 : Hid (nextP (hp.take (j + 1)) vs = (sb, sf)) := Lib.hid (by rw [HD1.out]; simp)
        clear HD1
        refine wp_rely (by kernel_rfl) (by kernel_rfl) ?_
        apply RelyL.val
        · intro ν w' hL hF K hK'
          have ct := (hbx.lat hL).cell
          have cq := (hL.cell (p := ⟨b', off' + j * 2 + 1, none⟩) hbb).trans hct
          go_simp
          exact hK'.out _ _ rfl (Lat.refl _)
        simp only [Act.put, List.setIfInBounds_toArray, List.set_cons_zero, List.set_cons_succ, Nat.reduceAdd]
        apply RelyL.val
        · intro ν w' hL hF K hK'
          have ct := (hbx.lat hL).cell
          have cq := (hL.cell (p := ⟨b', off' + j * 2 + 1, none⟩) hbb).trans hct
          go_simp
          exact hK'.out _ _ rfl (Lat.refl _)
        simp only [Act.put, List.setIfInBounds_toArray, List.set_cons_zero, List.set_cons_succ, Nat.reduceAdd]
        apply RelyL.val
        · intro ν w' hL hF K hK'
          refine skip_op rfl ?_
          exact hK'.out _ _ rfl (Lat.refl _)
        simp only [Act.put, List.setIfInBounds_toArray, List.set_cons_zero, List.set_cons_succ, Nat.reduceAdd]
        apply RelyL.val
        · intro ν w' hL hF K hK'
          refine skip_op rfl ?_
          exact hK'.out _ _ rfl (Lat.refl _)
        simp only [Act.put, List.setIfInBounds_toArray, List.set_cons_zero, List.set_cons_succ, Nat.reduceAdd]
        apply RelyL.val
        · intro ν w' hL hF K hK'
          refine skip_op rfl ?_
          exact hK'.out _ _ rfl (Lat.refl _)
        simp only [Act.put, List.setIfInBounds_toArray, List.set_cons_zero, List.set_cons_succ, Nat.reduceAdd]
        apply RelyL.val
        · intro ν w' hL hF K hK'
          have ct := (hbx.lat hL).cell
          have cq := (hL.cell (p := ⟨b', off' + j * 2 + 1, none⟩) hbb).trans hct
          go_simp
          exact hK'.out _ _ rfl (Lat.refl _)
        simp only [Act.put, List.setIfInBounds_toArray, List.set_cons_zero, List.set_cons_succ, Nat.reduceAdd]
        apply RelyL.val
        · intro ν w' hL hF K hK'
          have ct := (hbx.lat hL).cell
          have cq := (hL.cell (p := ⟨b', off' + j * 2 + 1, none⟩) hbb).trans hct
          go_simp
          exact hK'.out _ _ rfl (Lat.refl _)
        simp only [Act.put, List.setIfInBounds_toArray, List.set_cons_zero, List.set_cons_succ, Nat.reduceAdd]
        apply RelyL.val
        · intro ν w' hL hF K hK'
          refine skip_op rfl ?_
          exact hK'.out _ _ rfl (Lat.refl _)
        simp only [Act.put, List.setIfInBounds_toArray, List.set_cons_zero, List.set_cons_succ, Nat.reduceAdd]
        apply RelyL.val
        · intro ν w' hL hF K hK'
          refine skip_op rfl ?_
          exact hK'.out _ _ rfl (Lat.refl _)
        simp only [Act.put, List.setIfInBounds_toArray, List.set_cons_zero, List.set_cons_succ, Nat.reduceAdd]
        apply RelyL.val
        · intro ν w' hL hF K hK'
          refine skip_op rfl ?_
          exact hK'.out _ _ rfl (Lat.refl _)
        simp only [Act.put, List.setIfInBounds_toArray, List.set_cons_zero, List.set_cons_succ, Nat.reduceAdd]
        apply RelyL.val
        · intro ν w' hL hF K hK'
          refine skip_op rfl ?_
          exact hK'.out _ _ rfl (Lat.refl _)
        simp only [Act.put, List.setIfInBounds_toArray, List.set_cons_zero, List.set_cons_succ, Nat.reduceAdd]
        apply RelyL.val
        · intro ν w' hL hF K hK'
          refine skip_op rfl ?_
          exact hK'.out _ _ rfl (Lat.refl _)
        simp only [Act.put, List.setIfInBounds_toArray, List.set_cons_zero, List.set_cons_succ, Nat.reduceAdd]
        apply RelyL.val
        · intro ν w' hL hF K hK'
          refine skip_op rfl ?_
          exact hK'.out _ _ rfl (Lat.refl _)
        simp only [Act.put, List.setIfInBounds_toArray, List.set_cons_zero, List.set_cons_succ, Nat.reduceAdd]
        apply RelyL.val
        · intro ν w' hL hF K hK'
          refine skip_op rfl ?_
          exact hK'.out _ _ rfl (Lat.refl _)
        simp only [Act.put, List.setIfInBounds_toArray, List.set_cons_zero, List.set_cons_succ, Nat.reduceAdd]
        apply RelyL.val
        · intro ν w' hL hF K hK'
          refine skip_op rfl ?_
          exact hK'.out _ _ rfl (Lat.refl _)
        simp only [Act.put, List.setIfInBounds_toArray, List.set_cons_zero, List.set_cons_succ, Nat.reduceAdd]
        apply RelyL.val
        · intro ν w' hL hF K hK'
          refine skip_op rfl ?_
          exact hK'.out _ _ rfl (Lat.refl _)
        simp only [Act.put, List.setIfInBounds_toArray, List.set_cons_zero, List.set_cons_succ, Nat.reduceAdd]
        apply RelyL.val
        · intro ν w' hL hF K hK'
          refine skip_op rfl ?_
          exact hK'.out _ _ rfl (Lat.refl _)
        simp only [Act.put, List.setIfInBounds_toArray, List.set_cons_zero, List.set_cons_succ, Nat.reduceAdd]
        apply RelyL.val
        · intro ν w' hL hF K hK'
          refine skip_op rfl ?_
          exact hK'.out _ _ rfl (Lat.refl _)
        simp only [Act.put, List.setIfInBounds_toArray, List.set_cons_zero, List.set_cons_succ, Nat.reduceAdd]
        apply RelyL.val
        · intro ν w' hL hF K hK'
          refine skip_op rfl ?_
          exact hK'.out _ _ rfl (Lat.refl _)
        simp only [Act.put, List.setIfInBounds_toArray, List.set_cons_zero, List.set_cons_succ, Nat.reduceAdd]
        apply RelyL.val
        · intro ν w' hL hF K hK'
          refine skip_op rfl ?_
          exact hK'.out _ _ rfl (Lat.refl _)
        simp only [Act.put, List.setIfInBounds_toArray, List.set_cons_zero, List.set_cons_succ, Nat.reduceAdd]
        apply RelyL.val
        · intro ν w' hL hF K hK'
          refine skip_op rfl ?_
          exact hK'.out _ _ rfl (Lat.refl _)
        simp only [Act.put, List.setIfInBounds_toArray, List.set_cons_zero, List.set_cons_succ, Nat.reduceAdd]
        apply RelyL.val
        · intro ν w' hL hF K hK'
          have ct := (hbx.lat hL).cell
          have cq := (hL.cell (p := ⟨b', off' + j * 2 + 1, none⟩) hbb).trans hct
          go_simp
          exact hK'.out _ _ rfl (Lat.refl _)
        simp only [Act.put, List.setIfInBounds_toArray, List.set_cons_zero, List.set_cons_succ, Nat.reduceAdd]
        refine RelyL.done fun ν w5 hL hF => ?_
        have hL5 := hLW4.trans hL
        clear hF hL hLW4 hbx hct hbb
        go_wp2_with fail
        go_roundw
        case rel => exact ⟨j + 1, sb, sf, by omega, by go_num, rfl, rfl, HD2, hL5⟩
        case measure => simp [intOf]; omega
      · rw [hF] at HD1
        cases t3
        · cases sf
          · have HD2 : Hid (nextP (hp.take (j + 1)) vs = (t2 + q2, true)) := Lib.hid (by rw [HD1.out]; simp)
            clear HD1
            refine wp_rely (by kernel_rfl) (by kernel_rfl) ?_
            apply RelyL.val
            · intro ν w' hL hF K hK'
              have ct := (hbx.lat hL).cell
              have cq := (hL.cell (p := ⟨b', off' + j * 2 + 1, none⟩) hbb).trans hct
              go_simp
              exact hK'.out _ _ rfl (Lat.refl _)
            simp only [Act.put, List.setIfInBounds_toArray, List.set_cons_zero, List.set_cons_succ, Nat.reduceAdd]
            apply RelyL.val
            · intro ν w' hL hF K hK'
              have ct := (hbx.lat hL).cell
              have cq := (hL.cell (p := ⟨b', off' + j * 2 + 1, none⟩) hbb).trans hct
              go_simp
              exact hK'.out _ _ rfl (Lat.refl _)
            simp only [Act.put, List.setIfInBounds_toArray, List.set_cons_zero, List.set_cons_succ, Nat.reduceAdd]
            apply RelyL.val
            · intro ν w' hL hF K hK'
              have ct := (hbx.lat hL).cell
              have cq := (hL.cell (p := ⟨b', off' + j * 2 + 1, none⟩) hbb).trans hct
              go_simp
              exact hK'.out _ _ rfl (Lat.refl _)
            simp only [Act.put, List.setIfInBounds_toArray, List.set_cons_zero, List.set_cons_succ, Nat.reduceAdd]
            apply RelyL.val
            · intro ν w' hL hF K hK'
              have ct := (hbx.lat hL).cell
              have cq := (hL.cell (p := ⟨b', off' + j * 2 + 1, none⟩) hbb).trans hct
              go_simp
              exact hK'.out _ _ rfl (Lat.refl _)
            simp only [Act.put, List.setIfInBounds_toArray, List.set_cons_zero, List.set_cons_succ, Nat.reduceAdd]
            apply RelyL.val
            · intro ν w' hL hF K hK'
              have ct := (hbx.lat hL).cell
              have cq := (hL.cell (p := ⟨b', off' + j * 2 + 1, none⟩) hbb).trans hct
              go_simp
              exact hK'.out _ _ rfl (Lat.refl _)
            simp only [Act.put, List.setIfInBounds_toArray, List.set_cons_zero, List.set_cons_succ, Nat.reduceAdd]
            apply RelyL.val
            · intro ν w' hL hF K hK'
              have ct := (hbx.lat hL).cell
              have cq := (hL.cell (p := ⟨b', off' + j * 2 + 1, none⟩) hbb).trans hct
              go_simp
              exact hK'.out _ _ rfl (Lat.refl _)
            simp only [Act.put, List.setIfInBounds_toArray, List.set_cons_zero, List.set_cons_succ, Nat.reduceAdd]
            apply RelyL.val
            · intro ν w' hL hF K hK'
              have ct := (hbx.lat hL).cell
              have cq := (hL.cell (p := ⟨b', off' + j * 2 + 1, none⟩) hbb).trans hct
              go_simp
              exact hK'.out _ _ rfl (Lat.refl _)
            simp only [Act.put, List.setIfInBounds_toArray, List.set_cons_zero, List.set_cons_succ, Nat.reduceAdd]
            apply RelyL.val
            · intro ν w' hL hF K hK'
              have ct := (hbx.lat hL).cell
              have cq := (hL.cell (p := ⟨b', off' + j * 2 + 1, none⟩) hbb).trans hct
              go_simp
              exact hK'.out _ _ rfl (Lat.refl _)
            simp only [Act.put, List.setIfInBounds_toArray, List.set_cons_zero, List.set_cons_succ, Nat.reduceAdd]
            apply RelyL.val
            · intro ν w' hL hF K hK'
              have ct := (hbx.lat hL).cell
              have cq := (hL.cell (p := ⟨b', off' + j * 2 + 1, none⟩) hbb).trans hct
              go_simp
              exact hK'.out _ _ rfl (Lat.refl _)
            simp only [Act.put, List.setIfInBounds_toArray, List.set_cons_zero, List.set_cons_succ, Nat.reduceAdd]
            apply RelyL.val
            · intro ν w' hL hF K hK'
              have ct := (hbx.lat hL).cell
              have cq := (hL.cell (p := ⟨b', off' + j * 2 + 1, none⟩) hbb).trans hct
              go_simp
              exact hK'.out _ _ rfl (Lat.refl _)
            simp only [Act.put, List.setIfInBounds_toArray, List.set_cons_zero, List.set_cons_succ, Nat.reduceAdd]
            apply RelyL.val
            · intro ν w' hL hF K hK'
              refine skip_op rfl ?_
              exact hK'.out _ _ rfl (Lat.refl _)
            simp only [Act.put, List.setIfInBounds_toArray, List.set_cons_zero, List.set_cons_succ, Nat.reduceAdd]
            apply RelyL.val
            · intro ν w' hL hF K hK'
              refine skip_op rfl ?_
              exact hK'.out _ _ rfl (Lat.refl _)
            simp only [Act.put, List.setIfInBounds_toArray, List.set_cons_zero, List.set_cons_succ, Nat.reduceAdd]
            apply RelyL.val
            · intro ν w' hL hF K hK'
              refine skip_op rfl ?_
              exact hK'.out _ _ rfl (Lat.refl _)
            simp only [Act.put, List.setIfInBounds_toArray, List.set_cons_zero, List.set_cons_succ, Nat.reduceAdd]
            apply RelyL.val
            · intro ν w' hL hF K hK'
              refine skip_op rfl ?_
              exact hK'.out _ _ rfl (Lat.refl _)
            simp only [Act.put, List.setIfInBounds_toArray, List.set_cons_zero, List.set_cons_succ, Nat.reduceAdd]
            apply RelyL.val
            · intro ν w' hL hF K hK'
              refine skip_op rfl ?_
              exact hK'.out _ _ rfl (Lat.refl _)
            simp only [Act.put, List.setIfInBounds_toArray, List.set_cons_zero, List.set_cons_succ, Nat.reduceAdd]
            apply RelyL.val
            · intro ν w' hL hF K hK'
              refine skip_op rfl ?_
              exact hK'.out _ _ rfl (Lat.refl _)
            simp only [Act.put, List.setIfInBounds_toArray, List.set_cons_zero, List.set_cons_succ, Nat.reduceAdd]
            apply RelyL.val
            · intro ν w' hL hF K hK'
              refine skip_op rfl ?_
              exact hK'.out _ _ rfl (Lat.refl _)
            simp only [Act.put, List.setIfInBounds_toArray, List.set_cons_zero, List.set_cons_succ, Nat.reduceAdd]
            apply RelyL.val
            · intro ν w' hL hF K hK'
              refine skip_op rfl ?_
              exact hK'.out _ _ rfl (Lat.refl _)
            simp only [Act.put, List.setIfInBounds_toArray, List.set_cons_zero, List.set_cons_succ, Nat.reduceAdd]
            apply RelyL.val
            · intro ν w' hL hF K hK'
              refine skip_op rfl ?_
              exact hK'.out _ _ rfl (Lat.refl _)
            simp only [Act.put, List.setIfInBounds_toArray, List.set_cons_zero, List.set_cons_succ, Nat.reduceAdd]
            apply RelyL.val
            · intro ν w' hL hF K hK'
              refine skip_op rfl ?_
              exact hK'.out _ _ rfl (Lat.refl _)
            simp only [Act.put, List.setIfInBounds_toArray, List.set_cons_zero, List.set_cons_succ, Nat.reduceAdd]
            apply RelyL.val
            · intro ν w' hL hF K hK'
              have ct := (hbx.lat hL).cell
              have cq := (hL.cell (p := ⟨b', off' + j * 2 + 1, none⟩) hbb).trans hct
              go_simp
              exact hK'.out _ _ rfl (Lat.refl _)
            simp only [Act.put, List.setIfInBounds_toArray, List.set_cons_zero, List.set_cons_succ, Nat.reduceAdd]
            apply RelyL.val
            · intro ν w' hL hF K hK'
              have ct := (hbx.lat hL).cell
              have cq := (hL.cell (p := ⟨b', off' + j * 2 + 1, none⟩) hbb).trans hct
              go_simp
              exact hK'.out _ _ rfl (Lat.refl _)
            simp only [Act.put, List.setIfInBounds_toArray, List.set_cons_zero, List.set_cons_succ, Nat.reduceAdd]
            refine RelyL.done fun ν w5 hL hF => ?_
            have hL5 := hLW4.trans hL
            have hbx5 := hbx.lat hL
            have hct5 := (hL.cell (p := ⟨b', off' + j * 2 + 1, none⟩) hbb).trans hct
            have hbb5 := Nat.lt_of_lt_of_le hbb hL.size
            clear hF hL hLW4 hbx hct hbb
            go_upto_region 9 with fail
            have hbx := hbx5
            have hct := hct5
            have hbb := hbb5
            have hLW4 := hL5
            clear hbx5 hct5 hbb5 hL5
            refine wp_rely (by kernel_rfl) (by kernel_rfl) ?_
            apply RelyL.val
            · intro ν w' hL hF K hK'
              have ct := (hbx.lat hL).cell
              have cq := (hL.cell (p := ⟨b', off' + j * 2 + 1, none⟩) hbb).trans hct
              go_simp
              exact hK'.out _ _ rfl (Lat.refl _)
            simp only [Act.put, List.setIfInBounds_toArray, List.set_cons_zero, List.set_cons_succ, Nat.reduceAdd]
            apply RelyL.val
            · intro ν w' hL hF K hK'
              have ct := (hbx.lat hL).cell
              have cq := (hL.cell (p := ⟨b', off' + j * 2 + 1, none⟩) hbb).trans hct
              go_simp
              exact hK'.out _ _ rfl (Lat.refl _)
            simp only [Act.put, List.setIfInBounds_toArray, List.set_cons_zero, List.set_cons_succ, Nat.reduceAdd]
            apply RelyL.val
            · intro ν w' hL hF K hK'
              have ct := (hbx.lat hL).cell
              have cq := (hL.cell (p := ⟨b', off' + j * 2 + 1, none⟩) hbb).trans hct
              go_simp
              exact hK'.out _ _ rfl (Lat.refl _)
            simp only [Act.put, List.setIfInBounds_toArray, List.set_cons_zero, List.set_cons_succ, Nat.reduceAdd]
            apply RelyL.val
            · intro ν w' hL hF K hK'
              have ct := (hbx.lat hL).cell
              have cq := (hL.cell (p := ⟨b', off' + j * 2 + 1, none⟩) hbb).trans hct
              go_simp
              exact hK'.out _ _ rfl (Lat.refl _)
            simp only [Act.put, List.setIfInBounds_toArray, List.set_cons_zero, List.set_cons_succ, Nat.reduceAdd]
            apply RelyL.val
            · intro ν w' hL hF K hK'
              have ct := (hbx.lat hL).cell
              have cq := (hL.cell (p := ⟨b', off' + j * 2 + 1, none⟩) hbb).trans hct
              go_simp
              exact hK'.out _ _ rfl (Lat.refl _)
            simp only [Act.put, List.setIfInBounds_toArray, List.set_cons_zero, List.set_cons_succ, Nat.reduceAdd]
            apply RelyL.val
            · intro ν w' hL hF K hK'
              have ct := (hbx.lat hL).cell
              have cq := (hL.cell (p := ⟨b', off' + j * 2 + 1, none⟩) hbb).trans hct
              go_simp
              exact hK'.out _ _ rfl (Lat.refl _)
            simp only [Act.put, List.setIfInBounds_toArray, List.set_cons_zero, List.set_cons_succ, Nat.reduceAdd]
            apply RelyL.val
            · intro ν w' hL hF K hK'
              have ct := (hbx.lat hL).cell
              have cq := (hL.cell (p := ⟨b', off' + j * 2 + 1, none⟩) hbb).trans hct
              go_simp
              exact hK'.out _ _ rfl (Lat.refl _)
            simp only [Act.put, List.setIfInBounds_toArray, List.set_cons_zero, List.set_cons_succ, Nat.reduceAdd]
            apply RelyL.val
            · intro ν w' hL hF K hK'
              have ct := (hbx.lat hL).cell
              have cq := (hL.cell (p := ⟨b', off' + j * 2 + 1, none⟩) hbb).trans hct
              go_simp
              exact hK'.out _ _ rfl (Lat.refl _)
            simp only [Act.put, List.setIfInBounds_toArray, List.set_cons_zero, List.set_cons_succ, Nat.reduceAdd]
            apply RelyL.val
            · intro ν w' hL hF K hK'
              have ct := (hbx.lat hL).cell
              have cq := (hL.cell (p := ⟨b', off' + j * 2 + 1, none⟩) hbb).trans hct
              go_simp
              exact hK'.out _ _ rfl (Lat.refl _)
            simp only [Act.put, List.setIfInBounds_toArray, List.set_cons_zero, List.set_cons_succ, Nat.reduceAdd]
            apply RelyL.val
            · intro ν w' hL hF K hK'
              have ct := (hbx.lat hL).cell
              have cq := (hL.cell (p := ⟨b', off' + j * 2 + 1, none⟩) hbb).trans hct
              go_simp
              exact hK'.out _ _ rfl (Lat.refl _)
            simp only [Act.put, List.setIfInBounds_toArray, List.set_cons_zero, List.set_cons_succ, Nat.reduceAdd]
            refine RelyL.done fun ν w6 hL hF => ?_
            have hL6 := hLW4.trans hL
            clear hF hL hLW4 hbx hct hbb
            go_wp2_with fail
            go_roundw
            case rel => exact ⟨j + 1, t2 + q2, true, by omega, by go_num, rfl, rfl, HD2, hL6⟩
            case measure => simp [intOf]; omega
          · by_cases hq : t2 + q2 < sb
            · have HD2 : Hid (nextP (hp.take (j + 1)) vs = (t2 + q2, true)) := Lib.hid (by rw [HD1.out]; simp [hq])
              clear HD1
              refine wp_rely (by kernel_rfl) (by kernel_rfl) ?_
              apply RelyL.val
              · intro ν w' hL hF K hK'
                have ct := (hbx.lat hL).cell
                have cq := (hL.cell (p := ⟨b', off' + j * 2 + 1, none⟩) hbb).trans hct
                go_simp
                exact hK'.out _ _ rfl (Lat.refl _)
              simp only [Act.put, List.setIfInBounds_toArray, List.set_cons_zero, List.set_cons_succ, Nat.reduceAdd]
              apply RelyL.val
              · intro ν w' hL hF K hK'
                have ct := (hbx.lat hL).cell
                have cq := (hL.cell (p := ⟨b', off' + j * 2 + 1, none⟩) hbb).trans hct
                go_simp
                exact hK'.out _ _ rfl (Lat.refl _)
              simp only [Act.put, List.setIfInBounds_toArray, List.set_cons_zero, List.set_cons_succ, Nat.reduceAdd]
              apply RelyL.val
              · intro ν w' hL hF K hK'
                have ct := (hbx.lat hL).cell
                have cq := (hL.cell (p := ⟨b', off' + j * 2 + 1, none⟩) hbb).trans hct
                go_simp
                exact hK'.out _ _ rfl (Lat.refl _)
              simp only [Act.put, List.setIfInBounds_toArray, List.set_cons_zero, List.set_cons_succ, Nat.reduceAdd]
              apply RelyL.val
              · intro ν w' hL hF K hK'
                have ct := (hbx.lat hL).cell
                have cq := (hL.cell (p := ⟨b', off' + j * 2 + 1, none⟩) hbb).trans hct
                go_simp
                exact hK'.out _ _ rfl (Lat.refl _)
              simp only [Act.put, List.setIfInBounds_toArray, List.set_cons_zero, List.set_cons_succ, Nat.reduceAdd]
              apply RelyL.val
              · intro ν w' hL hF K hK'
                have ct := (hbx.lat hL).cell
                have cq := (hL.cell (p := ⟨b', off' + j * 2 + 1, none⟩) hbb).trans hct
                go_simp
                exact hK'.out _ _ rfl (Lat.refl _)
              simp only [Act.put, List.setIfInBounds_toArray, List.set_cons_zero, List.set_cons_succ, Nat.reduceAdd]
              apply RelyL.val
              · intro ν w' hL hF K hK'
                have ct := (hbx.lat hL).cell
                have cq := (hL.cell (p := ⟨b', off' + j * 2 + 1, none⟩) hbb).trans hct
                go_simp
                exact hK'.out _ _ rfl (Lat.refl _)
              simp only [Act.put, List.setIfInBounds_toArray, List.set_cons_zero, List.set_cons_succ, Nat.reduceAdd]
              apply RelyL.val
              · intro ν w' hL hF K hK'
                have ct := (hbx.lat hL).cell
                have cq := (hL.cell (p := ⟨b', off' + j * 2 + 1, none⟩) hbb).trans hct
                go_simp
                exact hK'.out _ _ rfl (Lat.refl _)
              simp only [Act.put, List.setIfInBounds_toArray, List.set_cons_zero, List.set_cons_succ, Nat.reduceAdd]
              apply RelyL.val
              · intro ν w' hL hF K hK'
                have ct := (hbx.lat hL).cell
                have cq := (hL.cell (p := ⟨b', off' + j * 2 + 1, none⟩) hbb).trans hct
                go_simp
                exact hK'.out _ _ rfl (Lat.refl _)
              simp only [Act.put, List.setIfInBounds_toArray, List.set_cons_zero, List.set_cons_succ, Nat.reduceAdd]
              apply RelyL.val
              · intro ν w' hL hF K hK'
                have ct := (hbx.lat hL).cell
                have cq := (hL.cell (p := ⟨b', off' + j * 2 + 1, none⟩) hbb).trans hct
                go_simp
                exact hK'.out _ _ rfl (Lat.refl _)
              simp only [Act.put, List.setIfInBounds_toArray, List.set_cons_zero, List.set_cons_succ, Nat.reduceAdd]
              apply RelyL.val
              · intro ν w' hL hF K hK'
                have ct := (hbx.lat hL).cell
                have cq := (hL.cell (p := ⟨b', off' + j * 2 + 1, none⟩) hbb).trans hct
                go_simp
                exact hK'.out _ _ rfl (Lat.refl _)
              simp only [Act.put, List.setIfInBounds_toArray, List.set_cons_zero, List.set_cons_succ, Nat.reduceAdd]
              apply RelyL.val
              · intro ν w' hL hF K hK'
                have ct := (hbx.lat hL).cell
                have cq := (hL.cell (p := ⟨b', off' + j * 2 + 1, none⟩) hbb).trans hct
                go_simp
                exact hK'.out _ _ rfl (Lat.refl _)
              simp only [Act.put, List.setIfInBounds_toArray, List.set_cons_zero, List.set_cons_succ, Nat.reduceAdd]
              apply RelyL.val
              · intro ν w' hL hF K hK'
                have ct := (hbx.lat hL).cell
                have cq := (hL.cell (p := ⟨b', off' + j * 2 + 1, none⟩) hbb).trans hct
                go_simp
                exact hK'.out _ _ rfl (Lat.refl _)
              simp only [Act.put, List.setIfInBounds_toArray, List.set_cons_zero, List.set_cons_succ, Nat.reduceAdd]
              apply RelyL.val
              · intro ν w' hL hF K hK'
                have ct := (hbx.lat hL).cell
                have cq := (hL.cell (p := ⟨b', off' + j * 2 + 1, none⟩) hbb).trans hct
                go_simp
                exact hK'.out _ _ rfl (Lat.refl _)
              simp only [Act.put, List.setIfInBounds_toArray, List.set_cons_zero, List.set_cons_succ, Nat.reduceAdd]
              apply RelyL.val
              · intro ν w' hL hF K hK'
                have ct := (hbx.lat hL).cell
                have cq := (hL.cell (p := ⟨b', off' + j * 2 + 1, none⟩) hbb).trans hct
                go_simp
                exact hK'.out _ _ rfl (Lat.refl _)
              simp only [Act.put, List.setIfInBounds_toArray, List.set_cons_zero, List.set_cons_succ, Nat.reduceAdd]
              apply RelyL.val
              · intro ν w' hL hF K hK'
                have ct := (hbx.lat hL).cell
                have cq := (hL.cell (p := ⟨b', off' + j * 2 + 1, none⟩) hbb).trans hct
                go_simp
                exact hK'.out _ _ rfl (Lat.refl _)
              simp only [Act.put, List.setIfInBounds_toArray, List.set_cons_zero, List.set_cons_succ, Nat.reduceAdd]
              apply RelyL.val
              · intro ν w' hL hF K hK'
                have ct := (hbx.lat hL).cell
                have cq := (hL.cell (p := ⟨b', off' + j * 2 + 1, none⟩) hbb).trans hct
                go_simp
                exact hK'.out _ _ rfl (Lat.refl _)
              simp only [Act.put, List.setIfInBounds_toArray, List.set_cons_zero, List.set_cons_succ, Nat.reduceAdd]
              apply RelyL.val
              · intro ν w' hL hF K hK'
                have ct := (hbx.lat hL).cell
                have cq := (hL.cell (p := ⟨b', off' + j * 2 + 1, none⟩) hbb).trans hct
                go_simp
                exact hK'.out _ _ rfl (Lat.refl _)
              simp only [Act.put, List.setIfInBounds_toArray, List.set_cons_zero, List.set_cons_succ, Nat.reduceAdd]
              apply RelyL.val
              · intro ν w' hL hF K hK'
                have ct := (hbx.lat hL).cell
                have cq := (hL.cell (p := ⟨b', off' + j * 2 + 1, none⟩) hbb).trans hct
                go_simp
                exact hK'.out _ _ rfl (Lat.refl _)
              simp only [Act.put, List.setIfInBounds_toArray, List.set_cons_zero, List.set_cons_succ, Nat.reduceAdd]
              apply RelyL.val
              · intro ν w' hL hF K hK'
                have ct := (hbx.lat hL).cell
                have cq := (hL.cell (p := ⟨b', off' + j * 2 + 1, none⟩) hbb).trans hct
                go_simp
                exact hK'.out _ _ rfl (Lat.refl _)
              simp only [Act.put, List.setIfInBounds_toArray, List.set_cons_zero, List.set_cons_succ, Nat.reduceAdd]
              apply RelyL.val
              · intro ν w' hL hF K hK'
                have ct := (hbx.lat hL).cell
                have cq := (hL.cell (p := ⟨b', off' + j * 2 + 1, none⟩) hbb).trans hct
                go_simp
                exact hK'.out _ _ rfl (Lat.refl _)
              simp only [Act.put, List.setIfInBounds_toArray, List.set_cons_zero, List.set_cons_succ, Nat.reduceAdd]
              apply RelyL.val
              · intro ν w' hL hF K hK'
                have ct := (hbx.lat hL).cell
                have cq := (hL.cell (p := ⟨b', off' + j * 2 + 1, none⟩) hbb).trans hct
                go_simp
                exact hK'.out _ _ rfl (Lat.refl _)
              simp only [Act.put, List.setIfInBounds_toArray, List.set_cons_zero, List.set_cons_succ, Nat.reduceAdd]
              apply RelyL.val
              · intro ν w' hL hF K hK'
                have ct := (hbx.lat hL).cell
                have cq := (hL.cell (p := ⟨b', off' + j * 2 + 1, none⟩) hbb).trans hct
                go_simp
                exact hK'.out _ _ rfl (Lat.refl _)
              simp only [Act.put, List.setIfInBounds_toArray, List.set_cons_zero, List.set_cons_succ, Nat.reduceAdd]
              refine RelyL.done fun ν w5 hL hF => ?_
              have hL5 := hLW4.trans hL
              have hbx5 := hbx.lat hL
              have hct5 := (hL.cell (p := ⟨b', off' + j * 2 + 1, none⟩) hbb).trans hct
              have hbb5 := Nat.lt_of_lt_of_le hbb hL.size
              clear hF hL hLW4 hbx hct hbb
              go_upto_region 9 with fail
              have hbx := hbx5
              have hct := hct5
              have hbb := hbb5
              have hLW4 := hL5
              clear hbx5 hct5 hbb5 hL5
              refine wp_rely (by kernel_rfl) (by kernel_rfl) ?_
              apply RelyL.val
              · intro ν w' hL hF K hK'
                have ct := (hbx.lat hL).cell
                have cq := (hL.cell (p := ⟨b', off' + j * 2 + 1, none⟩) hbb).trans hct
                go_simp
                exact hK'.out _ _ rfl (Lat.refl _)
              simp only [Act.put, List.setIfInBounds_toArray, List.set_cons_zero, List.set_cons_succ, Nat.reduceAdd]
              apply RelyL.val
              · intro ν w' hL hF K hK'
                have ct := (hbx.lat hL).cell
                have cq := (hL.cell (p := ⟨b', off' + j * 2 + 1, none⟩) hbb).trans hct
                go_simp
                exact hK'.out _ _ rfl (Lat.refl _)
              simp only [Act.put, List.setIfInBounds_toArray, List.set_cons_zero, List.set_cons_succ, Nat.reduceAdd]
              apply RelyL.val
              · intro ν w' hL hF K hK'
                have ct := (hbx.lat hL).cell
                have cq := (hL.cell (p := ⟨b', off' + j * 2 + 1, none⟩) hbb).trans hct
                go_simp
                exact hK'.out _ _ rfl (Lat.refl _)
              simp only [Act.put, List.setIfInBounds_toArray, List.set_cons_zero, List.set_cons_succ, Nat.reduceAdd]
              apply RelyL.val
              · intro ν w' hL hF K hK'
                have ct := (hbx.lat hL).cell
                have cq := (hL.cell (p := ⟨b', off' + j * 2 + 1, none⟩) hbb).trans hct
                go_simp
                exact hK'.out _ _ rfl (Lat.refl _)
              simp only [Act.put, List.setIfInBounds_toArray, List.set_cons_zero, List.set_cons_succ, Nat.reduceAdd]
              apply RelyL.val
              · intro ν w' hL hF K hK'
                have ct := (hbx.lat hL).cell
                have cq := (hL.cell (p := ⟨b', off' + j * 2 + 1, none⟩) hbb).trans hct
                go_simp
                exact hK'.out _ _ rfl (Lat.refl _)
              simp only [Act.put, List.setIfInBounds_toArray, List.set_cons_zero, List.set_cons_succ, Nat.reduceAdd]
              apply RelyL.val
              · intro ν w' hL hF K hK'
                have ct := (hbx.lat hL).cell
                have cq := (hL.cell (p := ⟨b', off' + j * 2 + 1, none⟩) hbb).trans hct
                go_simp
                exact hK'.out _ _ rfl (Lat.refl _)
              simp only [Act.put, List.setIfInBounds_toArray, List.set_cons_zero, List.set_cons_succ, Nat.reduceAdd]
              apply RelyL.val
              · intro ν w' hL hF K hK'
                have ct := (hbx.lat hL).cell
                have cq := (hL.cell (p := ⟨b', off' + j * 2 + 1, none⟩) hbb).trans hct
                go_simp
                exact hK'.out _ _ rfl (Lat.refl _)
              simp only [Act.put, List.setIfInBounds_toArray, List.set_cons_zero, List.set_cons_succ, Nat.reduceAdd]
              apply RelyL.val
              · intro ν w' hL hF K hK'
                have ct := (hbx.lat hL).cell
                have cq := (hL.cell (p := ⟨b', off' + j * 2 + 1, none⟩) hbb).trans hct
                go_simp
                exact hK'.out _ _ rfl (Lat.refl _)
              simp only [Act.put, List.setIfInBounds_toArray, List.set_cons_zero, List.set_cons_succ, Nat.reduceAdd]
              apply RelyL.val
              · intro ν w' hL hF K hK'
                have ct := (hbx.lat hL).cell
                have cq := (hL.cell (p := ⟨b', off' + j * 2 + 1, none⟩) hbb).trans hct
                go_simp
                exact hK'.out _ _ rfl (Lat.refl _)
              simp only [Act.put, List.setIfInBounds_toArray, List.set_cons_zero, List.set_cons_succ, Nat.reduceAdd]
              apply RelyL.val
              · intro ν w' hL hF K hK'
                have ct := (hbx.lat hL).cell
                have cq := (hL.cell (p := ⟨b', off' + j * 2 + 1, none⟩) hbb).trans hct
                go_simp
                exact hK'.out _ _ rfl (Lat.refl _)
              simp only [Act.put, List.setIfInBounds_toArray, List.set_cons_zero, List.set_cons_succ, Nat.reduceAdd]
              refine RelyL.done fun ν w6 hL hF => ?_
              have hL6 := hLW4.trans hL
              clear hF hL hLW4 hbx hct hbb
              go_wp2_with fail
              go_roundw
              case rel => exact ⟨j + 1, t2 + q2, true, by omega, by go_num, rfl, rfl, HD2, hL6⟩
              case measure => simp [intOf]; omega
            · have HD2 : Hid (nextP (hp.take (j + 1)) vs = (sb, true)) := Lib.hid (by rw [HD1.out]; simp [hq])
              clear HD1
              refine wp_rely (by kernel_rfl) (by kernel_rfl) ?_
              apply RelyL.val
              · intro ν w' hL hF K hK'
                have ct := (hbx.lat hL).cell
                have cq := (hL.cell (p := ⟨b', off' + j * 2 + 1, none⟩) hbb).trans hct
                go_simp
                exact hK'.out _ _ rfl (Lat.refl _)
              simp only [Act.put, List.setIfInBounds_toArray, List.set_cons_zero, List.set_cons_succ, Nat.reduceAdd]
              apply RelyL.val
              · intro ν w' hL hF K hK'
                have ct := (hbx.lat hL).cell
                have cq := (hL.cell (p := ⟨b', off' + j * 2 + 1, none⟩) hbb).trans hct
                go_simp
                exact hK'.out _ _ rfl (Lat.refl _)
              simp only [Act.put, List.setIfInBounds_toArray, List.set_cons_zero, List.set_cons_succ, Nat.reduceAdd]
              apply RelyL.val
              · intro ν w' hL hF K hK'
                have ct := (hbx.lat hL).cell
                have cq := (hL.cell (p := ⟨b', off' + j * 2 + 1, none⟩) hbb).trans hct
                go_simp
                exact hK'.out _ _ rfl (Lat.refl _)
              simp only [Act.put, List.setIfInBounds_toArray, List.set_cons_zero, List.set_cons_succ, Nat.reduceAdd]
              apply RelyL.val
              · intro ν w' hL hF K hK'
                have ct := (hbx.lat hL).cell
                have cq := (hL.cell (p := ⟨b', off' + j * 2 + 1, none⟩) hbb).trans hct
                go_simp
                exact hK'.out _ _ rfl (Lat.refl _)
              simp only [Act.put, List.setIfInBounds_toArray, List.set_cons_zero, List.set_cons_succ, Nat.reduceAdd]
              apply RelyL.val
              · intro ν w' hL hF K hK'
                have ct := (hbx.lat hL).cell
                have cq := (hL.cell (p := ⟨b', off' + j * 2 + 1, none⟩) hbb).trans hct
                go_simp
                exact hK'.out _ _ rfl (Lat.refl _)
              simp only [Act.put, List.setIfInBounds_toArray, List.set_cons_zero, List.set_cons_succ, Nat.reduceAdd]
              apply RelyL.val
              · intro ν w' hL hF K hK'
                have ct := (hbx.lat hL).cell
                have cq := (hL.cell (p := ⟨b', off' + j * 2 + 1, none⟩) hbb).trans hct
                go_simp
                exact hK'.out _ _ rfl (Lat.refl _)
              simp only [Act.put, List.setIfInBounds_toArray, List.set_cons_zero, List.set_cons_succ, Nat.reduceAdd]
              apply RelyL.val
              · intro ν w' hL hF K hK'
                have ct := (hbx.lat hL).cell
                have cq := (hL.cell (p := ⟨b', off' + j * 2 + 1, none⟩) hbb).trans hct
                go_simp
                exact hK'.out _ _ rfl (Lat.refl _)
              simp only [Act.put, List.setIfInBounds_toArray, List.set_cons_zero, List.set_cons_succ, Nat.reduceAdd]
              apply RelyL.val
              · intro ν w' hL hF K hK'
                have ct := (hbx.lat hL).cell
                have cq := (hL.cell (p := ⟨b', off' + j * 2 + 1, none⟩) hbb).trans hct
                go_simp
                exact hK'.out _ _ rfl (Lat.refl _)
              simp only [Act.put, List.setIfInBounds_toArray, List.set_cons_zero, List.set_cons_succ, Nat.reduceAdd]
              apply RelyL.val
              · intro ν w' hL hF K hK'
                have ct := (hbx.lat hL).cell
                have cq := (hL.cell (p := ⟨b', off' + j * 2 + 1, none⟩) hbb).trans hct
                go_simp
                exact hK'.out _ _ rfl (Lat.refl _)
              simp only [Act.put, List.setIfInBounds_toArray, List.set_cons_zero, List.set_cons_succ, Nat.reduceAdd]
              apply RelyL.val
              · intro ν w' hL hF K hK'
                have ct := (hbx.lat hL).cell
                have cq := (hL.cell (p := ⟨b', off' + j * 2 + 1, none⟩) hbb).trans hct
                go_simp
                exact hK'.out _ _ rfl (Lat.refl _)
              simp only [Act.put, List.setIfInBounds_toArray, List.set_cons_zero, List.set_cons_succ, Nat.reduceAdd]
              apply RelyL.val
              · intro ν w' hL hF K hK'
                have ct := (hbx.lat hL).cell
                have cq := (hL.cell (p := ⟨b', off' + j * 2 + 1, none⟩) hbb).trans hct
                go_simp
                exact hK'.out _ _ rfl (Lat.refl _)
              simp only [Act.put, List.setIfInBounds_toArray, List.set_cons_zero, List.set_cons_succ, Nat.reduceAdd]
              apply RelyL.val
              · intro ν w' hL hF K hK'
                have ct := (hbx.lat hL).cell
                have cq := (hL.cell (p := ⟨b', off' + j * 2 + 1, none⟩) hbb).trans hct
                go_simp
                exact hK'.out _ _ rfl (Lat.refl _)
              simp only [Act.put, List.setIfInBounds_toArray, List.set_cons_zero, List.set_cons_succ, Nat.reduceAdd]
              apply RelyL.val
              · intro ν w' hL hF K hK'
                have ct := (hbx.lat hL).cell
                have cq := (hL.cell (p := ⟨b', off' + j * 2 + 1, none⟩) hbb).trans hct
                go_simp
                exact hK'.out _ _ rfl (Lat.refl _)
              simp only [Act.put, List.setIfInBounds_toArray, List.set_cons_zero, List.set_cons_succ, Nat.reduceAdd]
              apply RelyL.val
              · intro ν w' hL hF K hK'
                have ct := (hbx.lat hL).cell
                have cq := (hL.cell (p := ⟨b', off' + j * 2 + 1, none⟩) hbb).trans hct
                go_simp
                exact hK'.out _ _ rfl (Lat.refl _)
              simp only [Act.put, List.setIfInBounds_toArray, List.set_cons_zero, List.set_cons_succ, Nat.reduceAdd]
              apply RelyL.val
              · intro ν w' hL hF K hK'
                have ct := (hbx.lat hL).cell
                have cq := (hL.cell (p := ⟨b', off' + j * 2 + 1, none⟩) hbb).trans hct
                go_simp
                exact hK'.out _ _ rfl (Lat.refl _)
              simp only [Act.put, List.setIfInBounds_toArray, List.set_cons_zero, List.set_cons_succ, Nat.reduceAdd]
              apply RelyL.val
              · intro ν w' hL hF K hK'
                have ct := (hbx.lat hL).cell
                have cq := (hL.cell (p := ⟨b', off' + j * 2 + 1, none⟩) hbb).trans hct
                go_simp
                exact hK'.out _ _ rfl (Lat.refl _)
              simp only [Act.put, List.setIfInBounds_toArray, List.set_cons_zero, List.set_cons_succ, Nat.reduceAdd]
              apply RelyL.val
              · intro ν w' hL hF K hK'
                have ct := (hbx.lat hL).cell
                have cq := (hL.cell (p := ⟨b', off' + j * 2 + 1, none⟩) hbb).trans hct
                go_simp
                exact hK'.out _ _ rfl (Lat.refl _)
              simp only [Act.put, List.setIfInBounds_toArray, List.set_cons_zero, List.set_cons_succ, Nat.reduceAdd]
              apply RelyL.val
              · intro ν w' hL hF K hK'
                have ct := (hbx.lat hL).cell
                have cq := (hL.cell (p := ⟨b', off' + j * 2 + 1, none⟩) hbb).trans hct
                go_simp
                exact hK'.out _ _ rfl (Lat.refl _)
              simp only [Act.put, List.setIfInBounds_toArray, List.set_cons_zero, List.set_cons_succ, Nat.reduceAdd]
              apply RelyL.val
              · intro ν w' hL hF K hK'
                have ct := (hbx.lat hL).cell
                have cq := (hL.cell (p := ⟨b', off' + j * 2 + 1, none⟩) hbb).trans hct
                go_simp
                exact hK'.out _ _ rfl (Lat.refl _)
              simp only [Act.put, List.setIfInBounds_toArray, List.set_cons_zero, List.set_cons_succ, Nat.reduceAdd]
              apply RelyL.val
              · intro ν w' hL hF K hK'
                have ct := (hbx.lat hL).cell
                have cq := (hL.cell (p := ⟨b', off' + j * 2 + 1, none⟩) hbb).trans hct
                go_simp
                exact hK'.out _ _ rfl (Lat.refl _)
              simp only [Act.put, List.setIfInBounds_toArray, List.set_cons_zero, List.set_cons_succ, Nat.reduceAdd]
              apply RelyL.val
              · intro ν w' hL hF K hK'
                have ct := (hbx.lat hL).cell
                have cq := (hL.cell (p := ⟨b', off' + j * 2 + 1, none⟩) hbb).trans hct
                go_simp
                exact hK'.out _ _ rfl (Lat.refl _)
              simp only [Act.put, List.setIfInBounds_toArray, List.set_cons_zero, List.set_cons_succ, Nat.reduceAdd]
              apply RelyL.val
              · intro ν w' hL hF K hK'
                have ct := (hbx.lat hL).cell
                have cq := (hL.cell (p := ⟨b', off' + j * 2 + 1, none⟩) hbb).trans hct
                go_simp
                exact hK'.out _ _ rfl (Lat.refl _)
              simp only [Act.put, List.setIfInBounds_toArray, List.set_cons_zero, List.set_cons_succ, Nat.reduceAdd]
              refine RelyL.done fun ν w5 hL hF => ?_
              have hL5 := hLW4.trans hL
              clear hF hL hLW4 hbx hct hbb
              go_wp2_with fail
              go_roundw
              case rel => exact ⟨j + 1, sb, true, by omega, by go_num, rfl, rfl, HD2, hL5⟩
              case measure => simp [intOf]; omega
        · have HD2 : Hid (nextP (hp.take (j + 1)) vs = (sb, sf)) := Lib.hid (by rw [HD1.out]; simp)
          clear HD1
          refine wp_rely (by kernel_rfl) (by kernel_rfl) ?_
          apply RelyL.val
          · intro ν w' hL hF K hK'
            have ct := (hbx.lat hL).cell
            have cq := (hL.cell (p := ⟨b', off' + j * 2 + 1, none⟩) hbb).trans hct
            go_simp
            exact hK'.out _ _ rfl (Lat.refl _)
          simp only [Act.put, List.setIfInBounds_toArray, List.set_cons_zero, List.set_cons_succ, Nat.reduceAdd]
          apply RelyL.val
          · intro ν w' hL hF K hK'
            have ct := (hbx.lat hL).cell
            have cq := (hL.cell (p := ⟨b', off' + j * 2 + 1, none⟩) hbb).trans hct
            go_simp
            exact hK'.out _ _ rfl (Lat.refl _)
          simp only [Act.put, List.setIfInBounds_toArray, List.set_cons_zero, List.set_cons_succ, Nat.reduceAdd]
          apply RelyL.val
          · intro ν w' hL hF K hK'
            have ct := (hbx.lat hL).cell
            have cq := (hL.cell (p := ⟨b', off' + j * 2 + 1, none⟩) hbb).trans hct
            go_simp
            exact hK'.out _ _ rfl (Lat.refl _)
          simp only [Act.put, List.setIfInBounds_toArray, List.set_cons_zero, List.set_cons_succ, Nat.reduceAdd]
          apply RelyL.val
          · intro ν w' hL hF K hK'
            have ct := (hbx.lat hL).cell
            have cq := (hL.cell (p := ⟨b', off' + j * 2 + 1, none⟩) hbb).trans hct
            go_simp
            exact hK'.out _ _ rfl (Lat.refl _)
          simp only [Act.put, List.setIfInBounds_toArray, List.set_cons_zero, List.set_cons_succ, Nat.reduceAdd]
          apply RelyL.val
          · intro ν w' hL hF K hK'
            have ct := (hbx.lat hL).cell
            have cq := (hL.cell (p := ⟨b', off' + j * 2 + 1, none⟩) hbb).trans hct
            go_simp
            exact hK'.out _ _ rfl (Lat.refl _)
          simp only [Act.put, List.setIfInBounds_toArray, List.set_cons_zero, List.set_cons_succ, Nat.reduceAdd]
          apply RelyL.val
          · intro ν w' hL hF K hK'
            have ct := (hbx.lat hL).cell
            have cq := (hL.cell (p := ⟨b', off' + j * 2 + 1, none⟩) hbb).trans hct
            go_simp
            exact hK'.out _ _ rfl (Lat.refl _)
          simp only [Act.put, List.setIfInBounds_toArray, List.set_cons_zero, List.set_cons_succ, Nat.reduceAdd]
          apply RelyL.val
          · intro ν w' hL hF K hK'
            have ct := (hbx.lat hL).cell
            have cq := (hL.cell (p := ⟨b', off' + j * 2 + 1, none⟩) hbb).trans hct
            go_simp
            exact hK'.out _ _ rfl (Lat.refl _)
          simp only [Act.put, List.setIfInBounds_toArray, List.set_cons_zero, List.set_cons_succ, Nat.reduceAdd]
          apply RelyL.val
          · intro ν w' hL hF K hK'
            refine skip_op rfl ?_
            exact hK'.out _ _ rfl (Lat.refl _)
          simp only [Act.put, List.setIfInBounds_toArray, List.set_cons_zero, List.set_cons_succ, Nat.reduceAdd]
          apply RelyL.val
          · intro ν w' hL hF K hK'
            refine skip_op rfl ?_
            exact hK'.out _ _ rfl (Lat.refl _)
          simp only [Act.put, List.setIfInBounds_toArray, List.set_cons_zero, List.set_cons_succ, Nat.reduceAdd]
          apply RelyL.val
          · intro ν w' hL hF K hK'
            refine skip_op rfl ?_
            exact hK'.out _ _ rfl (Lat.refl _)
          simp only [Act.put, List.setIfInBounds_toArray, List.set_cons_zero, List.set_cons_succ, Nat.reduceAdd]
          apply RelyL.val
          · intro ν w' hL hF K hK'
            refine skip_op rfl ?_
            exact hK'.out _ _ rfl (Lat.refl _)
          simp only [Act.put, List.setIfInBounds_toArray, List.set_cons_zero, List.set_cons_succ, Nat.reduceAdd]
          apply RelyL.val
          · intro ν w' hL hF K hK'
            refine skip_op rfl ?_
            exact hK'.out _ _ rfl (Lat.refl _)
          simp only [Act.put, List.setIfInBounds_toArray, List.set_cons_zero, List.set_cons_succ, Nat.reduceAdd]
          apply RelyL.val
          · intro ν w' hL hF K hK'
            refine skip_op rfl ?_
            exact hK'.out _ _ rfl (Lat.refl _)
          simp only [Act.put, List.setIfInBounds_toArray, List.set_cons_zero, List.set_cons_succ, Nat.reduceAdd]
          apply RelyL.val
          · intro ν w' hL hF K hK'
            refine skip_op rfl ?_
            exact hK'.out _ _ rfl (Lat.refl _)
          simp only [Act.put, List.setIfInBounds_toArray, List.set_cons_zero, List.set_cons_succ, Nat.reduceAdd]
          apply RelyL.val
          · intro ν w' hL hF K hK'
            refine skip_op rfl ?_
            exact hK'.out _ _ rfl (Lat.refl _)
          simp only [Act.put, List.setIfInBounds_toArray, List.set_cons_zero, List.set_cons_succ, Nat.reduceAdd]
          apply RelyL.val
          · intro ν w' hL hF K hK'
            refine skip_op rfl ?_
            exact hK'.out _ _ rfl (Lat.refl _)
          simp only [Act.put, List.setIfInBounds_toArray, List.set_cons_zero, List.set_cons_succ, Nat.reduceAdd]
          apply RelyL.val
          · intro ν w' hL hF K hK'
            refine skip_op rfl ?_
            exact hK'.out _ _ rfl (Lat.refl _)
          simp only [Act.put, List.setIfInBounds_toArray, List.set_cons_zero, List.set_cons_succ, Nat.reduceAdd]
          apply RelyL.val
          · intro ν w' hL hF K hK'
            refine skip_op rfl ?_
            exact hK'.out _ _ rfl (Lat.refl _)
          simp only [Act.put, List.setIfInBounds_toArray, List.set_cons_zero, List.set_cons_succ, Nat.reduceAdd]
          apply RelyL.val
          · intro ν w' hL hF K hK'
            refine skip_op rfl ?_
            exact hK'.out _ _ rfl (Lat.refl _)
          simp only [Act.put, List.setIfInBounds_toArray, List.set_cons_zero, List.set_cons_succ, Nat.reduceAdd]
          apply RelyL.val
          · intro ν w' hL hF K hK'
            refine skip_op rfl ?_
            exact hK'.out _ _ rfl (Lat.refl _)
          simp only [Act.put, List.setIfInBounds_toArray, List.set_cons_zero, List.set_cons_succ, Nat.reduceAdd]
          apply RelyL.val
          · intro ν w' hL hF K hK'
            refine skip_op rfl ?_
            exact hK'.out _ _ rfl (Lat.refl _)
          simp only [Act.put, List.setIfInBounds_toArray, List.set_cons_zero, List.set_cons_succ, Nat.reduceAdd]
          apply RelyL.val
          · intro ν w' hL hF K hK'
            have ct := (hbx.lat hL).cell
            have cq := (hL.cell (p := ⟨b', off' + j * 2 + 1, none⟩) hbb).trans hct
            go_simp
            exact hK'.out _ _ rfl (Lat.refl _)
          simp only [Act.put, List.setIfInBounds_toArray, List.set_cons_zero, List.set_cons_succ, Nat.reduceAdd]
          refine RelyL.done fun ν w5 hL hF => ?_
          have hL5 := hLW4.trans hL
          clear hF hL hLW4 hbx hct hbb
          go_wp2_with fail
          go_roundw
          case rel => exact ⟨j + 1, sb, sf, by omega, by go_num, rfl, rfl, HD2, hL5⟩
          case measure => simp [intOf]; omega
    · have hj : j = hs.length := by omega
      subst hj
      have hR : (R1, R2) = (sb, sf) := HFU.out.trans HS.out
      injection hR with e1 e2
      subst e1 e2
      have hL := hL2.trans hLW
      clear HFI HRN HDT HFU HX HL2 HS
      go_wp2_with fail
      refine bodyPost_ret (v := ?_) ?_ rfl ?_
      rotate_left
      · simp [results, Try.results11, go_sem]; exact rfl
      exact ⟨rfl, hL⟩
end Go.Proofs.Ytafodibbcfoclaa
