/- Hold: Next. -/
import Derived.Test.YtafodibbcfoclaaGreatHDue
set_option linter.unusedSimpArgs false
set_option linter.unusedVariables false
namespace Go.Proofs.YtafodibbcfoclaaGreat
open Go.RowKit

def nx (tl : List LTim) (s : Int × Bool) (h : HP) : Int × Bool :=
  if (findT tl h.1.1.name).isSome && !(tmOf tl h.1.1.name).fired then (if !s.2 || decide ((tmOf tl h.1.1.name).since + h.2 < s.1) then ((tmOf tl h.1.1.name).since + h.2, true) else s) else s
def nextP (hs : List HP) (tl : List LTim) : Int × Bool := hs.foldl (nx tl) (0, false)
theorem nextP_take (hs : List HP) (tl : List LTim) (j : Nat) (h : j < hs.length) : nextP (hs.take (j + 1)) tl = nx tl (nextP (hs.take j) tl) hs[j] := by
  unfold nextP
  rw [List.take_succ_eq_append_getElem h, List.foldl_append]
  rfl
set_option maxRecDepth 100000 in
set_option maxHeartbeats 8000000 in
theorem next_any (l : List LTim) (A : Option Addr) (c : Nat) (ps : List RP) (B : Option Addr) (m : Nat) (w : World) (hx : RdT w l (.slice A l.length c)) (hy : RdR w ps (.slice B ps.length m)) (hl : ps.length ≤ 100000) (hon : ∀ p ∈ ps, p.2.on.length ≤ 1000000) :
    Calls Tryz.prog 12 #[.slice A l.length c, .slice B ps.length m] w fun r w' => r = .returned (.tuple #[.int .i64 (nextP (holdsP ps) (validP l)).1, .bool (nextP (holdsP ps) (validP l)).2]) ∧ Lat w w' := by
  have HV := Lib.hid (valid_any l A c w hx.1)
  have HBY := fun (A1 : Option Addr) (c1 : Nat) (w' : World) (h : ET.Rd w' (validP l) (.slice A1 (validP l).length c1)) => Lib.hid (byName_any (validP l) A1 c1 w' ⟨h, fun t ht => hx.2 t (validP_mem ht)⟩ (by have := validP_len l; omega))
  have HHO := fun (w' : World) (h : Lat w w') => Lib.hid (holds_any ps B m w' (hy.lat h) hl hon)
  have HZ : ∀ w, Hid ((zeroValue 50).run Tryz.prog w = .ok (valT zT) w) := fun w => Lib.hid (Tryz.zeroValue50 w)
  have HSM : Hid (∀ (j : Nat) (h : j < (holdsP ps).length), (holdsP ps)[j].1.1.name.size ≤ maxLen) := Lib.hid (fun j h => HP_small hy (List.getElem_mem h))
  have HTR : Hid (∀ (j : Nat) (h : j < (holdsP ps).length), 0 ≤ (holdsP ps)[j].2 ∧ (holdsP ps)[j].2 ≤ MT) := Lib.hid (fun j h => trg_range (holdsP_mem (List.getElem_mem h)).2)
  have HRN : Hid (∀ s, 0 ≤ (tmOf (validP l) s).since ∧ (tmOf (validP l) s).since ≤ MT) := Lib.hid (fun s => tmOf_rng (validP_ok l) s)
  have HMV : Hid (mapV (validP l) = fun s => (findT (validP l) s).map valT) := Lib.hid (mapV_is (validP_ok l))
  have HDT := fun j h => Lib.hid (nextP_take (holdsP ps) (validP l) j h)
  have HFU : Hid (nextP (holdsP ps) (validP l) = nextP ((holdsP ps).take (holdsP ps).length) (validP l)) := Lib.hid (by rw [List.take_length])
  have HHL : Hid ((holdsP ps).length ≤ 40) := Lib.hid (holdsP_len ps)
  have H00 : Hid (nextP ((holdsP ps).take 0) (validP l) = (0, false)) := Lib.hid rfl
  generalize nextP (holdsP ps) (validP l) = R at *
  obtain ⟨R1, R2⟩ := R
  generalize validP l = vs at *
  generalize holdsP ps = hs at *
  clear hx hy hl hon
  go_enter Tryz.func12, Tryz.ntmps12
  go_wp2_with fail
  refine HV.out.mono ?_
  rintro r w1 ⟨v1, rfl, hown1, hl1⟩
  obtain ⟨A1, c1, rfl⟩ := hown1.slice
  have HBY1 := HBY A1 c1 w1 hown1.rd
  clear HV HBY hown1
  go_wp2_with fail
  refine HBY1.out.mono ?_
  rintro r w2 ⟨⟨bm, rfl, hbm, hom2⟩, hl2⟩
  have hL2 := hl1.trans hl2
  have HHO2 := HHO w2 hL2
  rw [HMV.out] at hom2
  clear HBY1 HHO hl1 hl2 HMV
  go_wp2_with fail
  refine HHO2.out.mono ?_
  rintro r w3 ⟨⟨v3, rfl, hrd3, -⟩, hl3⟩
  have hL3 := hL2.trans hl3
  have hom3 := hom2.lat hl3
  obtain ⟨A3, c3, hv3, hrow3, hnil3⟩ := hrd3
  have hrd3 : EH.Rd w3 (hs.map encH) v3 := ⟨A3, c3, hv3, hrow3, hnil3⟩
  rw [List.length_map] at hv3
  subst hv3
  clear HHO2 hom2 hL2 hl3 hrow3 hnil3 hbm
  have hhl := HHL.out
  go_wp2_with fail
  go_loopw [7, 8, 20] (fun bv fv i wr => ∃ (j : Nat) (sb : Int) (sf : Bool), j ≤ hs.length ∧ i = .int .i64 j ∧ bv = .int .i64 sb ∧ fv = .bool sf ∧ Hid (nextP (hs.take j) vs = (sb, sf)) ∧ OMap wr bm vs.length (fun s => (findT vs s).map valT) ∧ Lat w3 wr) (fun _ _ i _ => hs.length - (intOf i).toNat)
  case atStart => exact ⟨0, 0, false, Nat.zero_le _, rfl, rfl, rfl, H00, hom3, Lat.refl _⟩
  case round =>
    clear hom3 H00
    obtain ⟨j, sb, sf, hjl, rfl, rfl, rfl, HS, hom, hLW⟩ := hrel
    by_cases hlt : j < hs.length
    · obtain ⟨b, off, hA, hb0, hr1'⟩ := (hrd3.lat hLW).row j (by rw [List.length_map]; exact hlt)
      subst hA
      rw [List.getElem_map] at hr1'
      have hr1 : RowAt wr b (off + j * 16) (hC (encH hs[j])) := hr1'
      have hsm := HSM.out j hlt
      have htr := HTR.out j hlt
      have HD1 := HDT j hlt
      have HD : ∀ s, Hid (nx vs s hs[j] = if (findT vs hs[j].1.1.name).isSome && !(tmOf vs hs[j].1.1.name).fired then (if !s.2 || decide ((tmOf vs hs[j].1.1.name).since + hs[j].2 < s.1) then ((tmOf vs hs[j].1.1.name).since + hs[j].2, true) else s) else s) := fun s => Lib.hid rfl
      have hBL : Lat wr (wr.alloc (.cells (hC (encH hs[j])).toArray 61)) := Lat.al _ _
      have hom1 := hom.lat hBL
      have hrn := HRN.out hs[j].1.1.name
      have hlv := look_val vs hs[j].1.1.name
      have hlh := look_has vs hs[j].1.1.name
      have HD3 := Lib.hid (HD1.out.trans ((congrArg (fun s => nx vs s hs[j]) HS.out).trans (HD (sb, sf)).out))
      clear hr1' HDT hBL HD HD1 HS
      generalize hT : tmOf vs hs[j].1.1.name = T at *
      generalize hS : (findT vs hs[j].1.1.name).isSome = S at *
      clear hT hS
      generalize hs[j] = P at *
      obtain ⟨⟨⟨x1, x2, x3, x4, x5, ⟨y1, y2, y3, y4, y5, y6, y7, y8, y9, y10⟩, x6, x7, x8, x9, x10, x11⟩, rl⟩, tm⟩ := P
      obtain ⟨t1, t2, t3⟩ := T
      simp only [encH, hC, rC, List.cons_append, List.nil_append] at hr1 hom1
      dsimp only at hsm htr HD3 hrn hlv hlh
      have hLb : Lat wr ((wr.alloc (.cells #[.string x1, .int .i64 x2, .slice x3 x4 x5, .int .i64 y1, .int .i64 y2, .int .i64 y3, .string y4, .int .i64 y5, .int .i64 y6, .string y7, .int .i64 y8, .string y9, .string y10, .slice x6 x7 x8, .slice x9 x10 x11, .int .i64 tm] 61)).alloc (.cells #[.string t1, .int .i64 t2, .bool t3] 50)) := (Lat.al _ _).trans (Lat.al _ _)
      have HOM := Lib.hid (hom.lat hLb)
      have HL := Lib.hid (hLW.trans hLb)
      have hwp : IntKind.i64.wrap (t2 + tm) = t2 + tm := by rw [IntKind.wrap_i64]; unfold MT at *; omega
      unfold valT tC at hlv
      clear hom hLb hrn htr hLW
      cases S
      · have HD2 : Hid (nextP (hs.take (j + 1)) vs = (sb, sf)) := Lib.hid (HD3.out.trans (by simp))
        clear HD3
        go_wp2_with (first | (with_reducible refine wpList_load_at rfl 61 _ rfl b (off + j * 16) rfl _ _ hr1 Tryz.underlying61 rfl (by kernel_rfl) ?_) | (at_lookup; refine wpl_look_ok _ rfl _ _ 55 50 rfl Tryz.underlying55 (HZ _).out bm vs.length _ rfl hom1 x1 rfl hsm _ _ hlv hlh ?_))
        go_roundw
        case rel => exact ⟨j + 1, sb, sf, by omega, by go_num, rfl, rfl, HD2, HOM.out, HL.out⟩
        case measure => simp [intOf]; omega
      · cases t3
        · cases sf
          · have HD2 : Hid (nextP (hs.take (j + 1)) vs = (t2 + tm, true)) := Lib.hid (HD3.out.trans (by simp))
            clear HD3
            go_wp2_with (first | (with_reducible refine wpList_load_at rfl 61 _ rfl b (off + j * 16) rfl _ _ hr1 Tryz.underlying61 rfl (by kernel_rfl) ?_) | (at_lookup; refine wpl_look_ok _ rfl _ _ 55 50 rfl Tryz.underlying55 (HZ _).out bm vs.length _ rfl hom1 x1 rfl hsm _ _ hlv hlh ?_))
            go_roundw
            case rel => exact ⟨j + 1, t2 + tm, true, by omega, by go_num, rfl, rfl, HD2, HOM.out, HL.out⟩
            case measure => simp [intOf]; omega
          · by_cases hq : t2 + tm < sb
            · have hq2 : decide (t2 + tm < sb) = true := decide_eq_true hq
              have HD2 : Hid (nextP (hs.take (j + 1)) vs = (t2 + tm, true)) := Lib.hid (HD3.out.trans (by simp [hq]))
              clear HD3
              go_wp2_with (first | (with_reducible refine wpList_load_at rfl 61 _ rfl b (off + j * 16) rfl _ _ hr1 Tryz.underlying61 rfl (by kernel_rfl) ?_) | (at_lookup; refine wpl_look_ok _ rfl _ _ 55 50 rfl Tryz.underlying55 (HZ _).out bm vs.length _ rfl hom1 x1 rfl hsm _ _ hlv hlh ?_))
              go_roundw
              case rel => exact ⟨j + 1, t2 + tm, true, by omega, by go_num, rfl, rfl, HD2, HOM.out, HL.out⟩
              case measure => simp [intOf]; omega
            · have hq2 : decide (t2 + tm < sb) = false := decide_eq_false hq
              have HD2 : Hid (nextP (hs.take (j + 1)) vs = (sb, true)) := Lib.hid (HD3.out.trans (by simp [hq]))
              clear HD3
              go_wp2_with (first | (with_reducible refine wpList_load_at rfl 61 _ rfl b (off + j * 16) rfl _ _ hr1 Tryz.underlying61 rfl (by kernel_rfl) ?_) | (at_lookup; refine wpl_look_ok _ rfl _ _ 55 50 rfl Tryz.underlying55 (HZ _).out bm vs.length _ rfl hom1 x1 rfl hsm _ _ hlv hlh ?_))
              go_roundw
              case rel => exact ⟨j + 1, sb, true, by omega, by go_num, rfl, rfl, HD2, HOM.out, HL.out⟩
              case measure => simp [intOf]; omega
        · have HD2 : Hid (nextP (hs.take (j + 1)) vs = (sb, sf)) := Lib.hid (HD3.out.trans (by simp))
          clear HD3
          go_wp2_with (first | (with_reducible refine wpList_load_at rfl 61 _ rfl b (off + j * 16) rfl _ _ hr1 Tryz.underlying61 rfl (by kernel_rfl) ?_) | (at_lookup; refine wpl_look_ok _ rfl _ _ 55 50 rfl Tryz.underlying55 (HZ _).out bm vs.length _ rfl hom1 x1 rfl hsm _ _ hlv hlh ?_))
          go_roundw
          case rel => exact ⟨j + 1, sb, sf, by omega, by go_num, rfl, rfl, HD2, HOM.out, HL.out⟩
          case measure => simp [intOf]; omega
    · have hj : j = hs.length := by omega
      subst hj
      have hR : (R1, R2) = (sb, sf) := HFU.out.trans HS.out
      injection hR with e1 e2
      subst e1 e2
      have hL := hL3.trans hLW
      clear HSM HTR HRN HDT HZ HFU HS
      go_wp2_with fail
      refine bodyPost_ret (v := ?_) ?_ rfl ?_
      rotate_left
      · simp [results, Tryz.results12, go_sem]; exact rfl
      exact ⟨rfl, hL⟩
end Go.Proofs.YtafodibbcfoclaaGreat
