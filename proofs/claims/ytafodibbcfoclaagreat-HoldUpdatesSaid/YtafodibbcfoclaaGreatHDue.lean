/- Hold: Due and Next. -/
import Derived.Test.YtafodibbcfoclaaGreatHBy
import Derived.Test.YtafodibbcfoclaaGreatHHolds
set_option linter.unusedSimpArgs false
set_option linter.unusedVariables false
namespace Go.Proofs.YtafodibbcfoclaaGreat
open Go.RowKit

def zT : LTim := ⟨⟨#[]⟩, 0, false⟩
def tmOf (tl : List LTim) (s : ByteArray) : LTim := (findT tl s).getD zT
def due1 (tl : List LTim) (now : Int) (h : HP) : List ByteArray := if (findT tl h.1.1.name).isSome && !(tmOf tl h.1.1.name).fired && decide (h.2 ≤ lim now - (tmOf tl h.1.1.name).since) then [(tmOf tl h.1.1.name).rule] else []
def dueP (hs : List HP) (tl : List LTim) (now : Int) : List ByteArray := hs.flatMap (due1 tl now)
theorem dueP_take (hs : List HP) (tl : List LTim) (now : Int) (j : Nat) (h : j < hs.length) : dueP (hs.take (j + 1)) tl now = dueP (hs.take j) tl now ++ due1 tl now hs[j] := by
  unfold dueP
  rw [List.take_succ_eq_append_getElem h, List.flatMap_append]
  simp
theorem due1_len (tl : List LTim) (now : Int) (h : HP) : (due1 tl now h).length ≤ 1 := by unfold due1; split <;> simp
theorem dueP_len (tl : List LTim) (now : Int) : ∀ hs : List HP, (dueP hs tl now).length ≤ hs.length
  | [] => Nat.le_refl _
  | h :: r => by
    have h1 := due1_len tl now h
    have h2 := dueP_len tl now r
    unfold dueP at h2 ⊢
    rw [List.flatMap_cons, List.length_append, List.length_cons]; omega
theorem tmOf_rng {tl : List LTim} (h : TimOk tl) (s : ByteArray) : 0 ≤ (tmOf tl s).since ∧ (tmOf tl s).since ≤ MT := by
  unfold tmOf
  cases hf : findT tl s with
  | none => simp [zT, MT]
  | some t => exact h.rng t (findT_some hf).1
theorem mapV_is {tl : List LTim} (h : TimOk tl) : mapV tl = fun s => (findT tl s).map valT := by
  funext s
  unfold mapV
  rw [mapT_find h.asc]
theorem look_val (tl : List LTim) (s : ByteArray) : ((findT tl s).map valT).getD (valT zT) = valT (tmOf tl s) := by
  unfold tmOf
  cases findT tl s <;> rfl
theorem look_has (tl : List LTim) (s : ByteArray) : ((findT tl s).map valT).isSome = (findT tl s).isSome := by
  cases findT tl s <;> rfl
theorem HP_small {w : World} {ps : List RP} {v : Value} (hx : RdR w ps v) {h : HP} (hh : h ∈ holdsP ps) : h.1.1.name.size ≤ maxLen := by
  have hs := hx.2 _ (holdsP_mem hh).1
  rw [hs.name]; exact hs.small
set_option maxRecDepth 100000 in
set_option maxHeartbeats 8000000 in
theorem due_any (l : List LTim) (A : Option Addr) (c : Nat) (ps : List RP) (B : Option Addr) (m : Nat) (now : Int) (w : World) (hx : RdT w l (.slice A l.length c)) (hy : RdR w ps (.slice B ps.length m)) (hl : ps.length ≤ 100000) (hon : ∀ p ∈ ps, p.2.on.length ≤ 1000000) :
    Calls Tryz.prog 13 #[.slice A l.length c, .slice B ps.length m, .int .i64 now] w fun r w' => (∃ v, r = .returned v ∧ ES.Rd w' (dueP (holdsP ps) (validP l) now) v) ∧ Lat w w' := by
  have HV := Lib.hid (valid_any l A c w hx.1)
  have HBY := fun (A1 : Option Addr) (c1 : Nat) (w' : World) (h : ET.Rd w' (validP l) (.slice A1 (validP l).length c1)) => Lib.hid (byName_any (validP l) A1 c1 w' ⟨h, fun t ht => hx.2 t (validP_mem ht)⟩ (by have := validP_len l; omega))
  have HHO := fun (w' : World) (h : Lat w w') => Lib.hid (holds_any ps B m w' (hy.lat h) hl hon)
  have HLIM := fun w => Lib.hid (limit_any now w)
  have HZ : ∀ w, Hid ((zeroValue 50).run Tryz.prog w = .ok (valT zT) w) := fun w => Lib.hid (Tryz.zeroValue50 w)
  have HSM : Hid (∀ (j : Nat) (h : j < (holdsP ps).length), (holdsP ps)[j].1.1.name.size ≤ maxLen) := Lib.hid (fun j h => HP_small hy (List.getElem_mem h))
  have HTR : Hid (∀ (j : Nat) (h : j < (holdsP ps).length), 0 ≤ (holdsP ps)[j].2 ∧ (holdsP ps)[j].2 ≤ MT) := Lib.hid (fun j h => trg_range (holdsP_mem (List.getElem_mem h)).2)
  have HRN : Hid (∀ s, 0 ≤ (tmOf (validP l) s).since ∧ (tmOf (validP l) s).since ≤ MT) := Lib.hid (fun s => tmOf_rng (validP_ok l) s)
  have HMV : Hid (mapV (validP l) = fun s => (findT (validP l) s).map valT) := Lib.hid (mapV_is (validP_ok l))
  have HDT := fun j h => Lib.hid (dueP_take (holdsP ps) (validP l) now j h)
  have HDL : Hid (∀ j, (dueP ((holdsP ps).take j) (validP l) now).length ≤ 40) := Lib.hid (fun j => Nat.le_trans (dueP_len _ _ _) (by rw [List.length_take]; have := holdsP_len ps; omega))
  have HFU : Hid (dueP (holdsP ps) (validP l) now = dueP ((holdsP ps).take (holdsP ps).length) (validP l) now) := Lib.hid (by rw [List.take_length])
  have HHL : Hid ((holdsP ps).length ≤ 40) := Lib.hid (holdsP_len ps)
  generalize validP l = vs at *
  generalize holdsP ps = hs at *
  clear hx hy hl hon
  go_enter Tryz.func13, Tryz.ntmps13
  go_wp2_with fail
  refine HV.out.mono ?_
  rintro r w1 ⟨v1, rfl, hown1, hl1⟩
  obtain ⟨A1, c1, rfl⟩ := hown1.slice
  have HBY1 := HBY A1 c1 w1 hown1.rd
  clear HV HBY hown1
  go_wp2_with fail
  refine HBY1.out.mono ?_
  rintro r w2 ⟨⟨bm, rfl, hbm, hom2⟩, hl2⟩
  have hL2 := hl1.trans hl2
  have HHO2 := HHO w2 hL2
  rw [HMV.out] at hom2
  clear HBY1 HHO hl1 hl2 HMV
  go_wp2_with fail
  refine HHO2.out.mono ?_
  rintro r w3 ⟨⟨v3, rfl, hrd3, -⟩, hl3⟩
  have hL3 := hL2.trans hl3
  have hom3 := hom2.lat hl3
  have hbm3 := hom3.lt
  obtain ⟨A3, c3, hv3, hrow3, hnil3⟩ := hrd3
  have hrd3 : EH.Rd w3 (hs.map encH) v3 := ⟨A3, c3, hv3, hrow3, hnil3⟩
  rw [List.length_map] at hv3
  subst hv3
  clear HHO2 hom2 hL2 hl3 hrow3 hnil3 hbm
  have hhl := HHL.out
  go_wp2_with fail
  go_loopw [8, 19] (fun v i wr => ∃ j : Nat, j ≤ hs.length ∧ i = .int .i64 j ∧ ES.Own wr w3.heap.size (dueP (hs.take j) vs now) v ∧ OMap wr bm vs.length (fun s => (findT vs s).map valT) ∧ Lat w3 wr) (fun _ i _ => hs.length - (intOf i).toNat)
  case atStart => exact ⟨0, Nat.zero_le _, rfl, Elt.Own.nil _ _, hom3, Lat.refl _⟩
  case round =>
    clear hom3
    obtain ⟨j, hjl, rfl, hown, hom, hLW⟩ := hrel
    by_cases hlt : j < hs.length
    · obtain ⟨b, off, hA, hb0, hr1'⟩ := (hrd3.lat hLW).row j (by rw [List.length_map]; exact hlt)
      subst hA
      rw [List.getElem_map] at hr1'
      have hr1 : RowAt wr b (off + j * 16) (hC (encH hs[j])) := hr1'
      have hsm := HSM.out j hlt
      have htr := HTR.out j hlt
      have HD1 := HDT j hlt
      have HD : Hid (due1 vs now hs[j] = if (findT vs hs[j].1.1.name).isSome && !(tmOf vs hs[j].1.1.name).fired && decide (hs[j].2 ≤ lim now - (tmOf vs hs[j].1.1.name).since) then [(tmOf vs hs[j].1.1.name).rule] else []) := Lib.hid rfl
      have hdl := HDL.out j
      have hBL : Lat wr (wr.alloc (.cells (hC (encH hs[j])).toArray 61)) := Lat.al _ _
      have hom1 := hom.lat hBL
      have hrn := HRN.out hs[j].1.1.name
      have hlv := look_val vs hs[j].1.1.name
      have hlh := look_has vs hs[j].1.1.name
      have hhx0 := Blk.new wr 61 (hC (encH hs[j])).toArray
      clear hr1' HDT hBL
      generalize due1 vs now hs[j] = D1 at *
      generalize hT : tmOf vs hs[j].1.1.name = T at *
      generalize hS : (findT vs hs[j].1.1.name).isSome = S at *
      clear hT hS
      generalize hs[j] = P at *
      obtain ⟨⟨⟨x1, x2, x3, x4, x5, ⟨y1, y2, y3, y4, y5, y6, y7, y8, y9, y10⟩, x6, x7, x8, x9, x10, x11⟩, rl⟩, tm⟩ := P
      obtain ⟨t1, t2, t3⟩ := T
      simp only [encH, hC, rC, List.cons_append, List.nil_append] at hr1 hhx0 hom1
      dsimp only at hsm htr HD hrn hlv hlh
      have hLb : Lat wr ((wr.alloc (.cells #[.string x1, .int .i64 x2, .slice x3 x4 x5, .int .i64 y1, .int .i64 y2, .int .i64 y3, .string y4, .int .i64 y5, .int .i64 y6, .string y7, .int .i64 y8, .string y9, .string y10, .slice x6 x7 x8, .slice x9 x10 x11, .int .i64 tm] 61)).alloc (.cells #[.string t1, .int .i64 t2, .bool t3] 50)) := (Lat.al _ _).trans (Lat.al _ _)
      have hhx := hhx0.alloc (.cells #[.string t1, .int .i64 t2, .bool t3] 50)
      have htx := Blk.at1 wr (.cells #[.string x1, .int .i64 x2, .slice x3 x4 x5, .int .i64 y1, .int .i64 y2, .int .i64 y3, .string y4, .int .i64 y5, .int .i64 y6, .string y7, .int .i64 y8, .string y9, .string y10, .slice x6 x7 x8, .slice x9 x10 x11, .int .i64 tm] 61) 50 #[.string t1, .int .i64 t2, .bool t3]
      have HO := Lib.hid (hown.lat hLb)
      have HOM := Lib.hid (hom.lat hLb)
      have HL := Lib.hid (hLW.trans hLb)
      have hwp : IntKind.i64.wrap (lim now - t2) = lim now - t2 := by
        have e1 := lim_ge now
        have e2 := lim_le now
        rw [IntKind.wrap_i64]; unfold MT at *; omega
      have hwb : w3.heap.size ≤ wr.heap.size := hLW.size
      unfold valT tC at hlv
      clear hown hom hhx0 hLb hrn htr hLW
      generalize lim now = LN at *
      go_upto_region 7 with (first | (with_reducible refine wpList_load_at rfl 61 _ rfl b (off + j * 16) rfl _ _ hr1 Tryz.underlying61 rfl (by kernel_rfl) ?_) | (at_lookup; refine wpl_look_ok _ rfl _ _ 55 50 rfl Tryz.underlying55 (HZ _).out bm vs.length _ rfl hom1 x1 rfl hsm _ _ hlv hlh ?_))
      clear hr1 hom1 hlv hlh hsm
      have HLIM2 : ∀ w, Hid (Calls Tryz.prog 20 #[.int .i64 now] w fun r w' => r = .returned (.int .i64 LN) ∧ w' = w) := HLIM
      clear HLIM
      have HLIM := HLIM2
      clear HLIM2
      generalize hW5 : ((wr.alloc (.cells #[.string x1, .int .i64 x2, .slice x3 x4 x5, .int .i64 y1, .int .i64 y2, .int .i64 y3, .string y4, .int .i64 y5, .int .i64 y6, .string y7, .int .i64 y8, .string y9, .string y10, .slice x6 x7 x8, .slice x9 x10 x11, .int .i64 tm] 61)).alloc (.cells #[.string t1, .int .i64 t2, .bool t3] 50)) = w5 at *
      generalize wr.heap.size = gg at *
      clear hW5
      by_cases hq : tm ≤ LN - t2
      · have hq2 : decide (tm ≤ LN - t2) = true := decide_eq_true hq
        cases S
        · have HD2 : Hid (dueP (hs.take (j + 1)) vs now = dueP (hs.take j) vs now) := Lib.hid (HD1.out.trans (by rw [HD.out]; simp))
          clear HD HD1 hq2
          refine wp_rely (by kernel_rfl) (by kernel_rfl) ?_
          apply RelyL.val
          · intro ν w' hL hF K hK'
            have ch := (hhx.lat hL).cell
            have ct := (htx.lat hL).cell
            go_simp
            exact hK'.out _ _ rfl (Lat.refl _)
          simp only [Act.put, List.setIfInBounds_toArray, List.set_cons_zero, List.set_cons_succ, Nat.reduceAdd]
          apply RelyL.val
          · intro ν w' hL hF K hK'
            have ch := (hhx.lat hL).cell
            have ct := (htx.lat hL).cell
            go_simp
            exact hK'.out _ _ rfl (Lat.refl _)
          simp only [Act.put, List.setIfInBounds_toArray, List.set_cons_zero, List.set_cons_succ, Nat.reduceAdd]
          apply RelyL.val
          · intro ν w' hL hF K hK'
            refine skip_op rfl ?_
            exact hK'.out _ _ rfl (Lat.refl _)
          simp only [Act.put, List.setIfInBounds_toArray, List.set_cons_zero, List.set_cons_succ, Nat.reduceAdd]
          apply RelyL.val
          · intro ν w' hL hF K hK'
            refine skip_op rfl ?_
            exact hK'.out _ _ rfl (Lat.refl _)
          simp only [Act.put, List.setIfInBounds_toArray, List.set_cons_zero, List.set_cons_succ, Nat.reduceAdd]
          apply RelyL.val
          · intro ν w' hL hF K hK'
            refine skip_op rfl ?_
            exact hK'.out _ _ rfl (Lat.refl _)
          simp only [Act.put, List.setIfInBounds_toArray, List.set_cons_zero, List.set_cons_succ, Nat.reduceAdd]
          apply RelyL.val
          · intro ν w' hL hF K hK'
            have ch := (hhx.lat hL).cell
            have ct := (htx.lat hL).cell
            go_simp
            exact hK'.out _ _ rfl (Lat.refl _)
          simp only [Act.put, List.setIfInBounds_toArray, List.set_cons_zero, List.set_cons_succ, Nat.reduceAdd]
          apply RelyL.val
          · intro ν w' hL hF K hK'
            have ch := (hhx.lat hL).cell
            have ct := (htx.lat hL).cell
            go_simp
            exact hK'.out _ _ rfl (Lat.refl _)
          simp only [Act.put, List.setIfInBounds_toArray, List.set_cons_zero, List.set_cons_succ, Nat.reduceAdd]
          apply RelyL.val
          · intro ν w' hL hF K hK'
            refine skip_op rfl ?_
            exact hK'.out _ _ rfl (Lat.refl _)
          simp only [Act.put, List.setIfInBounds_toArray, List.set_cons_zero, List.set_cons_succ, Nat.reduceAdd]
          apply RelyL.val
          · intro ν w' hL hF K hK'
            refine skip_op rfl ?_
            exact hK'.out _ _ rfl (Lat.refl _)
          simp only [Act.put, List.setIfInBounds_toArray, List.set_cons_zero, List.set_cons_succ, Nat.reduceAdd]
          apply RelyL.val
          · intro ν w' hL hF K hK'
            refine skip_op rfl ?_
            exact hK'.out _ _ rfl (Lat.refl _)
          simp only [Act.put, List.setIfInBounds_toArray, List.set_cons_zero, List.set_cons_succ, Nat.reduceAdd]
          apply RelyL.val
          · intro ν w' hL hF K hK'
            refine skip_op rfl ?_
            exact hK'.out _ _ rfl (Lat.refl _)
          simp only [Act.put, List.setIfInBounds_toArray, List.set_cons_zero, List.set_cons_succ, Nat.reduceAdd]
          apply RelyL.val
          · intro ν w' hL hF K hK'
            refine skip_op rfl ?_
            exact hK'.out _ _ rfl (Lat.refl _)
          simp only [Act.put, List.setIfInBounds_toArray, List.set_cons_zero, List.set_cons_succ, Nat.reduceAdd]
          apply RelyL.val
          · intro ν w' hL hF K hK'
            refine skip_op rfl ?_
            exact hK'.out _ _ rfl (Lat.refl _)
          simp only [Act.put, List.setIfInBounds_toArray, List.set_cons_zero, List.set_cons_succ, Nat.reduceAdd]
          apply RelyL.val
          · intro ν w' hL hF K hK'
            refine skip_op rfl ?_
            exact hK'.out _ _ rfl (Lat.refl _)
          simp only [Act.put, List.setIfInBounds_toArray, List.set_cons_zero, List.set_cons_succ, Nat.reduceAdd]
          apply RelyL.val
          · intro ν w' hL hF K hK'
            refine skip_op rfl ?_
            exact hK'.out _ _ rfl (Lat.refl _)
          simp only [Act.put, List.setIfInBounds_toArray, List.set_cons_zero, List.set_cons_succ, Nat.reduceAdd]
          apply RelyL.val
          · intro ν w' hL hF K hK'
            have ch := (hhx.lat hL).cell
            have ct := (htx.lat hL).cell
            go_simp
            exact hK'.out _ _ rfl (Lat.refl _)
          simp only [Act.put, List.setIfInBounds_toArray, List.set_cons_zero, List.set_cons_succ, Nat.reduceAdd]
          refine RelyL.done fun ν w7 hL hF => ?_
          clear hF hhx
          have htc := (htx.lat hL).cell
          have hown7 := HO.out.lat hL
          have hom7 := HOM.out.lat hL
          have hL7 := HL.out.trans hL
          clear hL htx HLIM
          go_wp2_with fail
          go_roundw
          case rel => exact ⟨j + 1, by omega, by go_num, by rw [HD2.out]; exact hown7, hom7, hL7⟩
          case measure => simp [intOf]; omega
        · cases t3
          · have HD2 : Hid (dueP (hs.take (j + 1)) vs now = dueP (hs.take j) vs now ++ [t1]) := Lib.hid (HD1.out.trans (by rw [HD.out, hq2]; rfl))
            clear HD HD1 hq2
            refine wp_rely (by kernel_rfl) (by kernel_rfl) ?_
            apply RelyL.val
            · intro ν w' hL hF K hK'
              have ch := (hhx.lat hL).cell
              have ct := (htx.lat hL).cell
              go_simp
              exact hK'.out _ _ rfl (Lat.refl _)
            simp only [Act.put, List.setIfInBounds_toArray, List.set_cons_zero, List.set_cons_succ, Nat.reduceAdd]
            apply RelyL.val
            · intro ν w' hL hF K hK'
              have ch := (hhx.lat hL).cell
              have ct := (htx.lat hL).cell
              go_simp
              exact hK'.out _ _ rfl (Lat.refl _)
            simp only [Act.put, List.setIfInBounds_toArray, List.set_cons_zero, List.set_cons_succ, Nat.reduceAdd]
            apply RelyL.val
            · intro ν w' hL hF K hK'
              have ch := (hhx.lat hL).cell
              have ct := (htx.lat hL).cell
              go_simp
              exact hK'.out _ _ rfl (Lat.refl _)
            simp only [Act.put, List.setIfInBounds_toArray, List.set_cons_zero, List.set_cons_succ, Nat.reduceAdd]
            apply RelyL.val
            · intro ν w' hL hF K hK'
              have ch := (hhx.lat hL).cell
              have ct := (htx.lat hL).cell
              go_simp
              exact hK'.out _ _ rfl (Lat.refl _)
            simp only [Act.put, List.setIfInBounds_toArray, List.set_cons_zero, List.set_cons_succ, Nat.reduceAdd]
            apply RelyL.val
            · intro ν w' hL hF K hK'
              have ch := (hhx.lat hL).cell
              have ct := (htx.lat hL).cell
              go_simp
              exact hK'.out _ _ rfl (Lat.refl _)
            simp only [Act.put, List.setIfInBounds_toArray, List.set_cons_zero, List.set_cons_succ, Nat.reduceAdd]
            apply RelyL.val
            · intro ν w' hL hF K hK'
              have ch := (hhx.lat hL).cell
              have ct := (htx.lat hL).cell
              go_simp
              exact hK'.out _ _ rfl (Lat.refl _)
            simp only [Act.put, List.setIfInBounds_toArray, List.set_cons_zero, List.set_cons_succ, Nat.reduceAdd]
            apply RelyL.val
            · intro ν w' hL hF K hK'
              have ch := (hhx.lat hL).cell
              have ct := (htx.lat hL).cell
              go_simp
              exact hK'.out _ _ rfl (Lat.refl _)
            simp only [Act.put, List.setIfInBounds_toArray, List.set_cons_zero, List.set_cons_succ, Nat.reduceAdd]
            apply RelyL.val
            · intro ν w' hL hF K hK'
              have ch := (hhx.lat hL).cell
              have ct := (htx.lat hL).cell
              go_simp
              exact hK'.out _ _ rfl (Lat.refl _)
            simp only [Act.put, List.setIfInBounds_toArray, List.set_cons_zero, List.set_cons_succ, Nat.reduceAdd]
            apply RelyL.val
            · intro ν w' hL hF K hK'
              have H := HLIM w'
              go_simp
              go_at_call 20
              refine H.out.mono ?_
              rintro r w'' ⟨rfl, rfl⟩
              exact hK'.out _ _ rfl (Lat.refl _)
            simp only [Act.put, List.setIfInBounds_toArray, List.set_cons_zero, List.set_cons_succ, Nat.reduceAdd]
            apply RelyL.val
            · intro ν w' hL hF K hK'
              have ch := (hhx.lat hL).cell
              have ct := (htx.lat hL).cell
              go_simp
              exact hK'.out _ _ rfl (Lat.refl _)
            simp only [Act.put, List.setIfInBounds_toArray, List.set_cons_zero, List.set_cons_succ, Nat.reduceAdd]
            apply RelyL.val
            · intro ν w' hL hF K hK'
              have ch := (hhx.lat hL).cell
              have ct := (htx.lat hL).cell
              go_simp
              exact hK'.out _ _ rfl (Lat.refl _)
            simp only [Act.put, List.setIfInBounds_toArray, List.set_cons_zero, List.set_cons_succ, Nat.reduceAdd]
            apply RelyL.val
            · intro ν w' hL hF K hK'
              have ch := (hhx.lat hL).cell
              have ct := (htx.lat hL).cell
              go_simp
              exact hK'.out _ _ rfl (Lat.refl _)
            simp only [Act.put, List.setIfInBounds_toArray, List.set_cons_zero, List.set_cons_succ, Nat.reduceAdd]
            apply RelyL.val
            · intro ν w' hL hF K hK'
              have ch := (hhx.lat hL).cell
              have ct := (htx.lat hL).cell
              go_simp
              exact hK'.out _ _ rfl (Lat.refl _)
            simp only [Act.put, List.setIfInBounds_toArray, List.set_cons_zero, List.set_cons_succ, Nat.reduceAdd]
            apply RelyL.val
            · intro ν w' hL hF K hK'
              have ch := (hhx.lat hL).cell
              have ct := (htx.lat hL).cell
              go_simp
              exact hK'.out _ _ rfl (Lat.refl _)
            simp only [Act.put, List.setIfInBounds_toArray, List.set_cons_zero, List.set_cons_succ, Nat.reduceAdd]
            apply RelyL.val
            · intro ν w' hL hF K hK'
              have ch := (hhx.lat hL).cell
              have ct := (htx.lat hL).cell
              go_simp
              exact hK'.out _ _ rfl (Lat.refl _)
            simp only [Act.put, List.setIfInBounds_toArray, List.set_cons_zero, List.set_cons_succ, Nat.reduceAdd]
            apply RelyL.val
            · intro ν w' hL hF K hK'
              have ch := (hhx.lat hL).cell
              have ct := (htx.lat hL).cell
              go_simp
              exact hK'.out _ _ rfl (Lat.refl _)
            simp only [Act.put, List.setIfInBounds_toArray, List.set_cons_zero, List.set_cons_succ, Nat.reduceAdd]
            refine RelyL.done fun ν w7 hL hF => ?_
            clear hF hhx
            have htc := (htx.lat hL).cell
            have hown7 := HO.out.lat hL
            have hom7 := HOM.out.lat hL
            have hL7 := HL.out.trans hL
            clear hL htx HLIM
            have hL8 : Lat w3 (w7.alloc (.cells #[.string t1] 9)) := hL7.trans (Lat.al _ _)
            have hown8 := hown7.al (.cells #[.string t1] 9)
            have HOM8 := Lib.hid (hom7.lat (Lat.al w7 (.cells #[.string t1] 9)))
            have hbn : Blk (w7.alloc (.cells #[.string t1] 9)) w7.heap.size 9 (ES.f t1).toArray := Blk.new _ _ _
            have hmax : (dueP (hs.take j) vs now).length + 1 ≤ maxLen := by unfold maxLen; omega
            have hby : ((dueP (hs.take j) vs now).length + 1) * ES.bytes ≤ 140737488355328 := Nat.le_trans (Nat.mul_le_mul_right ES.bytes (by omega : _ ≤ 1000000)) (by decide)
            have hws := hL8.size
            have HL8 := Lib.hid hL8
            clear hown7 hom7 hL7 hL8
            go_wp2_with (at_builtin; refine ES.append rfl _ _ rfl w3.heap.size _ _ rfl hown8 w7.heap.size 1 t1 rfl 9 hbn hmax hby hws ?_; intro v9 w9 hown9 hg9 hw9; go_must (have hL9 : Lat w3 w9 := HL8.out.grown hg9 hws (fun k hk => (hown8.lt k hk).1); have hom9 := HOM8.out.grown hg9 (fun e => by have := (hown8.lt _ e.symm).1; omega); clear hown8 hg9 hw9 hbn))
            go_roundw
            case rel => exact ⟨j + 1, by omega, by go_num, by rw [HD2.out]; exact hown9, hom9, hL9⟩
            case measure => simp [intOf]; omega
          · have HD2 : Hid (dueP (hs.take (j + 1)) vs now = dueP (hs.take j) vs now) := Lib.hid (HD1.out.trans (by rw [HD.out]; simp))
            clear HD HD1 hq2
            refine wp_rely (by kernel_rfl) (by kernel_rfl) ?_
            apply RelyL.val
            · intro ν w' hL hF K hK'
              have ch := (hhx.lat hL).cell
              have ct := (htx.lat hL).cell
              go_simp
              exact hK'.out _ _ rfl (Lat.refl _)
            simp only [Act.put, List.setIfInBounds_toArray, List.set_cons_zero, List.set_cons_succ, Nat.reduceAdd]
            apply RelyL.val
            · intro ν w' hL hF K hK'
              have ch := (hhx.lat hL).cell
              have ct := (htx.lat hL).cell
              go_simp
              exact hK'.out _ _ rfl (Lat.refl _)
            simp only [Act.put, List.setIfInBounds_toArray, List.set_cons_zero, List.set_cons_succ, Nat.reduceAdd]
            apply RelyL.val
            · intro ν w' hL hF K hK'
              have ch := (hhx.lat hL).cell
              have ct := (htx.lat hL).cell
              go_simp
              exact hK'.out _ _ rfl (Lat.refl _)
            simp only [Act.put, List.setIfInBounds_toArray, List.set_cons_zero, List.set_cons_succ, Nat.reduceAdd]
            apply RelyL.val
            · intro ν w' hL hF K hK'
              have ch := (hhx.lat hL).cell
              have ct := (htx.lat hL).cell
              go_simp
              exact hK'.out _ _ rfl (Lat.refl _)
            simp only [Act.put, List.setIfInBounds_toArray, List.set_cons_zero, List.set_cons_succ, Nat.reduceAdd]
            apply RelyL.val
            · intro ν w' hL hF K hK'
              have ch := (hhx.lat hL).cell
              have ct := (htx.lat hL).cell
              go_simp
              exact hK'.out _ _ rfl (Lat.refl _)
            simp only [Act.put, List.setIfInBounds_toArray, List.set_cons_zero, List.set_cons_succ, Nat.reduceAdd]
            apply RelyL.val
            · intro ν w' hL hF K hK'
              have ch := (hhx.lat hL).cell
              have ct := (htx.lat hL).cell
              go_simp
              exact hK'.out _ _ rfl (Lat.refl _)
            simp only [Act.put, List.setIfInBounds_toArray, List.set_cons_zero, List.set_cons_succ, Nat.reduceAdd]
            apply RelyL.val
            · intro ν w' hL hF K hK'
              have ch := (hhx.lat hL).cell
              have ct := (htx.lat hL).cell
              go_simp
              exact hK'.out _ _ rfl (Lat.refl _)
            simp only [Act.put, List.setIfInBounds_toArray, List.set_cons_zero, List.set_cons_succ, Nat.reduceAdd]
            apply RelyL.val
            · intro ν w' hL hF K hK'
              refine skip_op rfl ?_
              exact hK'.out _ _ rfl (Lat.refl _)
            simp only [Act.put, List.setIfInBounds_toArray, List.set_cons_zero, List.set_cons_succ, Nat.reduceAdd]
            apply RelyL.val
            · intro ν w' hL hF K hK'
              refine skip_op rfl ?_
              exact hK'.out _ _ rfl (Lat.refl _)
            simp only [Act.put, List.setIfInBounds_toArray, List.set_cons_zero, List.set_cons_succ, Nat.reduceAdd]
            apply RelyL.val
            · intro ν w' hL hF K hK'
              refine skip_op rfl ?_
              exact hK'.out _ _ rfl (Lat.refl _)
            simp only [Act.put, List.setIfInBounds_toArray, List.set_cons_zero, List.set_cons_succ, Nat.reduceAdd]
            apply RelyL.val
            · intro ν w' hL hF K hK'
              refine skip_op rfl ?_
              exact hK'.out _ _ rfl (Lat.refl _)
            simp only [Act.put, List.setIfInBounds_toArray, List.set_cons_zero, List.set_cons_succ, Nat.reduceAdd]
            apply RelyL.val
            · intro ν w' hL hF K hK'
              refine skip_op rfl ?_
              exact hK'.out _ _ rfl (Lat.refl _)
            simp only [Act.put, List.setIfInBounds_toArray, List.set_cons_zero, List.set_cons_succ, Nat.reduceAdd]
            apply RelyL.val
            · intro ν w' hL hF K hK'
              refine skip_op rfl ?_
              exact hK'.out _ _ rfl (Lat.refl _)
            simp only [Act.put, List.setIfInBounds_toArray, List.set_cons_zero, List.set_cons_succ, Nat.reduceAdd]
            apply RelyL.val
            · intro ν w' hL hF K hK'
              refine skip_op rfl ?_
              exact hK'.out _ _ rfl (Lat.refl _)
            simp only [Act.put, List.setIfInBounds_toArray, List.set_cons_zero, List.set_cons_succ, Nat.reduceAdd]
            apply RelyL.val
            · intro ν w' hL hF K hK'
              refine skip_op rfl ?_
              exact hK'.out _ _ rfl (Lat.refl _)
            simp only [Act.put, List.setIfInBounds_toArray, List.set_cons_zero, List.set_cons_succ, Nat.reduceAdd]
            apply RelyL.val
            · intro ν w' hL hF K hK'
              have ch := (hhx.lat hL).cell
              have ct := (htx.lat hL).cell
              go_simp
              exact hK'.out _ _ rfl (Lat.refl _)
            simp only [Act.put, List.setIfInBounds_toArray, List.set_cons_zero, List.set_cons_succ, Nat.reduceAdd]
            refine RelyL.done fun ν w7 hL hF => ?_
            clear hF hhx
            have htc := (htx.lat hL).cell
            have hown7 := HO.out.lat hL
            have hom7 := HOM.out.lat hL
            have hL7 := HL.out.trans hL
            clear hL htx HLIM
            go_wp2_with fail
            go_roundw
            case rel => exact ⟨j + 1, by omega, by go_num, by rw [HD2.out]; exact hown7, hom7, hL7⟩
            case measure => simp [intOf]; omega
      · have hq2 : decide (tm ≤ LN - t2) = false := decide_eq_false hq
        have HD2 : Hid (dueP (hs.take (j + 1)) vs now = dueP (hs.take j) vs now) := Lib.hid (HD1.out.trans (by rw [HD.out, hq2]; simp))
        clear HD HD1 hq2
        cases S
        · refine wp_rely (by kernel_rfl) (by kernel_rfl) ?_
          apply RelyL.val
          · intro ν w' hL hF K hK'
            have ch := (hhx.lat hL).cell
            have ct := (htx.lat hL).cell
            go_simp
            exact hK'.out _ _ rfl (Lat.refl _)
          simp only [Act.put, List.setIfInBounds_toArray, List.set_cons_zero, List.set_cons_succ, Nat.reduceAdd]
          apply RelyL.val
          · intro ν w' hL hF K hK'
            have ch := (hhx.lat hL).cell
            have ct := (htx.lat hL).cell
            go_simp
            exact hK'.out _ _ rfl (Lat.refl _)
          simp only [Act.put, List.setIfInBounds_toArray, List.set_cons_zero, List.set_cons_succ, Nat.reduceAdd]
          apply RelyL.val
          · intro ν w' hL hF K hK'
            refine skip_op rfl ?_
            exact hK'.out _ _ rfl (Lat.refl _)
          simp only [Act.put, List.setIfInBounds_toArray, List.set_cons_zero, List.set_cons_succ, Nat.reduceAdd]
          apply RelyL.val
          · intro ν w' hL hF K hK'
            refine skip_op rfl ?_
            exact hK'.out _ _ rfl (Lat.refl _)
          simp only [Act.put, List.setIfInBounds_toArray, List.set_cons_zero, List.set_cons_succ, Nat.reduceAdd]
          apply RelyL.val
          · intro ν w' hL hF K hK'
            refine skip_op rfl ?_
            exact hK'.out _ _ rfl (Lat.refl _)
          simp only [Act.put, List.setIfInBounds_toArray, List.set_cons_zero, List.set_cons_succ, Nat.reduceAdd]
          apply RelyL.val
          · intro ν w' hL hF K hK'
            have ch := (hhx.lat hL).cell
            have ct := (htx.lat hL).cell
            go_simp
            exact hK'.out _ _ rfl (Lat.refl _)
          simp only [Act.put, List.setIfInBounds_toArray, List.set_cons_zero, List.set_cons_succ, Nat.reduceAdd]
          apply RelyL.val
          · intro ν w' hL hF K hK'
            have ch := (hhx.lat hL).cell
            have ct := (htx.lat hL).cell
            go_simp
            exact hK'.out _ _ rfl (Lat.refl _)
          simp only [Act.put, List.setIfInBounds_toArray, List.set_cons_zero, List.set_cons_succ, Nat.reduceAdd]
          apply RelyL.val
          · intro ν w' hL hF K hK'
            refine skip_op rfl ?_
            exact hK'.out _ _ rfl (Lat.refl _)
          simp only [Act.put, List.setIfInBounds_toArray, List.set_cons_zero, List.set_cons_succ, Nat.reduceAdd]
          apply RelyL.val
          · intro ν w' hL hF K hK'
            refine skip_op rfl ?_
            exact hK'.out _ _ rfl (Lat.refl _)
          simp only [Act.put, List.setIfInBounds_toArray, List.set_cons_zero, List.set_cons_succ, Nat.reduceAdd]
          apply RelyL.val
          · intro ν w' hL hF K hK'
            refine skip_op rfl ?_
            exact hK'.out _ _ rfl (Lat.refl _)
          simp only [Act.put, List.setIfInBounds_toArray, List.set_cons_zero, List.set_cons_succ, Nat.reduceAdd]
          apply RelyL.val
          · intro ν w' hL hF K hK'
            refine skip_op rfl ?_
            exact hK'.out _ _ rfl (Lat.refl _)
          simp only [Act.put, List.setIfInBounds_toArray, List.set_cons_zero, List.set_cons_succ, Nat.reduceAdd]
          apply RelyL.val
          · intro ν w' hL hF K hK'
            refine skip_op rfl ?_
            exact hK'.out _ _ rfl (Lat.refl _)
          simp only [Act.put, List.setIfInBounds_toArray, List.set_cons_zero, List.set_cons_succ, Nat.reduceAdd]
          apply RelyL.val
          · intro ν w' hL hF K hK'
            refine skip_op rfl ?_
            exact hK'.out _ _ rfl (Lat.refl _)
          simp only [Act.put, List.setIfInBounds_toArray, List.set_cons_zero, List.set_cons_succ, Nat.reduceAdd]
          apply RelyL.val
          · intro ν w' hL hF K hK'
            refine skip_op rfl ?_
            exact hK'.out _ _ rfl (Lat.refl _)
          simp only [Act.put, List.setIfInBounds_toArray, List.set_cons_zero, List.set_cons_succ, Nat.reduceAdd]
          apply RelyL.val
          · intro ν w' hL hF K hK'
            refine skip_op rfl ?_
            exact hK'.out _ _ rfl (Lat.refl _)
          simp only [Act.put, List.setIfInBounds_toArray, List.set_cons_zero, List.set_cons_succ, Nat.reduceAdd]
          apply RelyL.val
          · intro ν w' hL hF K hK'
            have ch := (hhx.lat hL).cell
            have ct := (htx.lat hL).cell
            go_simp
            exact hK'.out _ _ rfl (Lat.refl _)
          simp only [Act.put, List.setIfInBounds_toArray, List.set_cons_zero, List.set_cons_succ, Nat.reduceAdd]
          refine RelyL.done fun ν w7 hL hF => ?_
          clear hF hhx
          have htc := (htx.lat hL).cell
          have hown7 := HO.out.lat hL
          have hom7 := HOM.out.lat hL
          have hL7 := HL.out.trans hL
          clear hL htx HLIM
          go_wp2_with fail
          go_roundw
          case rel => exact ⟨j + 1, by omega, by go_num, by rw [HD2.out]; exact hown7, hom7, hL7⟩
          case measure => simp [intOf]; omega
        · cases t3
          · refine wp_rely (by kernel_rfl) (by kernel_rfl) ?_
            apply RelyL.val
            · intro ν w' hL hF K hK'
              have ch := (hhx.lat hL).cell
              have ct := (htx.lat hL).cell
              go_simp
              exact hK'.out _ _ rfl (Lat.refl _)
            simp only [Act.put, List.setIfInBounds_toArray, List.set_cons_zero, List.set_cons_succ, Nat.reduceAdd]
            apply RelyL.val
            · intro ν w' hL hF K hK'
              have ch := (hhx.lat hL).cell
              have ct := (htx.lat hL).cell
              go_simp
              exact hK'.out _ _ rfl (Lat.refl _)
            simp only [Act.put, List.setIfInBounds_toArray, List.set_cons_zero, List.set_cons_succ, Nat.reduceAdd]
            apply RelyL.val
            · intro ν w' hL hF K hK'
              have ch := (hhx.lat hL).cell
              have ct := (htx.lat hL).cell
              go_simp
              exact hK'.out _ _ rfl (Lat.refl _)
            simp only [Act.put, List.setIfInBounds_toArray, List.set_cons_zero, List.set_cons_succ, Nat.reduceAdd]
            apply RelyL.val
            · intro ν w' hL hF K hK'
              have ch := (hhx.lat hL).cell
              have ct := (htx.lat hL).cell
              go_simp
              exact hK'.out _ _ rfl (Lat.refl _)
            simp only [Act.put, List.setIfInBounds_toArray, List.set_cons_zero, List.set_cons_succ, Nat.reduceAdd]
            apply RelyL.val
            · intro ν w' hL hF K hK'
              have ch := (hhx.lat hL).cell
              have ct := (htx.lat hL).cell
              go_simp
              exact hK'.out _ _ rfl (Lat.refl _)
            simp only [Act.put, List.setIfInBounds_toArray, List.set_cons_zero, List.set_cons_succ, Nat.reduceAdd]
            apply RelyL.val
            · intro ν w' hL hF K hK'
              have ch := (hhx.lat hL).cell
              have ct := (htx.lat hL).cell
              go_simp
              exact hK'.out _ _ rfl (Lat.refl _)
            simp only [Act.put, List.setIfInBounds_toArray, List.set_cons_zero, List.set_cons_succ, Nat.reduceAdd]
            apply RelyL.val
            · intro ν w' hL hF K hK'
              have ch := (hhx.lat hL).cell
              have ct := (htx.lat hL).cell
              go_simp
              exact hK'.out _ _ rfl (Lat.refl _)
            simp only [Act.put, List.setIfInBounds_toArray, List.set_cons_zero, List.set_cons_succ, Nat.reduceAdd]
            apply RelyL.val
            · intro ν w' hL hF K hK'
              have ch := (hhx.lat hL).cell
              have ct := (htx.lat hL).cell
              go_simp
              exact hK'.out _ _ rfl (Lat.refl _)
            simp only [Act.put, List.setIfInBounds_toArray, List.set_cons_zero, List.set_cons_succ, Nat.reduceAdd]
            apply RelyL.val
            · intro ν w' hL hF K hK'
              have H := HLIM w'
              go_simp
              go_at_call 20
              refine H.out.mono ?_
              rintro r w'' ⟨rfl, rfl⟩
              exact hK'.out _ _ rfl (Lat.refl _)
            simp only [Act.put, List.setIfInBounds_toArray, List.set_cons_zero, List.set_cons_succ, Nat.reduceAdd]
            apply RelyL.val
            · intro ν w' hL hF K hK'
              have ch := (hhx.lat hL).cell
              have ct := (htx.lat hL).cell
              go_simp
              exact hK'.out _ _ rfl (Lat.refl _)
            simp only [Act.put, List.setIfInBounds_toArray, List.set_cons_zero, List.set_cons_succ, Nat.reduceAdd]
            apply RelyL.val
            · intro ν w' hL hF K hK'
              have ch := (hhx.lat hL).cell
              have ct := (htx.lat hL).cell
              go_simp
              exact hK'.out _ _ rfl (Lat.refl _)
            simp only [Act.put, List.setIfInBounds_toArray, List.set_cons_zero, List.set_cons_succ, Nat.reduceAdd]
            apply RelyL.val
            · intro ν w' hL hF K hK'
              have ch := (hhx.lat hL).cell
              have ct := (htx.lat hL).cell
              go_simp
              exact hK'.out _ _ rfl (Lat.refl _)
            simp only [Act.put, List.setIfInBounds_toArray, List.set_cons_zero, List.set_cons_succ, Nat.reduceAdd]
            apply RelyL.val
            · intro ν w' hL hF K hK'
              have ch := (hhx.lat hL).cell
              have ct := (htx.lat hL).cell
              go_simp
              exact hK'.out _ _ rfl (Lat.refl _)
            simp only [Act.put, List.setIfInBounds_toArray, List.set_cons_zero, List.set_cons_succ, Nat.reduceAdd]
            apply RelyL.val
            · intro ν w' hL hF K hK'
              have ch := (hhx.lat hL).cell
              have ct := (htx.lat hL).cell
              go_simp
              exact hK'.out _ _ rfl (Lat.refl _)
            simp only [Act.put, List.setIfInBounds_toArray, List.set_cons_zero, List.set_cons_succ, Nat.reduceAdd]
            apply RelyL.val
            · intro ν w' hL hF K hK'
              have ch := (hhx.lat hL).cell
              have ct := (htx.lat hL).cell
              go_simp
              exact hK'.out _ _ rfl (Lat.refl _)
            simp only [Act.put, List.setIfInBounds_toArray, List.set_cons_zero, List.set_cons_succ, Nat.reduceAdd]
            apply RelyL.val
            · intro ν w' hL hF K hK'
              have ch := (hhx.lat hL).cell
              have ct := (htx.lat hL).cell
              go_simp
              exact hK'.out _ _ rfl (Lat.refl _)
            simp only [Act.put, List.setIfInBounds_toArray, List.set_cons_zero, List.set_cons_succ, Nat.reduceAdd]
            refine RelyL.done fun ν w7 hL hF => ?_
            clear hF hhx
            have htc := (htx.lat hL).cell
            have hown7 := HO.out.lat hL
            have hom7 := HOM.out.lat hL
            have hL7 := HL.out.trans hL
            clear hL htx HLIM
            go_wp2_with fail
            go_roundw
            case rel => exact ⟨j + 1, by omega, by go_num, by rw [HD2.out]; exact hown7, hom7, hL7⟩
            case measure => simp [intOf]; omega
          · refine wp_rely (by kernel_rfl) (by kernel_rfl) ?_
            apply RelyL.val
            · intro ν w' hL hF K hK'
              have ch := (hhx.lat hL).cell
              have ct := (htx.lat hL).cell
              go_simp
              exact hK'.out _ _ rfl (Lat.refl _)
            simp only [Act.put, List.setIfInBounds_toArray, List.set_cons_zero, List.set_cons_succ, Nat.reduceAdd]
            apply RelyL.val
            · intro ν w' hL hF K hK'
              have ch := (hhx.lat hL).cell
              have ct := (htx.lat hL).cell
              go_simp
              exact hK'.out _ _ rfl (Lat.refl _)
            simp only [Act.put, List.setIfInBounds_toArray, List.set_cons_zero, List.set_cons_succ, Nat.reduceAdd]
            apply RelyL.val
            · intro ν w' hL hF K hK'
              have ch := (hhx.lat hL).cell
              have ct := (htx.lat hL).cell
              go_simp
              exact hK'.out _ _ rfl (Lat.refl _)
            simp only [Act.put, List.setIfInBounds_toArray, List.set_cons_zero, List.set_cons_succ, Nat.reduceAdd]
            apply RelyL.val
            · intro ν w' hL hF K hK'
              have ch := (hhx.lat hL).cell
              have ct := (htx.lat hL).cell
              go_simp
              exact hK'.out _ _ rfl (Lat.refl _)
            simp only [Act.put, List.setIfInBounds_toArray, List.set_cons_zero, List.set_cons_succ, Nat.reduceAdd]
            apply RelyL.val
            · intro ν w' hL hF K hK'
              have ch := (hhx.lat hL).cell
              have ct := (htx.lat hL).cell
              go_simp
              exact hK'.out _ _ rfl (Lat.refl _)
            simp only [Act.put, List.setIfInBounds_toArray, List.set_cons_zero, List.set_cons_succ, Nat.reduceAdd]
            apply RelyL.val
            · intro ν w' hL hF K hK'
              have ch := (hhx.lat hL).cell
              have ct := (htx.lat hL).cell
              go_simp
              exact hK'.out _ _ rfl (Lat.refl _)
            simp only [Act.put, List.setIfInBounds_toArray, List.set_cons_zero, List.set_cons_succ, Nat.reduceAdd]
            apply RelyL.val
            · intro ν w' hL hF K hK'
              have ch := (hhx.lat hL).cell
              have ct := (htx.lat hL).cell
              go_simp
              exact hK'.out _ _ rfl (Lat.refl _)
            simp only [Act.put, List.setIfInBounds_toArray, List.set_cons_zero, List.set_cons_succ, Nat.reduceAdd]
            apply RelyL.val
            · intro ν w' hL hF K hK'
              refine skip_op rfl ?_
              exact hK'.out _ _ rfl (Lat.refl _)
            simp only [Act.put, List.setIfInBounds_toArray, List.set_cons_zero, List.set_cons_succ, Nat.reduceAdd]
            apply RelyL.val
            · intro ν w' hL hF K hK'
              refine skip_op rfl ?_
              exact hK'.out _ _ rfl (Lat.refl _)
            simp only [Act.put, List.setIfInBounds_toArray, List.set_cons_zero, List.set_cons_succ, Nat.reduceAdd]
            apply RelyL.val
            · intro ν w' hL hF K hK'
              refine skip_op rfl ?_
              exact hK'.out _ _ rfl (Lat.refl _)
            simp only [Act.put, List.setIfInBounds_toArray, List.set_cons_zero, List.set_cons_succ, Nat.reduceAdd]
            apply RelyL.val
            · intro ν w' hL hF K hK'
              refine skip_op rfl ?_
              exact hK'.out _ _ rfl (Lat.refl _)
            simp only [Act.put, List.setIfInBounds_toArray, List.set_cons_zero, List.set_cons_succ, Nat.reduceAdd]
            apply RelyL.val
            · intro ν w' hL hF K hK'
              refine skip_op rfl ?_
              exact hK'.out _ _ rfl (Lat.refl _)
            simp only [Act.put, List.setIfInBounds_toArray, List.set_cons_zero, List.set_cons_succ, Nat.reduceAdd]
            apply RelyL.val
            · intro ν w' hL hF K hK'
              refine skip_op rfl ?_
              exact hK'.out _ _ rfl (Lat.refl _)
            simp only [Act.put, List.setIfInBounds_toArray, List.set_cons_zero, List.set_cons_succ, Nat.reduceAdd]
            apply RelyL.val
            · intro ν w' hL hF K hK'
              refine skip_op rfl ?_
              exact hK'.out _ _ rfl (Lat.refl _)
            simp only [Act.put, List.setIfInBounds_toArray, List.set_cons_zero, List.set_cons_succ, Nat.reduceAdd]
            apply RelyL.val
            · intro ν w' hL hF K hK'
              refine skip_op rfl ?_
              exact hK'.out _ _ rfl (Lat.refl _)
            simp only [Act.put, List.setIfInBounds_toArray, List.set_cons_zero, List.set_cons_succ, Nat.reduceAdd]
            apply RelyL.val
            · intro ν w' hL hF K hK'
              have ch := (hhx.lat hL).cell
              have ct := (htx.lat hL).cell
              go_simp
              exact hK'.out _ _ rfl (Lat.refl _)
            simp only [Act.put, List.setIfInBounds_toArray, List.set_cons_zero, List.set_cons_succ, Nat.reduceAdd]
            refine RelyL.done fun ν w7 hL hF => ?_
            clear hF hhx
            have htc := (htx.lat hL).cell
            have hown7 := HO.out.lat hL
            have hom7 := HOM.out.lat hL
            have hL7 := HL.out.trans hL
            clear hL htx HLIM
            go_wp2_with fail
            go_roundw
            case rel => exact ⟨j + 1, by omega, by go_num, by rw [HD2.out]; exact hown7, hom7, hL7⟩
            case measure => simp [intOf]; omega
    · have hj : j = hs.length := by omega
      subst hj
      rw [← HFU.out] at hown
      have hL := hL3.trans hLW
      clear HSM HTR HRN HDT HDL HLIM HZ
      go_wp2_with fail
      go_ret
      exact ⟨⟨_, rfl, hown.rd⟩, hL⟩
end Go.Proofs.YtafodibbcfoclaaGreat
