/- Hold: Update. -/
import Derived.Test.YtafodibbcfoclaaGreatHDue
import Derived.Test.YtafodibbcfoclaaGreatEvFindZ
set_option linter.unusedSimpArgs false
set_option linter.unusedVariables false
namespace Go.Proofs.YtafodibbcfoclaaGreat
open Go.RowKit

def trueB (V : Ev.LView) (h : HP) : Bool := Ev.isTrue (Ev.evalE V h.1.2.ife)
def upd1 (V : Ev.LView) (tl : List LTim) (now : Int) (h : HP) : List LTim := if trueB V h then [(findT tl h.1.1.name).getD ⟨h.1.1.name, lim now, false⟩] else []
def updP (V : Ev.LView) (hs : List HP) (tl : List LTim) (now : Int) : List LTim := hs.flatMap (upd1 V tl now)
theorem updP_take (V : Ev.LView) (hs : List HP) (tl : List LTim) (now : Int) (j : Nat) (h : j < hs.length) : updP V (hs.take (j + 1)) tl now = updP V (hs.take j) tl now ++ upd1 V tl now hs[j] := by
  unfold updP
  rw [List.take_succ_eq_append_getElem h, List.flatMap_append]
  simp
theorem updP_len (V : Ev.LView) (tl : List LTim) (now : Int) : ∀ hs : List HP, (updP V hs tl now).length ≤ hs.length
  | [] => Nat.le_refl _
  | h :: r => by
    have h1 : (upd1 V tl now h).length ≤ 1 := by unfold upd1; split <;> simp
    have h2 := updP_len V tl now r
    unfold updP at h2 ⊢
    rw [List.flatMap_cons, List.length_append, List.length_cons]; omega
theorem updP_small {V : Ev.LView} {hs : List HP} {tl : List LTim} {now : Int} (h1 : ∀ h ∈ hs, h.1.1.name.size ≤ maxLen) (h2 : ∀ t ∈ tl, t.rule.size ≤ maxLen) : ∀ t ∈ updP V hs tl now, t.rule.size ≤ maxLen := fun t ht => by
  obtain ⟨h, hh, hm⟩ := List.mem_flatMap.1 ht
  unfold upd1 at hm
  split at hm
  · rw [List.mem_singleton] at hm
    subst hm
    cases hf : findT tl h.1.1.name with
    | none => exact h1 h hh
    | some x => exact h2 x (findT_some hf).1
  · simp at hm
theorem OnlyAt.grow {g : Nat} {a b c : World} {row : Option Nat} (h : OnlyAt g a b) (hg : b.grownBy c row) (hr : ∀ k, row = some k → a.heap.size ≤ k ∨ k = g) : OnlyAt g a c :=
  ⟨Nat.le_trans h.size hg.size, fun k hk hne => (hg.block k (Nat.lt_of_lt_of_le hk h.size) (fun e => by
    rcases hr k e.symm with h1 | h1
    · omega
    · exact hne h1)).trans (h.block k hk hne)⟩
/-- What the map gives for the names to come. -/
def Ahead (hs : List HP) (tl : List LTim) (j : Nat) (f : ByteArray → Option Value) : Prop := ∀ (i : Nat) (h : i < hs.length), j ≤ i → f hs[i].1.1.name = (findT tl hs[i].1.1.name).map valT
theorem Ahead.next {hs : List HP} {tl : List LTim} {j : Nat} {f : ByteArray → Option Value} (h : Ahead hs tl j f) : Ahead hs tl (j + 1) f := fun i hi hj => h i hi (by omega)
theorem Ahead.del {hs : List HP} {tl : List LTim} {j : Nat} {f : ByteArray → Option Value} (h : Ahead hs tl j f) (hn : hs.Pairwise (fun a b => a.1.1.name ≠ b.1.1.name)) (hj : j < hs.length) : Ahead hs tl (j + 1) (fun q => if q = hs[j].1.1.name then none else f q) := fun i hi hji => by
  have hne := (List.pairwise_iff_getElem.1 hn) j i hj hi (by omega)
  show (if hs[i].1.1.name = hs[j].1.1.name then none else f hs[i].1.1.name) = _
  rw [if_neg (fun e => hne e.symm)]
  exact h i hi (by omega)
set_option maxRecDepth 100000 in
set_option maxHeartbeats 8000000 in
theorem update_any (l : List LTim) (A : Option Addr) (c : Nat) (ps : List RP) (B : Option Addr) (m : Nat) (V : Ev.LView) (vc : List Value) (now : Int) (w : World) (hx : RdT w l (.slice A l.length c)) (hy : RdR w ps (.slice B ps.length m)) (hv : Ev.IsView w.heap.size w V vc) (hl : ps.length ≤ 100000) (hon : ∀ p ∈ ps, p.2.on.length ≤ 1000000) :
    Calls Tryz.prog 8 #[.slice A l.length c, .slice B ps.length m, .agg vc.toArray, .int .i64 now] w fun r w' => (∃ v, r = .returned v ∧ ET.Rd w' (updP V (holdsP ps) (validP l) now) v) ∧ Lat w w' := by
  have hL0 : Lat w (w.alloc (.cells vc.toArray 27)) := Lat.al _ _
  have HV := Lib.hid (valid_any l A c _ (hx.1.lat hL0))
  have HBY := fun (A1 : Option Addr) (c1 : Nat) (w' : World) (h : ET.Rd w' (validP l) (.slice A1 (validP l).length c1)) => Lib.hid (byName_any (validP l) A1 c1 w' ⟨h, fun t ht => hx.2 t (validP_mem ht)⟩ (by have := validP_len l; omega))
  have HHO := fun (w' : World) (h : Lat w w') => Lib.hid (holds_any ps B m w' (hy.lat h) hl hon)
  have HLIM := fun w => Lib.hid (limit_any now w)
  have HZ : ∀ w, Hid ((zeroValue 50).run Tryz.prog w = .ok (valT zT) w) := fun w => Lib.hid (Tryz.zeroValue50 w)
  have HSM : Hid (∀ (j : Nat) (h : j < (holdsP ps).length), (holdsP ps)[j].1.1.name.size ≤ maxLen) := Lib.hid (fun j h => HP_small hy (List.getElem_mem h))
  have HTRU : ∀ (j : Nat) (h : j < (holdsP ps).length) (w' : World), Lat w w' → Hid (Calls Tryz.prog 19 #[.agg vc.toArray, .agg (holdsP ps)[j].1.1.ex.toArray] w' fun r w'' => r = .returned (.bool (trueB V (holdsP ps)[j])) ∧ Lat w' w'') := fun j h w' hl' => Lib.hid (by
    have he := (hy.2 _ (holdsP_mem (List.getElem_mem h)).1).ife.carry hl'
    have ht := Ev.true_any V (holdsP ps)[j].1.2.ife vc _ w.heap.size w' hl'.size (hv.carry hl') he
    unfold trueB
    exact ht)
  have HNM := Lib.hid (holdsP_names ps)
  have HMV : Hid (mapV (validP l) = fun s => (findT (validP l) s).map valT) := Lib.hid (mapV_is (validP_ok l))
  have HDT := fun j h => Lib.hid (updP_take V (holdsP ps) (validP l) now j h)
  have HDL : Hid (∀ j, (updP V ((holdsP ps).take j) (validP l) now).length ≤ 40) := Lib.hid (fun j => Nat.le_trans (updP_len _ _ _ _) (by rw [List.length_take]; have := holdsP_len ps; omega))
  have HFU : Hid (updP V (holdsP ps) (validP l) now = updP V ((holdsP ps).take (holdsP ps).length) (validP l) now) := Lib.hid (by rw [List.take_length])
  have HHL : Hid ((holdsP ps).length ≤ 40) := Lib.hid (holdsP_len ps)
  have hbv := Blk.new w 27 vc.toArray
  obtain ⟨IA, ic, MA, mc, rfl, -⟩ := hv
  generalize validP l = vs at *
  generalize holdsP ps = hs at *
  clear hx hy hl hon
  go_enter Tryz.func8, Tryz.ntmps8
  go_wp2_with fail
  refine HV.out.mono ?_
  rintro r w1 ⟨va, rfl, hown1, hl1⟩
  obtain ⟨A1, c1, rfl⟩ := hown1.slice
  have HBY1 := HBY A1 c1 w1 hown1.rd
  have hL1 := hL0.trans hl1
  have hbv1 := hbv.lat hl1
  clear HV HBY hown1 hL0 hl1 hbv
  go_wp2_with fail
  refine HBY1.out.mono ?_
  rintro r w2 ⟨⟨bm, rfl, hbm, hom2⟩, hl2⟩
  have hL2 := hL1.trans hl2
  have HHO2 := HHO w2 hL2
  have hbv2 := hbv1.lat hl2
  rw [HMV.out] at hom2
  have hbm0 : w.heap.size < bm := Nat.lt_of_lt_of_le hbv1.lt hbm
  have hbm2 := hom2.lt
  clear HBY1 HHO hL1 hl2 HMV hbv1 hbm
  go_wp2_with fail
  refine HHO2.out.mono ?_
  rintro r w3 ⟨⟨v3', rfl, hrd3, hrdS3⟩, hl3⟩
  have hL3 := hL2.trans hl3
  have hom3 := hom2.lat hl3
  have hbv3 := hbv2.lat hl3
  have hbm3 := hom3.lt
  have hbvm : w.heap.size < w3.heap.size := hbv3.lt
  obtain ⟨A3, c3, hv3, hrow3, hnil3⟩ := hrd3
  have hrd3 : EH.Rd w3 (hs.map encH) v3' := ⟨A3, c3, hv3, hrow3, hnil3⟩
  have hrdS := hrdS3 bm hbm2
  rw [List.length_map] at hv3
  subst hv3
  clear hrdS3 HHO2 hom2 hL2 hl3 hrow3 hnil3 hbv2
  have hhl := HHL.out
  go_wp2_with fail
  have hmap3 : EH.RdS bm w3 (hs.map encH) (.slice A3 hs.length c3) := hrdS
  go_loopw [10, 22] (fun v i wr => ∃ (j : Nat) (f : ByteArray → Option Value), j ≤ hs.length ∧ i = .int .i64 j ∧ ET.Own wr w3.heap.size (updP V (hs.take j) vs now) v ∧ OMap wr bm vs.length f ∧ Hid (Ahead hs vs j f) ∧ OnlyAt bm w3 wr ∧ Lat w wr) (fun _ i _ => hs.length - (intOf i).toNat)
  case atStart => exact ⟨0, _, Nat.zero_le _, rfl, Elt.Own.nil _ _, hom3, Lib.hid (fun i h _ => rfl), OnlyAt.refl _ _, hL3⟩
  case round =>
    clear hom3
    obtain ⟨j, f, hjl, rfl, hown, hom, HA, hO, hLW⟩ := hrel
    by_cases hlt : j < hs.length
    · obtain ⟨b, off, hA', hb0, hr1'⟩ := (hmap3 wr hO).row j (by rw [List.length_map]; exact hlt)
      subst hA'
      rw [List.getElem_map] at hr1'
      have hr1 : RowAt wr b (off + j * 16) (hC (encH hs[j])) := hr1'
      have hsm := HSM.out j hlt
      have HD1 := HDT j hlt
      have HD : Hid (upd1 V vs now hs[j] = if trueB V hs[j] then [(findT vs hs[j].1.1.name).getD ⟨hs[j].1.1.name, lim now, false⟩] else []) := Lib.hid rfl
      have hdl := HDL.out j
      have hfa := HA.out j hlt (Nat.le_refl _)
      have HA1 := Lib.hid HA.out.next
      have HA2 := Lib.hid (HA.out.del HNM.out hlt)
      have hbvr : Blk wr w.heap.size 27 #[.slice IA V.items.length ic, .string V.mode, .int .i64 V.minute, .slice MA V.members.length mc] := (hO.block _ hbvm (by omega)).trans hbv3
      have hwb : w3.heap.size ≤ wr.heap.size := hO.size
      have hBL : Lat wr (wr.alloc (.cells (hC (encH hs[j])).toArray 61)) := Lat.al _ _
      have HTR := HTRU j hlt _ (hLW.trans hBL)
      have hhx := Blk.new wr 61 (hC (encH hs[j])).toArray
      have hrv : RowAt (wr.alloc (.cells (hC (encH hs[j])).toArray 61)) w.heap.size 0 [.slice IA V.items.length ic, .string V.mode, .int .i64 V.minute, .slice MA V.members.length mc] := (hbvr.lat hBL).row
      clear hr1' HDT HA hbvr
      generalize upd1 V vs now hs[j] = D1 at *
      generalize trueB V hs[j] = TB at *
      generalize hF : findT vs hs[j].1.1.name = F at *
      clear hF
      generalize hs[j] = P at *
      obtain ⟨⟨⟨x1, x2, x3, x4, x5, ⟨y1, y2, y3, y4, y5, y6, y7, y8, y9, y10⟩, x6, x7, x8, x9, x10, x11⟩, rl⟩, tm⟩ := P
      simp only [encH, hC, rC, RlR.ex, Ev.Hd.cells, List.cons_append, List.nil_append] at hr1 hhx hrv HTR hBL
      dsimp only at hsm HD hfa HA2
      have hre : RowAt (wr.alloc (.cells #[.string x1, .int .i64 x2, .slice x3 x4 x5, .int .i64 y1, .int .i64 y2, .int .i64 y3, .string y4, .int .i64 y5, .int .i64 y6, .string y7, .int .i64 y8, .string y9, .string y10, .slice x6 x7 x8, .slice x9 x10 x11, .int .i64 tm] 61)) wr.heap.size 3 [.int .i64 y1, .int .i64 y2, .int .i64 y3, .string y4, .int .i64 y5, .int .i64 y6, .string y7, .int .i64 y8, .string y9, .string y10, .slice x6 x7 x8] := row_of_blk (l := (#[.string x1, .int .i64 x2, .slice x3 x4 x5, .int .i64 y1, .int .i64 y2, .int .i64 y3, .string y4, .int .i64 y5, .int .i64 y6, .string y7, .int .i64 y8, .string y9, .string y10, .slice x6 x7 x8, .slice x9 x10 x11, .int .i64 tm]).toList) hhx 3 _ (fun i v hi => by
        match i, hi with
        | 0, hi => exact hi
        | 1, hi => exact hi
        | 2, hi => exact hi
        | 3, hi => exact hi
        | 4, hi => exact hi
        | 5, hi => exact hi
        | 6, hi => exact hi
        | 7, hi => exact hi
        | 8, hi => exact hi
        | 9, hi => exact hi
        | 10, hi => exact hi
        | i + 11, hi => simp at hi)
      have HO1 := Lib.hid (hown.lat hBL)
      have HOM := Lib.hid (hom.lat hBL)
      have HOA := Lib.hid (hO.trans (OnlyAt.lat hBL))
      have HL := Lib.hid (hLW.trans hBL)
      clear hown hom hO hLW hBL hhx
      go_wp2_with (first | (with_reducible refine wpList_load_at rfl 61 _ rfl b (off + j * 16) rfl _ _ hr1 Tryz.underlying61 rfl (by kernel_rfl) ?_) | (with_reducible refine wpList_load_at rfl 27 _ rfl w.heap.size 0 rfl _ _ hrv Tryz.underlying27 rfl (by kernel_rfl) ?_) | (with_reducible refine wpList_load_at rfl 41 _ rfl wr.heap.size 3 rfl _ _ hre Tryz.underlying41 rfl (by kernel_rfl) ?_))
      refine HTR.out.mono ?_
      rintro r w6 ⟨rfl, hl6⟩
      have hl6' : Lat (wr.alloc (.cells #[.string x1, .int .i64 x2, .slice x3 x4 x5, .int .i64 y1, .int .i64 y2, .int .i64 y3, .string y4, .int .i64 y5, .int .i64 y6, .string y7, .int .i64 y8, .string y9, .string y10, .slice x6 x7 x8, .slice x9 x10 x11, .int .i64 tm] 61)) w6 := hl6
      have hown6 := HO1.out.lat hl6'
      have hom6 := HOM.out.lat hl6'
      have hO6 := HOA.out.trans (OnlyAt.lat hl6')
      have hL6 := HL.out.trans hl6'
      have hw36 := hO6.size
      clear HTR hrv hre hr1 HO1 HOM HOA HL hl6 hl6'
      cases TB
      · have HD2 : Hid (updP V (hs.take (j + 1)) vs now = updP V (hs.take j) vs now) := Lib.hid (HD1.out.trans (by rw [HD.out]; simp))
        have HO1 := Lib.hid hown6
        have HOA := Lib.hid hO6
        have HL := Lib.hid hL6
        clear HD HD1 HA1 hown6 hO6 hL6
        go_wp2_with (at_delete; refine wpl_del _ rfl _ _ 55 50 rfl Tryz.underlying55 bm vs.length _ rfl hom6 x1 rfl hsm ?_; intro w8 hom8 hg8)
        have hown8 := HO1.out.carry (fun k hk => hg8.block k (HO1.out.lt k hk).2 (fun e => by injection e with e; have := (HO1.out.lt k hk).1; omega))
        have hO8 := HOA.out.grow hg8 (fun k hk => by injection hk with hk; exact .inr hk.symm)
        have hL8 : Lat w w8 := HL.out.grown hg8 HL.out.size (fun k hk => by injection hk with hk; omega)
        clear hg8 HO1 HOA HL
        go_roundw
        case rel => exact ⟨j + 1, _, by omega, by go_num, by rw [HD2.out]; exact hown8, hom8, HA2, hO8, hL8⟩
        case measure => simp [intOf]; omega
      · cases F with
        | some T =>
          obtain ⟨t1, t2, t3⟩ := T
          have HD2 : Hid (updP V (hs.take (j + 1)) vs now = updP V (hs.take j) vs now ++ [⟨t1, t2, t3⟩]) := Lib.hid (HD1.out.trans (by rw [HD.out]; rfl))
          have hlv : (f x1).getD (valT zT) = .agg #[.string t1, .int .i64 t2, .bool t3] := by rw [hfa]; rfl
          have hlh : (f x1).isSome = true := by rw [hfa]; rfl
          clear HD HD1 HA2 hfa
          have hl8 : Lat w6 (w6.alloc (.cells #[.string t1, .int .i64 t2, .bool t3] 50)) := Lat.al _ _
          have hl9 : Lat w6 ((w6.alloc (.cells #[.string t1, .int .i64 t2, .bool t3] 50)).alloc (.cells #[.string t1, .int .i64 t2, .bool t3] 50)) := (Lat.al _ _).trans (Lat.al _ _)
          have hrt : RowAt (w6.alloc (.cells #[.string t1, .int .i64 t2, .bool t3] 50)) w6.heap.size 0 [.string t1, .int .i64 t2, .bool t3] := (Blk.new w6 50 #[.string t1, .int .i64 t2, .bool t3]).row
          have hbn : Blk ((w6.alloc (.cells #[.string t1, .int .i64 t2, .bool t3] 50)).alloc (.cells #[.string t1, .int .i64 t2, .bool t3] 50)) (w6.heap.size + 1) 50 (ET.f ⟨t1, t2, t3⟩).toArray := Blk.at1 _ _ _ _
          have hown9 := hown6.lat hl9
          have HOM := Lib.hid (hom6.lat hl9)
          have HOA := Lib.hid (hO6.trans (OnlyAt.lat hl9))
          have HL := Lib.hid (hL6.trans hl9)
          have hmax : (updP V (hs.take j) vs now).length + 1 ≤ maxLen := by unfold maxLen; omega
          have hby : ((updP V (hs.take j) vs now).length + 1) * ET.bytes ≤ 140737488355328 := Nat.le_trans (Nat.mul_le_mul_right ET.bytes (by omega : _ ≤ 1000000)) (by decide)
          have hws := HOA.out.size
          have hLs := HL.out.size
          clear hown6 hO6 hL6 hl8 hl9
          go_wp2_with (first | (at_lookup; refine wpl_look_ok _ rfl _ _ 55 50 rfl Tryz.underlying55 (HZ _).out bm vs.length _ rfl hom6 x1 rfl hsm _ _ hlv hlh ?_) | (with_reducible refine wpList_load_at rfl 50 _ rfl w6.heap.size 0 rfl _ _ hrt Tryz.underlying50 rfl (by kernel_rfl) ?_) | (at_builtin; refine ET.append rfl _ _ rfl w3.heap.size _ _ rfl hown9 (w6.heap.size + 1) 1 ⟨t1, t2, t3⟩ rfl 50 hbn hmax hby hws ?_; intro va wa howna hga hwa; go_must (have hLa : Lat w wa := HL.out.grown hga hLs (fun k hk => by have := (hown9.lt k hk).1; omega); have homa := HOM.out.grown hga (fun e => by have := (hown9.lt _ e.symm).1; omega); have hOa := HOA.out.grow hga (fun k hk => .inl (hown9.lt k hk).1); clear hown9 hga hwa hbn hrt)))
          go_roundw
          case rel => exact ⟨j + 1, f, by omega, by go_num, by rw [HD2.out]; exact howna, homa, HA1, hOa, hLa⟩
          case measure => simp [intOf]; omega
        | none =>
          have HD2 : Hid (updP V (hs.take (j + 1)) vs now = updP V (hs.take j) vs now ++ [⟨x1, lim now, false⟩]) := Lib.hid (HD1.out.trans (by rw [HD.out]; rfl))
          have hlv : (f x1).getD (valT zT) = .agg #[.string { data := #[] }, .int .i64 0, .bool false] := by rw [hfa]; rfl
          have hlh : (f x1).isSome = false := by rw [hfa]; rfl
          clear HD HD1 HA2 hfa
          go_wp2_with (at_lookup; refine wpl_look_ok _ rfl _ _ 55 50 rfl Tryz.underlying55 (HZ _).out bm vs.length _ rfl hom6 x1 rfl hsm _ _ hlv hlh ?_)
          refine (HLIM _).out.mono ?_
          rintro r w7 ⟨rfl, rfl⟩
          clear HLIM
          generalize lim now = LN at *
          have hl8 : Lat w6 (w6.alloc (.cells #[.string x1, .int .i64 LN, .bool false] 50)) := Lat.al _ _
          have hl9 : Lat w6 ((w6.alloc (.cells #[.string x1, .int .i64 LN, .bool false] 50)).alloc (.cells #[.string x1, .int .i64 LN, .bool false] 50)) := (Lat.al _ _).trans (Lat.al _ _)
          have hrt : RowAt (w6.alloc (.cells #[.string x1, .int .i64 LN, .bool false] 50)) w6.heap.size 0 [.string x1, .int .i64 LN, .bool false] := (Blk.new w6 50 #[.string x1, .int .i64 LN, .bool false]).row
          have hbn : Blk ((w6.alloc (.cells #[.string x1, .int .i64 LN, .bool false] 50)).alloc (.cells #[.string x1, .int .i64 LN, .bool false] 50)) (w6.heap.size + 1) 50 (ET.f ⟨x1, LN, false⟩).toArray := Blk.at1 _ _ _ _
          have hown9 := hown6.lat hl9
          have HOM := Lib.hid (hom6.lat hl9)
          have HOA := Lib.hid (hO6.trans (OnlyAt.lat hl9))
          have HL := Lib.hid (hL6.trans hl9)
          have hmax : (updP V (hs.take j) vs now).length + 1 ≤ maxLen := by unfold maxLen; omega
          have hby : ((updP V (hs.take j) vs now).length + 1) * ET.bytes ≤ 140737488355328 := Nat.le_trans (Nat.mul_le_mul_right ET.bytes (by omega : _ ≤ 1000000)) (by decide)
          have hws := HOA.out.size
          have hLs := HL.out.size
          clear hown6 hO6 hL6 hl8 hl9 hom6
          go_wp2_with (first | (with_reducible refine wpList_load_at rfl 50 _ rfl w6.heap.size 0 rfl _ _ hrt Tryz.underlying50 rfl (by kernel_rfl) ?_) | (at_builtin; refine ET.append rfl _ _ rfl w3.heap.size _ _ rfl hown9 (w6.heap.size + 1) 1 ⟨x1, LN, false⟩ rfl 50 hbn hmax hby hws ?_; intro va wa howna hga hwa; go_must (have hLa : Lat w wa := HL.out.grown hga hLs (fun k hk => by have := (hown9.lt k hk).1; omega); have homa := HOM.out.grown hga (fun e => by have := (hown9.lt _ e.symm).1; omega); have hOa := HOA.out.grow hga (fun k hk => .inl (hown9.lt k hk).1); clear hown9 hga hwa hbn hrt)))
          go_roundw
          case rel => exact ⟨j + 1, f, by omega, by go_num, by rw [HD2.out]; exact howna, homa, HA1, hOa, hLa⟩
          case measure => simp [intOf]; omega
    · have hj : j = hs.length := by omega
      subst hj
      rw [← HFU.out] at hown
      clear HSM HDT HDL HLIM HTRU
      go_wp2_with fail
      go_ret
      exact ⟨⟨_, rfl, hown.rd⟩, hLW⟩
end Go.Proofs.YtafodibbcfoclaaGreat
