/- Hold: Mark. -/
import Derived.Test.YtafodibbcfoclaaGreatHVal
import Derived.Test.YtafodibbcfoclaaGreatHFind
set_option linter.unusedSimpArgs false
set_option linter.unusedVariables false
namespace Go.Proofs.YtafodibbcfoclaaGreat
open Go.RowKit

def mk1 (names : List ByteArray) (t : LTim) : LTim := if names.any (fun x => decide (x = t.rule)) then ⟨t.rule, t.since, true⟩ else t
def markP (l : List LTim) (names : List ByteArray) : List LTim := (validP l).map (mk1 names)
def marked (names : List ByteArray) (l : List LTim) (j : Nat) : List LTim := (l.take j).map (mk1 names) ++ l.drop j
theorem marked_len (names : List ByteArray) (l : List LTim) (j : Nat) (h : j ≤ l.length) : (marked names l j).length = l.length := by
  unfold marked; rw [List.length_append, List.length_map, List.length_take, List.length_drop]; omega
theorem marked_get (names : List ByteArray) (l : List LTim) (j : Nat) (h : j < l.length) (h' : j < (marked names l j).length) : (marked names l j)[j] = l[j] := by
  unfold marked at h' ⊢
  rw [List.getElem_append_right (by rw [List.length_map, List.length_take]; omega)]
  simp only [List.length_map, List.length_take, List.getElem_drop]
  congr 1; omega
theorem marked_set (names : List ByteArray) (l : List LTim) (j : Nat) (h : j < l.length) (y : LTim) (hy : y = mk1 names l[j]) : (marked names l j).set j y = marked names l (j + 1) := by
  subst hy
  unfold marked
  rw [List.set_append_right _ _ (by rw [List.length_map, List.length_take]; omega), List.length_map, List.length_take, show j - min j l.length = 0 from by omega, List.drop_eq_getElem_cons h, List.set_cons_zero, List.take_succ_eq_append_getElem h, List.map_append]
  simp
theorem marked_same (names : List ByteArray) (l : List LTim) (j : Nat) (h : j < l.length) (hy : l[j] = mk1 names l[j]) : marked names l j = marked names l (j + 1) := by
  have h1 := marked_set names l j h l[j] hy
  have h2 := marked_get names l j h (by rw [marked_len _ _ _ (by omega)]; exact h)
  rw [← h1]
  conv => rhs; rw [← h2]
  rw [List.set_getElem_self]
set_option maxRecDepth 100000 in
set_option maxHeartbeats 2000000 in
theorem mark_any (l : List LTim) (A : Option Addr) (c : Nat) (names : List ByteArray) (B : Option Addr) (m : Nat) (w : World) (hx : ET.Rd w l (.slice A l.length c)) (hy : ES.Rd w names (.slice B names.length m)) (hn : names.length ≤ 1000000) :
    Calls Tryz.prog 15 #[.slice A l.length c, .slice B names.length m] w fun r w' => (∃ v, r = .returned v ∧ ET.Rd w' (markP l names) v) ∧ Lat w w' := by
  have HV := Lib.hid (valid_any l A c w hx)
  have HC := fun (s : ByteArray) (w' : World) (hl : Lat w w') => Lib.hid (contains_any names B m s w' (hy.lat hl) hn)
  have HMP : Hid (markP l names = marked names (validP l) (validP l).length) := Lib.hid (by unfold markP marked; rw [List.take_length, List.drop_length, List.append_nil])
  have hvl := validP_len l
  generalize markP l names = M at *
  generalize validP l = vs at *
  clear hx hy
  go_enter Tryz.func15, Tryz.ntmps15
  go_wp2_with fail
  refine HV.out.mono ?_
  rintro r w1 ⟨v1, rfl, hown1, hl1⟩
  obtain ⟨A1, c1, rfl⟩ := hown1.slice
  clear HV
  go_wp2_with fail
  go_loopw [12] (fun i wr => ∃ j : Nat, j ≤ vs.length ∧ i = .int .i64 j ∧ ET.Own wr w.heap.size (marked names vs j) (.slice A1 vs.length c1) ∧ Lat w wr) (fun i _ => vs.length - (intOf i).toNat)
  case atStart => exact ⟨0, Nat.zero_le _, rfl, by simpa [marked] using hown1, hl1⟩
  case round =>
    clear hown1 hl1
    obtain ⟨j, hjl, rfl, hown, hLW⟩ := hrel
    by_cases hlt : j < vs.length
    · have hjm : j < (marked names vs j).length := by rw [marked_len _ _ _ hjl]; exact hlt
      obtain ⟨g, cap, hv, hbg, hgl⟩ := hown.form (by omega)
      injection hv with e1 e2 e3
      subst e1
      clear e2 e3
      obtain ⟨b', off', hA', _, hr1'⟩ := hown.rd.row j hjm
      injection hA' with e
      injection e with e1 e2
      subst e1 e2
      rw [marked_get names vs j hlt hjm, Nat.zero_add] at hr1'
      have hr1 : RowAt wr g (j * 3) (tC vs[j]) := hr1'
      have HMS := fun y h => Lib.hid (marked_set names vs j hlt y h)
      have HME := fun h => Lib.hid (marked_same names vs j hlt h)
      have hset := fun y h => hown.set j 2 hjm (by decide) (.bool true) y h
      have hBL : Lat wr (wr.alloc (.cells (tC vs[j]).toArray 50)) := Lat.al _ _
      have HMK : Hid (mk1 names vs[j] = if names.any (fun x => decide (x = vs[j].rule)) then ⟨vs[j].rule, vs[j].since, true⟩ else vs[j]) := Lib.hid rfl
      have hgm := marked_get names vs j hlt hjm
      have hown2 := hown.lat hBL
      have HLW2 := Lib.hid (hLW.trans hBL)
      have HC2 := HC vs[j].rule _ (hLW.trans hBL)
      clear hr1' hown hLW hset hBL
      generalize vs[j] = X at *
      obtain ⟨x1, x2, x3⟩ := X
      simp only [tC] at hr1 hown2 HLW2 HC2
      dsimp only at HMK HC2
      generalize names.any (fun x => decide (x = x1)) = K at *
      have HO2 := Lib.hid hown2
      clear hown2 HC
      go_wp2_with (with_reducible refine wpList_load_at rfl 50 _ rfl g (j * 3) rfl _ _ hr1 Tryz.underlying50 rfl (by kernel_rfl) ?_)
      refine HC2.out.mono ?_
      rintro r w6 ⟨rfl, hl6⟩
      have hown6 := HO2.out.lat hl6
      have hLW6 := HLW2.out.trans hl6
      clear HC2 HO2 HLW2 hr1 hl6
      cases K
      · have hs := HME (by rw [HMK.out, if_neg (by decide)])
        clear HMS HME HMK
        go_wp2_with fail
        go_roundw
        case rel => exact ⟨j + 1, by omega, by go_num, by rw [← hs.out]; exact hown6, hLW6⟩
        case measure => simp [intOf]; omega
      · have hs := HMS ⟨x1, x2, true⟩ (by rw [HMK.out, if_pos rfl])
        have c2 : w6.cell? ⟨g, j * 3 + 2, none⟩ = some (.bool x3) := by
          have := hown6.cell j 2 hjm (by decide)
          rw [hgm] at this
          exact this
        have f2 := hown6.free (j * 3 + 2)
        have hown7 := hown6.set j 2 hjm (by decide) (.bool true) ⟨x1, x2, true⟩ (by rw [hgm]; rfl)
        rw [hs.out] at hown7
        have hLW7 := hLW6.setCell (p := ⟨g, j * 3 + 2, none⟩) hbg (.bool true)
        have HO7 := Lib.hid hown7
        have HL7 := Lib.hid hLW7
        clear HMS HME HMK hs hown6 hLW6 hgm hown7 hLW7
        go_wp2_with fail
        go_roundw
        case rel => exact ⟨j + 1, by omega, by go_num, HO7.out, HL7.out⟩
        case measure => simp [intOf]; omega
    · have hj : j = vs.length := by omega
      subst hj
      rw [← HMP.out] at hown
      clear HC
      go_wp2_with fail
      go_ret
      exact ⟨⟨_, rfl, hown.rd⟩, hLW⟩
end Go.Proofs.YtafodibbcfoclaaGreat
