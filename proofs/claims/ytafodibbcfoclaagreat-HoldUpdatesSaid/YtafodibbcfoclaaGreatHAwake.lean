/- Hold: the chapter's examples hold: awake. -/
import Derived.Test.YtafodibbcfoclaaGreatHOne
set_option linter.unusedSimpArgs false
set_option linter.unusedVariables false
namespace Go.Proofs.YtafodibbcfoclaaGreat
open Go.RowKit

def n0 : ByteArray := ⟨#[114]⟩
theorem n0_small : n0.size ≤ maxLen := by decide
def tA : LTim := ⟨n0, 10, false⟩
def tB : LTim := ⟨n0, 10, true⟩
def tD : LTim := ⟨n0, 17, false⟩
theorem a1 : updO n0 true (validP []) 10 = [tA] := by decide +kernel
theorem a2 : nextO n0 5 (validP [tA]) = (15, true) := by decide +kernel
theorem a3 : dueO n0 5 (validP [tA]) 14 = [] := by decide +kernel
theorem a4 : dueO n0 5 (validP [tA]) 15 = [n0] := by decide +kernel
theorem a5 : markP [tA] [n0] = [tB] := by decide +kernel
theorem a6 : nextO n0 5 (validP [tB]) = (0, false) := by decide +kernel
theorem a7 : dueO n0 5 (validP [tB]) 20 = [] := by decide +kernel
theorem a8 : updO n0 false (validP [tB]) 16 = [] := by decide +kernel
theorem a9 : updO n0 true (validP []) 17 = [tD] := by decide +kernel
theorem sameT_one (x : LTim) (A : Option Addr) (c g : Nat) (w : World) (hx : RdT w [x] (.slice A 1 c)) (hb : Blk w g 50 (tC x).toArray) :
    Calls Tryz.prog 7 #[.slice A 1 c, .slice (some ⟨g, 0, none⟩) 1 1] w fun r w' => r = .returned (.bool true) ∧ Lat w w' := by
  have h := rsame_any [x] [x] A (some ⟨g, 0, none⟩) c 1 w hx.1 (Elt.Rd.blk (E := ET) (ys := [x]) (by simp only [List.map_cons, List.map_nil, List.flatten_cons, List.flatten_nil, List.append_nil]; exact hb) 1) (by simp)
  rw [decide_eq_true rfl] at h
  exact h
theorem sameN_one (x : ByteArray) (A : Option Addr) (c g : Nat) (w : World) (hx : ES.Rd w [x] (.slice A 1 c)) (hb : Blk w g 9 #[.string x]) :
    Calls Tryz.prog 14 #[.slice A 1 c, .slice (some ⟨g, 0, none⟩) 1 1] w fun r w' => r = .returned (.bool true) ∧ Lat w w' := by
  have h := nsame_any [x] [x] A (some ⟨g, 0, none⟩) c 1 w hx (Elt.Rd.blk (E := ES) (ys := [x]) (by simp only [List.map_cons, List.map_nil, List.flatten_cons, List.flatten_nil, List.append_nil]; exact hb) 1) (by simp)
  rw [decide_eq_true rfl] at h
  exact h
set_option maxRecDepth 100000 in
set_option maxHeartbeats 8000000 in
theorem awake_any (w : World) : Calls Tryz.prog 6 #[] w fun r w' => r = .returned (.bool true) ∧ Lat w w' := by
  have HR1 : ∀ w, Hid (Calls Tryz.prog 11 #[.string { data := #[114] }, .int .i64 5, .bool true] w fun r w' => (∃ g1, r = .returned (.agg #[.string { data := #[114] }, .int .i64 0, .slice (some ⟨g1, 0, none⟩) 1 1, .int .i64 1, .int .i64 0, .int .i64 0, .string { data := #[] }, .int .i64 1, .int .i64 1, .string { data := #[] }, .int .i64 0, .string { data := #[] }, .string { data := #[] }, .slice none 0 0, .slice none 0 0]) ∧ Blk w' g1 73 (gC (trR 5)).toArray) ∧ Lat w w') := fun w => Lib.hid (rule_any n0 5 true w)
  have HR2 : ∀ w, Hid (Calls Tryz.prog 11 #[.string { data := #[114] }, .int .i64 5, .bool false] w fun r w' => (∃ g2, r = .returned (.agg #[.string { data := #[114] }, .int .i64 0, .slice (some ⟨g2, 0, none⟩) 1 1, .int .i64 1, .int .i64 0, .int .i64 0, .string { data := #[] }, .int .i64 1, .int .i64 0, .string { data := #[] }, .int .i64 0, .string { data := #[] }, .string { data := #[] }, .slice none 0 0, .slice none 0 0]) ∧ Blk w' g2 73 (gC (trR 5)).toArray) ∧ Lat w w') := fun w => Lib.hid (rule_any n0 5 false w)
  go_enter Tryz.func6, Tryz.ntmps6
  go_wp2_with fail
  refine (HR1 _).out.mono ?_
  rintro r w1 ⟨⟨g1, rfl, hg1⟩, hl1⟩
  have hb1 : Blk (w1.alloc (.cells #[.string { data := #[114] }, .int .i64 0, .slice (some ⟨g1, 0, none⟩) 1 1, .int .i64 1, .int .i64 0, .int .i64 0, .string { data := #[] }, .int .i64 1, .int .i64 1, .string { data := #[] }, .int .i64 0, .string { data := #[] }, .string { data := #[] }, .slice none 0 0, .slice none 0 0] 44)) w1.heap.size 44 (rC (ruR n0 g1 true)).toArray := Blk.new w1 44 #[.string { data := #[114] }, .int .i64 0, .slice (some ⟨g1, 0, none⟩) 1 1, .int .i64 1, .int .i64 0, .int .i64 0, .string { data := #[] }, .int .i64 1, .int .i64 1, .string { data := #[] }, .int .i64 0, .string { data := #[] }, .string { data := #[] }, .slice none 0 0, .slice none 0 0]
  have hg1 := hg1.lat (Lat.al w1 (.cells #[.string { data := #[114] }, .int .i64 0, .slice (some ⟨g1, 0, none⟩) 1 1, .int .i64 1, .int .i64 0, .int .i64 0, .string { data := #[] }, .int .i64 1, .int .i64 1, .string { data := #[] }, .int .i64 0, .string { data := #[] }, .string { data := #[] }, .slice none 0 0, .slice none 0 0] 44))
  have hL1 : Lat w (w1.alloc (.cells #[.string { data := #[114] }, .int .i64 0, .slice (some ⟨g1, 0, none⟩) 1 1, .int .i64 1, .int .i64 0, .int .i64 0, .string { data := #[] }, .int .i64 1, .int .i64 1, .string { data := #[] }, .int .i64 0, .string { data := #[] }, .string { data := #[] }, .slice none 0 0, .slice none 0 0] 44)) := hl1.trans (Lat.al w1 _)
  clear hl1
  go_wp2_with fail
  refine (HR2 _).out.mono ?_
  rintro r w2 ⟨⟨g2, rfl, hg2⟩, hl2⟩
  have hl2' : Lat (w1.alloc (.cells #[.string { data := #[114] }, .int .i64 0, .slice (some ⟨g1, 0, none⟩) 1 1, .int .i64 1, .int .i64 0, .int .i64 0, .string { data := #[] }, .int .i64 1, .int .i64 1, .string { data := #[] }, .int .i64 0, .string { data := #[] }, .string { data := #[] }, .slice none 0 0, .slice none 0 0] 44)) w2 := hl2
  have hLb : Lat w2 (w2.alloc (.cells #[.string { data := #[114] }, .int .i64 0, .slice (some ⟨g2, 0, none⟩) 1 1, .int .i64 1, .int .i64 0, .int .i64 0, .string { data := #[] }, .int .i64 1, .int .i64 0, .string { data := #[] }, .int .i64 0, .string { data := #[] }, .string { data := #[] }, .slice none 0 0, .slice none 0 0] 44)) := Lat.al w2 _
  have hb2 : Blk (w2.alloc (.cells #[.string { data := #[114] }, .int .i64 0, .slice (some ⟨g2, 0, none⟩) 1 1, .int .i64 1, .int .i64 0, .int .i64 0, .string { data := #[] }, .int .i64 1, .int .i64 0, .string { data := #[] }, .int .i64 0, .string { data := #[] }, .string { data := #[] }, .slice none 0 0, .slice none 0 0] 44)) w2.heap.size 44 (rC (ruR n0 g2 false)).toArray := Blk.new w2 44 #[.string { data := #[114] }, .int .i64 0, .slice (some ⟨g2, 0, none⟩) 1 1, .int .i64 1, .int .i64 0, .int .i64 0, .string { data := #[] }, .int .i64 1, .int .i64 0, .string { data := #[] }, .int .i64 0, .string { data := #[] }, .string { data := #[] }, .slice none 0 0, .slice none 0 0]
  have hg2 := hg2.lat hLb
  have hb1 := hb1.lat (hl2'.trans hLb)
  have hg1 := hg1.lat (hl2'.trans hLb)
  have hL2 := hL1.trans (hl2'.trans hLb)
  clear hl2 hl2' hLb hL1 HR1 HR2
  -- the timers of an empty list
  have hU := one_upd n0 5 true g1 w1.heap.size [] none 0 0 _ 10 n0_small rfl ⟨Elt.Rd.nil _, fun t ht => by simp at ht⟩ hg1 hb1
  rw [a1] at hU
  go_wp2_with fail
  refine Calls.mono (hU) ?_
  rintro r w3 ⟨⟨A3, c3, rfl, hx3⟩, hl3⟩
  have hb1 := hb1.lat hl3
  have hg1 := hg1.lat hl3
  have hb2 := hb2.lat hl3
  have hg2 := hg2.lat hl3
  have hL3 := hL2.trans hl3
  simp only [List.length_cons, List.length_nil, Nat.zero_add] at hx3 ⊢
  clear hU hl3 hL2
  have hN := one_next n0 5 true g1 w1.heap.size [tA] A3 1 c3 w3 n0_small rfl hx3 hg1 hb1
  rw [a2] at hN
  go_wp2_with fail
  refine Calls.mono (hN) ?_
  rintro r w4 ⟨rfl, hl4⟩
  have hb1 := hb1.lat hl4
  have hg1 := hg1.lat hl4
  have hb2 := hb2.lat hl4
  have hg2 := hg2.lat hl4
  have hx4 := hx3.lat hl4
  have hL4 := hL3.trans hl4
  clear hN hl4 hL3 hx3
  -- the examples
  have hs0 : Lat w4 (w4.alloc (.cells #[.string { data := #[114] }, .int .i64 10, .bool false] 50)) := Lat.al _ _
  have hS := sameT_one tA A3 c3 w4.heap.size _ (hx4.lat hs0) (Blk.new w4 50 #[.string { data := #[114] }, .int .i64 10, .bool false])
  have hb1 := hb1.lat hs0
  have hg1 := hg1.lat hs0
  have hb2 := hb2.lat hs0
  have hg2 := hg2.lat hs0
  have hx4 := hx4.lat hs0
  have hL4 := hL4.trans hs0
  go_wp2_with fail
  refine Calls.mono (hS) ?_
  rintro r w5 ⟨rfl, hl5⟩
  have hb1 := hb1.lat hl5
  have hg1 := hg1.lat hl5
  have hb2 := hb2.lat hl5
  have hg2 := hg2.lat hl5
  have hx5 := hx4.lat hl5
  have hL5 := hL4.trans hl5
  clear hS hs0 hl5 hL4 hx4
  have hD := one_due n0 5 true g1 w1.heap.size [tA] A3 1 c3 w5 14 n0_small rfl hx5 hg1 hb1
  rw [a3] at hD
  go_wp2_with fail
  refine Calls.mono (hD) ?_
  rintro r w6 ⟨⟨A6, c6, rfl, -⟩, hl6⟩
  have hb1 := hb1.lat hl6
  have hg1 := hg1.lat hl6
  have hb2 := hb2.lat hl6
  have hg2 := hg2.lat hl6
  have hx6 := hx5.lat hl6
  have hL6 := hL5.trans hl6
  simp only [List.length_nil]
  clear hD hl6 hL5 hx5
  have hD := one_due n0 5 true g1 w1.heap.size [tA] A3 1 c3 w6 15 n0_small rfl hx6 hg1 hb1
  rw [a4] at hD
  go_wp2_with fail
  refine Calls.mono (hD) ?_
  rintro r w7 ⟨⟨A7, c7, rfl, hd7⟩, hl7⟩
  have hb1 := hb1.lat hl7
  have hg1 := hg1.lat hl7
  have hb2 := hb2.lat hl7
  have hg2 := hg2.lat hl7
  have hx7 := hx6.lat hl7
  have hL7 := hL6.trans hl7
  simp only [List.length_cons, List.length_nil, Nat.zero_add] at hd7 ⊢
  clear hD hl7 hL6 hx6
  have hs0 : Lat w7 (w7.alloc (.cells #[.string { data := #[114] }] 9)) := Lat.al _ _
  have hS := sameN_one n0 A7 c7 w7.heap.size _ (hd7.lat hs0) (Blk.new w7 9 #[.string { data := #[114] }])
  have hb1 := hb1.lat hs0
  have hg1 := hg1.lat hs0
  have hb2 := hb2.lat hs0
  have hg2 := hg2.lat hs0
  have hx7 := hx7.lat hs0
  have hL7 := hL7.trans hs0
  go_wp2_with fail
  refine Calls.mono (hS) ?_
  rintro r w8 ⟨rfl, hl8⟩
  have hb1 := hb1.lat hl8
  have hg1 := hg1.lat hl8
  have hb2 := hb2.lat hl8
  have hg2 := hg2.lat hl8
  have hx8 := hx7.lat hl8
  have hL8 := hL7.trans hl8
  clear hS hs0 hl8 hL7 hx7 hd7
  -- Mark
  have hs0 : Lat w8 (w8.alloc (.cells #[.string { data := #[114] }] 9)) := Lat.al _ _
  have hbn : Blk (w8.alloc (.cells #[.string { data := #[114] }] 9)) w8.heap.size 9 #[.string n0] := Blk.new w8 9 _
  have hM := one_mark [tA] A3 1 c3 _ [n0] (some ⟨w8.heap.size, 0, none⟩) 1 1 rfl rfl (hx8.lat hs0) (Elt.Rd.blk (E := ES) (ys := [n0]) (by simp only [List.map_cons, List.map_nil, List.flatten_cons, List.flatten_nil, List.append_nil]; exact hbn) 1) (by simp)
  rw [a5] at hM
  have hb1 := hb1.lat hs0
  have hg1 := hg1.lat hs0
  have hb2 := hb2.lat hs0
  have hg2 := hg2.lat hs0
  have hL8 := hL8.trans hs0
  go_wp2_with fail
  refine Calls.mono (hM) ?_
  rintro r w9 ⟨⟨A9, c9, rfl, hx9⟩, hl9⟩
  have hb1 := hb1.lat hl9
  have hg1 := hg1.lat hl9
  have hb2 := hb2.lat hl9
  have hg2 := hg2.lat hl9
  have hL9 := hL8.trans hl9
  simp only [List.length_cons, List.length_nil, Nat.zero_add] at hx9 ⊢
  clear hM hs0 hl9 hL8 hx8 hbn
  have hN := one_next n0 5 true g1 w1.heap.size [tB] A9 1 c9 w9 n0_small rfl hx9 hg1 hb1
  rw [a6] at hN
  go_wp2_with fail
  refine Calls.mono (hN) ?_
  rintro r wa ⟨rfl, hla⟩
  have hb1 := hb1.lat hla
  have hg1 := hg1.lat hla
  have hb2 := hb2.lat hla
  have hg2 := hg2.lat hla
  have hxa := hx9.lat hla
  have hLa := hL9.trans hla
  clear hN hla hL9 hx9
  have hs0 : Lat wa (wa.alloc (.cells #[.string { data := #[114] }, .int .i64 10, .bool true] 50)) := Lat.al _ _
  have hS := sameT_one tB A9 c9 wa.heap.size _ (hxa.lat hs0) (Blk.new wa 50 #[.string { data := #[114] }, .int .i64 10, .bool true])
  have hb1 := hb1.lat hs0
  have hg1 := hg1.lat hs0
  have hb2 := hb2.lat hs0
  have hg2 := hg2.lat hs0
  have hxa := hxa.lat hs0
  have hLa := hLa.trans hs0
  go_wp2_with fail
  refine Calls.mono (hS) ?_
  rintro r wb ⟨rfl, hlb⟩
  have hb1 := hb1.lat hlb
  have hg1 := hg1.lat hlb
  have hb2 := hb2.lat hlb
  have hg2 := hg2.lat hlb
  have hxb := hxa.lat hlb
  have hLb := hLa.trans hlb
  clear hS hs0 hlb hLa hxa
  have hD := one_due n0 5 true g1 w1.heap.size [tB] A9 1 c9 wb 20 n0_small rfl hxb hg1 hb1
  rw [a7] at hD
  go_wp2_with fail
  refine Calls.mono (hD) ?_
  rintro r wc ⟨⟨Ac, cc, rfl, -⟩, hlc⟩
  have hb1 := hb1.lat hlc
  have hg1 := hg1.lat hlc
  have hb2 := hb2.lat hlc
  have hg2 := hg2.lat hlc
  have hxc := hxb.lat hlc
  have hLc := hLb.trans hlc
  simp only [List.length_nil]
  clear hD hlc hLb hxb
  -- Update
  have hU := one_upd n0 5 false g2 w2.heap.size [tB] A9 1 c9 wc 16 n0_small rfl hxc hg2 hb2
  rw [a8] at hU
  go_wp2_with fail
  refine Calls.mono (hU) ?_
  rintro r wd ⟨⟨Ad, cd, rfl, hxd⟩, hld⟩
  have hb1 := hb1.lat hld
  have hg1 := hg1.lat hld
  have hb2 := hb2.lat hld
  have hg2 := hg2.lat hld
  have hLd := hLc.trans hld
  simp only [List.length_nil] at hxd ⊢
  clear hU hld hLc hxc
  have hU := one_upd n0 5 true g1 w1.heap.size [] Ad 0 cd wd 17 n0_small rfl hxd hg1 hb1
  rw [a9] at hU
  go_wp2_with fail
  refine Calls.mono (hU) ?_
  rintro r we ⟨⟨Ae, ce, rfl, hxe⟩, hle⟩
  have hLe := hLd.trans hle
  simp only [List.length_cons, List.length_nil, Nat.zero_add] at hxe ⊢
  clear hU hle hLd hxd hb1 hg1 hb2 hg2
  have hs0 : Lat we (we.alloc (.cells #[.string { data := #[114] }, .int .i64 17, .bool false] 50)) := Lat.al _ _
  have hS := sameT_one tD Ae ce we.heap.size _ (hxe.lat hs0) (Blk.new we 50 #[.string { data := #[114] }, .int .i64 17, .bool false])
  have hLe := hLe.trans hs0
  go_wp2_with fail
  refine Calls.mono (hS) ?_
  rintro r wf ⟨rfl, hlf⟩
  have hLf := hLe.trans hlf
  clear hS hs0 hlf hLe hxe
  go_wp2_with fail
  go_ret
  exact ⟨rfl, hLf⟩
end Go.Proofs.YtafodibbcfoclaaGreat
