/- Are two expressions equal? The program. Are two expressions equal? The program, whole. -/
import Derived.Test.YtnelgblmogciiaaSameR
namespace Go.Proofs.Ytnelgblmogciiaa
section
set_option linter.unusedSimpArgs false
set_option linter.unusedVariables false
open Go.RowKit


set_option maxRecDepth 100000 in
set_option maxHeartbeats 8000000 in
theorem ediff_any (a b : Hd) (A A' : Option Addr) (l l' c c' : Nat) (w : World) (h : Diff a b) :
    Calls Try.prog 41 #[.agg (a.cells (.slice A l c)).toArray, .agg (b.cells (.slice A' l' c')).toArray] w fun r w' => r = .returned (.bool false) ∧ Below w.heap.size w w' := by
  unfold Hd.cells
  rcases h with h | ⟨e1, h⟩ | ⟨e1, e2, h⟩ | ⟨e1, e2, e3, h⟩ | ⟨e1, e2, e3, e4, h⟩ | ⟨e1, e2, e3, e4, e5, h⟩ | ⟨e1, e2, e3, e4, e5, e6, h⟩ | ⟨e1, e2, e3, e4, e5, e6, e7, h⟩ | ⟨e1, e2, e3, e4, e5, e6, e7, e8, h⟩ | ⟨e1, e2, e3, e4, e5, e6, e7, e8, e9, h⟩
  · obtain ⟨q1, q2, q3⟩ := int_ne h
    clear h
    go_enter Try.func41, Try.ntmps41
    go_wp2_with fail
    go_ret
    exact ⟨rfl, ((Below.refl _ _).al _).al _⟩
  · obtain ⟨q1, q2, q3⟩ := int_ne h
    rw [e1]
    clear h e1
    go_enter Try.func41, Try.ntmps41
    go_wp2_with fail
    go_ret
    exact ⟨rfl, ((Below.refl _ _).al _).al _⟩
  · obtain ⟨q1, q2, q3⟩ := int_ne h
    rw [e1, e2]
    clear h e1 e2
    go_enter Try.func41, Try.ntmps41
    go_wp2_with fail
    go_ret
    exact ⟨rfl, ((Below.refl _ _).al _).al _⟩
  · obtain ⟨q1, q2, q3⟩ := str_ne h
    rw [e1, e2, e3]
    clear h e1 e2 e3
    go_enter Try.func41, Try.ntmps41
    go_wp2_with fail
    go_ret
    exact ⟨rfl, ((Below.refl _ _).al _).al _⟩
  · obtain ⟨q1, q2, q3⟩ := int_ne h
    rw [e1, e2, e3, e4]
    clear h e1 e2 e3 e4
    go_enter Try.func41, Try.ntmps41
    go_wp2_with fail
    go_ret
    exact ⟨rfl, ((Below.refl _ _).al _).al _⟩
  · obtain ⟨q1, q2, q3⟩ := int_ne h
    rw [e1, e2, e3, e4, e5]
    clear h e1 e2 e3 e4 e5
    go_enter Try.func41, Try.ntmps41
    go_wp2_with fail
    go_ret
    exact ⟨rfl, ((Below.refl _ _).al _).al _⟩
  · obtain ⟨q1, q2, q3⟩ := str_ne h
    rw [e1, e2, e3, e4, e5, e6]
    clear h e1 e2 e3 e4 e5 e6
    go_enter Try.func41, Try.ntmps41
    go_wp2_with fail
    go_ret
    exact ⟨rfl, ((Below.refl _ _).al _).al _⟩
  · obtain ⟨q1, q2, q3⟩ := int_ne h
    rw [e1, e2, e3, e4, e5, e6, e7]
    clear h e1 e2 e3 e4 e5 e6 e7
    go_enter Try.func41, Try.ntmps41
    go_wp2_with fail
    go_ret
    exact ⟨rfl, ((Below.refl _ _).al _).al _⟩
  · obtain ⟨q1, q2, q3⟩ := str_ne h
    rw [e1, e2, e3, e4, e5, e6, e7, e8]
    clear h e1 e2 e3 e4 e5 e6 e7 e8
    go_enter Try.func41, Try.ntmps41
    go_wp2_with fail
    go_ret
    exact ⟨rfl, ((Below.refl _ _).al _).al _⟩
  · obtain ⟨q1, q2, q3⟩ := str_ne h
    rw [e1, e2, e3, e4, e5, e6, e7, e8, e9]
    clear h e1 e2 e3 e4 e5 e6 e7 e8 e9
    go_enter Try.func41, Try.ntmps41
    go_wp2_with fail
    go_ret
    exact ⟨rfl, ((Below.refl _ _).al _).al _⟩

set_option maxRecDepth 100000 in
set_option maxHeartbeats 2000000 in
theorem elen_any (a : Hd) (A A' : Option Addr) (l l' c c' : Nat) (w : World) (h : l ≠ l') :
    Calls Try.prog 41 #[.agg (a.cells (.slice A l c)).toArray, .agg (a.cells (.slice A' l' c')).toArray] w fun r w' => r = .returned (.bool false) ∧ Below w.heap.size w w' := by
  unfold Hd.cells
  have q1 : ((l : Int) == l') = false := by simp; omega
  have q2 : ((l : Int) != l') = true := by simp; omega
  have q3 : (l == l') = false := by simpa using h
  have q4 : (l != l') = true := by simpa using h
  clear h
  go_enter Try.func41, Try.ntmps41
  go_wp2_with fail
  go_ret
  exact ⟨rfl, ((Below.refl _ _).al _).al _⟩
end

section
set_option linter.unusedSimpArgs false
set_option linter.unusedVariables false
open Go.RowKit



set_option maxRecDepth 100000 in
set_option maxHeartbeats 4000000 in
theorem esame_any (e1 : LExpr) : ∀ (e2 : LExpr) (cs1 cs2 : List Value) (B : Nat) (w : World), B ≤ w.heap.size → IsExpr B w e1 cs1 → IsExpr B w e2 cs2 →
    Calls Try.prog 41 #[.agg cs1.toArray, .agg cs2.toArray] w fun r w' => r = .returned (.bool (sameE e1 e2)) ∧ Below w.heap.size w w' := by
  induction e1 using LExpr.ind with | _ a ks ih => ?_
  intro e2 cs1 cs2 B w hB he1 he2
  cases he1 with
  | mk _ _ A1 c1 b1 off1 cs1 hok1 hlen1 hA1 hsz1 hrow1 hk1 =>
  cases he2 with
  | mk b ks' A2 c2 b2 off2 cs2 hok2 hlen2 hA2 hsz2 hrow2 hk2 =>
  rcases Bool.eq_false_or_eq_true (hdEq a b) with hd | hd
  · have hab := (hdEq_iff a b).1 hd
    subst hab
    by_cases hl : ks.length = ks'.length
    · have hJ : sameE (.mk a ks) (.mk a ks') = sameL ks ks' := by
        rw [sameE, hd, show (ks.length == ks'.length) = true from by simpa using hl]; rfl
      rw [hJ, ← hl]
      have HJ : Hid (∀ j (h : j < ks.length) (h' : j < ks'.length), sameE ks[j] ks'[j] = false → sameL ks ks' = false) := Lib.hid (sameL_bad ks ks')
      have HT : Hid (∀ j (h : j < ks.length) (h' : j < ks'.length), sameL (ks.take (j + 1)) (ks'.take (j + 1)) = (sameL (ks.take j) (ks'.take j) && sameE ks[j] ks'[j])) := Lib.hid (sameL_take ks ks')
      have HF : Hid (sameL (ks.take ks.length) (ks'.take ks.length) = sameL ks ks') := Lib.hid (by rw [List.take_of_length_le (Nat.le_refl _), List.take_of_length_le (by omega)])
      generalize sameL ks ks' = R at *
      have HL := Lib.hid hl
      clear hd hJ hl
      unfold Hd.cells
      go_enter Try.func41, Try.ntmps41
      go_wp2_with fail
      have hb0 : Below w.heap.size w ((w.alloc (.cells #[.int .i64 a.kind, .int .i64 a.n, .int .i64 a.m, .string a.name, .int .i64 a.vk, .int .i64 a.vn, .string a.vs, .int .i64 a.dev, .string a.cl, .string a.at_, .slice A1 ks.length c1] 32)).alloc (.cells #[.int .i64 a.kind, .int .i64 a.n, .int .i64 a.m, .string a.name, .int .i64 a.vk, .int .i64 a.vn, .string a.vs, .int .i64 a.dev, .string a.cl, .string a.at_, .slice A2 ks.length c2] 32)) := ((Below.refl _ _).al _).al _
      have hx0 : Blk ((w.alloc (.cells #[.int .i64 a.kind, .int .i64 a.n, .int .i64 a.m, .string a.name, .int .i64 a.vk, .int .i64 a.vn, .string a.vs, .int .i64 a.dev, .string a.cl, .string a.at_, .slice A1 ks.length c1] 32)).alloc (.cells #[.int .i64 a.kind, .int .i64 a.n, .int .i64 a.m, .string a.name, .int .i64 a.vk, .int .i64 a.vn, .string a.vs, .int .i64 a.dev, .string a.cl, .string a.at_, .slice A2 ks.length c2] 32)) w.heap.size 32 #[.int .i64 a.kind, .int .i64 a.n, .int .i64 a.m, .string a.name, .int .i64 a.vk, .int .i64 a.vn, .string a.vs, .int .i64 a.dev, .string a.cl, .string a.at_, .slice A1 ks.length c1] := (Blk.new _ _ _).alloc _
      have hy0 : Blk ((w.alloc (.cells #[.int .i64 a.kind, .int .i64 a.n, .int .i64 a.m, .string a.name, .int .i64 a.vk, .int .i64 a.vn, .string a.vs, .int .i64 a.dev, .string a.cl, .string a.at_, .slice A1 ks.length c1] 32)).alloc (.cells #[.int .i64 a.kind, .int .i64 a.n, .int .i64 a.m, .string a.name, .int .i64 a.vk, .int .i64 a.vn, .string a.vs, .int .i64 a.dev, .string a.cl, .string a.at_, .slice A2 ks.length c2] 32)) (w.heap.size + 1) 32 #[.int .i64 a.kind, .int .i64 a.n, .int .i64 a.m, .string a.name, .int .i64 a.vk, .int .i64 a.vn, .string a.vs, .int .i64 a.dev, .string a.cl, .string a.at_, .slice A2 ks.length c2] := Blk.at1 _ _ _ _
      have hs0 : w.heap.size + 2 ≤ ((w.alloc (.cells #[.int .i64 a.kind, .int .i64 a.n, .int .i64 a.m, .string a.name, .int .i64 a.vk, .int .i64 a.vn, .string a.vs, .int .i64 a.dev, .string a.cl, .string a.at_, .slice A1 ks.length c1] 32)).alloc (.cells #[.int .i64 a.kind, .int .i64 a.n, .int .i64 a.m, .string a.name, .int .i64 a.vk, .int .i64 a.vn, .string a.vs, .int .i64 a.dev, .string a.cl, .string a.at_, .slice A2 ks.length c2] 32)).heap.size := by simp
      have hlb : ks.length ≤ 140737488351232 := by omega
      generalize ((w.alloc (.cells #[.int .i64 a.kind, .int .i64 a.n, .int .i64 a.m, .string a.name, .int .i64 a.vk, .int .i64 a.vn, .string a.vs, .int .i64 a.dev, .string a.cl, .string a.at_, .slice A1 ks.length c1] 32)).alloc (.cells #[.int .i64 a.kind, .int .i64 a.n, .int .i64 a.m, .string a.name, .int .i64 a.vk, .int .i64 a.vn, .string a.vs, .int .i64 a.dev, .string a.cl, .string a.at_, .slice A2 ks.length c2] 32)) = WA at *
      go_loopw [5, 6, 59] (fun _ _ i wr => ∃ j : Nat, j ≤ ks.length ∧ i = .int .i64 j ∧ Hid (sameL (ks.take j) (ks'.take j) = true) ∧ Blk wr w.heap.size 32 #[.int .i64 a.kind, .int .i64 a.n, .int .i64 a.m, .string a.name, .int .i64 a.vk, .int .i64 a.vn, .string a.vs, .int .i64 a.dev, .string a.cl, .string a.at_, .slice A1 ks.length c1] ∧ Blk wr (w.heap.size + 1) 32 #[.int .i64 a.kind, .int .i64 a.n, .int .i64 a.m, .string a.name, .int .i64 a.vk, .int .i64 a.vn, .string a.vs, .int .i64 a.dev, .string a.cl, .string a.at_, .slice A2 ks.length c2] ∧ Below w.heap.size w wr ∧ w.heap.size + 2 ≤ wr.heap.size) (fun _ _ i _ => ks.length - (intOf i).toNat)
      case atStart => exact ⟨0, Nat.zero_le _, rfl, Lib.hid (by simp [sameL]), hx0, hy0, hb0, hs0⟩
      case round =>
        clear hx0 hy0 hb0 hs0
        obtain ⟨j, hjl, rfl, HS, hx, hy, hbw, hs⟩ := hrel
        have cx0 := hx.cell
        have cy0 := hy.cell
        by_cases hlt : j < ks.length
        · have hlt' : j < ks'.length := by have := HL.out; omega
          obtain ⟨rfl, hbB1⟩ := hA1 (by omega)
          obtain ⟨rfl, hbB2⟩ := hA2 (by omega)
          have hr1 := (hrow1 j hlt).below hbw (by omega)
          have hr2 := (hrow2 j hlt').below hbw (by omega)
          obtain ⟨ha', na', Aa', ca', _, ea', _⟩ := (hk1 j hlt).form
          obtain ⟨hb', nb', Ab', cb', _, eb', _⟩ := (hk2 j hlt').form
          have hz1 := hsz1 j
          have hz2 := hsz2 j
          have HI := fun W (hb : Below B w W) (hl : B ≤ W.heap.size) => Lib.hid (ih j hlt ks'[j] (cs1 j) (cs2 j) B W hl ((hk1 j hlt).carry hb) ((hk2 j hlt').carry hb))
          rw [ea'] at hr1 hz1 HI
          rw [eb'] at hr2 hz2 HI
          have hbad := HJ.out j hlt hlt'
          have htk := HT.out j hlt hlt'
          rw [HS.out] at htk
          have HB := Lib.hid hbad
          have HTK := Lib.hid htk
          clear ih hA1 hA2 hrow1 hrow2 hk1 hk2 ea' eb' hsz1 hsz2 HJ HT HF hbad htk
          generalize sameE ks[j] ks'[j] = S at *
          unfold Hd.cells at hr1 hr2 HI
          cases S with
          | false =>
            have hR : R = false := HB.out rfl
            have HR := Lib.hid hR
            clear hR HB HTK
            go_upto_region 6 with (with_reducible refine wpList_load_at rfl 32 _ rfl b1 (off1 + j * 11) rfl _ _ hr1 Try.underlying32 rfl (by kernel_rfl) ?_)
            clear cx0 cy0
            have hkb := Blk.new wr 32 #[.int .i64 ha'.kind, .int .i64 ha'.n, .int .i64 ha'.m, .string ha'.name, .int .i64 ha'.vk, .int .i64 ha'.vn, .string ha'.vs, .int .i64 ha'.dev, .string ha'.cl, .string ha'.at_, .slice Aa' na'.length ca']
            replace hx := hx.alloc (.cells #[.int .i64 ha'.kind, .int .i64 ha'.n, .int .i64 ha'.m, .string ha'.name, .int .i64 ha'.vk, .int .i64 ha'.vn, .string ha'.vs, .int .i64 ha'.dev, .string ha'.cl, .string ha'.at_, .slice Aa' na'.length ca'] 32)
            replace hy := hy.alloc (.cells #[.int .i64 ha'.kind, .int .i64 ha'.n, .int .i64 ha'.m, .string ha'.name, .int .i64 ha'.vk, .int .i64 ha'.vn, .string ha'.vs, .int .i64 ha'.dev, .string ha'.cl, .string ha'.at_, .slice Aa' na'.length ca'] 32)
            replace hbw := hbw.al (.cells #[.int .i64 ha'.kind, .int .i64 ha'.n, .int .i64 ha'.m, .string ha'.name, .int .i64 ha'.vk, .int .i64 ha'.vn, .string ha'.vs, .int .i64 ha'.dev, .string ha'.cl, .string ha'.at_, .slice Aa' na'.length ca'] 32)
            have hsz2 : wr.heap.size ≤ (wr.alloc (.cells #[.int .i64 ha'.kind, .int .i64 ha'.n, .int .i64 ha'.m, .string ha'.name, .int .i64 ha'.vk, .int .i64 ha'.vn, .string ha'.vs, .int .i64 ha'.dev, .string ha'.cl, .string ha'.at_, .slice Aa' na'.length ca'] 32)).heap.size := by simp
            replace hr2 := hr2.below (Lat.al wr (.cells #[.int .i64 ha'.kind, .int .i64 ha'.n, .int .i64 ha'.m, .string ha'.name, .int .i64 ha'.vk, .int .i64 ha'.vn, .string ha'.vs, .int .i64 ha'.dev, .string ha'.cl, .string ha'.at_, .slice Aa' na'.length ca'] 32)) (by omega)
            replace hs := Nat.le_trans hs hsz2
            have hbl1' : b1 < (wr.alloc (.cells #[.int .i64 ha'.kind, .int .i64 ha'.n, .int .i64 ha'.m, .string ha'.name, .int .i64 ha'.vk, .int .i64 ha'.vn, .string ha'.vs, .int .i64 ha'.dev, .string ha'.cl, .string ha'.at_, .slice Aa' na'.length ca'] 32)).heap.size := by omega
            have hbl2' : b2 < (wr.alloc (.cells #[.int .i64 ha'.kind, .int .i64 ha'.n, .int .i64 ha'.m, .string ha'.name, .int .i64 ha'.vk, .int .i64 ha'.vn, .string ha'.vs, .int .i64 ha'.dev, .string ha'.cl, .string ha'.at_, .slice Aa' na'.length ca'] 32)).heap.size := by omega
            clear hr1 hsz2
            generalize wr.alloc (.cells #[.int .i64 ha'.kind, .int .i64 ha'.n, .int .i64 ha'.m, .string ha'.name, .int .i64 ha'.vk, .int .i64 ha'.vn, .string ha'.vs, .int .i64 ha'.dev, .string ha'.cl, .string ha'.at_, .slice Aa' na'.length ca'] 32) = W0 at *
            generalize wr.heap.size = g7 at *
            refine wp_rely (by kernel_rfl) (by kernel_rfl) ?_
            repeat
              (apply RelyL.val
               focus (intro ν w' hL hF K hK; have cx := (hx.lat hL).cell; have cy := (hy.lat hL).cell; have HIw := HI w' ((hbw.th hL).mono hB) (by have := hL.size; omega); first
                 | (refine take_op rfl ?_; refine wp_load_blk rfl rfl (hkb.lat hL) Try.underlying32 rfl (by kernel_rfl : (Try.prog.info? 32).map (·.size) = some 11) rfl ?_; exact hK.out _ _ rfl (Lat.refl _))
                 | (refine take_op rfl ?_; refine wp_load_at 32 _ rfl b2 (off2 + j * 11) rfl _ _ (hr2.below hL hbl2') Try.underlying32 rfl (by kernel_rfl) ?_; exact hK.out _ _ rfl (Lat.refl _))
                 | (go_simp; first | exact hK.out _ _ rfl (Lat.refl _) | (go_at_call 41; ((with_reducible refine HIw.out.mono ?_); rintro r w'' ⟨rfl, hbp⟩; exact hK.out _ _ rfl hbp))))
               simp only [Act.put, List.setIfInBounds_toArray, List.set_cons_zero, List.set_cons_succ, Nat.reduceAdd])
            refine RelyL.done fun ν w5 hL hF => ?_
            clear hF
            go_wp2_with fail
            go_ret
            exact ⟨ret_bool HR.out.symm, hbw.th hL⟩
          | true =>
            have HE : Hid (sameL (ks.take (j + 1)) (ks'.take (j + 1)) = true) := Lib.hid (by rw [HTK.out]; rfl)
            clear HB HTK
            go_upto_region 6 with (with_reducible refine wpList_load_at rfl 32 _ rfl b1 (off1 + j * 11) rfl _ _ hr1 Try.underlying32 rfl (by kernel_rfl) ?_)
            clear cx0 cy0
            have hkb := Blk.new wr 32 #[.int .i64 ha'.kind, .int .i64 ha'.n, .int .i64 ha'.m, .string ha'.name, .int .i64 ha'.vk, .int .i64 ha'.vn, .string ha'.vs, .int .i64 ha'.dev, .string ha'.cl, .string ha'.at_, .slice Aa' na'.length ca']
            replace hx := hx.alloc (.cells #[.int .i64 ha'.kind, .int .i64 ha'.n, .int .i64 ha'.m, .string ha'.name, .int .i64 ha'.vk, .int .i64 ha'.vn, .string ha'.vs, .int .i64 ha'.dev, .string ha'.cl, .string ha'.at_, .slice Aa' na'.length ca'] 32)
            replace hy := hy.alloc (.cells #[.int .i64 ha'.kind, .int .i64 ha'.n, .int .i64 ha'.m, .string ha'.name, .int .i64 ha'.vk, .int .i64 ha'.vn, .string ha'.vs, .int .i64 ha'.dev, .string ha'.cl, .string ha'.at_, .slice Aa' na'.length ca'] 32)
            replace hbw := hbw.al (.cells #[.int .i64 ha'.kind, .int .i64 ha'.n, .int .i64 ha'.m, .string ha'.name, .int .i64 ha'.vk, .int .i64 ha'.vn, .string ha'.vs, .int .i64 ha'.dev, .string ha'.cl, .string ha'.at_, .slice Aa' na'.length ca'] 32)
            have hsz2 : wr.heap.size ≤ (wr.alloc (.cells #[.int .i64 ha'.kind, .int .i64 ha'.n, .int .i64 ha'.m, .string ha'.name, .int .i64 ha'.vk, .int .i64 ha'.vn, .string ha'.vs, .int .i64 ha'.dev, .string ha'.cl, .string ha'.at_, .slice Aa' na'.length ca'] 32)).heap.size := by simp
            replace hr2 := hr2.below (Lat.al wr (.cells #[.int .i64 ha'.kind, .int .i64 ha'.n, .int .i64 ha'.m, .string ha'.name, .int .i64 ha'.vk, .int .i64 ha'.vn, .string ha'.vs, .int .i64 ha'.dev, .string ha'.cl, .string ha'.at_, .slice Aa' na'.length ca'] 32)) (by omega)
            replace hs := Nat.le_trans hs hsz2
            have hbl1' : b1 < (wr.alloc (.cells #[.int .i64 ha'.kind, .int .i64 ha'.n, .int .i64 ha'.m, .string ha'.name, .int .i64 ha'.vk, .int .i64 ha'.vn, .string ha'.vs, .int .i64 ha'.dev, .string ha'.cl, .string ha'.at_, .slice Aa' na'.length ca'] 32)).heap.size := by omega
            have hbl2' : b2 < (wr.alloc (.cells #[.int .i64 ha'.kind, .int .i64 ha'.n, .int .i64 ha'.m, .string ha'.name, .int .i64 ha'.vk, .int .i64 ha'.vn, .string ha'.vs, .int .i64 ha'.dev, .string ha'.cl, .string ha'.at_, .slice Aa' na'.length ca'] 32)).heap.size := by omega
            clear hr1 hsz2
            generalize wr.alloc (.cells #[.int .i64 ha'.kind, .int .i64 ha'.n, .int .i64 ha'.m, .string ha'.name, .int .i64 ha'.vk, .int .i64 ha'.vn, .string ha'.vs, .int .i64 ha'.dev, .string ha'.cl, .string ha'.at_, .slice Aa' na'.length ca'] 32) = W0 at *
            generalize wr.heap.size = g7 at *
            refine wp_rely (by kernel_rfl) (by kernel_rfl) ?_
            repeat
              (apply RelyL.val
               focus (intro ν w' hL hF K hK; have cx := (hx.lat hL).cell; have cy := (hy.lat hL).cell; have HIw := HI w' ((hbw.th hL).mono hB) (by have := hL.size; omega); first
                 | (refine take_op rfl ?_; refine wp_load_blk rfl rfl (hkb.lat hL) Try.underlying32 rfl (by kernel_rfl : (Try.prog.info? 32).map (·.size) = some 11) rfl ?_; exact hK.out _ _ rfl (Lat.refl _))
                 | (refine take_op rfl ?_; refine wp_load_at 32 _ rfl b2 (off2 + j * 11) rfl _ _ (hr2.below hL hbl2') Try.underlying32 rfl (by kernel_rfl) ?_; exact hK.out _ _ rfl (Lat.refl _))
                 | (go_simp; first | exact hK.out _ _ rfl (Lat.refl _) | (go_at_call 41; ((with_reducible refine HIw.out.mono ?_); rintro r w'' ⟨rfl, hbp⟩; exact hK.out _ _ rfl hbp))))
               simp only [Act.put, List.setIfInBounds_toArray, List.set_cons_zero, List.set_cons_succ, Nat.reduceAdd])
            refine RelyL.done fun ν w5 hL hF => ?_
            clear hF
            replace hx := hx.lat hL
            replace hy := hy.lat hL
            replace hbw := hbw.th hL
            replace hs := Nat.le_trans hs hL.size
            clear hL
            go_wp2_with fail
            go_roundw
            case rel => exact ⟨j + 1, by omega, by go_num, HE, hx, hy, hbw, hs⟩
            case measure => simp [intOf]; omega
        · have hj : j = ks.length := by omega
          subst hj
          have hR : R = true := by rw [← HF.out]; exact HS.out
          have HR := Lib.hid hR
          clear hR
          go_wp2_with fail
          go_ret
          exact ⟨ret_bool HR.out.symm, hbw⟩
    · have hJ : sameE (.mk a ks) (.mk a ks') = false := by
        rw [sameE, show (ks.length == ks'.length) = false from by simpa using hl]; simp
      rw [hJ]
      exact elen_any a A1 A2 _ _ c1 c2 w hl
  · have hJ : sameE (.mk a ks) (.mk b ks') = false := by rw [sameE, hd]; rfl
    rw [hJ]
    exact ediff_any a b A1 A2 _ _ c1 c2 w (diff_of hd)
end

end Go.Proofs.Ytnelgblmogciiaa
