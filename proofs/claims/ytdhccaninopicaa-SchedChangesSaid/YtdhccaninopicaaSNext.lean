/- The length of a schedule, the next change, daily times. -/
import Derived.Test.YtdhccaninopicaaSNorm
import Derived.Test.YtdhccaninopicaaSRef5
set_option linter.unusedSimpArgs false
set_option linter.unusedVariables false
namespace Go.Proofs.Ytdhccaninopicaa
open Go.RowKit

theorem nf_len (S : Int → Bool) : (nf S).length ≤ 10080 := spansTo_len S 10080
theorem lenS_take {K : List Sp} {k : Nat} (h : k < K.length) : lenS (K.take (k + 1)) = lenS (K.take k) + (K[k].2 - K[k].1) := by
  rw [List.take_succ_eq_append_getElem h]
  unfold lenS
  rw [List.map_append, List.sum_append]
  simp
theorem lenS_bd {K : List Sp} (h : ∀ s ∈ K, spOk s = true) : 0 ≤ lenS K ∧ lenS K ≤ 10080 * (K.length : Int) := by
  induction K with
  | nil => simp [lenS]
  | cons s K ih =>
    have h1 := ih (fun x hx => h x (List.mem_cons_of_mem _ hx))
    have h2 := (spOk_iff s).1 (h s List.mem_cons_self)
    have : lenS (s :: K) = s.2 - s.1 + lenS K := by simp [lenS]
    rw [this, List.length_cons]
    omega
set_option maxRecDepth 100000 in
set_option maxHeartbeats 4000000 in
theorem length_any (l : List Sp) (A : Option Addr) (c : Nat) (B : Nat) (w : World) (hB : B ≤ w.heap.size) (hr : IsRows B w 2 (l.map spC) A) (hl : l.length ≤ 1000000) :
    Calls Try.prog 16 #[.slice A l.length c] w fun r w' => r = .returned (.int .i64 (cntTo (memS l) 10080)) ∧ Below w.heap.size w w' := by
  have H1 := Lib.hid (norm_any l A c B w hB hr hl)
  rw [← lenS_nf]
  have hok := (nf_isNf (memS l)).2
  have hlen := nf_len (memS l)
  clear hr
  generalize nf (memS l) = K at *
  go_enter Try.func16, Try.ntmps16
  go_wp2_with (go_at_call 14; refine H1.out.mono ?_; rintro r w2 ⟨A2, c2, rfl, hr2, _, hlow⟩)
  go_loopw [3, 9] (fun n i wr => ∃ k : Nat, k ≤ K.length ∧ i = .int .i64 k ∧ n = .int .i64 (lenS (K.take k)) ∧ Below w2.heap.size w2 wr) (fun _ i _ => K.length - (intOf i).toNat)
  case atStart => exact ⟨0, Nat.zero_le _, rfl, rfl, Below.refl _ _⟩
  case round =>
    obtain ⟨k, hkl, rfl, rfl, hbw⟩ := hrel
    have hbd := lenS_bd (K := K.take k) (fun s hs => hok s (List.mem_of_mem_take hs))
    have htl : (K.take k).length ≤ k := List.length_take_le _ _
    by_cases hlk : k < K.length
    · obtain ⟨b, off, rfl, hbB, hrow⟩ := hr2 (by simp; omega)
      have hr1 := (hrow k (by simpa using hlk)).below hbw hbB
      have hst := Lib.hid (lenS_take hlk)
      have hs := (spOk_iff _).1 (hok K[k] (List.getElem_mem hlk))
      simp only [List.getElem_map] at hr1
      clear hrow hr2 hok
      generalize lenS (K.take k) = N at *
      generalize K[k] = s at *
      obtain ⟨sf, st⟩ := s
      simp only [spC] at hr1
      simp only at hs hst
      obtain ⟨hs1, hs2, hs3⟩ := hs
      obtain ⟨hb1, hb2⟩ := hbd
      go_wp2_with (with_reducible refine wpList_load_at rfl 35 _ rfl b (off + k * 2) rfl _ _ hr1 Try.underlying35 rfl (by kernel_rfl) ?_)
      go_roundw
      case rel => exact ⟨k + 1, by omega, by go_num, by rw [hst.out], hbw.al _⟩
      case measure => simp [intOf]; omega
    · rw [List.take_of_length_le (by omega)] at *
      go_wp2_with fail
      go_ret
      exact ⟨rfl, hlow.trans (hbw.mono hlow.size)⟩

-- behind a return: $1 the change, $2 the span's place
set_option maxRecDepth 100000 in
set_option maxHeartbeats 8000000 in
theorem next_any (l : List Sp) (A : Option Addr) (c : Nat) (m : Int) (B : Nat) (w : World) (hB : B ≤ w.heap.size) (hr : IsRows B w 2 (l.map spC) A) (hl : l.length ≤ 1000000) (hm : I64 m) :
    Calls Try.prog 20 #[.slice A l.length c, .int .i64 m] w fun r w' => r = .returned (.int .i64 (nextI (memS l) (wrapI m))) ∧ Below w.heap.size w w' := by
  have H1 := Lib.hid (norm_any l A c B w hB hr hl)
  have HW := fun w => Lib.hid (wrap_any m w hm)
  have hM := wrapI_bd m
  have hG : ∀ k, IsNext (memS (nf (memS l))) (wrapI m) k → k = nextI (memS l) (wrapI m) := fun k hk => (nextI_of hM.1 hM.2 hk).trans (nextI_congr hM.1 hM.2 fun j _ _ => memS_nf_mem l j)
  have hnf := nf_isNf (memS l)
  have hlen := nf_len (memS l)
  have HL := Lib.hid (fun (A2 : Option Addr) (c2 : Nat) (w2 : World) (h2 : IsRows w2.heap.size w2 2 ((nf (memS l)).map spC) A2) => length_any (nf (memS l)) A2 c2 w2.heap.size w2 (Nat.le_refl _) h2 (by omega))
  obtain ⟨hm1, hm2⟩ := hm
  clear hr
  generalize nf (memS l) = x at *
  generalize wrapI m = M at *
  generalize nextI (memS l) M = R at *
  have HG := Lib.hid hG
  clear hG
  have hcb := cntTo_le (memS x) 10080
  generalize hC : cntTo (memS x) 10080 = C at *
  have HC := Lib.hid hC
  clear hC
  obtain ⟨hM1, hM2⟩ := hM
  by_cases hC0 : C = 0
  · subst hC0
    go_enter Try.func20, Try.ntmps20
    go_wp2_with (first | (go_at_call 14; refine H1.out.mono ?_; rintro r w2 ⟨A2, c2, rfl, hr2, _, hlow⟩) | (go_at_call 16; refine (HL.out _ _ _ hr2).mono ?_; rintro r w3 ⟨rfl, hb3⟩))
    go_ret
    exact ⟨ret_int (HG.out _ (next_none HC.out hM1 hM2)), hlow.trans (hb3.mono hlow.size)⟩
  by_cases hC1 : C = 10080
  · subst hC1
    go_enter Try.func20, Try.ntmps20
    go_wp2_with (first | (go_at_call 14; refine H1.out.mono ?_; rintro r w2 ⟨A2, c2, rfl, hr2, _, hlow⟩) | (go_at_call 16; refine (HL.out _ _ _ hr2).mono ?_; rintro r w3 ⟨rfl, hb3⟩))
    go_ret
    exact ⟨ret_int (HG.out _ (next_full HC.out hM1 hM2)), hlow.trans (hb3.mono hlow.size)⟩
  obtain ⟨g1, g2, g3⟩ := ine hC0
  obtain ⟨g4, g5, g6⟩ := ine hC1
  have hx0 : 0 < x.length := by
    rcases Nat.eq_zero_or_pos x.length with h | h
    · obtain rfl := List.eq_nil_of_length_eq_zero h
      exact absurd (HC.out.symm.trans (cntTo_none (S := memS []) 10080 (fun _ _ _ => rfl))) hC0
    · exact h
  go_enter Try.func20, Try.ntmps20
  go_wp2_with (first | (go_at_call 14; refine H1.out.mono ?_; rintro r w2 ⟨A2, c2, rfl, hr2, _, hlow⟩) | (go_at_call 16; refine (HL.out _ _ _ hr2).mono ?_; rintro r w3 ⟨rfl, hb3⟩) | (go_at_call 38; refine (HW _).out.mono ?_; rintro r w4 ⟨rfl, rfl⟩))
  obtain ⟨b, off, rfl, hbB, hrow⟩ := hr2 (by simpa using hx0)
  clear H1 HL HW hr2
  have hlo := hlow.trans (hb3.mono hlow.size)
  have hsz3 := hb3.size
  have hrow3 : ∀ (i : Nat) (hi : i < (x.map spC).length), RowAt w3 b (off + i * 2) (x.map spC)[i] := fun i hi => (hrow i hi).below hb3 hbB
  have HROW := Lib.hid hrow3
  clear hrow hb3 hlow hrow3
  go_loopw [23] (fun i wr => ∃ k : Nat, k ≤ x.length ∧ i = .int .i64 k ∧ Hid (∀ j (hj : j < x.length), j < k → x[j].2 ≤ M) ∧ Below w3.heap.size w3 wr) (fun i _ => x.length - (intOf i).toNat)
  case atStart => exact ⟨0, Nat.zero_le _, rfl, Lib.hid (fun j _ h => absurd h (by omega)), Below.refl _ _⟩
  case round =>
    obtain ⟨k, hkl, rfl, HJ, hbw⟩ := hrel
    have h0 := (spOk_iff _).1 (hnf.2 x[0] (List.getElem_mem hx0))
    have r0 := (HROW.out 0 (by simpa using hx0)).below hbw (by omega)
    simp only [List.getElem_map, spC] at r0
    have r00 := r0 0 _ rfl
    have r01 := r0 1 _ rfl
    simp only [Nat.zero_mul, Nat.add_zero] at r00 r01
    clear r0
    by_cases hlk : k < x.length
    · have hr1 := (HROW.out k (by simpa using hlk)).below hbw (by omega)
      have hs := (spOk_iff _).1 (hnf.2 x[k] (List.getElem_mem hlk))
      simp only [List.getElem_map, spC] at hr1
      have Hbef := Lib.hid (fun h => next_before hnf hM1 hlk HJ.out h)
      have Hin := Lib.hid (fun h1 h2 h3 => next_in (m := M) hnf hM1 hlk h1 h2 h3)
      have Hlast := Lib.hid (fun h1 h2 h3 h4 => next_last (m := M) hnf hM1 hlk h1 h2 h3 h4)
      have Hover := Lib.hid (fun h1 h2 h3 h4 => next_over (m := M) hnf hM1 hlk h1 h2 h3 h4 (by rw [HC.out]; exact hC1))
      have Hj := Lib.hid (show x[k].2 ≤ M → ∀ j (hj : j < x.length), j < k + 1 → x[j].2 ≤ M from fun h j hj hjk => by
        by_cases hjk' : j = k
        · subst hjk'; exact h
        · exact HJ.out j hj (by omega))
      obtain ⟨h01, h02, h03⟩ := h0
      obtain ⟨hs1, hs2, hs3⟩ := hs
      clear HJ HROW hnf
      generalize x[k] = s at *
      generalize x[0] = z at *
      obtain ⟨sf, st⟩ := s
      obtain ⟨zf, zt⟩ := z
      simp only at hs1 hs2 hs3 h01 h02 h03 hr1 r00 r01
      by_cases c1 : M < sf
      · have HN := Lib.hid (Hbef.out c1)
        clear Hbef Hin Hlast Hover Hj
        go_wp2_with (with_reducible refine wpList_load_at rfl 35 _ rfl b (off + k * 2) rfl _ _ hr1 Try.underlying35 rfl (by kernel_rfl) ?_)
        go_ret
        exact ⟨ret_int (HG.out _ HN.out), hlo.trans ((hbw.al _).mono hlo.size)⟩
      · by_cases c2 : M < st
        · by_cases c3 : st < 10080
          · have HN := Lib.hid (Hin.out (by simpa using c1) c2 c3)
            clear Hbef Hin Hlast Hover Hj
            go_wp2_with (with_reducible refine wpList_load_at rfl 35 _ rfl b (off + k * 2) rfl _ _ hr1 Try.underlying35 rfl (by kernel_rfl) ?_)
            go_ret
            exact ⟨ret_int (HG.out _ HN.out), hlo.trans ((hbw.al _).mono hlo.size)⟩
          · have e3 : st = 10080 := by omega
            by_cases c4 : zf = 0
            · have HN := Lib.hid (Hover.out (by simpa using c1) c2 e3 c4)
              have q4 : (zf == 0) = true := by simpa using c4
              clear Hbef Hin Hlast Hover Hj c4
              subst e3
              have q00 := (World.cell?_alloc_lt wr (.cells #[.int .i64 sf, .int .i64 10080] 35) ⟨b, off, none⟩ (by show b < _; have := hbw.size; omega)).trans r00
              have q01 := (World.cell?_alloc_lt wr (.cells #[.int .i64 sf, .int .i64 10080] 35) ⟨b, off + 1, none⟩ (by show b < _; have := hbw.size; omega)).trans r01
              go_wp2_with (with_reducible refine wpList_load_at rfl 35 _ rfl b (off + k * 2) rfl _ _ hr1 Try.underlying35 rfl (by kernel_rfl) ?_)
              go_ret
              exact ⟨ret_int (HG.out _ HN.out), hlo.trans ((hbw.al _).mono hlo.size)⟩
            · have HN := Lib.hid (Hlast.out (by simpa using c1) c2 e3 c4)
              obtain ⟨q4, q5, q6⟩ := ine c4
              clear Hbef Hin Hlast Hover Hj c4
              subst e3
              have q00 := (World.cell?_alloc_lt wr (.cells #[.int .i64 sf, .int .i64 10080] 35) ⟨b, off, none⟩ (by show b < _; have := hbw.size; omega)).trans r00
              have q01 := (World.cell?_alloc_lt wr (.cells #[.int .i64 sf, .int .i64 10080] 35) ⟨b, off + 1, none⟩ (by show b < _; have := hbw.size; omega)).trans r01
              go_wp2_with (with_reducible refine wpList_load_at rfl 35 _ rfl b (off + k * 2) rfl _ _ hr1 Try.underlying35 rfl (by kernel_rfl) ?_)
              go_ret
              exact ⟨ret_int (HG.out _ HN.out), hlo.trans ((hbw.al _).mono hlo.size)⟩
        · have HN := Lib.hid (Hj.out (by simpa using c2))
          clear Hbef Hin Hlast Hover Hj
          go_wp2_with (with_reducible refine wpList_load_at rfl 35 _ rfl b (off + k * 2) rfl _ _ hr1 Try.underlying35 rfl (by kernel_rfl) ?_)
          go_roundw
          case rel => exact ⟨k + 1, by omega, by go_num, HN, hbw.al _⟩
          case measure => simp [intOf]; omega
    · have HN := Lib.hid (next_behind (m := M) hnf hM1 hM2 hx0 (fun j hj => HJ.out j hj (by omega)))
      obtain ⟨h01, h02, h03⟩ := h0
      clear HJ HROW hnf
      generalize x[0] = z at *
      obtain ⟨zf, zt⟩ := z
      simp only at h01 h02 h03 r00 r01
      go_wp2_with fail
      go_ret
      exact ⟨ret_int (HG.out _ HN.out), hlo.trans (hbw.mono hlo.size)⟩

end Go.Proofs.Ytdhccaninopicaa
