/- The walk of the law on normal forms. -/
import Derived.Test.YtdhccaninopicaaSLaws
set_option linter.unusedSimpArgs false
set_option linter.unusedVariables false
namespace Go.Proofs.Ytdhccaninopicaa
open Go.RowKit

theorem rev_take {l : List Sp} {k : Nat} (h : k < l.length) : l.reverse.take (k + 1) = l.reverse.take k ++ [l[l.length - 1 - k]] := by
  rw [List.take_succ_eq_append_getElem (by simpa using h), List.getElem_reverse]
set_option maxRecDepth 100000 in
set_option maxHeartbeats 8000000 in
theorem normal_law (l : List Sp) (A : Option Addr) (c : Nat) (B : Nat) (w : World) (hB : B ≤ w.heap.size) (hr : IsRows B w 2 (l.map spC) A) (hl : l.length ≤ 140737488351232) :
    Calls Try.prog 9 #[.slice A l.length c] w (LawPost w) := by
  have hU := Below.refl w.heap.size w
  by_cases h : 40 < l.length
  · go_enter Try.func9, Try.ntmps9
    go_wp2_with fail
    have hcall := awake_any w
    refine hcall.mono ?_
    clear hcall
    rintro r u ⟨rfl, hb1⟩
    go_wp2_with fail
    go_ret
    exact ⟨rfl, hb1⟩
  · obtain ⟨i0, hi, hz0, hz1, hz2⟩ := info_parts infoSp2
    have H0 := Lib.hid (fun (u : World) (h : Below w.heap.size w u) => row_later hr hB h)
    have H1 := Lib.hid (norm_any l A c B w hB hr (by omega))
    have hnf := nf_isNf (memS l)
    have hkl := nf_len (memS l)
    have hself := nf_self hnf
    have HREV := Lib.hid (show nf (memS l.reverse) = nf (memS l) from nf_congr fun m _ _ => memS_perm (List.reverse_perm l) m)
    clear hr
    generalize hK : nf (memS l) = K at *
    have HK := Lib.hid hK
    have HSELF := Lib.hid hself
    have HNF := Lib.hid hnf
    clear hK hself hnf
    go_enter Try.func9, Try.ntmps9
    go_wp2_with fail
    refine H1.out.mono ?_
    rintro r u1 ⟨A1, c1, rfl, hr1, hn1, hb1⟩
    replace hU := hU.th hb1
    clear hb1 H1
    have HR1 := Lib.hid (fun (u : World) (h : Below u1.heap.size u1 u) => row_later hr1 (Nat.le_refl _) h)
    clear hr1
    go_wp2_with fail
    go_loopw [4, 17] (fun x i wr => ∃ (k : Nat) (t : Int), k ≤ K.length ∧ i = .int .i64 k ∧ x = .int .i64 t ∧ Hid (∀ j (hj : j < K.length), k ≤ j → t < K[j].1) ∧ Below u1.heap.size u1 wr) (fun _ i _ => K.length - (intOf i).toNat)
    case atStart => exact ⟨0, -1, Nat.zero_le _, rfl, rfl, Lib.hid (fun j hj _ => by have := (spOk_iff _).1 (HNF.out.2 K[j] (List.getElem_mem hj)); omega), Below.refl _ _⟩
    case round =>
      obtain ⟨k, t, hkK, rfl, rfl, HT, hbw⟩ := hrel
      by_cases hlk : k < K.length
      · obtain ⟨b, off, rfl, hbB, hrow⟩ := (HR1.out wr hbw) (by simp; omega)
        have hr1 := hrow k (by simpa using hlk)
        have hs := (spOk_iff _).1 (HNF.out.2 K[k] (List.getElem_mem hlk))
        have ht := HT.out k hlk (Nat.le_refl _)
        have HTN := Lib.hid (show ∀ j (hj : j < K.length), k + 1 ≤ j → K[k].2 < K[j].1 from fun j hj hkj => List.pairwise_iff_getElem.1 HNF.out.1 k j hlk hj (by omega))
        simp only [List.getElem_map] at hr1
        clear hrow HT
        generalize K[k] = s at *
        obtain ⟨sf, st⟩ := s
        simp only [spC] at hr1
        simp only at hs ht
        obtain ⟨hs1, hs2, hs3⟩ := hs
        have d1 : decide (sf ≤ t) = false := decide_eq_false (by omega)
        have d2 : decide (sf < 0) = false := decide_eq_false (by omega)
        have d3 : decide (st ≤ sf) = false := decide_eq_false (by omega)
        have d4 : decide (10080 < st) = false := decide_eq_false (by omega)
        go_wp2_with (with_reducible refine wpList_load_at rfl 35 _ rfl b (off + k * 2) rfl _ _ hr1 Try.underlying35 rfl (by kernel_rfl) ?_)
        go_roundw
        case rel => exact ⟨k + 1, _, by omega, by go_num, rfl, HTN, hbw.al _⟩
        case measure => simp [intOf]; omega
      · have hbw' := hbw
        replace hU := hU.th hbw
        clear HT
        go_wp2_with fail
        go_loopw [7, 47] (fun x i w3 => ∃ (k2 : Nat) (v : Value) (wq : World), wq = w3 ∧ k2 ≤ l.length ∧ i = .int .i64 k2 ∧ v = x ∧ wq.ownsRow wr.heap.size 35 2 v (l.reverse.take k2).length ((l.reverse.take k2).map spC).flatten ∧ Below wr.heap.size wr wq) (fun _ i _ => l.length - (intOf i).toNat)
        case atStart => exact ⟨0, _, _, rfl, Nat.zero_le _, rfl, rfl, World.ownsRow_nil _ _ _ _, Below.refl _ _⟩
        case round =>
          obtain ⟨k2, v, wq, rfl, hk2, rfl, rfl, hown, hbq⟩ := hrel
          by_cases hlk2 : k2 < l.length
          · obtain ⟨b, off, rfl, hbB, hrow⟩ := (H0.out wq (hU.th hbq)) (by simp; omega)
            obtain ⟨j, hj⟩ : ∃ j, j = l.length - 1 - k2 := ⟨_, rfl⟩
            have hjl : j < l.length := by omega
            have hr1 := hrow j (by simpa using hjl)
            have hT : l.reverse.take (k2 + 1) = l.reverse.take k2 ++ [l[j]] := by subst hj; exact rev_take hlk2
            have e1 : ((l.length : Int) - 1 - (k2 : Int)) = (j : Int) := by omega
            have hfl : (l.reverse.take k2).length ≤ k2 := List.length_take_le _ _
            simp only [List.getElem_map] at hr1
            clear hrow hj
            generalize hF : l.reverse.take k2 = F at *
            have HF := Lib.hid hF
            clear hF
            generalize l[j] = s at *
            obtain ⟨sf, st⟩ := s
            simp only [spC] at hr1
            have hlt := hown.lt
            have HLT := Lib.hid hlt
            have OWN := Lib.hid (show wq.ownsRow wr.heap.size 35 2 v (F.map spC).length (F.map spC).flatten by rw [List.length_map]; exact hown)
            have hml : (F.map spC).length ≤ k2 := by rw [List.length_map]; exact hfl
            have FIN := Lib.hid (show ∀ (v6 : Value) (w6 : World), w6.ownsRow wr.heap.size 35 2 v6 (F.map spC ++ [[Value.int .i64 sf, Value.int .i64 st]]).length (F.map spC ++ [[Value.int .i64 sf, Value.int .i64 st]]).flatten → w6.ownsRow wr.heap.size 35 2 v6 (l.reverse.take (k2 + 1)).length ((l.reverse.take (k2 + 1)).map spC).flatten from fun v6 w6 h => by
              rw [hT, snoc_map]
              have : (F ++ [(sf, st)]).length = (F.map spC ++ [[Value.int .i64 sf, Value.int .i64 st]]).length := by simp
              rw [this]; exact h)
            have hsq := hbq.size
            clear hT hown hlt
            generalize F.map spC = R at *
            go_wp2_with (first | (with_reducible refine wpList_load_at rfl 35 _ rfl b (off + j * 2) rfl _ _ hr1 Try.underlying35 rfl (by kernel_rfl) ?_) | (at_builtin; refine append_rows rfl _ _ 22 rfl wr.heap.size 35 i0 _ 2 16 Try.underlying22 hi hz0 hz1 hz2 rfl (by decide) v R rfl (OWN.out.alloc _) (some ⟨wq.heap.size, 0, none⟩) 1 1 (wq.heap.size + 1) [[.int .i64 sf, .int .i64 st]] rfl rfl (fun h => by cases h) (fun _ => ⟨wq.heap.size, 0, rfl, by simp, fun i hi => by match i, hi with | 0, _ => simpa using (Blk.new wq 35 #[Value.int .i64 sf, Value.int .i64 st]).row⟩) (by simp) (by simp [Value.oneCell']) (by simp [maxLen]; omega) (by simp; omega) (by simp; omega) ?_; intro v6 w6 own6 hg6))
            go_roundw
            case rel => exact ⟨k2 + 1, _, _, rfl, by omega, by go_num, rfl, FIN.out _ _ own6, (hbq.al _).grown hg6 (by simp; omega) (fun q hq => (HLT.out q hq).1)⟩
            case measure => simp [intOf]; omega
          · rw [List.take_of_length_le (by simp; omega)] at hown
            obtain ⟨A7, c7, rfl, hr7, _⟩ := own_ret hown
            have hq1 := hbw'.th hbq
            have HR7 := Lib.hid (fun (u : World) (h : Below wq.heap.size wq u) => row_later hr7 (Nat.le_refl _) h)
            replace hU := hU.th hbq
            have hrl : l.reverse.length ≤ 1000000 := by simp; omega
            have HNR := Lib.hid (fun (u : World) (h : Below wq.heap.size wq u) => norm_any l.reverse A7 c7 u.heap.size u (Nat.le_refl _) (HR7.out u h) hrl)
            rw [HREV.out] at HNR
            have HNK := Lib.hid (norm_any K A1 c1 wq.heap.size wq (Nat.le_refl _) (HR1.out wq hq1) (by omega))
            rw [HSELF.out] at HNK
            generalize l.reverse = O at *
            clear hown hr7 hlk hbw' hbq
            go_wp2_with fail
            refine HNK.out.mono ?_
            rintro r u2 ⟨A2, c2, rfl, hr2, _, hb1⟩
            replace hU := hU.th hb1
            have hq2 := hq1.th hb1
            have hv := hb1
            clear hb1 HNK
            go_wp2_with fail
            have hcall := same_true K A2 A1 c2 c1 u2.heap.size u2 (Nat.le_refl _) hr2 (by omega) (HR1.out u2 hq2)
            refine hcall.mono ?_
            clear hcall hr2
            rintro r u3 ⟨rfl, hb1⟩
            replace hU := hU.th hb1
            replace hq2 := hq2.th hb1
            replace hv := hv.th hb1
            clear hb1
            go_wp2_with fail
            refine (HNR.out u3 hv).mono ?_
            rintro r u4 ⟨A2, c2, rfl, hr2, _, hb1⟩
            replace hU := hU.th hb1
            replace hq2 := hq2.th hb1
            clear hb1 HNR
            go_wp2_with fail
            have hcall := same_true K A2 A1 c2 c1 u4.heap.size u4 (Nat.le_refl _) hr2 (by omega) (HR1.out u4 hq2)
            refine hcall.mono ?_
            clear hcall hr2
            rintro r u5 ⟨rfl, hb1⟩
            replace hU := hU.th hb1
            clear hb1
            go_wp2_with fail
            have hcall := awake_any u5
            refine hcall.mono ?_
            clear hcall
            rintro r u6 ⟨rfl, hb1⟩
            replace hU := hU.th hb1
            clear hb1
            go_wp2_with fail
            go_ret
            exact ⟨rfl, hU⟩

end Go.Proofs.Ytdhccaninopicaa
