/- The normal form of a schedule. -/
import Derived.Test.YtdhccaninopicaaSSort
import Derived.Test.YtdhccaninopicaaSRef4
import Derived.Deep.DeepCutAuto
set_option linter.unusedSimpArgs false
set_option linter.unusedVariables false
namespace Go.Proofs.Ytdhccaninopicaa
open Go.RowKit

/-- One span appended to a row of the call's own: the cells. -/
theorem own_later' {w w' : World} {base : Nat} {e : TypeId} {n k : Nat} {v : Value} {xs : List Value} (h : w.ownsRow base e n v k xs) (hb : Below w.heap.size w w') : w'.ownsRow base e n v k xs := by
  obtain ⟨hl, ho | ⟨g, cap, cur, hv, hbg, hg, r⟩⟩ := h
  · exact ⟨hl, .inl ho⟩
  · exact ⟨hl, .inr ⟨g, cap, cur, hv, hbg, (hb.block g (Array.getElem?_eq_some_iff.1 hg).1).trans hg, r⟩⟩
theorem snoc_map (l : List Sp) (s : Sp) : (l ++ [s]).map spC = l.map spC ++ [[.int .i64 s.1, .int .i64 s.2]] := by rw [List.map_append]; rfl
theorem filter_take {l : List Sp} {k : Nat} (h : k < l.length) : (l.take (k + 1)).filter spOk = if spOk l[k] then (l.take k).filter spOk ++ [l[k]] else (l.take k).filter spOk := by
  rw [List.take_succ_eq_append_getElem h, List.filter_append]
  by_cases hs : spOk l[k] = true
  · rw [if_pos hs, List.filter_cons_of_pos hs]; rfl
  · rw [if_neg hs, List.filter_cons_of_neg hs]; simp
theorem mergeL_len : ∀ (d : List Sp), (mergeL d).length ≤ d.length := by
  intro d
  induction hn : d.length generalizing d with
  | zero => obtain rfl := List.eq_nil_of_length_eq_zero hn; exact Nat.le_refl _
  | succ n ih =>
    rcases snoc_cases d with rfl | ⟨a, s, rfl⟩
    · cases hn
    · have := ih a (by simpa using hn)
      rw [mergeL_snoc]
      unfold mergeStep
      split
      · simp
      · split
        · simp; omega
        · simp; omega
theorem mergeL_take {d : List Sp} {k : Nat} (h : k < d.length) : mergeL (d.take (k + 1)) = mergeStep (mergeL (d.take k)) d[k] := by
  rw [List.take_succ_eq_append_getElem h, mergeL_snoc]
theorem infoSp2 : (Try.prog.info? 35).map (fun i => (i.zero, i.size, i.bytes)) = some (some (.agg #[.int .i64 0, .int .i64 0]), 2, 16) := by kernel_rfl

set_option maxRecDepth 100000 in
set_option maxHeartbeats 8000000 in
theorem norm_any (l : List Sp) (A : Option Addr) (c : Nat) (B : Nat) (w : World) (hB : B ≤ w.heap.size) (hr : IsRows B w 2 (l.map spC) A) (hl : l.length ≤ 1000000) :
    Calls Try.prog 14 #[.slice A l.length c] w (RetSp (nf (memS l)) w) := by
  obtain ⟨i0, hi, hz0, hz1, hz2⟩ := info_parts infoSp2
  go_enter Try.func14, Try.ntmps14
  go_wp2_with fail
  go_loopw [3, 12] (fun x i wr => ∃ (k : Nat) (v : Value), k ≤ l.length ∧ i = .int .i64 k ∧ v = x ∧ wr.ownsRow w.heap.size 35 2 v ((l.take k).filter spOk).length (((l.take k).filter spOk).map spC).flatten ∧ Below w.heap.size w wr) (fun _ i _ => l.length - (intOf i).toNat)
  case atStart => exact ⟨0, _, Nat.zero_le _, rfl, rfl, World.ownsRow_nil _ _ _ _, Below.refl _ _⟩
  case round =>
    obtain ⟨k, v, hkl, rfl, rfl, hown, hbw⟩ := hrel
    by_cases hlk : k < l.length
    · obtain ⟨b, off, rfl, hbB, hrow⟩ := hr (by simp; omega)
      have hbl : b < wr.heap.size := by have := hbw.size; omega
      have hr1 := (hrow k (by simpa using hlk)).below hbw (Nat.lt_of_lt_of_le hbB hB)
      have hT := filter_take hlk
      have hfl : ((l.take k).filter spOk).length ≤ k := Nat.le_trans (List.length_filter_le _ _) (by rw [List.length_take]; omega)
      simp only [List.getElem_map] at hr1
      clear hrow hr
      generalize hF : (l.take k).filter spOk = F at *
      have HF := Lib.hid hF
      clear hF
      generalize l[k] = s at *
      obtain ⟨sf, st⟩ := s
      simp only [spC] at hr1
      have HV := fun w => Lib.hid (valid_any sf st w)
      have hsz := hbw.size
      cases hok : spOk (sf, st) with
      | false =>
        rw [hok] at HV hT
        rw [if_neg (by simp)] at hT
        have HT := Lib.hid hT
        clear hT hok
        go_wp2_with (first | (with_reducible refine wpList_load_at rfl 35 _ rfl b (off + k * 2) rfl _ _ hr1 Try.underlying35 rfl (by kernel_rfl) ?_) | (go_at_call 32; refine (HV _).out.mono ?_; rintro r w2 ⟨rfl, hb2⟩))
        go_roundw
        case rel => exact ⟨k + 1, _, by omega, by go_num, rfl, by rw [HT.out]; exact own_later' (hown.alloc _) hb2, (hbw.al _).th hb2⟩
        case measure => simp [intOf]; omega
      | true =>
        rw [hok] at HV hT
        rw [if_pos rfl] at hT
        have HT := Lib.hid hT
        clear hT hok
        have hown' : wr.ownsRow w.heap.size 35 2 v (F.map spC).length (F.map spC).flatten := by rw [List.length_map]; exact hown
        have OWN := Lib.hid hown'
        clear hown hown'
        have hml : (F.map spC).length ≤ k := by rw [List.length_map]; exact hfl
        have FIN := Lib.hid (show ∀ (v6 : Value) (w6 : World), w6.ownsRow w.heap.size 35 2 v6 (F.map spC ++ [[Value.int .i64 sf, Value.int .i64 st]]).length (F.map spC ++ [[Value.int .i64 sf, Value.int .i64 st]]).flatten → w6.ownsRow w.heap.size 35 2 v6 ((l.take (k + 1)).filter spOk).length (((l.take (k + 1)).filter spOk).map spC).flatten from fun v6 w6 h => by
          rw [HT.out, snoc_map]
          have : (F ++ [(sf, st)]).length = (F.map spC ++ [[Value.int .i64 sf, Value.int .i64 st]]).length := by simp
          rw [this]; exact h)
        generalize F.map spC = R at *
        go_wp2_with (first | (with_reducible refine wpList_load_at rfl 35 _ rfl b (off + k * 2) rfl _ _ hr1 Try.underlying35 rfl (by kernel_rfl) ?_) | (with_reducible refine wpList_load_at rfl 35 _ rfl wr.heap.size 0 rfl _ _ hbox Try.underlying35 rfl (by kernel_rfl) ?_) | (go_at_call 32; refine (HV _).out.mono ?_; rintro r w2 ⟨rfl, hb2⟩; have kB := (Blk.new wr 35 #[Value.int .i64 sf, Value.int .i64 st]).below hb2; have hbox : RowAt w2 wr.heap.size 0 [.int .i64 sf, .int .i64 st] := kB.row; have hs2 := hb2.size; rw [World.size_alloc] at hs2; clear kB) | (at_builtin; refine append_rows rfl _ _ 22 rfl w.heap.size 35 i0 _ 2 16 Try.underlying22 hi hz0 hz1 hz2 rfl (by decide) v R rfl ((own_later' (OWN.out.alloc _) hb2).alloc _) (some ⟨w2.heap.size, 0, none⟩) 1 1 (w2.heap.size + 1) [[.int .i64 sf, .int .i64 st]] rfl rfl (fun h => by cases h) (fun _ => ⟨w2.heap.size, 0, rfl, by simp, fun i hi => by match i, hi with | 0, _ => simpa using (Blk.new w2 35 #[Value.int .i64 sf, Value.int .i64 st]).row⟩) (by simp) (by simp [Value.oneCell']) (by simp [maxLen]; omega) (by simp; omega) (by simp; omega) ?_; intro v6 w6 own6 hg6))
        go_roundw
        case rel => exact ⟨k + 1, _, by omega, by go_num, rfl, FIN.out _ _ own6, (((hbw.al _).th hb2).al _).grown hg6 (by simp; omega) (fun q hq => (OWN.out.lt q hq).1)⟩
        case measure => simp [intOf]; omega
    · rw [List.take_of_length_le (by omega)] at hown
      have hfl : (l.filter spOk).length ≤ l.length := List.length_filter_le _ _
      obtain ⟨A3, c3, rfl, _⟩ := own_ret hown
      have HS := Lib.hid (sort_any (l.filter spOk) _ w.heap.size wr hown (by omega))
      have HMN := Lib.hid (fun (d : List Sp) (hp : d.Perm (l.filter spOk)) (hs : d.Pairwise (fun a b => a.1 ≤ b.1)) => merge_nf hp hs)
      have hall : ∀ s ∈ l.filter spOk, spOk s = true := fun s hs => (List.mem_filter.1 hs).2
      clear hown
      generalize hF : l.filter spOk = F at *
      have HF := Lib.hid hF
      clear hF
      go_wp2_with (go_at_call 33; refine HS.out.mono ?_; rintro r w3 ⟨d, rfl, hperm, hsort, hown3, hsz3, hbelow⟩)
      have hbw3 : Below w.heap.size w w3 := hbw.trans (hbelow w.heap.size (Nat.le_refl _) hbw.size)
      have HDL := Lib.hid hperm.length_eq
      have hr3 : IsRows w3.heap.size w3 2 (d.map spC) A3 := by
        obtain ⟨A', c', hv3, hr3, _⟩ := own_ret hown3
        injection hv3 with e1 _ _
        rw [e1]; exact hr3
      have HE := Lib.hid (HMN.out d hperm hsort)
      have hdok : ∀ s ∈ d, spOk s = true := fun s hs => hall s (hperm.mem_iff.1 hs)
      clear HS HMN hown3 hbelow hall hperm hsort hr hbw
      go_wp2_with fail
      go_loopw [6, 27] (fun x i wr => ∃ (k : Nat) (v : Value), k ≤ F.length ∧ i = .int .i64 k ∧ v = x ∧ wr.ownsRow w3.heap.size 35 2 v (mergeL (d.take k)).length ((mergeL (d.take k)).map spC).flatten ∧ Below w3.heap.size w3 wr) (fun _ i _ => F.length - (intOf i).toNat)
      case atStart => exact ⟨0, _, Nat.zero_le _, rfl, rfl, World.ownsRow_nil _ _ _ _, Below.refl _ _⟩
      case round =>
        obtain ⟨k, v, hkl, rfl, rfl, hown, hbw⟩ := hrel
        by_cases hlkF : k < F.length
        · have hlk : k < d.length := by rw [HDL.out]; exact hlkF
          obtain ⟨b, off, rfl, hbB, hrow⟩ := hr3 (by simp; omega)
          have hbl : b < wr.heap.size := by have := hbw.size; omega
          have hr1 := (hrow k (by simpa using hlk)).below hbw hbB
          have hT := mergeL_take hlk
          have hml : (mergeL (d.take k)).length ≤ k := Nat.le_trans (mergeL_len _) (by rw [List.length_take]; omega)
          simp only [List.getElem_map] at hr1
          clear hrow hr3 hdok HE
          generalize hM : mergeL (d.take k) = M at *
          have HM := Lib.hid hM
          clear hM
          generalize d[k] = s at *
          obtain ⟨sf, st⟩ := s
          simp only [spC] at hr1
          have hsz := hbw.size
          have hlt := hown.lt
          have HTA : Hid (mergeStep M (sf, st) = M ++ [(sf, st)] → ∀ (v6 : Value) (w6 : World), w6.ownsRow w3.heap.size 35 2 v6 (M.map spC ++ [[Value.int .i64 sf, Value.int .i64 st]]).length (M.map spC ++ [[Value.int .i64 sf, Value.int .i64 st]]).flatten → w6.ownsRow w3.heap.size 35 2 v6 (mergeL (d.take (k + 1))).length ((mergeL (d.take (k + 1))).map spC).flatten) := Lib.hid (fun he v6 w6 h => by
            rw [hT, he, snoc_map]
            have : (M ++ [(sf, st)]).length = (M.map spC ++ [[Value.int .i64 sf, Value.int .i64 st]]).length := by simp
            rw [this]; exact h)
          have hlw : Below wr.heap.size wr (wr.alloc (.cells #[.int .i64 sf, .int .i64 st] 35)) := (Below.refl _ _).al _
          have kW : Blk (wr.alloc (.cells #[.int .i64 sf, .int .i64 st] 35)) wr.heap.size 35 #[.int .i64 sf, .int .i64 st] := Blk.new _ _ _
          have hWs : (wr.alloc (.cells #[.int .i64 sf, .int .i64 st] 35)).heap.size = wr.heap.size + 1 := by simp
          have HW3 := Lib.hid hWs
          clear hWs
          rcases snoc_cases M with hn | ⟨a, t, hn⟩
          · subst hn
            have FIN := Lib.hid (HTA.out (mergeStep_nil _))
            obtain ⟨A5, c5, rfl, _⟩ := own_ret hown
            simp only [List.map_nil, List.length_nil, List.flatten_nil] at hown hlt
            have OWN := Lib.hid (own_later' hown hlw)
            have HLT := Lib.hid hlt
            clear hT HTA hown hml hlt
            go_upto_region 14 with (with_reducible refine wpList_load_at rfl 35 _ rfl b (off + k * 2) rfl _ _ hr1 Try.underlying35 rfl (by kernel_rfl) ?_)
            generalize hWW : wr.alloc (.cells #[.int .i64 sf, .int .i64 st] 35) = W at *
            clear hWW
            refine wp_rely (by kernel_rfl) (by kernel_rfl) ?_
            iterate 13
              apply RelyL.val
              · intro ν w' hL hF K hK
                first
                  | (refine skip_op rfl ?_; exact hK.out _ _ rfl (Lat.refl _))
                  | (go_simp; exact hK.out _ _ rfl (Lat.refl _))
              simp only [Act.put, List.setIfInBounds_toArray, List.set_cons_zero, List.set_cons_succ, Nat.reduceAdd]
            refine RelyL.done fun ν w1 hL hF => ?_
            clear hF
            have own1 := own_later' OWN.out hL
            have hbox : RowAt w1 wr.heap.size 0 [.int .i64 sf, .int .i64 st] := (kW.lat hL).row
            have hb1 := hbw.th (hlw.trans (hL.mono hlw.size))
            have hs1 : wr.heap.size + 1 ≤ w1.heap.size := by have := hL.size; rw [HW3.out] at this; exact this
            clear hL kW hlw OWN hr1
            go_wp2_with (first | (with_reducible refine wpList_load_at rfl 35 _ rfl wr.heap.size 0 rfl _ _ hbox Try.underlying35 rfl (by kernel_rfl) ?_) | (at_builtin; refine append_rows rfl _ _ 22 rfl w3.heap.size 35 i0 _ 2 16 Try.underlying22 hi hz0 hz1 hz2 rfl (by decide) _ [] rfl (own1.alloc _) (some ⟨w1.heap.size, 0, none⟩) 1 1 (w1.heap.size + 1) [[.int .i64 sf, .int .i64 st]] rfl rfl (fun h => by cases h) (fun _ => ⟨w1.heap.size, 0, rfl, by simp, fun i hi => by match i, hi with | 0, _ => simpa using (Blk.new w1 35 #[Value.int .i64 sf, Value.int .i64 st]).row⟩) (by simp) (by simp [Value.oneCell']) (by simp [maxLen]; try omega) (by simp; try omega) (by simp; omega) ?_; intro v6 w6 own6 hg6))
            go_roundw
            case rel => exact ⟨k + 1, _, by omega, by go_num, rfl, FIN.out _ _ own6, (hb1.al _).grown hg6 (by simp; omega) (fun q hq => (HLT.out q hq).1)⟩
            case measure => simp [intOf]; omega
          · subst hn
            have hNM : (a ++ [t]).length = a.length + 1 := by simp
            rw [hNM] at hown hml
            obtain ⟨gg, cap, rfl, hgg, hggl⟩ := hown.form (by omega)
            have hcl : (((a ++ [t]).map spC).flatten)[a.length * 2 + 1]? = some (.int .i64 t.2) := by
              have hl : (a.map spC).flatten.length = a.length * 2 := by rw [flat_len _ spC_all, List.length_map]
              rw [List.map_append, List.flatten_append, List.getElem?_append_right (by omega), hl]
              simp [spC]
            have OWN := Lib.hid (own_later' hown hlw)
            have HLT := Lib.hid hlt
            have HCL := Lib.hid hcl
            have HLS := Lib.hid (last_set a t)
            have hst := mergeStep_snoc a t (sf, st)
            rw [hst] at hT HTA
            have HNM := Lib.hid hNM
            clear hst hown hlt hcl hNM
            generalize hN : a.length = n at *
            have HN := Lib.hid hN
            clear hN
            have hw1 : IntKind.i64.wrap (n : Int) = (n : Int) := IntWalk.i64_in _ (by omega)
            obtain ⟨tf, tt⟩ := t
            simp only at hT HTA HCL HLS
            have HC := Lib.hid (fun (w' : World) (hL : Lat (wr.alloc (.cells #[.int .i64 sf, .int .i64 st] 35)) w') => (show w'.cell? ⟨gg, n * 2 + 1, none⟩ = some (.int .i64 tt) ∧ w'.cell? ⟨wr.heap.size, 0, none⟩ = some (.int .i64 sf) ∧ w'.cell? ⟨wr.heap.size, 1, none⟩ = some (.int .i64 st) from ⟨by
              rw [(own_later' OWN.out hL).cellAt (n * 2 + 1) (by omega)]; exact HCL.out, by rw [(kW.lat hL).cell]; rfl, by rw [(kW.lat hL).cell]; rfl⟩))
            by_cases hle : sf ≤ tt
            · have d1 : decide (sf ≤ tt) = true := by simpa using hle
              rw [if_pos hle] at hT
              have HT := Lib.hid hT
              clear hT HTA
              have HW1 := Lib.hid hw1
              clear hw1
              go_upto_region 14 with (with_reducible refine wpList_load_at rfl 35 _ rfl b (off + k * 2) rfl _ _ hr1 Try.underlying35 rfl (by kernel_rfl) ?_)
              have hw1 := HW1.out
              have hl1 : (n : Int) < (n : Int) + 1 := by omega
              generalize hWW : wr.alloc (.cells #[.int .i64 sf, .int .i64 st] 35) = W at *
              clear hWW
              refine wp_rely (by kernel_rfl) (by kernel_rfl) ?_
              iterate 13
                apply RelyL.val
                · intro ν w' hL hF K hK
                  obtain ⟨q0, q1, q2⟩ := HC.out w' hL
                  first
                    | (refine skip_op rfl ?_; exact hK.out _ _ rfl (Lat.refl _))
                    | (go_simp; exact hK.out _ _ rfl (Lat.refl _))
                simp only [Act.put, List.setIfInBounds_toArray, List.set_cons_zero, List.set_cons_succ, Nat.reduceAdd]
              refine RelyL.done fun ν w1 hL0 hF => ?_
              clear hF hw1 hl1
              go_upto_region 15 with fail
              have hw1 := HW1.out
              have hl1 : (n : Int) < (n : Int) + 1 := by omega
              refine wp_rely_tail 14 (by kernel_rfl) (by kernel_rfl) (by decide) (by kernel_rfl) ?_
              simp only [List.take_succ_cons, List.take_zero, List.drop_succ_cons, List.drop_zero]
              iterate 14
                apply RelyL.val
                · intro ν w' hL hF K hK
                  obtain ⟨q0, q1, q2⟩ := HC.out w' (hL0.trans hL)
                  first
                    | (refine skip_op rfl ?_; exact hK.out _ _ rfl (Lat.refl _))
                    | (go_simp; exact hK.out _ _ rfl (Lat.refl _))
                simp only [Act.put, List.setIfInBounds_toArray, List.set_cons_zero, List.set_cons_succ, Nat.reduceAdd]
              refine RelyL.done fun ν w5 hL hF => ?_
              clear hF hw1 hl1
              have hL5 := hL0.trans hL
              have own5 := own_later' OWN.out hL5
              have cT := (HC.out w5 hL5).1
              have fT := own5.frozenAt (n * 2 + 1)
              have hb5 := hbw.th (hlw.trans (hL5.mono hlw.size))
              have KN := Lib.hid (own5.stored (n * 2 + 1) (.int .i64 (max tt st))).1
              clear own5 hL5 hL hL0 hr1 hlw kW OWN HC
              go_wp2_with fail
              go_roundw
              case rel => exact ⟨k + 1, _, by omega, by go_num, rfl, by rw [HT.out]; have h := KN.out; rw [HLS.out] at h; simpa [HN.out] using h, hb5.st (HLT.out gg rfl).1 _⟩
              case measure => simp [intOf]; omega
            · have d1 : decide (sf ≤ tt) = false := by simpa using hle
              rw [if_neg hle] at hT
              have FIN := Lib.hid (HTA.out (if_neg hle))
              have HT := Lib.hid hT
              clear hT HTA
              have HW1 := Lib.hid hw1
              clear hw1
              go_upto_region 14 with (with_reducible refine wpList_load_at rfl 35 _ rfl b (off + k * 2) rfl _ _ hr1 Try.underlying35 rfl (by kernel_rfl) ?_)
              have hw1 := HW1.out
              have hl1 : (n : Int) < (n : Int) + 1 := by omega
              generalize hWW : wr.alloc (.cells #[.int .i64 sf, .int .i64 st] 35) = W at *
              clear hWW
              refine wp_rely (by kernel_rfl) (by kernel_rfl) ?_
              iterate 13
                apply RelyL.val
                · intro ν w' hL hF K hK
                  obtain ⟨q0, q1, q2⟩ := HC.out w' hL
                  first
                    | (refine skip_op rfl ?_; exact hK.out _ _ rfl (Lat.refl _))
                    | (go_simp; exact hK.out _ _ rfl (Lat.refl _))
                simp only [Act.put, List.setIfInBounds_toArray, List.set_cons_zero, List.set_cons_succ, Nat.reduceAdd]
              refine RelyL.done fun ν w1 hL hF => ?_
              clear hF hw1 hl1
              have own1 := own_later' OWN.out hL
              have hbox : RowAt w1 wr.heap.size 0 [.int .i64 sf, .int .i64 st] := (kW.lat hL).row
              have hb1 := hbw.th (hlw.trans (hL.mono hlw.size))
              have hs1 : wr.heap.size + 1 ≤ w1.heap.size := by have := hL.size; rw [HW3.out] at this; exact this
              have own1 : w1.ownsRow w3.heap.size 35 2 (.slice (some ⟨gg, 0, none⟩) (n + 1) cap) ((a ++ [(tf, tt)]).map spC).length ((a ++ [(tf, tt)]).map spC).flatten := by rw [List.length_map, HNM.out]; exact own1
              have hml2 : ((a ++ [(tf, tt)]).map spC).length ≤ k := by rw [List.length_map, HNM.out]; exact hml
              clear hL kW hlw OWN hr1 HC
              generalize (a ++ [(tf, tt)]).map spC = R at *
              go_wp2_with (first | (with_reducible refine wpList_load_at rfl 35 _ rfl wr.heap.size 0 rfl _ _ hbox Try.underlying35 rfl (by kernel_rfl) ?_) | (at_builtin; refine append_rows rfl _ _ 22 rfl w3.heap.size 35 i0 _ 2 16 Try.underlying22 hi hz0 hz1 hz2 rfl (by decide) _ R rfl (own1.alloc _) (some ⟨w1.heap.size, 0, none⟩) 1 1 (w1.heap.size + 1) [[.int .i64 sf, .int .i64 st]] rfl rfl (fun h => by cases h) (fun _ => ⟨w1.heap.size, 0, rfl, by simp, fun i hi => by match i, hi with | 0, _ => simpa using (Blk.new w1 35 #[Value.int .i64 sf, Value.int .i64 st]).row⟩) (by simp) (by simp [Value.oneCell']) (by simp [maxLen]; try omega) (by simp; try omega) (by simp; omega) ?_; intro v6 w6 own6 hg6))
              go_roundw
              case rel => exact ⟨k + 1, _, by omega, by go_num, rfl, FIN.out _ _ own6, (hb1.al _).grown hg6 (by simp; omega) (fun q hq => (HLT.out q hq).1)⟩
              case measure => simp [intOf]; omega
        · rw [List.take_of_length_le (by rw [HDL.out]; omega)] at hown
          go_wp2_with fail
          go_ret
          obtain ⟨A4, c4, hv4, hr4, hn4⟩ := own_ret hown
          subst hv4
          rw [← HE.out]
          exact ⟨A4, c4, rfl, hr4, hn4, hbw3.trans (hbw.mono hbw3.size)⟩

end Go.Proofs.Ytdhccaninopicaa
