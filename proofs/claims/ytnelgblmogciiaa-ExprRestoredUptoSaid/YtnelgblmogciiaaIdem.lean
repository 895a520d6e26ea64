/- Folding twice is folding once; the number of levels, whatever it is. -/
import Derived.Test.YtnelgblmogciiaaEFold
set_option linter.unusedSimpArgs false
set_option linter.unusedVariables false
namespace Go.Proofs.Ytnelgblmogciiaa
open Go.RowKit

theorem foldN_leaf (h : Hd) (ks : List LExpr) (hk : h.kind = 1) : foldN (.mk h ks) = .mk h ks := by
  rw [foldN_eq, if_neg (by omega), if_neg (by omega), if_neg (by omega), if_neg (by omega), if_neg (by omega)]
theorem reb_leaf (h : Hd) (hk : h.kind = 1) : rebE foldN (.mk h []) = .mk h [] := by
  rw [rebE, rebL_eq]; exact foldN_leaf h [] hk
theorem reb_self (h : Hd) (ks : List LExpr) (hks : ∀ k ∈ ks, rebE foldN k = k) (he : foldN (.mk h ks) = .mk h ks) : rebE foldN (.mk h ks) = .mk h ks := by
  rw [rebE, rebL_eq, show ks.map (rebE foldN) = ks from by
    conv => rhs; rw [← List.map_id ks]
    exact List.map_congr_left hks]
  exact he
theorem reb_node (h : Hd) (ks : List LExpr) (hc : kidsOk h.kind ks.length) (hks : ∀ k ∈ ks, rebE foldN k = k) : rebE foldN (foldN (.mk h ks)) = foldN (.mk h ks) := by
  by_cases he : foldN (.mk h ks) = .mk h ks
  · rw [he]; exact reb_self h ks hks he
  · have hform : (∃ h', h'.kind = 1 ∧ foldN (.mk h ks) = .mk h' []) ∨ ∃ k ∈ ks, foldN (.mk h ks) = k := by
      have litk : ∀ b, (litB b).kind = 1 := fun b => by cases b <;> rfl
      rw [foldN_eq] at he ⊢
      by_cases k6 : h.kind = 6
      · rw [if_pos k6] at he ⊢
        split
        · exact .inl ⟨_, litk _, rfl⟩
        · rename_i h1; rw [if_neg h1] at he; exact absurd rfl he
      rw [if_neg k6] at he ⊢
      have hj : ∀ d, junF d (.mk h ks) ≠ .mk h ks → ∃ h', h'.kind = 1 ∧ junF d (.mk h ks) = .mk h' [] := by
        intro d hd
        rw [junF_eq] at hd ⊢
        split
        · exact ⟨_, litk _, rfl⟩
        · rename_i h1
          rw [if_neg h1] at hd
          split
          · exact ⟨_, litk _, rfl⟩
          · rename_i h2; rw [if_neg h2] at hd; exact absurd rfl hd
      by_cases k7 : h.kind = 7
      · rw [if_pos k7] at he ⊢; exact .inl (hj 0 he)
      rw [if_neg k7] at he ⊢
      by_cases k8 : h.kind = 8
      · rw [if_pos k8] at he ⊢; exact .inl (hj 1 he)
      rw [if_neg k8] at he ⊢
      by_cases k9 : 9 ≤ h.kind ∧ h.kind ≤ 13
      · rw [if_pos k9] at he ⊢
        obtain ⟨k0, k1, rfl⟩ := len2 (kids_two k9 hc)
        have e0 : kid [k0, k1] 0 = k0 := rfl
        have e1 : kid [k0, k1] 1 = k1 := rfl
        rw [e0, e1] at he ⊢
        rw [binF_eq] at he ⊢
        by_cases q9 : h.kind = 9
        · rw [if_pos q9] at he ⊢
          split
          · exact .inl ⟨_, litk _, rfl⟩
          · rename_i h1; rw [if_neg h1] at he; exact absurd rfl he
        rw [if_neg q9] at he ⊢
        split
        · rename_i h1; rw [if_pos h1] at he; exact absurd rfl he
        · split
          · exact .inl ⟨_, litk _, rfl⟩
          · exact .inl ⟨_, rfl, rfl⟩
      rw [if_neg k9] at he ⊢
      by_cases k14 : h.kind = 14
      · rw [if_pos k14] at he ⊢
        have hl := kids_three (by rw [← k14]; exact hc)
        split
        · exact .inr ⟨_, kid_mem (by omega), rfl⟩
        · rename_i h1
          rw [if_neg h1] at he
          split
          · exact .inr ⟨_, kid_mem (by omega), rfl⟩
          · rename_i h2; rw [if_neg h2] at he; exact absurd rfl he
      rw [if_neg k14] at he
      exact absurd rfl he
    rcases hform with ⟨h', hk', e⟩ | ⟨k, hk, e⟩
    · rw [e]; exact reb_leaf h' hk'
    · rw [e]; exact hks k hk
theorem reb_idem (e : LExpr) : okE e → rebE foldN (rebE foldN e) = rebE foldN e := by
  induction e using LExpr.ind with | _ h ks ih => ?_
  intro hok
  rw [okE] at hok
  have e1 : rebE foldN (.mk h ks) = foldN (.mk h (ks.map (rebE foldN))) := by rw [rebE, rebL_eq]
  rw [e1]
  refine reb_node h _ (by rw [List.length_map]; exact kidsOf hok.1) (fun k hk => ?_)
  obtain ⟨k', hk', rfl⟩ := List.mem_map.1 hk
  have := hok.2 k' hk'
  obtain ⟨i, hi, rfl⟩ := List.getElem_of_mem hk'
  exact ih i hi this

def V0 : LView := ⟨[], noStr, 0, []⟩
theorem fold_facts (e : LExpr) (h0 : checkE e = 0) : checkE (foldE e) = 0 ∧ sizeE (foldE e) ≤ sizeE e ∧ depthE (foldE e) ≤ depthE e := by
  unfold foldE
  rw [if_pos h0]
  obtain ⟨h1, h2, h3⟩ := (checkE_iff e).1 h0
  obtain ⟨g1, g2, g3, g4⟩ := good_reb V0 e h1
  exact ⟨(checkE_iff _).2 ⟨g2, by omega, by omega⟩, g3, g4⟩
theorem foldE_idem (e : LExpr) : foldE (foldE e) = foldE e := by
  by_cases h0 : checkE e = 0
  · have h1 := (fold_facts e h0).1
    have e1 : foldE (foldE e) = rebE foldN (foldE e) := if_pos h1
    rw [e1]
    have e2 : foldE e = rebE foldN e := if_pos h0
    rw [e2]
    exact reb_idem e ((checkE_iff e).1 h0).1
  · have e1 : foldE e = e := if_neg h0
    rw [e1, e1]
theorem checkE_fold (e : LExpr) : checkE (foldE e) = checkE e := by
  by_cases h0 : checkE e = 0
  · rw [h0]; exact (fold_facts e h0).1
  · have e1 : foldE e = e := if_neg h0
    rw [e1]

mutual
/-- The number of levels, as the reference counts it. -/
def rdI : LExpr → Int
  | .mk _ ks => wrap64 (rdL ks 0 + 1)
def rdL : List LExpr → Int → Int
  | [], d => d
  | k :: ks, d => rdL ks (if d < rdI k then rdI k else d)
end
set_option maxRecDepth 100000 in
set_option maxHeartbeats 1000000 in
theorem rdepthI_any (e : LExpr) : ∀ (cs : List Value) (B : Nat) (w : World), B ≤ w.heap.size → IsExpr B w e cs →
    Calls Try.prog 25 #[.agg cs.toArray] w fun r w' => r = .returned (.int .i64 (rdI e)) ∧ Below w.heap.size w w' := by
  induction e using LExpr.ind with | _ hd ks ih => ?_
  intro cs B w hB he
  cases he with
  | mk _ _ A c b off cs ok hlen hA hsz hrow hk =>
  go_enter Try.func25, Try.ntmps25
  unfold Hd.cells
  go_wp2_with fail
  go_loopw [3, 4, 5] (fun d i _ wr => ∃ (k : Nat) (q : Int), k ≤ ks.length ∧ i = .int .i64 k ∧ d = .int .i64 q ∧ Hid (rdI (.mk hd ks) = wrap64 (rdL (ks.drop k) q + 1)) ∧ Below w.heap.size w wr ∧ w.heap.size < wr.heap.size ∧ wr.cell? ⟨w.heap.size, 10, none⟩ = some (.slice A ks.length c)) (fun _ i _ _ => ks.length - (intOf i).toNat)
  case atStart => exact ⟨0, 0, Nat.zero_le _, rfl, rfl, Lib.hid (by rw [rdI]; rfl), (Below.refl _ _).al _, by simp, by simp [World.cell?_alloc_new]⟩
  case round =>
    obtain ⟨k, q, hkl, rfl, rfl, HQ, hbw, hsz2, hc⟩ := hrel
    by_cases hlk : k < ks.length
    · obtain ⟨rfl, hbB⟩ := hA (by omega)
      have hr := (hrow k hlk).below hbw (Nat.lt_of_lt_of_le hbB hB)
      have HI := Lib.hid (ih k hlk (cs k) B wr (by omega) ((hk k hlk).carry (hbw.mono hB)))
      have HST := HQ.out
      rw [List.drop_eq_getElem_cons hlk, rdL] at HST
      have HS := Lib.hid HST
      clear ih hA hrow hk HQ HST
      generalize rdI ks[k] = D at *
      go_wp2_with (first | (with_reducible refine wpList_load_at rfl 32 _ rfl b (off + k * 11) rfl (cs k) _ hr Try.underlying32 rfl (by rw [hsz]; kernel_rfl) ?_))
      refine HI.out.mono ?_
      rintro r w3 ⟨rfl, hb3⟩
      have hc3 := (hb3.cell (p := ⟨w.heap.size, 10, none⟩) hsz2).trans hc
      have hs3 := Nat.lt_of_lt_of_le hsz2 hb3.size
      clear HI
      by_cases hgt : q < D
      · have HN := HS.out
        rw [if_pos hgt] at HN
        have HN' := Lib.hid HN
        clear HN HS
        go_wp2_with fail
        exact ⟨⟨k + 1, D, by omega, by go_num, rfl, HN', hbw.th hb3, hs3, hc3⟩, by simp [intOf]; omega⟩
      · have HN := HS.out
        rw [if_neg hgt] at HN
        have HN' := Lib.hid HN
        clear HN HS
        go_wp2_with fail
        exact ⟨⟨k + 1, q, by omega, by go_num, rfl, HN', hbw.th hb3, hs3, hc3⟩, by simp [intOf]; omega⟩
    · have hq2 := HQ.out
      rw [List.drop_of_length_le (by omega), rdL] at hq2
      have HF := Lib.hid hq2
      clear hq2 HQ
      go_wp2_with fail
      go_ret
      exact ⟨ret_int HF.out.symm, hbw⟩
end Go.Proofs.Ytnelgblmogciiaa
