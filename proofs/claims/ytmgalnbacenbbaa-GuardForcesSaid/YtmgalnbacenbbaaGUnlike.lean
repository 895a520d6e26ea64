/- Guard: unlike: locks of different names; the order of such locks is of no account. -/
import Derived.Test.YtmgalnbacenbbaaGConf
import Derived.Test.YtmgalnbacenbbaaGSafe
set_option linter.unusedSimpArgs false
set_option linter.unusedVariables false
namespace Go.Proofs.Ytmgalnbacenbbaa
open Go.RowKit

/-- All names different. -/
def Unlike (ps : List (LkR × LLock)) : Prop := ∀ (i j : Nat) (hi : i < ps.length) (hj : j < i), ps[i].1.name ≠ (ps[j]'(Nat.lt_trans hj hi)).1.name
theorem Unlike.inj {ps : List (LkR × LLock)} (h : Unlike ps) : ∀ a ∈ ps, ∀ b ∈ ps, a.1.name = b.1.name → a = b := by
  intro a ha b hb e
  obtain ⟨i, hi, rfl⟩ := List.getElem_of_mem ha
  obtain ⟨j, hj, rfl⟩ := List.getElem_of_mem hb
  rcases Nat.lt_trichotomy i j with hij | hij | hij
  · exact absurd e.symm (h j i hj hij)
  · subst hij; rfl
  · exact absurd e (h i j hi hij)
theorem strP_tie {a b : LkR × LLock} (h1 : strP a b = false) (h2 : strP b a = false) : a.1.name = b.1.name := by
  by_cases e : ((a.1.rank, a.1.name) : Int × ByteArray) = (b.1.rank, b.1.name)
  · injection e
  · have := (sto_ltI.lex sto_ltB).tri (a.1.rank, a.1.name) (b.1.rank, b.1.name) h1 e
    have h3 : lexP ltI ltB (b.1.rank, b.1.name) (a.1.rank, a.1.name) = false := h2
    rw [h3] at this; cases this
/-- Neither the order of the locks nor that of the names. -/
theorem strg_perm {ps qs : List (LkR × LLock)} {acts bcts : List ByteArray} (hu : Unlike ps) (hp : qs.Perm ps) (ha : ∀ x, x ∈ bcts ↔ x ∈ acts) : strg qs bcts = strg ps acts := by
  have he : actP bcts = actP acts := by
    funext p
    unfold actP
    rw [Bool.eq_iff_iff, List.any_eq_true, List.any_eq_true]
    exact ⟨fun ⟨x, h1, h2⟩ => ⟨x, (ha x).1 h1, h2⟩, fun ⟨x, h1, h2⟩ => ⟨x, (ha x).2 h1, h2⟩⟩
  unfold strg
  rw [he]
  refine sorted_eq _ _ (((stab_perm strP _).trans (hp.filter (actP acts))).trans (stab_perm strP _).symm) (stab_sorted swo_strP _) (stab_sorted swo_strP _) (fun a ha b hb h1 h2 => ?_)
  have m1 : ∀ x ∈ stab strP (qs.filter (actP acts)), x ∈ ps := fun x hx => hp.mem_iff.1 (List.mem_filter.1 ((stab_perm _ _).mem_iff.1 hx)).1
  exact hu.inj a (m1 a ha) b (m1 b hb) (strP_tie h1 h2)
/-- What unlike tells. -/
def UnOut (ps : List (LkR × LLock)) (r : Ending) : Prop := ∃ b, r = .returned (.bool b) ∧ (b = true → Unlike ps)
theorem cell_below {w w' : World} {p : Addr} {v : Value} (h : w.cell? p = some v) (hl : Lat w w') (hb : p.block < w.heap.size) : w'.cell? p = some v := (Below.cell hl hb).trans h
set_option maxRecDepth 100000 in
set_option maxHeartbeats 2000000 in
theorem unlike_any (ps : List (LkR × LLock)) (A : Option Addr) (c : Nat) (w : World) (hx : RdL w ps (.slice A ps.length c)) (hl : ps.length ≤ 1000000) :
    Calls Try.prog 20 #[.slice A ps.length c] w fun r w' => UnOut ps r ∧ Lat w w' := by
  go_enter Try.func20, Try.ntmps20
  go_wp2_with fail
  go_loopw [3] (fun i wr => ∃ n : Nat, n ≤ ps.length ∧ i = .int .i64 n ∧ Hid (∀ (i j : Nat) (hi : i < ps.length) (hj : j < i), i < n → ps[i].1.name ≠ (ps[j]'(Nat.lt_trans hj hi)).1.name) ∧ Lat w wr) (fun i _ => ps.length - (intOf i).toNat)
  case atStart => exact ⟨0, Nat.zero_le _, rfl, Lib.hid (fun i j hi hj h => by omega), Lat.refl _⟩
  case round =>
    obtain ⟨n, hnl, rfl, HN, hLW⟩ := hrel
    by_cases hlt : n < ps.length
    · go_wp2_with fail
      have HL := Lib.hid hLW
      go_loopw [4] (fun i wr => ∃ k : Nat, k ≤ n ∧ i = .int .i64 k ∧ Hid (∀ (j : Nat) (hj : j < n), j < k → ps[n].1.name ≠ (ps[j]'(Nat.lt_trans hj hlt)).1.name) ∧ Lat w wr) (fun i _ => n - (intOf i).toNat)
      case atStart => exact ⟨0, Nat.zero_le _, rfl, Lib.hid (fun j hj h => by omega), hLW⟩
      case round =>
        clear hLW HL
        obtain ⟨k, hkn, rfl, HK, hLW⟩ := hrel
        by_cases hk : k < n
        · have hk2 : k < ps.length := by omega
          obtain ⟨b, off, hA, hbb, hr1, _⟩ := (hx.lat hLW).row n hlt
          obtain ⟨b', off', hA', hbb', hr2, _⟩ := (hx.lat hLW).row k hk2
          subst hA
          injection hA' with hA'
          injection hA' with e1 e2
          subst e1 e2
          have c1 : wr.cell? ⟨b, off + n * 16, none⟩ = some (.string ps[n].1.name) := by have := hr1 0 _ rfl; rwa [Nat.add_zero] at this
          have c2 : wr.cell? ⟨b, off + k * 16, none⟩ = some (.string ps[k].1.name) := by have := hr2 0 _ rfl; rwa [Nat.add_zero] at this
          clear hr1 hr2
          by_cases he : ps[n].1.name = ps[k].1.name
          · generalize ps[n].1.name = X at *
            generalize ps[k].1.name = Y at *
            subst he
            clear HK HN
            go_wp2_with fail
            refine wp_rely (by kernel_rfl) (by kernel_rfl) ?_
            apply RelyL.val
            · intro ν w' hL hF K hK'
              go_simp
              exact hK'.out _ _ rfl (Lat.refl _)
            simp only [Act.put, List.setIfInBounds_toArray, List.set_cons_zero, List.set_cons_succ, Nat.reduceAdd]
            apply RelyL.val
            · intro ν w' hL hF K hK'
              go_simp
              exact hK'.out _ _ rfl (Lat.refl _)
            simp only [Act.put, List.setIfInBounds_toArray, List.set_cons_zero, List.set_cons_succ, Nat.reduceAdd]
            apply RelyL.val
            · intro ν w' hL hF K hK'
              go_simp
              exact hK'.out _ _ rfl (Lat.refl _)
            simp only [Act.put, List.setIfInBounds_toArray, List.set_cons_zero, List.set_cons_succ, Nat.reduceAdd]
            apply RelyL.val
            · intro ν w' hL hF K hK'
              go_simp
              exact hK'.out _ _ rfl (Lat.refl _)
            simp only [Act.put, List.setIfInBounds_toArray, List.set_cons_zero, List.set_cons_succ, Nat.reduceAdd]
            apply RelyL.val
            · intro ν w' hL hF K hK'
              have cx := cell_below c1 hL hbb
              go_simp
              exact hK'.out _ _ rfl (Lat.refl _)
            simp only [Act.put, List.setIfInBounds_toArray, List.set_cons_zero, List.set_cons_succ, Nat.reduceAdd]
            apply RelyL.val
            · intro ν w' hL hF K hK'
              go_simp
              exact hK'.out _ _ rfl (Lat.refl _)
            simp only [Act.put, List.setIfInBounds_toArray, List.set_cons_zero, List.set_cons_succ, Nat.reduceAdd]
            apply RelyL.val
            · intro ν w' hL hF K hK'
              go_simp
              exact hK'.out _ _ rfl (Lat.refl _)
            simp only [Act.put, List.setIfInBounds_toArray, List.set_cons_zero, List.set_cons_succ, Nat.reduceAdd]
            apply RelyL.val
            · intro ν w' hL hF K hK'
              go_simp
              exact hK'.out _ _ rfl (Lat.refl _)
            simp only [Act.put, List.setIfInBounds_toArray, List.set_cons_zero, List.set_cons_succ, Nat.reduceAdd]
            apply RelyL.val
            · intro ν w' hL hF K hK'
              go_simp
              exact hK'.out _ _ rfl (Lat.refl _)
            simp only [Act.put, List.setIfInBounds_toArray, List.set_cons_zero, List.set_cons_succ, Nat.reduceAdd]
            apply RelyL.val
            · intro ν w' hL hF K hK'
              have cx := cell_below c2 hL hbb
              go_simp
              exact hK'.out _ _ rfl (Lat.refl _)
            simp only [Act.put, List.setIfInBounds_toArray, List.set_cons_zero, List.set_cons_succ, Nat.reduceAdd]
            apply RelyL.val
            · intro ν w' hL hF K hK'
              go_simp
              exact hK'.out _ _ rfl (Lat.refl _)
            simp only [Act.put, List.setIfInBounds_toArray, List.set_cons_zero, List.set_cons_succ, Nat.reduceAdd]
            refine RelyL.done fun ν w4 hL hF => ?_
            clear hF
            have hL4 := hLW.trans hL
            go_wp2_with fail
            go_ret
            exact ⟨⟨false, rfl, fun h => by cases h⟩, hL4⟩
          · have HK2 : Hid (∀ (j : Nat) (hj : j < n), j < k + 1 → ps[n].1.name ≠ (ps[j]'(Nat.lt_trans hj hlt)).1.name) := Lib.hid (fun j hj h => by
              by_cases e : j = k
              · subst e; exact he
              · exact HK.out j hj (by omega))
            have hbeq : (ps[n].1.name.toList == ps[k].1.name.toList) = false := by rw [toList_beq]; simpa using he
            clear HK he
            go_wp2_with fail
            refine wp_rely (by kernel_rfl) (by kernel_rfl) ?_
            apply RelyL.val
            · intro ν w' hL hF K hK'
              go_simp
              exact hK'.out _ _ rfl (Lat.refl _)
            simp only [Act.put, List.setIfInBounds_toArray, List.set_cons_zero, List.set_cons_succ, Nat.reduceAdd]
            apply RelyL.val
            · intro ν w' hL hF K hK'
              go_simp
              exact hK'.out _ _ rfl (Lat.refl _)
            simp only [Act.put, List.setIfInBounds_toArray, List.set_cons_zero, List.set_cons_succ, Nat.reduceAdd]
            apply RelyL.val
            · intro ν w' hL hF K hK'
              go_simp
              exact hK'.out _ _ rfl (Lat.refl _)
            simp only [Act.put, List.setIfInBounds_toArray, List.set_cons_zero, List.set_cons_succ, Nat.reduceAdd]
            apply RelyL.val
            · intro ν w' hL hF K hK'
              go_simp
              exact hK'.out _ _ rfl (Lat.refl _)
            simp only [Act.put, List.setIfInBounds_toArray, List.set_cons_zero, List.set_cons_succ, Nat.reduceAdd]
            apply RelyL.val
            · intro ν w' hL hF K hK'
              have cx := cell_below c1 hL hbb
              go_simp
              exact hK'.out _ _ rfl (Lat.refl _)
            simp only [Act.put, List.setIfInBounds_toArray, List.set_cons_zero, List.set_cons_succ, Nat.reduceAdd]
            apply RelyL.val
            · intro ν w' hL hF K hK'
              go_simp
              exact hK'.out _ _ rfl (Lat.refl _)
            simp only [Act.put, List.setIfInBounds_toArray, List.set_cons_zero, List.set_cons_succ, Nat.reduceAdd]
            apply RelyL.val
            · intro ν w' hL hF K hK'
              go_simp
              exact hK'.out _ _ rfl (Lat.refl _)
            simp only [Act.put, List.setIfInBounds_toArray, List.set_cons_zero, List.set_cons_succ, Nat.reduceAdd]
            apply RelyL.val
            · intro ν w' hL hF K hK'
              go_simp
              exact hK'.out _ _ rfl (Lat.refl _)
            simp only [Act.put, List.setIfInBounds_toArray, List.set_cons_zero, List.set_cons_succ, Nat.reduceAdd]
            apply RelyL.val
            · intro ν w' hL hF K hK'
              go_simp
              exact hK'.out _ _ rfl (Lat.refl _)
            simp only [Act.put, List.setIfInBounds_toArray, List.set_cons_zero, List.set_cons_succ, Nat.reduceAdd]
            apply RelyL.val
            · intro ν w' hL hF K hK'
              have cx := cell_below c2 hL hbb
              go_simp
              exact hK'.out _ _ rfl (Lat.refl _)
            simp only [Act.put, List.setIfInBounds_toArray, List.set_cons_zero, List.set_cons_succ, Nat.reduceAdd]
            apply RelyL.val
            · intro ν w' hL hF K hK'
              go_simp
              exact hK'.out _ _ rfl (Lat.refl _)
            simp only [Act.put, List.setIfInBounds_toArray, List.set_cons_zero, List.set_cons_succ, Nat.reduceAdd]
            refine RelyL.done fun ν w4 hL hF => ?_
            clear hF
            have hL4 := hLW.trans hL
            go_wp2_with fail
            go_roundw
            case rel => exact ⟨k + 1, by omega, by go_num, HK2, hL4⟩
            case measure => simp [intOf]; omega
        · have HN2 : Hid (∀ (i j : Nat) (hi : i < ps.length) (hj : j < i), i < n + 1 → ps[i].1.name ≠ (ps[j]'(Nat.lt_trans hj hi)).1.name) := Lib.hid (fun i j hi hj h => by
            by_cases e : i = n
            · subst e; exact HK.out j hj (by omega)
            · exact HN.out i j hi hj (by omega))
          clear HK HN
          go_wp2_with fail
          go_roundw
          case rel => exact ⟨n + 1, by omega, by go_num, HN2, hLW⟩
          case measure => simp [intOf]; omega
    · have HU : Hid (Unlike ps) := Lib.hid (fun i j hi hj => HN.out i j hi hj (by omega))
      clear HN
      go_wp2_with fail
      go_ret
      exact ⟨⟨true, rfl, fun _ => HU.out⟩, hLW⟩
end Go.Proofs.Ytmgalnbacenbbaa
