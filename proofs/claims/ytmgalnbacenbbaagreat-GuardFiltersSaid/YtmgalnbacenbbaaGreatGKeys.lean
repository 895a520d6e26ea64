/- Guard: interlock.Keys: the keys of all items, each once, in order. -/
import Derived.Test.YtmgalnbacenbbaaGreatGConc
import Derived.Test.YtmgalnbacenbbaaGreatGCompact
import Derived.Test.YtmgalnbacenbbaaGreatGSort
set_option linter.unusedSimpArgs false
set_option linter.unusedVariables false
namespace Go.Proofs.YtmgalnbacenbbaaGreat
open Go.RowKit

/-- What a lock's items are. -/
def itsOf (p : LkR × LLock) : List LItem := p.2.force ++ p.2.forbid
def keysOf (ps : List (LkR × LLock)) : List LKey := ps.flatMap (fun p => (itsOf p).map LItem.key)
/-- The items lie where the keys do not. -/
def Apart (v u : Value) : Prop := ∀ k k', v.ownBlock = some k → u.ownBlock = some k' → k' ≠ k
theorem Apart.grow {α : Type} {E : Elt α} {w w' : World} {base : Nat} {xs : List α} {v v' u : Value} (h : Apart v u) (ho : E.Own w base xs u) (hg : w.grownBy w' v.ownBlock) (hw : v'.ownBlock = v.ownBlock ∨ v'.ownBlock = some w.heap.size) : Apart v' u ∧ E.Own w' base xs u := by
  refine ⟨fun k k' h1 h2 => ?_, ho.carry fun k' h2 => hg.block k' (ho.lt k' h2).2 (fun e => ?_)⟩
  · rcases hw with e | e
    · exact h k k' (by rw [← e]; exact h1) h2
    · rw [e] at h1; injection h1 with h1; have := (ho.lt k' h2).2; omega
  · exact h k' k' e.symm h2 rfl
theorem keysOf_take (ps : List (LkR × LLock)) (j : Nat) (h : j < ps.length) : keysOf (ps.take (j + 1)) = keysOf (ps.take j) ++ (itsOf ps[j]).map LItem.key := by
  unfold keysOf
  rw [List.take_succ_eq_append_getElem h, List.flatMap_append]
  simp
theorem keysOf_len : ∀ (ps : List (LkR × LLock)), (∀ p ∈ ps, (itsOf p).length ≤ 60) → (keysOf ps).length ≤ ps.length * 60
  | [], _ => by simp [keysOf]
  | p :: r, h => by
    have := keysOf_len r (fun q hq => h q (by simp [hq]))
    have h1 := h p (by simp)
    unfold keysOf at *
    rw [List.flatMap_cons, List.length_append, List.length_map, List.length_cons]
    omega
def HasKey (ps : List (LkR × LLock)) (k : LKey) : Prop := ∃ p ∈ ps, ∃ it ∈ itsOf p, it.key = k
theorem mem_keysOf {ps : List (LkR × LLock)} {k : LKey} : k ∈ keysOf ps ↔ HasKey ps k := by
  simp only [keysOf, HasKey, List.mem_flatMap, List.mem_map]
set_option maxRecDepth 100000 in
set_option maxHeartbeats 4000000 in
theorem keys_any (ps : List (LkR × LLock)) (A : Option Addr) (c : Nat) (w : World) (hx : RdL w ps (.slice A ps.length c)) (hl : ps.length < 40) (hi : ∀ p ∈ ps, (itsOf p).length ≤ 60) :
    Calls Tryz.prog 23 #[.slice A ps.length c] w fun r w' => ∃ ks v, r = .returned v ∧ EK.Own w' w.heap.size ks v ∧ ks.length ≤ 2400 ∧ ks.Pairwise (fun a b => kless a b = true) ∧ (∀ k, k ∈ ks ↔ HasKey ps k) ∧ Lat w w' := by
  have HI := Lib.hid hi
  clear hi
  go_enter Tryz.func23, Tryz.ntmps23
  go_wp2_with fail
  go_loopw [3, 10] (fun v i wr => ∃ j : Nat, j ≤ ps.length ∧ i = .int .i64 j ∧ EK.Own wr w.heap.size (keysOf (ps.take j)) v ∧ Lat w wr) (fun _ i _ => ps.length - (intOf i).toNat)
  case atStart => exact ⟨0, Nat.zero_le _, rfl, Elt.Own.nil _ _, Lat.refl _⟩
  case round =>
    obtain ⟨j, hjl, rfl, hown, hLW⟩ := hrel
    by_cases hlt : j < ps.length
    · obtain ⟨b, off, hA, hb1, hr1, hsy⟩ := (hx.lat hLW).row j hlt
      subst hA
      have htk := keysOf_take ps j hlt
      have hlen : (keysOf (ps.take j)).length ≤ 2400 := by
        have := keysOf_len (ps.take j) (fun p hp => HI.out p (List.mem_of_mem_take hp))
        rw [List.length_take] at this
        omega
      have hil : (itsOf ps[j]).length ≤ 60 := HI.out _ (List.getElem_mem hlt)
      have hio : itsOf ps[j] = ps[j].2.force ++ ps[j].2.forbid := rfl
      rw [hio] at htk hil
      have fn := Says.fn hsy
      have gn := Says.gn hsy
      have h1 := hsy.force
      have h2 := hsy.forbid
      generalize hX : ps[j].1 = X at *
      generalize keysOf (ps.take j) = Y at *
      generalize ps[j].2.force = L1 at *
      generalize ps[j].2.forbid = L2 at *
      have HTK := Lib.hid htk
      clear hX htk hio hsy
      obtain ⟨a1, a2, ⟨b1, b2, b3, b4, ⟨b5, b6, b7⟩, ⟨b8, b9, b10⟩, b11, b12, b13⟩, a3, a4, a5, a6, a7, a8, a9⟩ := X
      simp only at fn gn h1 h2
      subst fn gn
      simp only [lkC, whC, kC, vC, List.cons_append, List.nil_append] at hr1
      have hL1 : Lat wr (wr.alloc (.cells #[.string a1, .int .i64 a2, .int .i64 b1, .int .i64 b2, .int .i64 b3, .string b4, .int .i64 b5, .int .i64 b6, .string b7, .int .i64 b8, .string b9, .string b10, .slice b11 b12 b13, .bool a3, .slice a4 L1.length a6, .slice a7 L2.length a9] 40)) := Lat.al _ _
      have hL2 : Lat wr ((wr.alloc (.cells #[.string a1, .int .i64 a2, .int .i64 b1, .int .i64 b2, .int .i64 b3, .string b4, .int .i64 b5, .int .i64 b6, .string b7, .int .i64 b8, .string b9, .string b10, .slice b11 b12 b13, .bool a3, .slice a4 L1.length a6, .slice a7 L2.length a9] 40)).alloc (.cells #[.slice a4 L1.length a6, .slice a7 L2.length a9] 38)) := hL1.trans (Lat.al _ _)
      have HC := Lib.hid (concat_any L1 L2 a4 a7 a6 a9 (wr.heap.size + 1) 38 _ (h1.lat hL2) (h2.lat hL2) (Blk.at1 wr (.cells #[.string a1, .int .i64 a2, .int .i64 b1, .int .i64 b2, .int .i64 b3, .string b4, .int .i64 b5, .int .i64 b6, .string b7, .int .i64 b8, .string b9, .string b10, .slice b11 b12 b13, .bool a3, .slice a4 L1.length a6, .slice a7 L2.length a9] 40) 38 #[.slice a4 L1.length a6, .slice a7 L2.length a9]) (by rw [List.length_append] at hil; omega))
      have hown2 := hown.lat hL2
      have HU := Lib.hid (fun k (hk : u3.ownBlock = some k) => (hown.lt k hk).2)
      clear h1 h2 hown
      go_wp2_with (with_reducible refine wpList_load_at rfl 40 _ rfl b (off + j * 16) rfl _ _ hr1 Tryz.underlying40 rfl (by kernel_rfl) ?_)
      refine HC.out.mono ?_
      rintro r w3 ⟨v3, rfl, hown3, hl3⟩
      obtain ⟨A3, c3, rfl⟩ := hown3.slice
      have hLW3 : Lat w w3 := hLW.trans (hL2.trans hl3)
      have hown4 := hown2.lat hl3
      have hap : Apart u3 (.slice A3 (L1 ++ L2).length c3) := fun k k' h1 h2 => by
        have e1 := HU.out k h1
        have e2 := (hown3.lt k' h2).1
        have e3 := hL2.size
        omega
      clear HC hown2 hl3 hL1 hL2 hr1 HU
      generalize L1 ++ L2 = its at *
      go_wp2_with fail
      have HAp := Lib.hid hap
      generalize hB2 : ((wr.alloc (.cells #[.string a1, .int .i64 a2, .int .i64 b1, .int .i64 b2, .int .i64 b3, .string b4, .int .i64 b5, .int .i64 b6, .string b7, .int .i64 b8, .string b9, .string b10, .slice b11 b12 b13, .bool a3, .slice a4 L1.length a6, .slice a7 L2.length a9] 40)).alloc (.cells #[.slice a4 L1.length a6, .slice a7 L2.length a9] 38)).heap.size = B2 at *
      clear hB2 hap
      go_loopw [3, 21] (fun v i wr => ∃ j : Nat, j ≤ its.length ∧ i = .int .i64 j ∧ EK.Own wr w.heap.size (Y ++ (its.take j).map LItem.key) v ∧ EI.Own wr B2 its (.slice A3 its.length c3) ∧ Hid (Apart v (.slice A3 its.length c3)) ∧ Lat w wr) (fun _ i _ => its.length - (intOf i).toNat)
      case atStart => exact ⟨0, Nat.zero_le _, rfl, by simpa using hown4, hown3, HAp, hLW3⟩
      case round =>
        clear hown4 hLW3 hown3 HAp
        obtain ⟨i, hil2, rfl, hown5, hoi, HAp, hL5⟩ := hrel
        by_cases hlt2 : i < its.length
        · obtain ⟨b0, off0, hA, hb0, hr0'⟩ := hoi.rd.row i hlt2
          subst hA
          have hr0 : RowAt wr b0 (off0 + i * 7) (iC its[i]) := hr0'
          have htk2 : Y ++ (its.take (i + 1)).map LItem.key = (Y ++ (its.take i).map LItem.key) ++ [its[i].key] := by
            rw [List.take_succ_eq_append_getElem hlt2, List.map_append, List.append_assoc]; rfl
          have hlen2 : (Y ++ (its.take i).map LItem.key).length ≤ 2460 := by
            rw [List.length_append, List.length_map, List.length_take]; omega
          generalize its[i] = X at *
          generalize Y ++ (its.take i).map LItem.key = Z at *
          have HTK2 := Lib.hid htk2
          clear htk2 hr0'
          obtain ⟨⟨x1, x2, x3⟩, ⟨x4, x5, x6⟩, x7⟩ := X
          simp only [iC, kC, vC, List.cons_append, List.nil_append] at hr0 HTK2
          have hrk : RowAt (wr.alloc (.cells #[.int .i64 x1, .string x2, .string x3, .int .i64 x4, .int .i64 x5, .string x6, .int .i64 x7] 51)) wr.heap.size 0 [.int .i64 x1, .string x2, .string x3] := by
            have h := (Blk.new wr 51 #[.int .i64 x1, .string x2, .string x3, .int .i64 x4, .int .i64 x5, .string x6, .int .i64 x7]).row
            intro q v hq
            refine h q v ?_
            have hq3 : q < 3 := (List.getElem?_eq_some_iff.1 hq).1
            match q, hq3 with
            | 0, _ => exact hq
            | 1, _ => exact hq
            | 2, _ => exact hq
          have hown6 := (hown5.al (.cells #[.int .i64 x1, .string x2, .string x3, .int .i64 x4, .int .i64 x5, .string x6, .int .i64 x7] 51)).al (.cells #[.int .i64 x1, .string x2, .string x3] 34)
          have hnew := Blk.at1 wr (.cells #[.int .i64 x1, .string x2, .string x3, .int .i64 x4, .int .i64 x5, .string x6, .int .i64 x7] 51) 34 #[.int .i64 x1, .string x2, .string x3]
          have hL6 : Lat w ((wr.alloc (.cells #[.int .i64 x1, .string x2, .string x3, .int .i64 x4, .int .i64 x5, .string x6, .int .i64 x7] 51)).alloc (.cells #[.int .i64 x1, .string x2, .string x3] 34)) := hL5.trans ((Lat.al _ _).trans (Lat.al _ _))
          have hbse := hL6.size
          have hoi6 := (hoi.al (.cells #[.int .i64 x1, .string x2, .string x3, .int .i64 x4, .int .i64 x5, .string x6, .int .i64 x7] 51)).al (.cells #[.int .i64 x1, .string x2, .string x3] 34)
          have hmax : Z.length + 1 ≤ maxLen := by unfold maxLen; omega
          have hby : (Z.length + 1) * EK.bytes ≤ 140737488355328 := Nat.le_trans (Nat.mul_le_mul_right EK.bytes (by omega : Z.length + 1 ≤ 1000000)) (by decide)
          have HT2 := Lib.hid (fun k (hk : u3.ownBlock = some k) => (hown5.lt k hk).1)
          clear hown5
          go_wp2_with (first | (with_reducible refine wpList_load_at rfl 51 _ rfl b0 (off0 + i * 7) rfl _ _ hr0 Tryz.underlying51 rfl (by kernel_rfl) ?_) | (with_reducible refine wpList_load_at rfl 34 _ rfl wr.heap.size 0 rfl _ _ hrk Tryz.underlying34 rfl (by kernel_rfl) ?_) | (at_builtin; refine EK.append rfl _ _ rfl w.heap.size Z _ rfl hown6 (wr.heap.size + 1) 1 (⟨x1, x2, x3⟩ : LKey) rfl 34 hnew hmax hby hbse ?_; intro v7 w7 hown7 hg7 hw7; go_must (have hLW8 : Lat w w7 := hL6.grown hg7 hbse HT2.out; obtain ⟨hap7, hoi7⟩ := HAp.out.grow hoi6 hg7 hw7; clear hnew hg7 hw7 hrk hr0 hoi6 hoi)))
          go_roundw
          case rel => exact ⟨i + 1, by omega, by go_num, by rw [HTK2.out]; exact hown7, hoi7, Lib.hid hap7, hLW8⟩
          case measure => simp [intOf]; omega
        · have hj : i = its.length := by omega
          subst hj
          rw [List.take_length] at hown5
          clear HAp hoi
          go_wp2_with fail
          go_roundw
          case rel => exact ⟨j + 1, by omega, by go_num, by rw [HTK.out]; exact hown5, hL5⟩
          case measure => simp [intOf]; omega
    · have hj : j = ps.length := by omega
      subst hj
      rw [List.take_length] at hown
      have hkl : (keysOf ps).length ≤ 2400 := by
        have := keysOf_len ps (fun p hp => HI.out p hp)
        omega
      have HM : Hid (∀ k, k ∈ keysOf ps ↔ HasKey ps k) := Lib.hid (fun k => mem_keysOf)
      generalize keysOf ps = KS at *
      have HS := Lib.hid (sortKy_any KS u3 w.heap.size wr hown (by omega))
      clear hown HI
      go_wp2_with fail
      refine HS.out.mono ?_
      rintro e w2 ⟨rfl, ⟨d, hpm, hsd, hown2⟩, htn⟩
      have hL2 : Lat w w2 := Below.trans hLW (htn.2 w.heap.size (Nat.le_refl _) hLW.size)
      have hdl : d.length = KS.length := hpm.length_eq
      have HCM := Lib.hid (compact_any d u3 w.heap.size w2 hown2 hsd (by omega))
      have HM2 : Hid (∀ k, k ∈ d ↔ HasKey ps k) := Lib.hid (fun k => (hpm.mem_iff).trans (HM.out k))
      clear HS HM hpm hsd hown2 htn
      go_wp2_with fail
      refine HCM.out.mono ?_
      rintro r w3 ⟨ks, v3, rfl, hown3, hkn, hasc, hmem, hB⟩
      have HF : Hid (ks.Pairwise (fun a b => kless a b = true) ∧ ∀ k, k ∈ ks ↔ HasKey ps k) := Lib.hid ⟨hasc, fun k => (hmem k).trans (HM2.out k)⟩
      clear HCM hmem hasc HM2
      go_wp2_with fail
      go_ret
      exact ⟨ks, _, rfl, hown3, by omega, HF.out.1, HF.out.2, Below.trans hL2 hB⟩
end Go.Proofs.YtmgalnbacenbbaaGreat
