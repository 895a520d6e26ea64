/- Guard: the reference's Conflicts walked. -/
import Derived.Test.YtmgalnbacenbbaaGRForW
import Derived.Test.YtmgalnbacenbbaaGRConP
import Derived.Test.YtmgalnbacenbbaaGRBlk
import Derived.Deep.RegionHeld
import Derived.Deep.DeepCutAuto
set_option linter.unusedSimpArgs false
set_option linter.unusedVariables false
namespace Go.Proofs.Ytmgalnbacenbbaa
open Go.RowKit

/-- All pairs of places so far agree. -/
def AgrTo (k : LKey) (qs : List (LkR × LLock)) (i j : Nat) : Prop := ∀ (a b : Nat) (ha : a < qs.length) (hb : b < a), (a < i ∨ (a = i ∧ b < j)) → Agree k (qs[b]'(Nat.lt_trans hb ha)) qs[a]
theorem AgrTo.zero (k : LKey) (qs : List (LkR × LLock)) : AgrTo k qs 0 0 := fun a b ha hb h => by omega
theorem AgrTo.step {k : LKey} {qs : List (LkR × LLock)} {i j : Nat} (hi : i < qs.length) (hj : j < i) : AgrTo k qs i (j + 1) ↔ AgrTo k qs i j ∧ Agree k (qs[j]'(Nat.lt_trans hj hi)) qs[i] := by
  constructor
  · intro h
    exact ⟨fun a b ha hb hab => h a b ha hb (by omega), h i j hi hj (by omega)⟩
  · rintro ⟨h1, h2⟩ a b ha hb hab
    by_cases e : a = i ∧ b = j
    · obtain ⟨rfl, rfl⟩ := e; exact h2
    · exact h1 a b ha hb (by omega)
theorem AgrTo.next {k : LKey} {qs : List (LkR × LLock)} {i : Nat} : AgrTo k qs i i ↔ AgrTo k qs (i + 1) 0 := by
  constructor
  · intro h a b ha hb hab; exact h a b ha hb (by omega)
  · intro h a b ha hb hab; exact h a b ha hb (by omega)
theorem AgrTo.all {k : LKey} {qs : List (LkR × LLock)} : AgrTo k qs qs.length 0 ↔ cflF k none qs = false := by
  rw [cflF_places]
  constructor
  · intro h i j hi hj; exact h i j hi hj (by omega)
  · intro h a b ha hb _; exact h a b ha hb
set_option maxRecDepth 100000 in
set_option maxHeartbeats 8000000 in
theorem rconflicts_any (ps : List (LkR × LLock)) (A : Option Addr) (c : Nat) (acts : List ByteArray) (B : Option Addr) (m : Nat) (w : World) (hx : RdL w ps (.slice A ps.length c)) (hy : ES.Rd w acts (.slice B acts.length m)) (hl : ps.length < 40) (hbig : acts.length ≤ 1000000) (hfew : ∀ p ∈ ps, p.2.force.length ≤ 30) :
    Calls Try.prog 16 #[.slice A ps.length c, .slice B acts.length m] w fun r w' => ∃ ks v, r = .returned v ∧ EK.Own w' w.heap.size (con (strg ps acts) ks) v ∧ ks.Pairwise (fun a b => kless a b = true) ∧ (∀ k, k ∈ ks ↔ HasF (strg ps acts) k) ∧ Lat w w' := by
  have HST := Lib.hid (sorted_any ps A c acts B m w hx hy hl hbig)
  have hql := strg_len ps acts
  have hqf : ∀ p ∈ strg ps acts, p.2.force.length ≤ 30 := fun p hp => hfew p (strg_mem hp)
  generalize strg ps acts = qs at *
  have HQF := Lib.hid hqf
  clear hx hy hqf hfew
  go_enter Try.func16, Try.ntmps16
  go_wp2_with fail
  refine HST.out.mono ?_
  rintro r w1 ⟨v1, rfl, hown1, hl1⟩
  obtain ⟨A1, c1, rfl⟩ := hown1.rd.slice
  have HKS := Lib.hid (rkeys_any qs A1 c1 w1 hown1.rd (by omega) HQF.out)
  have hrd1 := hown1.rd
  clear HST hown1
  go_wp2_with fail
  refine HKS.out.mono ?_
  rintro r w2 ⟨ks, v2, rfl, hown2, hn24, hasc, hmem, hl2⟩
  obtain ⟨A2, c2, rfl⟩ := hown2.slice
  have hrd2 := hown2.rd
  have hL2 := hl1.trans hl2
  have hrd1 := hrd1.lat hl2
  have HKM : Hid (ks.Pairwise (fun a b => kless a b = true) ∧ ∀ k, k ∈ ks ↔ HasF qs k) := Lib.hid ⟨hasc, hmem⟩
  clear HKS hown2 hasc hmem hl1 hl2
  go_wp2_with fail
  have HL0 := Lib.hid hL2
  go_loopw [7, 8] (fun v i wr => ∃ n : Nat, n ≤ ks.length ∧ i = .int .i64 n ∧ EK.Own wr w2.heap.size (con qs (ks.take n)) v ∧ Lat w2 wr) (fun _ i _ => ks.length - (intOf i).toNat)
  case atStart => exact ⟨0, Nat.zero_le _, rfl, Elt.Own.nil _ _, Lat.refl _⟩
  case round =>
    clear hL2
    obtain ⟨n, hnl, rfl, hown, hLW⟩ := hrel
    by_cases hlt : n < ks.length
    · have HTK := Lib.hid (con_take qs ks n hlt)
      have hlen : (con qs (ks.take n)).length ≤ n := by
        have := con_len qs (ks.take n)
        rw [List.length_take] at this
        omega
      obtain ⟨bk, ok, hA, hbk0, hrk'⟩ := hrd2.row n hlt
      subst hA
      have hrk0 : RowAt w2 bk (ok + n * 3) (kC ks[n]) := hrk'
      clear hrk'
      generalize ks[n] = k at *
      generalize con qs (ks.take n) = Y at *
      have HFO := fun (r : LkR) (l : LLock) (w' : World) (hs : r.Says w' l) (hbig : l.force.length ≤ 1000000) => Lib.hid (forces_any r l k w' hs hbig)
      have HALL := Lib.hid (AgrTo.all (k := k) (qs := qs))
      generalize cflF k none qs = R at *
      go_wp2_with fail
      have HLW := Lib.hid hLW
      go_loopw [9, 10] (fun bv i wr => ∃ (a : Nat) (e : Bool), a ≤ qs.length ∧ i = .int .i64 a ∧ bv = .bool e ∧ Hid (e = false ↔ AgrTo k qs a 0) ∧ EK.Own wr w2.heap.size Y u7 ∧ Lat w2 wr) (fun _ i _ => qs.length - (intOf i).toNat)
      case atStart => exact ⟨0, false, Nat.zero_le _, rfl, rfl, Lib.hid ⟨fun _ => AgrTo.zero k qs, fun _ => rfl⟩, hown, hLW⟩
      case round =>
        clear hLW hown HLW
        obtain ⟨i, e, hil, rfl, rfl, HE0, hown, hLW⟩ := hrel
        by_cases hlt2 : i < qs.length
        · go_wp2_with fail
          have HLW := Lib.hid hLW
          go_loopw [9, 11] (fun bv jv wr => ∃ (j : Nat) (e : Bool), j ≤ i ∧ jv = .int .i64 j ∧ bv = .bool e ∧ Hid (e = false ↔ AgrTo k qs i j) ∧ EK.Own wr w2.heap.size Y u7 ∧ Lat w2 wr) (fun _ jv _ => i - (intOf jv).toNat)
          case atStart => exact ⟨0, e, Nat.zero_le _, rfl, rfl, HE0, hown, hLW⟩
          case round =>
            clear hLW hown HLW HE0
            obtain ⟨j, e, hjl, rfl, rfl, HE0, hown, hLW⟩ := hrel
            by_cases hlt3 : j < i
            · skip
              obtain ⟨b0, off0, hA, hb0, hr0, hsy⟩ := hrd1.row i hlt2
              obtain ⟨b0', off0', hA', hb0', hrj0, hsyj⟩ := hrd1.row j (by omega)
              subst hA
              injection hA' with hA'
              injection hA' with e1 e2
              subst e1 e2
              have hjq : j < qs.length := by omega
              have HSTP := Lib.hid (AgrTo.step (k := k) hlt2 hlt3)
              have hfi : (qs[i]).2.force.length ≤ 1000000 := Nat.le_trans (HQF.out _ (List.getElem_mem hlt2)) (by decide)
              have hfj : (qs[j]).2.force.length ≤ 1000000 := Nat.le_trans (HQF.out _ (List.getElem_mem (by omega))) (by decide)
              have hagr : Agree k (qs[j]) (qs[i]) ↔ (hasI (qs[j]).2.force k = true → hasI (qs[i]).2.force k = true → (getI (qs[j]).2.force k).val = (getI (qs[i]).2.force k).val) := Iff.rfl
              have HF := fun w' (hl : Lat wr w') => HFO qs[i].1 qs[i].2 w' (hsy.lat (hLW.trans hl)) hfi
              have HFJ := fun w' (hl : Lat wr w') => HFO qs[j].1 qs[j].2 w' (hsyj.lat (hLW.trans hl)) hfj
              have HSTP2 := Lib.hid (HSTP.out.trans (and_congr Iff.rfl hagr))
              clear HSTP hagr
              generalize hBI : hasI qs[i].2.force k = BB at *
              generalize hZI : (getI qs[i].2.force k) = Z at *
              generalize hBJ : hasI qs[j].2.force k = BJ at *
              generalize hZJ : (getI qs[j].2.force k) = ZJ at *
              simp only [gotV, hBI, hZI] at HF
              simp only [gotV, hBJ, hZJ] at HFJ
              clear hBI hZI hBJ hZJ hsy hsyj hfi hfj
              generalize qs[i].1 = X at *
              generalize qs[j].1 = XJ at *
              obtain ⟨z0, zv, z4⟩ := Z
              obtain ⟨y0, zj, y4⟩ := ZJ
              dsimp only at HF HFJ HSTP2
              have hr1 := hr0.below hLW hb0
              have hbb : b0 < wr.heap.size := Nat.lt_of_lt_of_le hb0 hLW.size
              have hrk1 := hrk0.below hLW hbk0
              have hbkk : bk < wr.heap.size := Nat.lt_of_lt_of_le hbk0 hLW.size
              go_wp2_with fail
              go_cut [12, 13] (fun s12 s13 wx => ∃ ga : Nat, s12 = .pointer (some ⟨ga, 0, none⟩) ∧ s13 = .bool BB ∧ Blk wx ga 35 (vC zv).toArray ∧ Lat wr wx)
              case first =>
                refine wp_region_held_drew (S := fun w' => Lat wr w') (by kernel_rfl) (Lat.drew wr) (fun hHeld => ?_)
                refine wpAnyH_take (i := 0) (oi := { dst := some 39, op := Op.move (Operand.tmp 5), type := 22, pos := "ref.go:133", after := #[], guard := none }) (v := .slice (some ⟨b0, off0, none⟩) qs.length c1) rfl (by kernel_rfl) (by kernel_rfl) (by kernel_rfl) (fun _ _ _ h => h) (Or.inl ⟨rfl, ?_⟩) hHeld ?_
                · intro w' hS
                  go_simp
                simp only [Act.put, List.setIfInBounds_toArray, List.set_cons_zero, List.set_cons_succ]
                refine wpAnyH_take (i := 1) (oi := { dst := some 40, op := Op.move (Operand.tmp 10), type := 3, pos := "ref.go:133", after := #[], guard := none }) (v := .int .i64 (i : Int)) rfl (by kernel_rfl) (by kernel_rfl) (by kernel_rfl) (fun _ _ _ h => h) (Or.inl ⟨rfl, ?_⟩) hHeld ?_
                · intro w' hS
                  go_simp
                simp only [Act.put, List.setIfInBounds_toArray, List.set_cons_zero, List.set_cons_succ]
                refine wpAnyH_take (i := 2) (oi := { dst := some 41, op := Op.indexAddr 22 (Operand.tmp 39) (Operand.tmp 40), type := 0, pos := "ref.go:133", after := #[{ on := 0, ground := Ground.data }, { on := 1, ground := Ground.data }], guard := none }) (v := .pointer (some ⟨b0, off0 + i * 16, none⟩)) rfl (by kernel_rfl) (by kernel_rfl) (by kernel_rfl) (fun _ _ _ h => h) (Or.inl ⟨rfl, ?_⟩) hHeld ?_
                · intro w' hS
                  go_simp
                simp only [Act.put, List.setIfInBounds_toArray, List.set_cons_zero, List.set_cons_succ]
                refine wpAnyH_take (i := 3) (oi := { dst := some 42, op := Op.load 47 (Operand.tmp 41), type := 47, pos := "ref.go:133", after := #[{ on := 2, ground := Ground.data }], guard := none }) (v := .agg (lkC X).toArray) rfl (by kernel_rfl) (by kernel_rfl) (by kernel_rfl) (fun _ _ _ h => h) (Or.inl ⟨rfl, ?_⟩) hHeld ?_
                · intro w' hS
                  (exact yields_load_at 47 _ rfl b0 (off0 + i * 16) rfl (lkC X) _ (hr1.below hS hbb) Try.underlying47 rfl (by kernel_rfl))
                simp only [Act.put, List.setIfInBounds_toArray, List.set_cons_zero, List.set_cons_succ]
                refine wpAnyH_take (i := 4) (oi := { dst := some 43, op := Op.move (Operand.tmp 6), type := 30, pos := "ref.go:133", after := #[], guard := none }) (v := .slice (some ⟨bk, ok, none⟩) ks.length c2) rfl (by kernel_rfl) (by kernel_rfl) (by kernel_rfl) (fun _ _ _ h => h) (Or.inl ⟨rfl, ?_⟩) hHeld ?_
                · intro w' hS
                  go_simp
                simp only [Act.put, List.setIfInBounds_toArray, List.set_cons_zero, List.set_cons_succ]
                refine wpAnyH_take (i := 5) (oi := { dst := some 44, op := Op.move (Operand.tmp 8), type := 3, pos := "ref.go:133", after := #[], guard := none }) (v := .int .i64 (n : Int)) rfl (by kernel_rfl) (by kernel_rfl) (by kernel_rfl) (fun _ _ _ h => h) (Or.inl ⟨rfl, ?_⟩) hHeld ?_
                · intro w' hS
                  go_simp
                simp only [Act.put, List.setIfInBounds_toArray, List.set_cons_zero, List.set_cons_succ]
                refine wpAnyH_take (i := 6) (oi := { dst := some 45, op := Op.indexAddr 30 (Operand.tmp 43) (Operand.tmp 44), type := 0, pos := "ref.go:133", after := #[{ on := 4, ground := Ground.data }, { on := 5, ground := Ground.data }], guard := none }) (v := .pointer (some ⟨bk, ok + n * 3, none⟩)) rfl (by kernel_rfl) (by kernel_rfl) (by kernel_rfl) (fun _ _ _ h => h) (Or.inl ⟨rfl, ?_⟩) hHeld ?_
                · intro w' hS
                  go_simp
                simp only [Act.put, List.setIfInBounds_toArray, List.set_cons_zero, List.set_cons_succ]
                refine wpAnyH_take (i := 7) (oi := { dst := some 46, op := Op.load 33 (Operand.tmp 45), type := 33, pos := "ref.go:133", after := #[{ on := 6, ground := Ground.data }], guard := none }) (v := .agg (kC k).toArray) rfl (by kernel_rfl) (by kernel_rfl) (by kernel_rfl) (fun _ _ _ h => h) (Or.inl ⟨rfl, ?_⟩) hHeld ?_
                · intro w' hS
                  (exact yields_load_at 33 _ rfl bk (ok + n * 3) rfl (kC k) _ (hrk1.below hS hbkk) Try.underlying33 rfl (by kernel_rfl))
                simp only [Act.put, List.setIfInBounds_toArray, List.set_cons_zero, List.set_cons_succ]
                refine wpAnyH_ready (rs := [8, 12]) (by kernel_rfl) (by simp) ?_
                refine AllReadyH.cons (o := { dst := some 47, op := Op.call { callee := Callee.value (Operand.func 32), args := #[Operand.tmp 42, Operand.tmp 46], argTypes := #[47, 33] }, type := 67, pos := "ref.go:133", after := #[{ on := 3, ground := Ground.data }, { on := 7, ground := Ground.data }], guard := none }) rfl (fun K hK => ?_) ?_
                · go_simp
                  go_at_call 32
                  refine (HF _ hHeld).out.mono ?_
                  rintro r w5 ⟨rfl, hl5⟩
                  refine hK.out _ _ (hHeld.trans hl5) (fun hHeld => ?_)
                  clear hK K
                  try simp only [Act.put, List.setIfInBounds_toArray, List.set_cons_zero, List.set_cons_succ]
                  refine wpAnyH_take (i := 9) (oi := { dst := some 38, op := Op.move (Operand.tmp 47), type := 67, pos := "ref.go:133", after := #[{ on := 8, ground := Ground.data }], guard := none }) (v := .tuple #[.agg (vC zv).toArray, .bool BB]) rfl (by kernel_rfl) (by kernel_rfl) (by kernel_rfl) (fun _ _ _ h => h) (Or.inl ⟨rfl, ?_⟩) hHeld ?_
                  · intro w' hS
                    go_simp
                  simp only [Act.put, List.setIfInBounds_toArray, List.set_cons_zero, List.set_cons_succ]
                  refine wpAnyH_take (i := 10) (oi := { dst := some 48, op := Op.extract (Operand.tmp 38) 0, type := 35, pos := "ref.go:133", after := #[{ on := 9, ground := Ground.data }], guard := none }) (v := .agg (vC zv).toArray) rfl (by kernel_rfl) (by kernel_rfl) (by kernel_rfl) (fun _ _ _ h => h) (Or.inl ⟨rfl, ?_⟩) hHeld ?_
                  · intro w' hS
                    go_simp
                  simp only [Act.put, List.setIfInBounds_toArray, List.set_cons_zero, List.set_cons_succ]
                  refine wpAnyH_take (i := 11) (oi := { dst := some 49, op := Op.extract (Operand.tmp 38) 1, type := 4, pos := "ref.go:133", after := #[{ on := 9, ground := Ground.data }, { on := 13, ground := Ground.gcOnly Departure.lateStores }], guard := none }) (v := .bool BB) rfl (by kernel_rfl) (by kernel_rfl) (by kernel_rfl) (fun _ _ _ h => h) (Or.inl ⟨rfl, ?_⟩) hHeld ?_
                  · intro w' hS
                    go_simp
                  simp only [Act.put, List.setIfInBounds_toArray, List.set_cons_zero, List.set_cons_succ]
                  refine wpAnyH_ready (rs := [12]) (by kernel_rfl) (by simp) ?_
                  refine AllReadyH.cons (o := { dst := some 12, op := Op.alloc 35, type := 0, pos := "ref.go:133", after := #[], guard := none }) rfl (fun K hK => ?_) AllReadyH.nil
                  have hblk := Blk.new w5 35 #[.int .i64 0, .int .i64 0, .string { data := #[] }]
                  have hgb := hHeld.size
                  go_simp
                  refine hK.out _ _ (hHeld.trans (Lat.al _ _)) (fun hHeld => ?_)
                  clear hK K
                  try simp only [Act.put, List.setIfInBounds_toArray, List.set_cons_zero, List.set_cons_succ]
                  refine wpAnyH_ready (rs := [13]) (by kernel_rfl) (by simp) ?_
                  refine AllReadyH.cons (o := { dst := none, op := Op.store 35 (Operand.tmp 12) (Operand.tmp 48), type := 0, pos := "ref.go:133", after := #[{ on := 12, ground := Ground.data }, { on := 10, ground := Ground.data }, { on := 8, ground := Ground.chain }, { on := 0, ground := Ground.phase }, { on := 1, ground := Ground.phase }, { on := 2, ground := Ground.phase }, { on := 3, ground := Ground.phase }, { on := 4, ground := Ground.phase }, { on := 5, ground := Ground.phase }, { on := 6, ground := Ground.phase }, { on := 7, ground := Ground.phase }, { on := 8, ground := Ground.phase }, { on := 9, ground := Ground.phase }, { on := 10, ground := Ground.phase }, { on := 11, ground := Ground.textOnly Departure.lateStores }, { on := 12, ground := Ground.phase }], guard := none }) rfl (fun K hK => ?_) AllReadyH.nil
                  refine take_op rfl ?_
                  refine wp_store_row 35 _ _ rfl (w5.heap.size) _ rfl rfl 35 _ hblk (by kernel_rfl : (Try.prog.info? 35).map (·.size) = some 3) rfl (vC_ones zv) ?_
                  refine hK.out _ _ (below_setRow hHeld hgb _) (fun hHeld => ?_)
                  clear hK K
                  try simp only [Act.put, List.setIfInBounds_toArray, List.set_cons_zero, List.set_cons_succ]
                  have hblk2 := hblk.setRow (vC zv).toArray
                  refine wpAnyH_take (i := 14) (oi := { dst := some 13, op := Op.assign (Operand.tmp 49), type := 4, pos := "ref.go:133", after := #[{ on := 11, ground := Ground.data }, { on := 13, ground := Ground.chain }, { on := 0, ground := Ground.phase }, { on := 1, ground := Ground.phase }, { on := 2, ground := Ground.phase }, { on := 3, ground := Ground.phase }, { on := 4, ground := Ground.phase }, { on := 5, ground := Ground.phase }, { on := 6, ground := Ground.phase }, { on := 7, ground := Ground.phase }, { on := 8, ground := Ground.phase }, { on := 9, ground := Ground.phase }, { on := 10, ground := Ground.phase }, { on := 11, ground := Ground.phase }, { on := 12, ground := Ground.phase }, { on := 13, ground := Ground.phase }], guard := none }) (v := .bool BB) rfl (by kernel_rfl) (by kernel_rfl) (by kernel_rfl) (fun _ _ _ h => h) (Or.inl ⟨rfl, ?_⟩) hHeld ?_
                  · intro w' hS
                    go_simp
                  simp only [Act.put, List.setIfInBounds_toArray, List.set_cons_zero, List.set_cons_succ]
                  refine wpAnyH_done (by kernel_rfl) ?_ _
                  go_wp2_with fail
                  go_meet
                  exact ⟨_, rfl, rfl, hblk2, hHeld⟩
                refine AllReadyH.cons (o := { dst := some 12, op := Op.alloc 35, type := 0, pos := "ref.go:133", after := #[], guard := none }) rfl (fun K hK => ?_) AllReadyH.nil
                · have hblk0 := Blk.new wr.drew 35 #[.int .i64 0, .int .i64 0, .string { data := #[] }]
                  have hgb := hHeld.size
                  go_simp
                  refine hK.out _ _ (hHeld.trans (Lat.al _ _)) (fun hHeld => ?_)
                  clear hK K
                  try simp only [Act.put, List.setIfInBounds_toArray, List.set_cons_zero, List.set_cons_succ]
                  refine wpAnyH_ready (rs := [8]) (by kernel_rfl) (by simp) ?_
                  refine AllReadyH.cons (o := { dst := some 47, op := Op.call { callee := Callee.value (Operand.func 32), args := #[Operand.tmp 42, Operand.tmp 46], argTypes := #[47, 33] }, type := 67, pos := "ref.go:133", after := #[{ on := 3, ground := Ground.data }, { on := 7, ground := Ground.data }], guard := none }) rfl (fun K hK => ?_) AllReadyH.nil
                  go_simp
                  go_at_call 32
                  refine (HF _ hHeld).out.mono ?_
                  rintro r w5 ⟨rfl, hl5⟩
                  refine hK.out _ _ (hHeld.trans hl5) (fun hHeld => ?_)
                  clear hK K
                  try simp only [Act.put, List.setIfInBounds_toArray, List.set_cons_zero, List.set_cons_succ]
                  have hblk := hblk0.lat hl5
                  refine wpAnyH_take (i := 9) (oi := { dst := some 38, op := Op.move (Operand.tmp 47), type := 67, pos := "ref.go:133", after := #[{ on := 8, ground := Ground.data }], guard := none }) (v := .tuple #[.agg (vC zv).toArray, .bool BB]) rfl (by kernel_rfl) (by kernel_rfl) (by kernel_rfl) (fun _ _ _ h => h) (Or.inl ⟨rfl, ?_⟩) hHeld ?_
                  · intro w' hS
                    go_simp
                  simp only [Act.put, List.setIfInBounds_toArray, List.set_cons_zero, List.set_cons_succ]
                  refine wpAnyH_take (i := 10) (oi := { dst := some 48, op := Op.extract (Operand.tmp 38) 0, type := 35, pos := "ref.go:133", after := #[{ on := 9, ground := Ground.data }], guard := none }) (v := .agg (vC zv).toArray) rfl (by kernel_rfl) (by kernel_rfl) (by kernel_rfl) (fun _ _ _ h => h) (Or.inl ⟨rfl, ?_⟩) hHeld ?_
                  · intro w' hS
                    go_simp
                  simp only [Act.put, List.setIfInBounds_toArray, List.set_cons_zero, List.set_cons_succ]
                  refine wpAnyH_take (i := 11) (oi := { dst := some 49, op := Op.extract (Operand.tmp 38) 1, type := 4, pos := "ref.go:133", after := #[{ on := 9, ground := Ground.data }, { on := 13, ground := Ground.gcOnly Departure.lateStores }], guard := none }) (v := .bool BB) rfl (by kernel_rfl) (by kernel_rfl) (by kernel_rfl) (fun _ _ _ h => h) (Or.inl ⟨rfl, ?_⟩) hHeld ?_
                  · intro w' hS
                    go_simp
                  simp only [Act.put, List.setIfInBounds_toArray, List.set_cons_zero, List.set_cons_succ]
                  refine wpAnyH_ready (rs := [13]) (by kernel_rfl) (by simp) ?_
                  refine AllReadyH.cons (o := { dst := none, op := Op.store 35 (Operand.tmp 12) (Operand.tmp 48), type := 0, pos := "ref.go:133", after := #[{ on := 12, ground := Ground.data }, { on := 10, ground := Ground.data }, { on := 8, ground := Ground.chain }, { on := 0, ground := Ground.phase }, { on := 1, ground := Ground.phase }, { on := 2, ground := Ground.phase }, { on := 3, ground := Ground.phase }, { on := 4, ground := Ground.phase }, { on := 5, ground := Ground.phase }, { on := 6, ground := Ground.phase }, { on := 7, ground := Ground.phase }, { on := 8, ground := Ground.phase }, { on := 9, ground := Ground.phase }, { on := 10, ground := Ground.phase }, { on := 11, ground := Ground.textOnly Departure.lateStores }, { on := 12, ground := Ground.phase }], guard := none }) rfl (fun K hK => ?_) AllReadyH.nil
                  refine take_op rfl ?_
                  refine wp_store_row 35 _ _ rfl (wr.drew.heap.size) _ rfl rfl 35 _ hblk (by kernel_rfl : (Try.prog.info? 35).map (·.size) = some 3) rfl (vC_ones zv) ?_
                  refine hK.out _ _ (below_setRow hHeld hgb _) (fun hHeld => ?_)
                  clear hK K
                  try simp only [Act.put, List.setIfInBounds_toArray, List.set_cons_zero, List.set_cons_succ]
                  have hblk2 := hblk.setRow (vC zv).toArray
                  refine wpAnyH_take (i := 14) (oi := { dst := some 13, op := Op.assign (Operand.tmp 49), type := 4, pos := "ref.go:133", after := #[{ on := 11, ground := Ground.data }, { on := 13, ground := Ground.chain }, { on := 0, ground := Ground.phase }, { on := 1, ground := Ground.phase }, { on := 2, ground := Ground.phase }, { on := 3, ground := Ground.phase }, { on := 4, ground := Ground.phase }, { on := 5, ground := Ground.phase }, { on := 6, ground := Ground.phase }, { on := 7, ground := Ground.phase }, { on := 8, ground := Ground.phase }, { on := 9, ground := Ground.phase }, { on := 10, ground := Ground.phase }, { on := 11, ground := Ground.phase }, { on := 12, ground := Ground.phase }, { on := 13, ground := Ground.phase }], guard := none }) (v := .bool BB) rfl (by kernel_rfl) (by kernel_rfl) (by kernel_rfl) (fun _ _ _ h => h) (Or.inl ⟨rfl, ?_⟩) hHeld ?_
                  · intro w' hS
                    go_simp
                  simp only [Act.put, List.setIfInBounds_toArray, List.set_cons_zero, List.set_cons_succ]
                  refine wpAnyH_done (by kernel_rfl) ?_ _
                  go_wp2_with fail
                  go_meet
                  exact ⟨_, rfl, rfl, hblk2, hHeld⟩
              case rest =>
                obtain ⟨ga, rfl, rfl, hga, hlc⟩ := hcut
                have hLc := hLW.trans hlc
                have hown5 := hown.lat hlc
                have HFJ := fun w' (hl : Lat wc w') => HFJ w' (hlc.trans hl)
                clear HF hr1 hbb hrk1 hbkk hown hLW hlc
                have hrj1 := hrj0.below hLc hb0
                have hbb : b0 < wc.heap.size := Nat.lt_of_lt_of_le hb0 hLc.size
                have hrk1 := hrk0.below hLc hbk0
                have hbkk : bk < wc.heap.size := Nat.lt_of_lt_of_le hbk0 hLc.size
                generalize wc = wd at *
                go_wp2_with fail
                go_cut [14, 15] (fun s14 s15 wx => ∃ gb : Nat, s14 = .pointer (some ⟨gb, 0, none⟩) ∧ s15 = .bool BJ ∧ Blk wx gb 35 (vC zj).toArray ∧ Lat wd wx)
                case first =>
                  refine wp_region_held_drew (S := fun w' => Lat wd w') (by kernel_rfl) (Lat.drew wd) (fun hHeld => ?_)
                  refine wpAnyH_take (i := 0) (oi := { dst := some 51, op := Op.move (Operand.tmp 5), type := 22, pos := "ref.go:134", after := #[], guard := none }) (v := .slice (some ⟨b0, off0, none⟩) qs.length c1) rfl (by kernel_rfl) (by kernel_rfl) (by kernel_rfl) (fun _ _ _ h => h) (Or.inl ⟨rfl, ?_⟩) hHeld ?_
                  · intro w' hS
                    go_simp
                  simp only [Act.put, List.setIfInBounds_toArray, List.set_cons_zero, List.set_cons_succ]
                  refine wpAnyH_take (i := 1) (oi := { dst := some 52, op := Op.move (Operand.tmp 11), type := 3, pos := "ref.go:134", after := #[], guard := none }) (v := .int .i64 (j : Int)) rfl (by kernel_rfl) (by kernel_rfl) (by kernel_rfl) (fun _ _ _ h => h) (Or.inl ⟨rfl, ?_⟩) hHeld ?_
                  · intro w' hS
                    go_simp
                  simp only [Act.put, List.setIfInBounds_toArray, List.set_cons_zero, List.set_cons_succ]
                  refine wpAnyH_take (i := 2) (oi := { dst := some 53, op := Op.indexAddr 22 (Operand.tmp 51) (Operand.tmp 52), type := 0, pos := "ref.go:134", after := #[{ on := 0, ground := Ground.data }, { on := 1, ground := Ground.data }], guard := none }) (v := .pointer (some ⟨b0, off0 + j * 16, none⟩)) rfl (by kernel_rfl) (by kernel_rfl) (by kernel_rfl) (fun _ _ _ h => h) (Or.inl ⟨rfl, ?_⟩) hHeld ?_
                  · intro w' hS
                    go_simp
                  simp only [Act.put, List.setIfInBounds_toArray, List.set_cons_zero, List.set_cons_succ]
                  refine wpAnyH_take (i := 3) (oi := { dst := some 54, op := Op.load 47 (Operand.tmp 53), type := 47, pos := "ref.go:134", after := #[{ on := 2, ground := Ground.data }], guard := none }) (v := .agg (lkC XJ).toArray) rfl (by kernel_rfl) (by kernel_rfl) (by kernel_rfl) (fun _ _ _ h => h) (Or.inl ⟨rfl, ?_⟩) hHeld ?_
                  · intro w' hS
                    (exact yields_load_at 47 _ rfl b0 (off0 + j * 16) rfl (lkC XJ) _ (hrj1.below hS hbb) Try.underlying47 rfl (by kernel_rfl))
                  simp only [Act.put, List.setIfInBounds_toArray, List.set_cons_zero, List.set_cons_succ]
                  refine wpAnyH_take (i := 4) (oi := { dst := some 55, op := Op.move (Operand.tmp 6), type := 30, pos := "ref.go:134", after := #[], guard := none }) (v := .slice (some ⟨bk, ok, none⟩) ks.length c2) rfl (by kernel_rfl) (by kernel_rfl) (by kernel_rfl) (fun _ _ _ h => h) (Or.inl ⟨rfl, ?_⟩) hHeld ?_
                  · intro w' hS
                    go_simp
                  simp only [Act.put, List.setIfInBounds_toArray, List.set_cons_zero, List.set_cons_succ]
                  refine wpAnyH_take (i := 5) (oi := { dst := some 56, op := Op.move (Operand.tmp 8), type := 3, pos := "ref.go:134", after := #[], guard := none }) (v := .int .i64 (n : Int)) rfl (by kernel_rfl) (by kernel_rfl) (by kernel_rfl) (fun _ _ _ h => h) (Or.inl ⟨rfl, ?_⟩) hHeld ?_
                  · intro w' hS
                    go_simp
                  simp only [Act.put, List.setIfInBounds_toArray, List.set_cons_zero, List.set_cons_succ]
                  refine wpAnyH_take (i := 6) (oi := { dst := some 57, op := Op.indexAddr 30 (Operand.tmp 55) (Operand.tmp 56), type := 0, pos := "ref.go:134", after := #[{ on := 4, ground := Ground.data }, { on := 5, ground := Ground.data }], guard := none }) (v := .pointer (some ⟨bk, ok + n * 3, none⟩)) rfl (by kernel_rfl) (by kernel_rfl) (by kernel_rfl) (fun _ _ _ h => h) (Or.inl ⟨rfl, ?_⟩) hHeld ?_
                  · intro w' hS
                    go_simp
                  simp only [Act.put, List.setIfInBounds_toArray, List.set_cons_zero, List.set_cons_succ]
                  refine wpAnyH_take (i := 7) (oi := { dst := some 58, op := Op.load 33 (Operand.tmp 57), type := 33, pos := "ref.go:134", after := #[{ on := 6, ground := Ground.data }], guard := none }) (v := .agg (kC k).toArray) rfl (by kernel_rfl) (by kernel_rfl) (by kernel_rfl) (fun _ _ _ h => h) (Or.inl ⟨rfl, ?_⟩) hHeld ?_
                  · intro w' hS
                    (exact yields_load_at 33 _ rfl bk (ok + n * 3) rfl (kC k) _ (hrk1.below hS hbkk) Try.underlying33 rfl (by kernel_rfl))
                  simp only [Act.put, List.setIfInBounds_toArray, List.set_cons_zero, List.set_cons_succ]
                  refine wpAnyH_ready (rs := [8, 12]) (by kernel_rfl) (by simp) ?_
                  refine AllReadyH.cons (o := { dst := some 59, op := Op.call { callee := Callee.value (Operand.func 32), args := #[Operand.tmp 54, Operand.tmp 58], argTypes := #[47, 33] }, type := 67, pos := "ref.go:134", after := #[{ on := 3, ground := Ground.data }, { on := 7, ground := Ground.data }], guard := none }) rfl (fun K hK => ?_) ?_
                  · go_simp
                    go_at_call 32
                    refine (HFJ _ hHeld).out.mono ?_
                    rintro r w5 ⟨rfl, hl5⟩
                    refine hK.out _ _ (hHeld.trans hl5) (fun hHeld => ?_)
                    clear hK K
                    try simp only [Act.put, List.setIfInBounds_toArray, List.set_cons_zero, List.set_cons_succ]
                    refine wpAnyH_take (i := 9) (oi := { dst := some 50, op := Op.move (Operand.tmp 59), type := 67, pos := "ref.go:134", after := #[{ on := 8, ground := Ground.data }], guard := none }) (v := .tuple #[.agg (vC zj).toArray, .bool BJ]) rfl (by kernel_rfl) (by kernel_rfl) (by kernel_rfl) (fun _ _ _ h => h) (Or.inl ⟨rfl, ?_⟩) hHeld ?_
                    · intro w' hS
                      go_simp
                    simp only [Act.put, List.setIfInBounds_toArray, List.set_cons_zero, List.set_cons_succ]
                    refine wpAnyH_take (i := 10) (oi := { dst := some 60, op := Op.extract (Operand.tmp 50) 0, type := 35, pos := "ref.go:134", after := #[{ on := 9, ground := Ground.data }], guard := none }) (v := .agg (vC zj).toArray) rfl (by kernel_rfl) (by kernel_rfl) (by kernel_rfl) (fun _ _ _ h => h) (Or.inl ⟨rfl, ?_⟩) hHeld ?_
                    · intro w' hS
                      go_simp
                    simp only [Act.put, List.setIfInBounds_toArray, List.set_cons_zero, List.set_cons_succ]
                    refine wpAnyH_take (i := 11) (oi := { dst := some 61, op := Op.extract (Operand.tmp 50) 1, type := 4, pos := "ref.go:134", after := #[{ on := 9, ground := Ground.data }, { on := 13, ground := Ground.gcOnly Departure.lateStores }], guard := none }) (v := .bool BJ) rfl (by kernel_rfl) (by kernel_rfl) (by kernel_rfl) (fun _ _ _ h => h) (Or.inl ⟨rfl, ?_⟩) hHeld ?_
                    · intro w' hS
                      go_simp
                    simp only [Act.put, List.setIfInBounds_toArray, List.set_cons_zero, List.set_cons_succ]
                    refine wpAnyH_ready (rs := [12]) (by kernel_rfl) (by simp) ?_
                    refine AllReadyH.cons (o := { dst := some 14, op := Op.alloc 35, type := 0, pos := "ref.go:134", after := #[], guard := none }) rfl (fun K hK => ?_) AllReadyH.nil
                    have hblk := Blk.new w5 35 #[.int .i64 0, .int .i64 0, .string { data := #[] }]
                    have hgb := hHeld.size
                    go_simp
                    refine hK.out _ _ (hHeld.trans (Lat.al _ _)) (fun hHeld => ?_)
                    clear hK K
                    try simp only [Act.put, List.setIfInBounds_toArray, List.set_cons_zero, List.set_cons_succ]
                    refine wpAnyH_ready (rs := [13]) (by kernel_rfl) (by simp) ?_
                    refine AllReadyH.cons (o := { dst := none, op := Op.store 35 (Operand.tmp 14) (Operand.tmp 60), type := 0, pos := "ref.go:134", after := #[{ on := 12, ground := Ground.data }, { on := 10, ground := Ground.data }, { on := 8, ground := Ground.chain }, { on := 0, ground := Ground.phase }, { on := 1, ground := Ground.phase }, { on := 2, ground := Ground.phase }, { on := 3, ground := Ground.phase }, { on := 4, ground := Ground.phase }, { on := 5, ground := Ground.phase }, { on := 6, ground := Ground.phase }, { on := 7, ground := Ground.phase }, { on := 8, ground := Ground.phase }, { on := 9, ground := Ground.phase }, { on := 10, ground := Ground.phase }, { on := 11, ground := Ground.textOnly Departure.lateStores }, { on := 12, ground := Ground.phase }], guard := none }) rfl (fun K hK => ?_) AllReadyH.nil
                    refine take_op rfl ?_
                    refine wp_store_row 35 _ _ rfl (w5.heap.size) _ rfl rfl 35 _ hblk (by kernel_rfl : (Try.prog.info? 35).map (·.size) = some 3) rfl (vC_ones zj) ?_
                    refine hK.out _ _ (below_setRow hHeld hgb _) (fun hHeld => ?_)
                    clear hK K
                    try simp only [Act.put, List.setIfInBounds_toArray, List.set_cons_zero, List.set_cons_succ]
                    have hblk2 := hblk.setRow (vC zj).toArray
                    refine wpAnyH_take (i := 14) (oi := { dst := some 15, op := Op.assign (Operand.tmp 61), type := 4, pos := "ref.go:134", after := #[{ on := 11, ground := Ground.data }, { on := 13, ground := Ground.chain }, { on := 0, ground := Ground.phase }, { on := 1, ground := Ground.phase }, { on := 2, ground := Ground.phase }, { on := 3, ground := Ground.phase }, { on := 4, ground := Ground.phase }, { on := 5, ground := Ground.phase }, { on := 6, ground := Ground.phase }, { on := 7, ground := Ground.phase }, { on := 8, ground := Ground.phase }, { on := 9, ground := Ground.phase }, { on := 10, ground := Ground.phase }, { on := 11, ground := Ground.phase }, { on := 12, ground := Ground.phase }, { on := 13, ground := Ground.phase }], guard := none }) (v := .bool BJ) rfl (by kernel_rfl) (by kernel_rfl) (by kernel_rfl) (fun _ _ _ h => h) (Or.inl ⟨rfl, ?_⟩) hHeld ?_
                    · intro w' hS
                      go_simp
                    simp only [Act.put, List.setIfInBounds_toArray, List.set_cons_zero, List.set_cons_succ]
                    refine wpAnyH_done (by kernel_rfl) ?_ _
                    go_wp2_with fail
                    go_meet
                    exact ⟨_, rfl, rfl, hblk2, hHeld⟩
                  refine AllReadyH.cons (o := { dst := some 14, op := Op.alloc 35, type := 0, pos := "ref.go:134", after := #[], guard := none }) rfl (fun K hK => ?_) AllReadyH.nil
                  · have hblk0 := Blk.new wd.drew 35 #[.int .i64 0, .int .i64 0, .string { data := #[] }]
                    have hgb := hHeld.size
                    go_simp
                    refine hK.out _ _ (hHeld.trans (Lat.al _ _)) (fun hHeld => ?_)
                    clear hK K
                    try simp only [Act.put, List.setIfInBounds_toArray, List.set_cons_zero, List.set_cons_succ]
                    refine wpAnyH_ready (rs := [8]) (by kernel_rfl) (by simp) ?_
                    refine AllReadyH.cons (o := { dst := some 59, op := Op.call { callee := Callee.value (Operand.func 32), args := #[Operand.tmp 54, Operand.tmp 58], argTypes := #[47, 33] }, type := 67, pos := "ref.go:134", after := #[{ on := 3, ground := Ground.data }, { on := 7, ground := Ground.data }], guard := none }) rfl (fun K hK => ?_) AllReadyH.nil
                    go_simp
                    go_at_call 32
                    refine (HFJ _ hHeld).out.mono ?_
                    rintro r w5 ⟨rfl, hl5⟩
                    refine hK.out _ _ (hHeld.trans hl5) (fun hHeld => ?_)
                    clear hK K
                    try simp only [Act.put, List.setIfInBounds_toArray, List.set_cons_zero, List.set_cons_succ]
                    have hblk := hblk0.lat hl5
                    refine wpAnyH_take (i := 9) (oi := { dst := some 50, op := Op.move (Operand.tmp 59), type := 67, pos := "ref.go:134", after := #[{ on := 8, ground := Ground.data }], guard := none }) (v := .tuple #[.agg (vC zj).toArray, .bool BJ]) rfl (by kernel_rfl) (by kernel_rfl) (by kernel_rfl) (fun _ _ _ h => h) (Or.inl ⟨rfl, ?_⟩) hHeld ?_
                    · intro w' hS
                      go_simp
                    simp only [Act.put, List.setIfInBounds_toArray, List.set_cons_zero, List.set_cons_succ]
                    refine wpAnyH_take (i := 10) (oi := { dst := some 60, op := Op.extract (Operand.tmp 50) 0, type := 35, pos := "ref.go:134", after := #[{ on := 9, ground := Ground.data }], guard := none }) (v := .agg (vC zj).toArray) rfl (by kernel_rfl) (by kernel_rfl) (by kernel_rfl) (fun _ _ _ h => h) (Or.inl ⟨rfl, ?_⟩) hHeld ?_
                    · intro w' hS
                      go_simp
                    simp only [Act.put, List.setIfInBounds_toArray, List.set_cons_zero, List.set_cons_succ]
                    refine wpAnyH_take (i := 11) (oi := { dst := some 61, op := Op.extract (Operand.tmp 50) 1, type := 4, pos := "ref.go:134", after := #[{ on := 9, ground := Ground.data }, { on := 13, ground := Ground.gcOnly Departure.lateStores }], guard := none }) (v := .bool BJ) rfl (by kernel_rfl) (by kernel_rfl) (by kernel_rfl) (fun _ _ _ h => h) (Or.inl ⟨rfl, ?_⟩) hHeld ?_
                    · intro w' hS
                      go_simp
                    simp only [Act.put, List.setIfInBounds_toArray, List.set_cons_zero, List.set_cons_succ]
                    refine wpAnyH_ready (rs := [13]) (by kernel_rfl) (by simp) ?_
                    refine AllReadyH.cons (o := { dst := none, op := Op.store 35 (Operand.tmp 14) (Operand.tmp 60), type := 0, pos := "ref.go:134", after := #[{ on := 12, ground := Ground.data }, { on := 10, ground := Ground.data }, { on := 8, ground := Ground.chain }, { on := 0, ground := Ground.phase }, { on := 1, ground := Ground.phase }, { on := 2, ground := Ground.phase }, { on := 3, ground := Ground.phase }, { on := 4, ground := Ground.phase }, { on := 5, ground := Ground.phase }, { on := 6, ground := Ground.phase }, { on := 7, ground := Ground.phase }, { on := 8, ground := Ground.phase }, { on := 9, ground := Ground.phase }, { on := 10, ground := Ground.phase }, { on := 11, ground := Ground.textOnly Departure.lateStores }, { on := 12, ground := Ground.phase }], guard := none }) rfl (fun K hK => ?_) AllReadyH.nil
                    refine take_op rfl ?_
                    refine wp_store_row 35 _ _ rfl (wd.drew.heap.size) _ rfl rfl 35 _ hblk (by kernel_rfl : (Try.prog.info? 35).map (·.size) = some 3) rfl (vC_ones zj) ?_
                    refine hK.out _ _ (below_setRow hHeld hgb _) (fun hHeld => ?_)
                    clear hK K
                    try simp only [Act.put, List.setIfInBounds_toArray, List.set_cons_zero, List.set_cons_succ]
                    have hblk2 := hblk.setRow (vC zj).toArray
                    refine wpAnyH_take (i := 14) (oi := { dst := some 15, op := Op.assign (Operand.tmp 61), type := 4, pos := "ref.go:134", after := #[{ on := 11, ground := Ground.data }, { on := 13, ground := Ground.chain }, { on := 0, ground := Ground.phase }, { on := 1, ground := Ground.phase }, { on := 2, ground := Ground.phase }, { on := 3, ground := Ground.phase }, { on := 4, ground := Ground.phase }, { on := 5, ground := Ground.phase }, { on := 6, ground := Ground.phase }, { on := 7, ground := Ground.phase }, { on := 8, ground := Ground.phase }, { on := 9, ground := Ground.phase }, { on := 10, ground := Ground.phase }, { on := 11, ground := Ground.phase }, { on := 12, ground := Ground.phase }, { on := 13, ground := Ground.phase }], guard := none }) (v := .bool BJ) rfl (by kernel_rfl) (by kernel_rfl) (by kernel_rfl) (fun _ _ _ h => h) (Or.inl ⟨rfl, ?_⟩) hHeld ?_
                    · intro w' hS
                      go_simp
                    simp only [Act.put, List.setIfInBounds_toArray, List.set_cons_zero, List.set_cons_succ]
                    refine wpAnyH_done (by kernel_rfl) ?_ _
                    go_wp2_with fail
                    go_meet
                    exact ⟨_, rfl, rfl, hblk2, hHeld⟩

                case rest =>
                  obtain ⟨gb, rfl, rfl, hgb, hlc⟩ := hcut
                  have hL5 := hLc.trans hlc
                  have hown6 := hown5.lat hlc
                  have hra : RowAt wc ga 0 (vC zv) := (hga.lat hlc).row
                  have hrb : RowAt wc gb 0 (vC zj) := hgb.row
                  clear HFJ hga hgb hlc hown5
                  cases e
                  · cases BB
                    · have HN : Hid (false = false ↔ AgrTo k qs i (j + 1)) := Lib.hid ⟨fun _ => HSTP2.out.2 ⟨HE0.out.1 rfl, fun _ h => (by cases h)⟩, fun _ => rfl⟩
                      clear HSTP2 HE0
                      go_wp2_with (first | (refine wpList_load_atG rfl 35 _ rfl ga 0 rfl _ _ hra Try.underlying35 rfl (by kernel_rfl) ?_) | (refine wpList_load_atG rfl 35 _ rfl gb 0 rfl _ _ hrb Try.underlying35 rfl (by kernel_rfl) ?_) | (refine wpl_neq_vG rfl _ _ _ rfl zv zj rfl rfl HE.out ?_))
                      go_roundw
                      case rel => exact ⟨j + 1, false, by omega, by go_num, rfl, HN, hown6, hL5⟩
                      case measure => simp [intOf]; omega
                    · cases BJ
                      · have HN : Hid (false = false ↔ AgrTo k qs i (j + 1)) := Lib.hid ⟨fun _ => HSTP2.out.2 ⟨HE0.out.1 rfl, fun h => (by cases h)⟩, fun _ => rfl⟩
                        clear HSTP2 HE0
                        go_wp2_with (first | (refine wpList_load_atG rfl 35 _ rfl ga 0 rfl _ _ hra Try.underlying35 rfl (by kernel_rfl) ?_) | (refine wpList_load_atG rfl 35 _ rfl gb 0 rfl _ _ hrb Try.underlying35 rfl (by kernel_rfl) ?_) | (refine wpl_neq_vG rfl _ _ _ rfl zv zj rfl rfl HE.out ?_))
                        go_roundw
                        case rel => exact ⟨j + 1, false, by omega, by go_num, rfl, HN, hown6, hL5⟩
                        case measure => simp [intOf]; omega
                      · by_cases hv : zv = zj
                        · have HE := Lib.hid (decide_eq_true hv)
                          have HN : Hid (false = false ↔ AgrTo k qs i (j + 1)) := Lib.hid ⟨fun _ => HSTP2.out.2 ⟨HE0.out.1 rfl, fun _ _ => hv.symm⟩, fun _ => rfl⟩
                          clear hv
                          clear HSTP2 HE0
                          go_wp2_with (first | (refine wpList_load_atG rfl 35 _ rfl ga 0 rfl _ _ hra Try.underlying35 rfl (by kernel_rfl) ?_) | (refine wpList_load_atG rfl 35 _ rfl gb 0 rfl _ _ hrb Try.underlying35 rfl (by kernel_rfl) ?_) | (refine wpl_neq_vG rfl _ _ _ rfl zv zj rfl rfl HE.out ?_))
                          go_roundw
                          case rel => exact ⟨j + 1, false, by omega, by go_num, rfl, HN, hown6, hL5⟩
                          case measure => simp [intOf]; omega
                        · have HE := Lib.hid (decide_eq_false hv)
                          have HN : Hid (true = false ↔ AgrTo k qs i (j + 1)) := Lib.hid ⟨fun h => (by cases h), fun h => absurd ((HSTP2.out.1 h).2 rfl rfl).symm hv⟩
                          clear hv
                          clear HSTP2 HE0
                          go_wp2_with (first | (refine wpList_load_atG rfl 35 _ rfl ga 0 rfl _ _ hra Try.underlying35 rfl (by kernel_rfl) ?_) | (refine wpList_load_atG rfl 35 _ rfl gb 0 rfl _ _ hrb Try.underlying35 rfl (by kernel_rfl) ?_) | (refine wpl_neq_vG rfl _ _ _ rfl zv zj rfl rfl HE.out ?_))
                          go_roundw
                          case rel => exact ⟨j + 1, true, by omega, by go_num, rfl, HN, hown6, hL5⟩
                          case measure => simp [intOf]; omega
                  · have HN : Hid (true = false ↔ AgrTo k qs i (j + 1)) := Lib.hid ⟨fun h => (by cases h), fun h => HE0.out.2 (HSTP2.out.1 h).1⟩
                    clear HSTP2 HE0
                    go_wp2_with (first | (refine wpList_load_atG rfl 35 _ rfl ga 0 rfl _ _ hra Try.underlying35 rfl (by kernel_rfl) ?_) | (refine wpList_load_atG rfl 35 _ rfl gb 0 rfl _ _ hrb Try.underlying35 rfl (by kernel_rfl) ?_) | (refine wpl_neq_vG rfl _ _ _ rfl zv zj rfl rfl HE.out ?_))
                    go_roundw
                    case rel => exact ⟨j + 1, true, by omega, by go_num, rfl, HN, hown6, hL5⟩
                    case measure => simp [intOf]; omega
            · have hji : j = i := by omega
              subst hji
              have HE1 : Hid (e = false ↔ AgrTo k qs (j + 1) 0) := Lib.hid (HE0.out.trans AgrTo.next)
              clear HE0
              go_wp2_with fail
              go_roundw
              case rel => exact ⟨j + 1, e, by omega, by go_num, rfl, HE1, hown, hLW⟩
              case measure => simp [intOf]; omega
        · have hie : i = qs.length := by omega
          subst hie
          have HF2 := Lib.hid (HE0.out.trans HALL.out)
          clear HE0
          cases e
          · have HR : Hid (R = false) := Lib.hid (HF2.out.1 rfl)
            clear HF2
            go_wp2_with fail
            go_roundw
            case rel => exact ⟨n + 1, by omega, by go_num, by rw [HTK.out, HR.out]; simpa using hown, hLW⟩
            case measure => simp [intOf]; omega
          · have HR : Hid (R = true) := Lib.hid (by
              cases hR : R
              · have := HF2.out.2 hR; cases this
              · rfl)
            clear HF2
            have hrke : RowAt wr bk (ok + n * 3) [.int .i64 k.dev, .string k.cl, .string k.at_] := hrk0.below hLW hbk0
            have hnew := Blk.new wr 33 #[.int .i64 k.dev, .string k.cl, .string k.at_]
            have hown6 := hown.al (.cells #[.int .i64 k.dev, .string k.cl, .string k.at_] 33)
            have hL6 : Lat w2 (wr.alloc (.cells #[.int .i64 k.dev, .string k.cl, .string k.at_] 33)) := hLW.trans (Lat.al _ _)
            have hbse := hL6.size
            have hmax : Y.length + 1 ≤ maxLen := by unfold maxLen; omega
            have hby : (Y.length + 1) * EK.bytes ≤ 140737488355328 := Nat.le_trans (Nat.mul_le_mul_right EK.bytes (by omega : Y.length + 1 ≤ 1000000)) (by decide)
            have HT2 := Lib.hid (fun k (hk : u7.ownBlock = some k) => (hown.lt k hk).1)
            clear hown hLW
            go_wp2_with (first | (with_reducible refine wpList_load_at rfl 33 _ rfl bk (ok + n * 3) rfl _ _ hrke Try.underlying33 rfl (by kernel_rfl) ?_) | (at_builtin; refine EK.append rfl _ _ rfl w2.heap.size Y _ rfl hown6 wr.heap.size 1 k rfl 33 hnew hmax hby hbse ?_; intro v8 w8 hown8 hg8 hw8; go_must (have hLW8 : Lat w2 w8 := hL6.grown hg8 hbse HT2.out; clear hnew hg8 hw8)))
            go_roundw
            case rel => exact ⟨n + 1, by omega, by go_num, by rw [HTK.out, HR.out]; exact hown8, hLW8⟩
            case measure => simp [intOf]; omega
    · have hj : n = ks.length := by omega
      subst hj
      rw [List.take_length] at hown
      go_wp2_with fail
      go_ret
      exact ⟨ks, _, rfl, hown.mono HL0.out.size, HKM.out.1, HKM.out.2, HL0.out.trans hLW⟩
end Go.Proofs.Ytmgalnbacenbbaa
