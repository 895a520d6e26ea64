/- Resolve: the reference's Decide. -/
import Derived.Test.YtmgalnbacenbbaaGreatVRefs
import Derived.Test.YtmgalnbacenbbaaGreatVDecs
set_option linter.unusedSimpArgs false
set_option linter.unusedVariables false
namespace Go.Proofs.YtmgalnbacenbbaaGreat
open Go.RowKit



theorem insB_len {α : Type} [DecidableEq α] (f : α → α → Bool) (x : α) : ∀ l : List α, (insB f l x).length ≤ l.length + 1
  | [] => by simp [insB]
  | y :: l => by
    rw [insB]
    split
    · have := insB_len f x l; simp; omega
    · split <;> simp
theorem insAll_len {α : Type} [DecidableEq α] (f : α → α → Bool) : ∀ (l acc : List α), (l.foldl (insB f) acc).length ≤ acc.length + l.length
  | [], acc => by simp
  | x :: l, acc => by
    rw [List.foldl_cons]
    have h1 := insAll_len f l (insB f acc x)
    have h2 := insB_len f x acc
    simp; omega
theorem keysR_len (l : List LW) : (keysR l).length ≤ l.length := by
  have := insAll_len kless (l.map LW.key) []
  unfold keysR; simpa using this
theorem allR_len (l : List LW) (k : LKey) : (allR l k).length ≤ l.length := by
  have h1 := insAll_len bef (l.filter (fun x => x.key = k)) []
  have h2 := List.length_filter_le (fun x : LW => decide (x.key = k)) l
  unfold allR; simp at h1; omega
theorem keysR_take (l : List LW) (j : Nat) (h : j < l.length) : keysR (l.take (j + 1)) = insB kless (keysR (l.take j)) l[j].key := by
  rw [List.take_succ_eq_append_getElem h, keysR, List.map_append, List.foldl_append]; rfl
theorem allR_take (l : List LW) (k : LKey) (j : Nat) (h : j < l.length) : allR (l.take (j + 1)) k = if l[j].key = k then insB bef (allR (l.take j) k) l[j] else allR (l.take j) k := by
  rw [List.take_succ_eq_append_getElem h, allR, List.filter_append, List.foldl_append]
  by_cases e : l[j].key = k
  · rw [if_pos e]; simp [e, allR]
  · rw [if_neg e]; simp [e, allR]
def zW : LW := ⟨⟨0, noStr, noStr⟩, ⟨0, 0, noStr⟩, 0, noStr, 0, 0⟩
def zD (k : LKey) : DR := ⟨k, zW, none, 0, 0, 0⟩
theorem own_zD {w : World} {base : Nat} {ks : List LKey} {v : Value} (h : EZ.Own w base ks v) : ED.Own w base (ks.map zD) v := by
  unfold Elt.Own at h ⊢
  rw [List.length_map, List.map_map]
  exact h
/-- What is laid in after a number of rounds. -/
structure Laid (l : List LW) (g : Nat) (w : World) (ks : List LKey) (rs : List DR) : Prop where
  len : rs.length ≤ ks.length
  row : ∀ (i : Nat) (h : i < rs.length) (h' : i < ks.length), rs[i].key = ks[i] ∧ rs[i].win = (decK l ks[i]).win ∧ rs[i].err = 0 ∧ EW.RdS g w (decK l ks[i]).los rs[i].sl
theorem Laid.step {l : List LW} {g : Nat} {w w' : World} {ks : List LKey} {rs : List DR} (h : Laid l g w ks rs) (ho : OnlyAt g w w') : Laid l g w' ks rs :=
  ⟨h.len, fun i a b => ⟨(h.row i a b).1, (h.row i a b).2.1, (h.row i a b).2.2.1, (h.row i a b).2.2.2.step ho⟩⟩
theorem Laid.snoc {l : List LW} {g : Nat} {w : World} {ks : List LKey} {rs : List DR} (h : Laid l g w ks rs) (hj : rs.length < ks.length) (r : DR) (h1 : r.key = ks[rs.length]) (h2 : r.win = (decK l ks[rs.length]).win) (h3 : r.err = 0) (h4 : EW.RdS g w (decK l ks[rs.length]).los r.sl) : Laid l g w ks (rs ++ [r]) := by
  refine ⟨by simp; omega, fun i a b => ?_⟩
  by_cases hi : i < rs.length
  · rw [List.getElem_append_left hi]; exact h.row i hi b
  · have e : i = rs.length := by simp at a; omega
    subst e
    rw [List.getElem_append_right (Nat.le_refl _)]
    simp only [Nat.sub_self, List.getElem_cons_zero]
    exact ⟨h1, h2, h3, h4⟩
theorem Laid.rd {l : List LW} {g base : Nat} {w : World} {rs : List DR} {v : Value} (h : Laid l g w (keysR l) rs) (hl : rs.length = (keysR l).length) (ho : ED.Own w base rs v) : RdD w (decR l) v := by
  refine ⟨rs, by rw [hl, decR, List.length_map], ho.rd, fun i a b => ?_⟩
  have hi : i < (keysR l).length := by omega
  obtain ⟨h1, h2, h3, h4⟩ := h.row i a hi
  have hk := decK_all (List.getElem_mem hi)
  have e : (decR l)[i] = decK l (keysR l)[i] := by simp [decR]
  rw [e]
  exact ⟨h1.trans hk.2.1.symm, h2, h3.trans hk.2.2.symm, h4.rd⟩
theorem Laid.toX {l : List LW} {g base : Nat} {w : World} {rs : List DR} {v : Value} (h : Laid l g w (keysR l) rs) (hl : rs.length = (keysR l).length) (ho : ED.Own w base rs v) (hg : ∀ g', 0 < rs.length → v.ownBlock = some g' → g' = g) : OwnX w base (decR l) v := by
  have hd : rs.length = (decR l).length := by rw [hl, decR, List.length_map]
  refine ⟨(decR l).zip rs, List.map_fst_zip (by omega), by rw [List.map_snd_zip (by omega)]; exact ho, fun p hp => ?_⟩
  obtain ⟨i, hi, rfl⟩ := List.mem_iff_getElem.1 hp
  have hir : i < rs.length := by rw [List.length_zip] at hi; omega
  have hik : i < (keysR l).length := by omega
  obtain ⟨h1, h2, h3, h4⟩ := h.row i hir hik
  have hk := decK_all (List.getElem_mem hik)
  have e : (decR l)[i] = decK l (keysR l)[i] := by simp [decR]
  rw [List.getElem_zip]
  dsimp only
  rw [e]
  exact ⟨h1.trans hk.2.1.symm, h2, h3.trans hk.2.2.symm, fun g' hg' => by obtain rfl := hg g' (by omega) hg'; exact h4⟩
theorem wC_key {w : World} {b off : Nat} {x : LW} (h : RowAt w b off (wC x)) : RowAt w b off (kC x.key) := fun q v hq => h q v (by
  match q, hq with
  | 0, hq => exact hq
  | 1, hq => exact hq
  | 2, hq => exact hq
  | q + 3, hq => simp [kC] at hq)
theorem DR_key {w : World} {b off : Nat} {r : DR} (h : RowAt w b off r.cells) : RowAt w b off (kC r.key) := fun q v hq => h q v (by
  match q, hq with
  | 0, hq => exact hq
  | 1, hq => exact hq
  | 2, hq => exact hq
  | q + 3, hq => simp [kC] at hq)
theorem set_mid {α : Type} (a b : α) : ∀ (rs t : List α), (rs ++ a :: t).set rs.length b = rs ++ b :: t
  | [], t => rfl
  | r :: rs, t => by simp [set_mid a b rs t]
theorem get_mid {α : Type} (a : α) (rs t : List α) (h : rs.length < (rs ++ a :: t).length) : (rs ++ a :: t)[rs.length] = a := by
  rw [List.getElem_append_right (Nat.le_refl _)]; simp
theorem own_key {w : World} {base g n c : Nat} {rs t : List DR} {r : DR} (h : ED.Own w base (rs ++ r :: t) (.slice (some ⟨g, 0, none⟩) n c)) : RowAt w g (rs.length * 15) (kC r.key) := by
  have hl : rs.length < (rs ++ r :: t).length := by simp
  refine DR_key (r := r) fun q v hq => ?_
  have hq' : q < 15 := (List.getElem?_eq_some_iff.1 hq).1
  have := h.cell rs.length q hl hq'
  rw [get_mid r rs t hl] at this
  exact this.trans hq
def z1 (K : LKey) (x : LW) : DR := ⟨K, x, none, 0, 0, 0⟩
def z2 (K : LKey) (x : LW) (A : Option Addr) (n c : Nat) : DR := ⟨K, x, A, n, c, 0⟩
noncomputable def z3 (K : LKey) (x : LW) (b n c : Nat) : DR := z2 K x (if c = 1 then some ⟨b, 0, none⟩ else (some ⟨b, 0, none⟩ : Option Addr).map (·.add (1 * EW.n))) (n - 1) (c - 1)
theorem z1_is (K : LKey) (x : LW) : ED.f (z1 K x) = splice (ED.f (zD K)) 3 (wC x) := rfl
theorem z2_is (K : LKey) (x : LW) (A : Option Addr) (n c : Nat) : ED.f (z2 K x A n c) = splice (ED.f (z1 K x)) 13 [.slice A n c] := rfl
set_option maxRecDepth 100000 in
set_option maxHeartbeats 4000000 in
theorem rdecide_any (l : List LW) (A : Option Addr) (c : Nat) (w : World) (hx : EW.Rd w l (.slice A l.length c)) (hl : l.length ≤ 100000) :
    Calls Tryz.prog 20 #[.slice A l.length c] w fun r w' => (∃ v, r = .returned v ∧ OwnX w' w.heap.size (decR l) v) ∧ Lat w w' := by
  have HP := fun (ks : List LKey) (x : LKey) (v : Value) (w1 : World) (h1 : EZ.Own w1 w.heap.size ks v) (h2 : w.heap.size ≤ w1.heap.size) (h3 : ks.length ≤ 100000) => Lib.hid (place_any ks x v w.heap.size w1 h1 h2 h3)
  have HI := fun (xs : List LW) (x : LW) (v : Value) (base : Nat) (w1 : World) (h1 : EW.Own w1 base xs v) (h2 : base ≤ w1.heap.size) (h3 : xs.length ≤ 100000) => Lib.hid (insert_any xs x v base w1 h1 h2 h3)
  go_enter Tryz.func20, Tryz.ntmps20
  go_wp2_with fail
  go_loopw [3, 4] (fun v i wr => ∃ j : Nat, j ≤ l.length ∧ i = .int .i64 j ∧ EZ.Own wr w.heap.size (keysR (l.take j)) v ∧ Lat w wr) (fun _ i _ => l.length - (intOf i).toNat)
  case atStart => exact ⟨0, Nat.zero_le _, rfl, Elt.Own.nil _ _, Lat.refl _⟩
  case round =>
    obtain ⟨j, hjl, rfl, hown, hLW⟩ := hrel
    by_cases hlt : j < l.length
    · obtain ⟨b, off, hA, hb1, hr1'⟩ := (hx.lat hLW).row j hlt
      subst hA
      have hk1 : RowAt wr b (off + j * 10) (kC l[j].key) := wC_key hr1'
      clear hr1'
      have hlen : (keysR (l.take j)).length ≤ 100000 := Nat.le_trans (keysR_len _) (by rw [List.length_take]; omega)
      have HQ := HP _ l[j].key u3 wr hown hLW.size hlen
      rw [← keysR_take l j hlt] at HQ
      clear hlen
      go_wp2_with (with_reducible refine wpList_load_at rfl 34 _ rfl b (off + j * 10) rfl _ _ hk1 Tryz.underlying34 rfl (by kernel_rfl) ?_)
      refine HQ.out.mono ?_
      rintro r w2 ⟨⟨v2, rfl, hown2⟩, hl2⟩
      have hL2 := hLW.trans hl2
      clear HQ hk1 hown hl2
      go_wp2_with fail
      go_roundw
      case rel => exact ⟨j + 1, by omega, by go_num, hown2, hL2⟩
      case measure => simp [intOf]; omega
    · have hj : j = l.length := by omega
      rw [hj, List.take_length] at hown
      clear hj HP
      have hzero := own_zD hown
      have hkl := keysR_len l
      generalize hks : keysR l = ks at *
      have HKS := Lib.hid hks
      clear hks hown
      obtain ⟨A3, c3, rfl⟩ := hzero.slice
      rw [List.length_map] at *
      obtain ⟨g, hg⟩ : ∃ g, 0 < ks.length → A3 = some ⟨g, 0, none⟩ := by
        by_cases h0 : 0 < ks.length
        · obtain ⟨g, cap, hv, _⟩ := hzero.form (by simpa using h0)
          injection hv with e1
          exact ⟨g, fun _ => e1⟩
        · exact ⟨0, fun h => absurd h h0⟩
      have H0 := Lib.hid hzero
      have HL0 := Lib.hid hLW
      have HG := Lib.hid hg
      have hkb : ks.length ≤ 100000 := by omega
      clear hzero hLW hg hkl
      go_wp2_with fail
      clear hlt hjl
      go_loopw [5] (fun i wr2 => ∃ rs : List DR, i = .int .i64 rs.length ∧ Laid l g wr2 ks rs ∧ ED.Own wr2 w.heap.size (rs ++ (ks.drop rs.length).map zD) (.slice A3 ks.length c3) ∧ Lat w wr2) (fun i _ => ks.length - (intOf i).toNat)
      case atStart => exact ⟨[], rfl, ⟨Nat.zero_le _, fun i h => absurd h (Nat.not_lt_zero _)⟩, H0.out, HL0.out⟩
      case round =>
        clear H0 HL0
        obtain ⟨rs, rfl, hlaid, hownD, hLW⟩ := hrel
        obtain ⟨wr2, rfl⟩ : ∃ w, w = wr := ⟨_, rfl⟩
        by_cases hq : rs.length < ks.length
        · obtain rfl := HG.out (by omega)
          have hdk : ks.drop rs.length = ks[rs.length] :: ks.drop (rs.length + 1) := List.drop_eq_getElem_cons hq
          rw [hdk, List.map_cons] at hownD
          have hmem : ks[rs.length] ∈ keysR l := by rw [HKS.out]; exact List.getElem_mem hq
          obtain ⟨KK, hK⟩ : ∃ KK, ks[rs.length] = KK := ⟨_, rfl⟩
          rw [hK] at hownD hmem
          have HKK := Lib.hid hK
          generalize hrest : (ks.drop (rs.length + 1)).map zD = rest at *
          have HREST := Lib.hid hrest
          have HLAID := Lib.hid hlaid
          have HLW := Lib.hid hLW
          have HOD := Lib.hid hownD
          have hgl0 : g < wr2.heap.size := hownD.base_le.2
          have HMEM := Lib.hid hmem
          clear hdk hK hrest hlaid hLW hownD hmem HG
          go_wp2_with fail
          go_loopw [6, 7] (fun av kv w3 => ∃ m : Nat, m ≤ l.length ∧ kv = .int .i64 m ∧ EW.Own w3 wr2.heap.size (allR (l.take m) KK) av ∧ Lat wr2 w3) (fun _ kv _ => l.length - (intOf kv).toNat)
          case atStart => exact ⟨0, Nat.zero_le _, rfl, Elt.Own.nil _ _, Lat.refl _⟩
          case round =>
            obtain ⟨m, hml, rfl, hall, hL3⟩ := hrel
            obtain ⟨w3, rfl⟩ : ∃ w, w = wr := ⟨_, rfl⟩
            by_cases hlt : m < l.length
            · obtain ⟨b, off, hA, hb1, hr1'⟩ := (hx.lat (HLW.out.trans hL3)).row m hlt
              subst hA
              have hr1 : RowAt w3 b (off + m * 10) (wC l[m]) := hr1'
              have hkl : RowAt w3 b (off + m * 10) (kC l[m].key) := wC_key hr1'
              have hkd : RowAt w3 g (rs.length * 15) (kC KK) := own_key (HOD.out.lat hL3)
              have hgl : g < w3.heap.size := Nat.lt_of_lt_of_le hgl0 hL3.size
              have hlen : (allR (l.take m) KK).length ≤ 100000 := Nat.le_trans (allR_len _ _) (by rw [List.length_take]; omega)
              have htk := allR_take l KK m hlt
              clear hr1'
              by_cases he : l[m].key = KK
              · have HE := Lib.hid (decide_eq_true he)
                rw [if_pos he] at htk
                clear he
                go_wp2_with fail
                refine wp_rely (by kernel_rfl) (by kernel_rfl) ?_
                apply RelyL.val
                · intro ν w' hL hF K hK'
                  go_simp
                  exact hK'.out _ _ rfl (Lat.refl _)
                simp only [Act.put, List.setIfInBounds_toArray, List.set_cons_zero, List.set_cons_succ, Nat.reduceAdd]
                apply RelyL.val
                · intro ν w' hL hF K hK'
                  go_simp
                  exact hK'.out _ _ rfl (Lat.refl _)
                simp only [Act.put, List.setIfInBounds_toArray, List.set_cons_zero, List.set_cons_succ, Nat.reduceAdd]
                apply RelyL.val
                · intro ν w' hL hF K hK'
                  go_simp
                  exact hK'.out _ _ rfl (Lat.refl _)
                simp only [Act.put, List.setIfInBounds_toArray, List.set_cons_zero, List.set_cons_succ, Nat.reduceAdd]
                apply RelyL.val
                · intro ν w' hL hF K hK'
                  go_simp
                  exact hK'.out _ _ rfl (Lat.refl _)
                simp only [Act.put, List.setIfInBounds_toArray, List.set_cons_zero, List.set_cons_succ, Nat.reduceAdd]
                apply RelyL.val
                · intro ν w' hL hF K hK'
                  refine take_op rfl ?_
                  refine wp_load_at 34 _ rfl b ((off + m * 10)) rfl _ _ (hkl.below hL hb1) Tryz.underlying34 rfl (by kernel_rfl) ?_
                  exact hK'.out _ _ rfl (Lat.refl _)
                simp only [Act.put, List.setIfInBounds_toArray, List.set_cons_zero, List.set_cons_succ, Nat.reduceAdd]
                apply RelyL.val
                · intro ν w' hL hF K hK'
                  go_simp
                  exact hK'.out _ _ rfl (Lat.refl _)
                simp only [Act.put, List.setIfInBounds_toArray, List.set_cons_zero, List.set_cons_succ, Nat.reduceAdd]
                apply RelyL.val
                · intro ν w' hL hF K hK'
                  go_simp
                  exact hK'.out _ _ rfl (Lat.refl _)
                simp only [Act.put, List.setIfInBounds_toArray, List.set_cons_zero, List.set_cons_succ, Nat.reduceAdd]
                apply RelyL.val
                · intro ν w' hL hF K hK'
                  go_simp
                  exact hK'.out _ _ rfl (Lat.refl _)
                simp only [Act.put, List.setIfInBounds_toArray, List.set_cons_zero, List.set_cons_succ, Nat.reduceAdd]
                apply RelyL.val
                · intro ν w' hL hF K hK'
                  go_simp
                  exact hK'.out _ _ rfl (Lat.refl _)
                simp only [Act.put, List.setIfInBounds_toArray, List.set_cons_zero, List.set_cons_succ, Nat.reduceAdd]
                apply RelyL.val
                · intro ν w' hL hF K hK'
                  refine take_op rfl ?_
                  refine wp_load_at 34 _ rfl g ((rs.length * 15)) rfl _ _ (hkd.below hL hgl) Tryz.underlying34 rfl (by kernel_rfl) ?_
                  exact hK'.out _ _ rfl (Lat.refl _)
                simp only [Act.put, List.setIfInBounds_toArray, List.set_cons_zero, List.set_cons_succ, Nat.reduceAdd]
                apply RelyL.val
                · intro ν w' hL hF K hK'
                  refine take_op rfl ?_
                  refine wp_eql_k _ _ _ rfl l[m].key KK rfl rfl HE.out ?_
                  exact hK'.out _ _ rfl (Lat.refl _)
                simp only [Act.put, List.setIfInBounds_toArray, List.set_cons_zero, List.set_cons_succ, Nat.reduceAdd]
                refine RelyL.done fun ν w4 hL hF => ?_
                clear hF
                have HQ := HI _ l[m] u6 wr2.heap.size w4 (hall.lat hL) (Nat.le_trans hL3.size hL.size) hlen
                rw [← htk] at HQ
                have hr2 := hr1.below hL hb1
                have hL4 := hL3.trans hL
                clear htk HE hr1 hkl hkd hL hL3 hall hlen
                go_wp2_with (with_reducible refine wpList_load_at rfl 44 _ rfl b (off + m * 10) rfl _ _ hr2 Tryz.underlying44 rfl (by kernel_rfl) ?_)
                refine HQ.out.mono ?_
                rintro r w5 ⟨⟨v5, rfl, hall5⟩, hl5⟩
                have hL5 := hL4.trans hl5
                clear HQ hr2 hL4 hl5
                go_wp2_with fail
                go_roundw
                case rel => exact ⟨m + 1, by omega, by go_num, hall5, hL5⟩
                case measure => simp [intOf]; omega
              · have HE := Lib.hid (decide_eq_false he)
                rw [if_neg he] at htk
                clear he
                go_wp2_with fail
                refine wp_rely (by kernel_rfl) (by kernel_rfl) ?_
                apply RelyL.val
                · intro ν w' hL hF K hK'
                  go_simp
                  exact hK'.out _ _ rfl (Lat.refl _)
                simp only [Act.put, List.setIfInBounds_toArray, List.set_cons_zero, List.set_cons_succ, Nat.reduceAdd]
                apply RelyL.val
                · intro ν w' hL hF K hK'
                  go_simp
                  exact hK'.out _ _ rfl (Lat.refl _)
                simp only [Act.put, List.setIfInBounds_toArray, List.set_cons_zero, List.set_cons_succ, Nat.reduceAdd]
                apply RelyL.val
                · intro ν w' hL hF K hK'
                  go_simp
                  exact hK'.out _ _ rfl (Lat.refl _)
                simp only [Act.put, List.setIfInBounds_toArray, List.set_cons_zero, List.set_cons_succ, Nat.reduceAdd]
                apply RelyL.val
                · intro ν w' hL hF K hK'
                  go_simp
                  exact hK'.out _ _ rfl (Lat.refl _)
                simp only [Act.put, List.setIfInBounds_toArray, List.set_cons_zero, List.set_cons_succ, Nat.reduceAdd]
                apply RelyL.val
                · intro ν w' hL hF K hK'
                  refine take_op rfl ?_
                  refine wp_load_at 34 _ rfl b ((off + m * 10)) rfl _ _ (hkl.below hL hb1) Tryz.underlying34 rfl (by kernel_rfl) ?_
                  exact hK'.out _ _ rfl (Lat.refl _)
                simp only [Act.put, List.setIfInBounds_toArray, List.set_cons_zero, List.set_cons_succ, Nat.reduceAdd]
                apply RelyL.val
                · intro ν w' hL hF K hK'
                  go_simp
                  exact hK'.out _ _ rfl (Lat.refl _)
                simp only [Act.put, List.setIfInBounds_toArray, List.set_cons_zero, List.set_cons_succ, Nat.reduceAdd]
                apply RelyL.val
                · intro ν w' hL hF K hK'
                  go_simp
                  exact hK'.out _ _ rfl (Lat.refl _)
                simp only [Act.put, List.setIfInBounds_toArray, List.set_cons_zero, List.set_cons_succ, Nat.reduceAdd]
                apply RelyL.val
                · intro ν w' hL hF K hK'
                  go_simp
                  exact hK'.out _ _ rfl (Lat.refl _)
                simp only [Act.put, List.setIfInBounds_toArray, List.set_cons_zero, List.set_cons_succ, Nat.reduceAdd]
                apply RelyL.val
                · intro ν w' hL hF K hK'
                  go_simp
                  exact hK'.out _ _ rfl (Lat.refl _)
                simp only [Act.put, List.setIfInBounds_toArray, List.set_cons_zero, List.set_cons_succ, Nat.reduceAdd]
                apply RelyL.val
                · intro ν w' hL hF K hK'
                  refine take_op rfl ?_
                  refine wp_load_at 34 _ rfl g ((rs.length * 15)) rfl _ _ (hkd.below hL hgl) Tryz.underlying34 rfl (by kernel_rfl) ?_
                  exact hK'.out _ _ rfl (Lat.refl _)
                simp only [Act.put, List.setIfInBounds_toArray, List.set_cons_zero, List.set_cons_succ, Nat.reduceAdd]
                apply RelyL.val
                · intro ν w' hL hF K hK'
                  refine take_op rfl ?_
                  refine wp_eql_k _ _ _ rfl l[m].key KK rfl rfl HE.out ?_
                  exact hK'.out _ _ rfl (Lat.refl _)
                simp only [Act.put, List.setIfInBounds_toArray, List.set_cons_zero, List.set_cons_succ, Nat.reduceAdd]
                refine RelyL.done fun ν w4 hL hF => ?_
                clear hF
                have hall4 := hall.lat hL
                rw [← htk] at hall4
                have hL4 := hL3.trans hL
                clear htk HE hr1 hkl hkd hL hL3 hall hlen
                go_wp2_with fail
                go_roundw
                case rel => exact ⟨m + 1, by omega, by go_num, hall4, hL4⟩
                case measure => simp [intOf]; omega
            · have d1 : l.take m = l := List.take_of_length_le (by omega)
              rw [d1] at hall
              clear d1 HI
              obtain ⟨x, r, hxr⟩ : ∃ x r, allR l KK = x :: r := by
                obtain ⟨y, hy, hyk⟩ := mem_keysR.1 HMEM.out
                have hm : y ∈ allR l KK := mem_allR.2 ⟨hy, hyk⟩
                cases ha : allR l KK with
                | nil => rw [ha] at hm; cases hm
                | cons x r => exact ⟨x, r, rfl⟩
              have hdec : decK l KK = ⟨KK, x, r, 0⟩ := by unfold decK; rw [hxr]
              rw [hxr] at hall
              obtain ⟨b6, c6, rfl, hb6, hb6l⟩ := hall.form (by simp)
              have hr6 : RowAt w3 b6 0 (wC x) := by
                obtain ⟨b, off, e, _, hrow⟩ := hall.rd.row 0 (by simp)
                injection e with e; injection e with e1 e2; subst e1 e2
                rw [Nat.zero_mul] at hrow
                exact hrow
              have hn0 : 0 < (x :: r).length := by simp
              have hS : EW.RdS g w3 r (EW.sl (some ⟨b6, 0, none⟩) (x :: r).length c6 1) := hall.slS hgl0 1 (by simp)
              have hD3 := HOD.out.lat hL3
              have HDEC := Lib.hid hdec
              have HL3 := Lib.hid hL3
              clear hall hxr hdec hL3 hb6 hb6l
              generalize (x :: r).length = n6 at *
              have HS := Lib.hid hS
              have hsl : ∀ w, (Instr.slice 45 (.slice (some ⟨b6, 0, none⟩) n6 c6) (some (.int .i64 1)) none none).run Tryz.prog w = .ok (EW.sl (some ⟨b6, 0, none⟩) n6 c6 1) w := fun w => EW.run_sl (some ⟨b6, 0, none⟩) n6 c6 1 hn0 w
              have HJ : Hid (rs.length < (rs ++ zD KK :: rest).length) := Lib.hid (by simp)
              have HJ2 : Hid (rs.length < (rs ++ z1 KK x :: rest).length) := Lib.hid (by simp)
              have HZ1 : Hid (ED.f (z1 KK x) = splice (ED.f ((rs ++ zD KK :: rest)[rs.length]'HJ.out)) 3 (wC x)) := Lib.hid (by rw [get_mid]; exact z1_is KK x)
              have HZ2 : Hid (ED.f (z3 KK x b6 n6 c6) = splice (ED.f ((rs ++ z1 KK x :: rest)[rs.length]'HJ2.out)) 13 [EW.sl (some ⟨b6, 0, none⟩) n6 c6 1]) := Lib.hid (by rw [get_mid]; exact z2_is KK x _ _ _)
              have HIW : Hid ((Tryz.prog.info? 44).map (·.size) = some 10) := Lib.hid (by kernel_rfl)
              have HIS : Hid ((Tryz.prog.info? 45).map (·.size) = some 1) := Lib.hid (by kernel_rfl)
              clear hS
              go_wp2_with (first | (with_reducible refine wpList_load_at rfl 44 _ rfl b6 0 rfl _ _ hr6 Tryz.underlying44 rfl (by kernel_rfl) ?_) | (refine ED.put rfl 44 _ _ rfl w.heap.size (rs ++ zD KK :: rest) g ks.length c3 hD3 rs.length 3 HJ.out (rs.length * 15 + 3) rfl rfl (.agg (wC x).toArray) rfl HIW.out (EW.one x) (by show 3 + 10 ≤ 15; decide) (z1 KK x) HZ1.out ?_; intro w5 hD5 ho5 hb5; go_must (rw [set_mid] at hD5; clear hD3 hr6)) | (refine ED.put rfl 45 _ _ rfl w.heap.size (rs ++ z1 KK x :: rest) g ks.length c3 hD5 rs.length 13 HJ2.out (rs.length * 15 + 13) rfl rfl (EW.sl (some ⟨b6, 0, none⟩) n6 c6 1) rfl HIS.out (fun v hv => by rw [List.mem_singleton.1 hv]; rfl) (by show 13 + 1 ≤ 15; decide) (z3 KK x b6 n6 c6) HZ2.out ?_; intro w6 hD6 ho6 hb6; go_must (rw [set_mid] at hD6; clear hD5)))
              go_roundw
              case rel =>
                refine ⟨rs ++ [z3 KK x b6 n6 c6], by simp only [List.length_append, List.length_singleton]; go_num, ?_, ?_, ?_⟩
                · have h1 := ((HLAID.out.step (OnlyAt.lat HL3.out)).step ho5).step ho6
                  exact h1.snoc hq _ HKK.out.symm (by rw [HKK.out, HDEC.out]; rfl) rfl (by rw [HKK.out, HDEC.out]; exact (HS.out.step ho5).step ho6)
                · rw [List.length_append, List.length_singleton, HREST.out, List.append_assoc]
                  exact hD6
                · exact Below.trans (Below.trans (HLW.out.trans HL3.out) hb5) hb6
              case measure => simp [intOf]; omega
        · have hfull : rs.length = ks.length := Nat.le_antisymm hlaid.len (by omega)
          have hRd : OwnX wr2 w.heap.size (decR l) (.slice A3 ks.length c3) := by
            have HG2 := HG.out
            rw [hfull, List.drop_length, List.map_nil, List.append_nil] at hownD
            rw [← HKS.out] at hlaid hfull
            exact hlaid.toX hfull hownD (fun g' h0 hg' => by rw [HG2 (by rw [← HKS.out]; omega)] at hg'; injection hg' with e; exact e.symm)
          clear hfull hlaid hownD
          go_wp2_with fail
          go_ret
          exact ⟨⟨_, rfl, hRd⟩, hLW⟩
end Go.Proofs.YtmgalnbacenbbaaGreat
