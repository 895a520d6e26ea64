/- Keys in order: the reference's Keys. -/
import Derived.Test.YtnelgblmogciiaaKPut
import Derived.Test.YtnelgblmogciiaaSize
set_option linter.unusedSimpArgs false
set_option linter.unusedVariables false
namespace Go.Proofs.Ytnelgblmogciiaa
open Go.RowKit

theorem readsL_drop (ks : List LExpr) (k : Nat) (hk : k < ks.length) : readsL (ks.drop k) = readsE ks[k] ++ readsL (ks.drop (k + 1)) := by
  rw [List.drop_eq_getElem_cons hk, readsL]
/-- A slice of keys as a call hands it on. -/
def KRows (w : World) (l : List LKey) (v : Value) : Prop := ∃ A c, v = .slice A l.length c ∧ IsRows w.heap.size w 3 (l.map kcells) A
theorem KRows.lat {w w' : World} {l : List LKey} {v : Value} (h : KRows w l v) (hl : Lat w w') : KRows w' l v := by
  obtain ⟨A, c, hv, hr⟩ := h
  exact ⟨A, c, hv, (hr.carry hl).mono hl.size⟩
theorem KRows.nil (w : World) : KRows w [] (.slice none 0 0) := ⟨none, 0, rfl, fun h => by simp at h⟩

set_option maxRecDepth 100000 in
set_option maxHeartbeats 1000000 in
theorem read_any (e : LExpr) : ∀ (cs : List Value) (B : Nat) (l : List LKey) (Al : Option Addr) (cl : Nat) (w : World), B ≤ w.heap.size → IsExpr B w e cs → IsRows w.heap.size w 3 (l.map kcells) Al → KSorted l → l.length + (readsE e).length ≤ 1000000 →
    Calls Try.prog 58 #[.agg cs.toArray, .slice Al l.length cl] w fun r w' => (∃ v, r = .returned v ∧ KRows w' ((readsE e).foldl insK l) v) ∧ Below w.heap.size w w' := by
  induction e using LExpr.ind with | _ hd ks ih => ?_
  intro cs B l Al cl w hB he hl hso hmx
  cases he with
  | mk _ _ A c b off cs ok hlen hA hsz hrow hk =>
  have hlk2 : ks.length ≤ 140737488351232 := by omega
  have hR : (readsE (.mk hd ks)).foldl insK l = (readsL ks).foldl insK ((headK hd).foldl insK l) := by rw [readsE, List.foldl_append]
  rw [readsE, List.length_append] at hmx
  generalize (readsE (.mk hd ks)).foldl insK l = R at *
  have hb0 := (Below.refl w.heap.size w).al (.cells (hd.cells (.slice A ks.length c)).toArray 32)
  have hx0 := Blk.new w 32 (hd.cells (.slice A ks.length c)).toArray
  have hl0 := (hl.carry hb0).mono hb0.size
  by_cases hk2 : hd.kind = 2
  · have e1 : headK hd = [hd.key] := if_pos hk2
    rw [e1] at hR hmx
    have HP := Lib.hid (put_any l hd.key Al cl w.heap.size (w.alloc (.cells (hd.cells (.slice A ks.length c)).toArray 32)) hb0.size ((hl.carry hb0)) (Nat.le_trans (Nat.mul_le_mul_right 40 (by omega : l.length + 2 ≤ 1000002)) (by decide)))
    rw [putK_any l hd.key hso] at HP
    have HR1 : Hid (R = (readsL (ks.drop 0)).foldl insK (insK l hd.key)) := Lib.hid (by rw [List.drop_zero]; exact hR)
    have HS1 := Lib.hid (sorted_insK l hd.key hso)
    have HM1 : Hid ((insK l hd.key).length + (readsL (ks.drop 0)).length ≤ 1000000) := Lib.hid (by have := len_insK l hd.key; rw [List.drop_zero]; simp only [List.length_cons, List.length_nil] at hmx; omega)
    clear hR hmx hso hl hl0
    generalize insK l hd.key = l1 at *
    obtain ⟨kd, n, m, nm, vk, vn, vs, dv, cl', at_⟩ := hd
    dsimp only at hk2
    subst hk2
    go_enter Try.func58, Try.ntmps58
    unfold Hd.cells at hb0 hx0 HP ⊢
    go_wp2_with fail
    refine HP.out.mono ?_
    rintro r w1 ⟨⟨A1, c1, rfl, hr1⟩, hb1'⟩
    have hb1 := hb0.th hb1'
    have hs1 := hb1'.size
    rw [World.size_alloc] at hs1
    replace hs1 : w.heap.size < w1.heap.size := hs1
    have hc1 := (hx0.below hb1').cell 10
    replace hc1 : w1.cell? ⟨w.heap.size, 10, none⟩ = some (.slice A ks.length c) := hc1
    have hv1 : KRows w1 l1 (.slice A1 l1.length c1) := ⟨A1, c1, rfl, hr1⟩
    clear HP hb1' hb0 hx0 hr1
    go_wp2_with fail
    go_loopw [1, 5] (fun v i wr => ∃ (k : Nat) (l' : List LKey), k ≤ ks.length ∧ i = .int .i64 k ∧ KRows wr l' v ∧ Hid (R = (readsL (ks.drop k)).foldl insK l') ∧ Hid (KSorted l') ∧ Hid (l'.length + (readsL (ks.drop k)).length ≤ 1000000) ∧ Below w.heap.size w wr ∧ w.heap.size < wr.heap.size ∧ wr.cell? ⟨w.heap.size, 10, none⟩ = some (.slice A ks.length c)) (fun _ i _ => ks.length - (intOf i).toNat)
    case atStart => exact ⟨0, l1, Nat.zero_le _, rfl, hv1, HR1, HS1, HM1, hb1, hs1, hc1⟩
    case round =>
      clear HR1 HS1 HM1 hb1 hs1 hc1 hv1
      obtain ⟨k, l', hkl, rfl, ⟨A', c', rfl, hr'⟩, HQ, HS, HM, hbw, hsz2, hc⟩ := hrel
      by_cases hlk : k < ks.length
      · obtain ⟨rfl, hbB⟩ := hA (by omega)
        have hr := (hrow k hlk).below hbw (Nat.lt_of_lt_of_le hbB hB)
        have hd1 := readsL_drop ks k hlk
        have hq := HQ.out
        have hm := HM.out
        rw [hd1, List.foldl_append] at hq
        rw [hd1, List.length_append] at hm
        have hlen' := len_foldK (readsE ks[k]) l'
        have HI := Lib.hid (ih k hlk (cs k) B l' A' c' wr (by omega) ((hk k hlk).carry (hbw.mono hB)) hr' HS.out (by omega))
        have HX := Lib.hid hq
        have HSX := Lib.hid (sorted_foldK (readsE ks[k]) l' HS.out)
        have HMX : Hid (((readsE ks[k]).foldl insK l').length + (readsL (ks.drop (k + 1))).length ≤ 1000000) := Lib.hid (by omega)
        clear ih hA hrow hk HQ HS HM hq hm hd1 hlen'
        generalize (readsE ks[k]).foldl insK l' = l2 at *
        go_wp2_with (first | (with_reducible refine wpList_load_at rfl 32 _ rfl b (off + k * 11) rfl (cs k) _ hr Try.underlying32 rfl (by rw [hsz]; kernel_rfl) ?_))
        refine HI.out.mono ?_
        rintro r w3 ⟨⟨v3, rfl, hv3⟩, hb3⟩
        have hc3 := (hb3.cell (p := ⟨w.heap.size, 10, none⟩) hsz2).trans hc
        have hs3 := Nat.lt_of_lt_of_le hsz2 hb3.size
        clear HI
        go_wp2_with fail
        exact ⟨⟨k + 1, l2, by omega, by go_num, hv3, HX, HSX, HMX, hbw.th hb3, hs3, hc3⟩, by simp [intOf]; omega⟩
      · have hq := HQ.out
        rw [List.drop_of_length_le (by omega), readsL, List.foldl_nil] at hq
        have HF := Lib.hid hq
        clear hq HQ
        go_wp2_with fail
        go_ret
        exact ⟨⟨_, rfl, by rw [HF.out]; exact ⟨A', c', rfl, hr'⟩⟩, hbw⟩
  · have e1 : headK hd = [] := if_neg hk2
    rw [e1] at hR hmx
    rw [List.foldl_nil] at hR
    obtain ⟨l1, hl1⟩ : ∃ l1, l1 = l := ⟨_, rfl⟩
    rw [← hl1] at hR hmx hso hl0 ⊢
    have HR1 : Hid (R = (readsL (ks.drop 0)).foldl insK l1) := Lib.hid (by rw [List.drop_zero]; exact hR)
    have HS1 := Lib.hid hso
    have HM1 : Hid (l1.length + (readsL (ks.drop 0)).length ≤ 1000000) := Lib.hid (by rw [List.drop_zero]; simpa using hmx)
    have hv1 : KRows _ l1 (.slice Al l1.length cl) := ⟨Al, cl, rfl, by rw [hl1]; rw [hl1] at hl0; exact hl0⟩
    clear hR hmx hso hl hl0 hl1
    have hq2 : (hd.kind == 2) = false := by simpa using hk2
    have hb1 := hb0
    have hs1 : w.heap.size < (w.alloc (.cells (hd.cells (.slice A ks.length c)).toArray 32)).heap.size := by rw [World.size_alloc]; omega
    have hc1 := hx0.cell 10
    clear hb0 hx0
    go_enter Try.func58, Try.ntmps58
    unfold Hd.cells at hb1 hs1 hc1 hv1 ⊢
    replace hc1 : (w.alloc _).cell? ⟨w.heap.size, 10, none⟩ = some (.slice A ks.length c) := hc1
    go_wp2_with fail
    go_loopw [1, 5] (fun v i wr => ∃ (k : Nat) (l' : List LKey), k ≤ ks.length ∧ i = .int .i64 k ∧ KRows wr l' v ∧ Hid (R = (readsL (ks.drop k)).foldl insK l') ∧ Hid (KSorted l') ∧ Hid (l'.length + (readsL (ks.drop k)).length ≤ 1000000) ∧ Below w.heap.size w wr ∧ w.heap.size < wr.heap.size ∧ wr.cell? ⟨w.heap.size, 10, none⟩ = some (.slice A ks.length c)) (fun _ i _ => ks.length - (intOf i).toNat)
    case atStart => exact ⟨0, l1, Nat.zero_le _, rfl, hv1, HR1, HS1, HM1, hb1, hs1, hc1⟩
    case round =>
      clear HR1 HS1 HM1 hb1 hs1 hc1 hv1
      obtain ⟨k, l', hkl, rfl, ⟨A', c', rfl, hr'⟩, HQ, HS, HM, hbw, hsz2, hc⟩ := hrel
      by_cases hlk : k < ks.length
      · obtain ⟨rfl, hbB⟩ := hA (by omega)
        have hr := (hrow k hlk).below hbw (Nat.lt_of_lt_of_le hbB hB)
        have hd1 := readsL_drop ks k hlk
        have hq := HQ.out
        have hm := HM.out
        rw [hd1, List.foldl_append] at hq
        rw [hd1, List.length_append] at hm
        have hlen' := len_foldK (readsE ks[k]) l'
        have HI := Lib.hid (ih k hlk (cs k) B l' A' c' wr (by omega) ((hk k hlk).carry (hbw.mono hB)) hr' HS.out (by omega))
        have HX := Lib.hid hq
        have HSX := Lib.hid (sorted_foldK (readsE ks[k]) l' HS.out)
        have HMX : Hid (((readsE ks[k]).foldl insK l').length + (readsL (ks.drop (k + 1))).length ≤ 1000000) := Lib.hid (by omega)
        clear ih hA hrow hk HQ HS HM hq hm hd1 hlen'
        generalize (readsE ks[k]).foldl insK l' = l2 at *
        go_wp2_with (first | (with_reducible refine wpList_load_at rfl 32 _ rfl b (off + k * 11) rfl (cs k) _ hr Try.underlying32 rfl (by rw [hsz]; kernel_rfl) ?_))
        refine HI.out.mono ?_
        rintro r w3 ⟨⟨v3, rfl, hv3⟩, hb3⟩
        have hc3 := (hb3.cell (p := ⟨w.heap.size, 10, none⟩) hsz2).trans hc
        have hs3 := Nat.lt_of_lt_of_le hsz2 hb3.size
        clear HI
        go_wp2_with fail
        exact ⟨⟨k + 1, l2, by omega, by go_num, hv3, HX, HSX, HMX, hbw.th hb3, hs3, hc3⟩, by simp [intOf]; omega⟩
      · have hq := HQ.out
        rw [List.drop_of_length_le (by omega), readsL, List.foldl_nil] at hq
        have HF := Lib.hid hq
        clear hq HQ
        go_wp2_with fail
        go_ret
        exact ⟨⟨_, rfl, by rw [HF.out]; exact ⟨A', c', rfl, hr'⟩⟩, hbw⟩
set_option maxRecDepth 100000 in
theorem rkeys_any (e : LExpr) (cs : List Value) (B : Nat) (w : World) (hB : B ≤ w.heap.size) (he : IsExpr B w e cs) (hm : (readsE e).length ≤ 1000000) :
    Calls Try.prog 35 #[.agg cs.toArray] w fun r w' => (∃ v, r = .returned v ∧ KRows w' (keysE e) v) ∧ Below w.heap.size w w' := by
  obtain ⟨hd, ks, A, c, hE, rfl, hlen⟩ := he.form
  have HI := fun o => Lib.hid (read_any e (hd.cells (.slice A ks.length c)) B [] none 0 (w.alloc o) (by simp; omega) (he.carry ((Below.refl B w).alloc hB o)) (fun h => by simp at h) List.Pairwise.nil (by simpa using hm))
  have HB := fun o => (Below.refl w.heap.size w).al o
  clear he
  unfold Hd.cells at *
  change ∀ o, Hid (Calls Try.prog 58 _ _ fun r w' => (∃ v, r = .returned v ∧ KRows w' (keysE e) v) ∧ _) at HI
  go_enter Try.func35, Try.ntmps35
  go_wp2_with fail
  refine (HI _).out.mono ?_
  rintro r w1 ⟨⟨v, rfl, hv⟩, hb⟩
  have hb1 := (HB _).th hb
  clear HI HB
  go_wp2_with fail
  go_ret
  exact ⟨⟨v, rfl, hv⟩, hb1⟩
end Go.Proofs.Ytnelgblmogciiaa
