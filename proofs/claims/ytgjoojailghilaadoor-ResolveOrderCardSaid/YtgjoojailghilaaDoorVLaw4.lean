/- Resolve: the law on the order of the writes. -/
import Derived.Test.YtgjoojailghilaaDoorVLaw3
set_option linter.unusedSimpArgs false
set_option linter.unusedVariables false
namespace Go.Proofs.YtgjoojailghilaaDoor
open Go.RowKit

def rotI (l : List LW) (b i : Nat) : Nat := (2 * l.length - 1 - i + b) % l.length
def rot (l : List LW) (b j : Nat) : List LW := (List.range j).map (fun i => l[rotI l b i]?.getD zW)
theorem rot_len (l : List LW) (b j : Nat) : (rot l b j).length = j := by simp [rot]
theorem rot_succ (l : List LW) (b j : Nat) (h : rotI l b j < l.length) : rot l b (j + 1) = rot l b j ++ [l[rotI l b j]] := by
  simp [rot, List.range_succ, List.getElem?_eq_getElem h]
theorem rotI_lt (l : List LW) (b i : Nat) (h : 0 < l.length) : rotI l b i < l.length := Nat.mod_lt _ h
theorem mem_rot (l : List LW) (b : Nat) (h : 0 < l.length) (x : LW) : x ∈ rot l b l.length ↔ x ∈ l := by
  constructor
  · intro hx
    obtain ⟨i, _, rfl⟩ := List.mem_map.1 hx
    rw [List.getElem?_eq_getElem (rotI_lt l b i h)]
    exact List.getElem_mem _
  · intro hx
    obtain ⟨q, hq, rfl⟩ := List.getElem_of_mem hx
    have hs : q ≤ 2 * l.length - 1 + b := by omega
    refine List.mem_map.2 ⟨(2 * l.length - 1 + b - q) % l.length, List.mem_range.2 (Nat.mod_lt _ h), ?_⟩
    have hI : rotI l b ((2 * l.length - 1 + b - q) % l.length) = q := by
      unfold rotI
      have h1 := Nat.div_add_mod (2 * l.length - 1 + b - q) l.length
      have h2 := Nat.mod_lt (2 * l.length - 1 + b - q) h
      generalize (2 * l.length - 1 + b - q) % l.length = i at *
      generalize (2 * l.length - 1 + b - q) / l.length = t at *
      have h3 : 2 * l.length - 1 - i + b = q + l.length * t := by omega
      rw [h3, Nat.add_mul_mod_self_left, Nat.mod_eq_of_lt hq]
    rw [hI, List.getElem?_eq_getElem hq]; rfl
theorem mem_rot_more (l : List LW) (b : Nat) (h : 0 < l.length) (y : LW) (hy : y ∈ l) (x : LW) : x ∈ l ↔ x ∈ rot l b l.length ++ [y] := by
  rw [List.mem_append, mem_rot l b h, List.mem_singleton]
  exact ⟨.inl, fun h => h.elim id (fun e => e ▸ hy)⟩
set_option maxRecDepth 100000 in
set_option maxHeartbeats 1000000 in
theorem lawOrder (l : List LW) (A : Option Addr) (c : Nat) (by_ tw : Int) (w : World) (hx : EW.Rd w l (.slice A l.length c)) (hb : 0 ≤ by_ ∧ by_ < 256) (ht : 0 ≤ tw ∧ tw < 256) :
    Calls Tryd.prog 8 #[.slice A l.length c, .int .u8 by_, .int .u8 tw] w fun r w' => r = .returned (.bool true) ∧ Lat w w' := by
  obtain ⟨b, rfl⟩ := Int.eq_ofNat_of_zero_le hb.1
  obtain ⟨t, rfl⟩ := Int.eq_ofNat_of_zero_le ht.1
  have hb2 : b < 256 := by omega
  have ht2 : t < 256 := by omega
  clear hb ht
  have HF := Lib.hid (few_any l A c w hx)
  go_enter Tryd.func8, Tryd.ntmps8
  go_wp2_with fail
  refine HF.out.mono ?_
  rintro r w2 ⟨rfl, hl2⟩
  clear HF
  cases hf : fewB l
  · clear hf
    go_wp2_with fail
    refine (awake_any _).mono ?_
    rintro r w10 ⟨rfl, hl10⟩
    go_wp2_with fail
    go_ret
    exact ⟨rfl, (hl2).trans hl10⟩
  · have hlen := few_len hf
    clear hf
    by_cases h0 : l.length = 0
    · go_wp2_with fail
      refine (awake_any _).mono ?_
      rintro r w10 ⟨rfl, hl10⟩
      go_wp2_with fail
      go_ret
      exact ⟨rfl, (hl2).trans hl10⟩
    · have hpos : 0 < l.length := by omega
      clear h0
      have hz : ((l.length : Int) == 0) = false := by rw [beq_eq_false_iff_ne]; omega
      go_wp2_with fail
      clear hz
      go_loopw [8, 9] (fun v i wr => ∃ j : Nat, j ≤ l.length ∧ i = .int .i64 j ∧ EW.Own wr w2.heap.size (rot l b j) v ∧ Lat w2 wr) (fun _ i _ => l.length - (intOf i).toNat)
      case atStart => exact ⟨0, Nat.zero_le _, rfl, Elt.Own.nil _ _, Lat.refl _⟩
      case round =>
        obtain ⟨j, hjl, rfl, hown, hLW⟩ := hrel
        by_cases hlt : j < l.length
        · have hrl := rotI_lt l b j hpos
          obtain ⟨bb, off, hA, hb1, hr1'⟩ := (hx.lat (hl2.trans hLW)).row (rotI l b j) hrl
          subst hA
          have hr1 : RowAt wr bb (off + (2 * l.length - 1 - j + b) % l.length * 10) (wC (l[rotI l b j]'hrl)) := hr1'
          have hsucc := rot_succ l b j hrl
          generalize (l[rotI l b j]'hrl) = y at *
          clear hr1' hrl
          have hi1 : (0 : Int) ≤ (2 * (l.length : Int) - 1 - (j : Int) + (b : Int)) % (l.length : Int) := Int.emod_nonneg _ (by omega)
          have hi2 : (2 * (l.length : Int) - 1 - (j : Int) + (b : Int)) % (l.length : Int) < (l.length : Int) := Int.emod_lt_of_pos _ (by omega)
          have hfw := foldW y
          have hwl : (wC y).length = 10 := rfl
          have hown4 := hown.al (.cells (wC y).toArray 29)
          have hLW5 : Lat w2 (wr.alloc (.cells (wC y).toArray 29)) := hLW.trans (Lat.al _ _)
          have hnew := Blk.new wr 29 (wC y).toArray
          have hml := rot_len l b j
          have HM1 : Hid ((rot l b j).length + 1 ≤ maxLen) := Lib.hid (by rw [hml]; unfold maxLen; omega)
          have HM2 : Hid (((rot l b j).length + 1) * EW.bytes ≤ 140737488355328) := Lib.hid (Nat.le_trans (Nat.mul_le_mul_right EW.bytes (by rw [hml]; omega : (rot l b j).length + 1 ≤ 1000000)) (by decide))
          have HB := Lib.hid hLW5.size
          have HL5 := Lib.hid hLW5
          have HT := Lib.hid (fun k (hk : u8.ownBlock = some k) => (hown.lt k hk).1)
          clear hown hml hLW5
          go_wp2_with (first | (with_reducible refine wpList_load_at rfl 29 _ rfl bb ((off + (2 * l.length - 1 - j + b) % l.length * 10)) rfl _ _ hr1 Tryd.underlying29 rfl (by kernel_rfl) ?_) | (at_builtin; refine EW.append rfl _ _ rfl w2.heap.size ((rot l b j)) _ rfl hown4 wr.heap.size 1 y rfl 29 hnew HM1.out HM2.out HB.out ?_; intro v6 w6 hown6 hg6 hw6; go_must (have hLW7 : Lat w2 w6 := HL5.out.grown hg6 HB.out HT.out; clear hnew hg6 hw6 hown4)))
          go_roundw
          case rel => exact ⟨j + 1, by omega, by go_num, by rw [hsucc]; exact hown6, hLW7⟩
          case measure => simp [intOf]; omega
        · have hj : l.length = j := by omega
          have hti : t % l.length < l.length := Nat.mod_lt _ hpos
          obtain ⟨bb, off, hA, hb1, hr1'⟩ := (hx.lat (hl2.trans hLW)).row (t % l.length) hti
          subst hA
          have hr1 : RowAt wr bb (off + t % l.length * 10) (wC (l[t % l.length]'hti)) := hr1'
          have hmem := fun x => mem_rot_more l b hpos (l[t % l.length]'hti) (List.getElem_mem hti) x
          rw [← hj] at hown
          generalize (l[t % l.length]'hti) = y at *
          have hj2 : j = l.length := hj.symm
          clear hr1' hti hj hjl hlt
          subst hj2
          have hi1 : (0 : Int) ≤ (t : Int) % (l.length : Int) := Int.emod_nonneg _ (by omega)
          have hi2 : (t : Int) % (l.length : Int) < (l.length : Int) := Int.emod_lt_of_pos _ (by omega)
          have hbig : (rot l b l.length ++ [y]).length ≤ 100000 := by rw [List.length_append, rot_len, List.length_singleton]; omega
          have HMEM := Lib.hid hmem
          have HBIG := Lib.hid hbig
          clear hmem hbig
          have hfw := foldW y
          have hwl : (wC y).length = 10 := rfl
          have hown4 := hown.al (.cells (wC y).toArray 29)
          have hLW5 : Lat w2 (wr.alloc (.cells (wC y).toArray 29)) := hLW.trans (Lat.al _ _)
          have hnew := Blk.new wr 29 (wC y).toArray
          have hml := rot_len l b l.length
          have HM1 : Hid ((rot l b l.length).length + 1 ≤ maxLen) := Lib.hid (by rw [hml]; unfold maxLen; omega)
          have HM2 : Hid (((rot l b l.length).length + 1) * EW.bytes ≤ 140737488355328) := Lib.hid (Nat.le_trans (Nat.mul_le_mul_right EW.bytes (by rw [hml]; omega : (rot l b l.length).length + 1 ≤ 1000000)) (by decide))
          have HB := Lib.hid hLW5.size
          have HL5 := Lib.hid hLW5
          have HT := Lib.hid (fun k (hk : u8.ownBlock = some k) => (hown.lt k hk).1)
          clear hown hml hLW5
          go_wp2_with (first | (with_reducible refine wpList_load_at rfl 29 _ rfl bb ((off + t % l.length * 10)) rfl _ _ hr1 Tryd.underlying29 rfl (by kernel_rfl) ?_) | (at_builtin; refine EW.append rfl _ _ rfl w2.heap.size ((rot l b l.length)) _ rfl hown4 wr.heap.size 1 y rfl 29 hnew HM1.out HM2.out HB.out ?_; intro v6 w6 hown6 hg6 hw6; go_must (have hLW7 : Lat w2 w6 := HL5.out.grown hg6 HB.out HT.out; clear hnew hg6 hw6 hown4)))
          generalize rot l b l.length ++ [y] = m at *
          obtain ⟨A8, c8, rfl⟩ := hown6.slice
          have hL6 := hl2.trans hLW7
          have HD := Lib.hid (decide_any l (some ⟨bb, off, none⟩) c w6 (hx.lat hL6) (by omega))
          have hrd6 := hown6.rd
          clear hown6 hfw hwl hx hL6 hr1
          refine HD.out.mono ?_
          rintro r w7 ⟨⟨ds, v7, rfl, hgood, hrd7⟩, hl7⟩
          obtain rfl : ds = decR l := hgood.unique (decR_good l)
          have HR := Lib.hid (decide_any m A8 c8 w7 (hrd6.lat hl7) HBIG.out)
          have hL7 := hl2.trans (hLW7.trans hl7)
          clear HD hgood hrd6 hl7 hLW7 hl2
          go_wp2_with fail
          refine HR.out.mono ?_
          rintro r w8 ⟨⟨ds, v8, rfl, hgood, hrd8⟩, hl8⟩
          obtain rfl : ds = decR l := hgood.unique ((decR_good l).congr HMEM.out)
          have hrd7 := hrd7.lat hl8
          have hL8 := hL7.trans hl8
          obtain ⟨A3, c3, rfl⟩ := hrd7.slice
          obtain ⟨A4, c4, rfl⟩ := hrd8.slice
          have h1 := decR_len l
          have h2 := decR_los l
          have HS := Lib.hid (same_any (decR l) (decR l) A3 A4 c3 c4 w8 hrd7 hrd8 (by omega) (fun x hx => by have := h2 x hx; omega))
          clear HR h1 h2 hrd7 hrd8 hgood hL7 hl8
          go_wp2_with fail
          refine HS.out.mono ?_
          rintro r w9 ⟨rfl, hl9⟩
          have hL9 := hL8.trans hl9
          clear HS
          go_wp2_with fail
          refine (awake_any _).mono ?_
          rintro r w10 ⟨rfl, hl10⟩
          go_wp2_with fail
          go_ret
          exact ⟨rfl, (hL9).trans hl10⟩
end Go.Proofs.YtgjoojailghilaaDoor
