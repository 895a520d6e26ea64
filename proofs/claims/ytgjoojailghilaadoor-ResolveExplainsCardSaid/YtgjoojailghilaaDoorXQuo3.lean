/- Resolve: the reference's Quote. -/
import Derived.Test.YtgjoojailghilaaDoorXQuo2
set_option linter.unusedSimpArgs false
set_option linter.unusedVariables false
namespace Go.Proofs.YtgjoojailghilaaDoor
open Go.RowKit

noncomputable def EB : Elt UInt8 where
  e := 5
  t := 63
  n := 1
  bytes := 1
  f := fun c => [.int .u8 (c.toNat : Int)]
  i := (info_parts infoByte).choose
  z := _
  ht := Tryd.underlying63
  hi := (info_parts infoByte).choose_spec.1
  hz := (info_parts infoByte).choose_spec.2.1
  hs := (info_parts infoByte).choose_spec.2.2.1
  hb := (info_parts infoByte).choose_spec.2.2.2
  hzs := rfl
  hn := by decide
  len := fun x => rfl
  one := fun x u hu => by rw [List.mem_singleton.1 hu]; rfl
theorem Elt.Rd.blk {α : Type} {E : Elt α} {w : World} {g : Nat} {t : TypeId} {ys : List α} (h : Blk w g t (ys.map E.f).flatten.toArray) (c : Nat) : E.Rd w ys (.slice (some ⟨g, 0, none⟩) ys.length c) :=
  ⟨some ⟨g, 0, none⟩, c, rfl, fun _ => ⟨g, 0, rfl, h.lt, (flat_iff (ys.map E.f) 0 (E.lens ys)).1 h.row⟩, fun h => by cases h⟩
theorem EB_conv {w : World} {l : List UInt8} {A : Option Addr} {c : Nat} (h : EB.Rd w l (.slice A l.length c)) (hn : 0 < l.length) : (convert 63 9 (.slice A l.length c)).run Tryd.prog w = .ok (.string ⟨l.toArray⟩) w := by
  obtain ⟨b, off, hA, _, _⟩ := h.row 0 hn
  subst hA
  refine run_convert_bytes_back (P := Tryd.prog) w 63 9 5 ⟨b, off, none⟩ c l Tryd.underlying63 Tryd.underlying5 Tryd.underlying9 (fun j hj => ?_)
  obtain ⟨b', off', e, _, hr⟩ := h.row j hj
  injection e with e; injection e with e1 e2; subst e1 e2
  have hadd : (⟨b, off, none⟩ : Addr).add j = ⟨b, off + j, none⟩ := by unfold Addr.add; split <;> simp_all
  rw [hadd]
  have := hr 0 _ rfl
  rw [Nat.add_zero, show off + j * EB.n = off + j from by show off + j * 1 = off + j; omega] at this
  exact this
theorem hex_get : ∀ i : Fin 16, (⟨#[48, 49, 50, 51, 52, 53, 54, 55, 56, 57, 97, 98, 99, 100, 101, 102]⟩ : ByteArray)[i.val]? = some (hexd i.val) := by decide +kernel
set_option maxRecDepth 100000 in
set_option maxHeartbeats 1000000 in
theorem digit_any (n : Nat) (h : n < 256) (w : World) : Calls Tryd.prog 87 #[.int .u8 (n : Int)] w fun r w' => r = .returned (.int .u8 ((hexd (n % 16)).toNat : Int)) ∧ w' = w := by
  go_enter Tryd.func87, Tryd.ntmps87
  go_wp2_with fail
  go_ret
  refine ⟨ret_int ?_, rfl⟩
  have h16 : n % 16 < 16 := Nat.mod_lt _ (by decide)
  have hg := hex_get ⟨n % 16, h16⟩
  rw [getElem?_pos (⟨#[48, 49, 50, 51, 52, 53, 54, 55, 56, 57, 97, 98, 99, 100, 101, 102]⟩ : ByteArray) (n % 16) h16] at hg
  rw [Option.some.inj hg]
theorem Elt.Own.made {α : Type} (E : Elt α) (w : World) (l : List α) (hl : l.length ≤ maxLen) : E.Own (w.alloc (.cells (l.map E.f).flatten.toArray E.e)) w.heap.size l (.slice (some ⟨w.heap.size, 0, none⟩) l.length l.length) :=
  ⟨E.flat l, .inr ⟨w.heap.size, l.length, _, rfl, Nat.le_refl _, heap_alloc_new w _, Nat.le_refl _, hl, by rw [List.size_toArray]; exact E.flat l, List.take_of_length_le (by show (l.map E.f).flatten.length ≤ l.length * E.n; rw [E.flat l]; exact Nat.le_refl _)⟩⟩
set_option maxRecDepth 100000 in
set_option maxHeartbeats 2000000 in
theorem rquote_any (s : ByteArray) (hs : s.size ≤ 1000) (w : World) : Calls Tryd.prog 75 #[.string s] w fun r w' => r = .returned (.string (quoteB s)) ∧ Lat w w' := by
  have hm0 : EB.Own (w.alloc (.cells #[.int .u8 34] 5)) w.heap.size [34] (.slice (some ⟨w.heap.size, 0, none⟩) 1 1) := Elt.Own.made EB w [34] (by decide)
  have hL1 : Lat w (w.alloc (.cells #[.int .u8 34] 5)) := Lat.al _ _
  have HR : Hid (quoteL s = 34 :: (formsL s.data.toList ++ [34])) := Lib.hid rfl
  unfold quoteB
  generalize quoteL s = R at *
  go_enter Tryd.func75, Tryd.ntmps75
  go_wp2_with fail
  go_loopw [3, 4, 5] (fun v i _ wr => ∃ j : Nat, j ≤ s.size ∧ i = .int .i64 j ∧ EB.Own wr w.heap.size (34 :: formsL (s.data.toList.take j)) v ∧ Lat w wr) (fun _ i _ _ => s.size - (intOf i).toNat)
  case atStart => exact ⟨0, Nat.zero_le _, rfl, by simpa [formsL] using hm0, hL1⟩
  case round =>
    clear hm0 hL1
    obtain ⟨j, hjl, rfl, hown, hLW⟩ := hrel
    by_cases hlt : j < s.size
    · have hll : j < s.data.toList.length := by simpa using hlt
      have htk := formsL_take s.data.toList j hll
      have he : s.data.toList[j] = s[j] := Array.getElem_toList _
      rw [he] at htk
      clear he
      have hF : formL s[j] = if s[j].toNat = 34 ∨ s[j].toNat = 92 then [92, s[j]] else if s[j].toNat < 32 ∨ 126 < s[j].toNat then [92, 120, hexd (s[j].toNat / 16), hexd (s[j].toNat % 16)] else [s[j]] := rfl
      have hn : s[j].toNat < 256 := s[j].toNat_lt
      by_cases h1 : s[j].toNat = 34 ∨ s[j].toNat = 92
      · rw [hF, if_pos h1] at htk
        have HTK := Lib.hid htk
        have h2 : ((s[j].toNat : Int) == 34) = true ∨ ((s[j].toNat : Int) == 34) = false ∧ ((s[j].toNat : Int) == 92) = true := by
          rcases h1 with h | h
          · left; rw [h]; rfl
          · right; rw [h]; exact ⟨rfl, rfl⟩
        clear htk hF h1
        rcases h2 with h2 | ⟨h2, h3⟩
        · have hown4 := hown.al (.cells #[.int .u8 92, .int .u8 (s[j].toNat : Int)] 5)
          have hL5 : Lat w (wr.alloc (.cells #[.int .u8 92, .int .u8 (s[j].toNat : Int)] 5)) := hLW.trans (Lat.al _ _)
          have hnew : Blk (wr.alloc (.cells #[.int .u8 92, .int .u8 (s[j].toNat : Int)] 5)) wr.heap.size 5 ((([92, s[j]] : List UInt8).map EB.f).flatten).toArray := Blk.new wr 5 #[.int .u8 92, .int .u8 (s[j].toNat : Int)]
          have hrd : EB.Rd (wr.alloc (.cells #[.int .u8 92, .int .u8 (s[j].toNat : Int)] 5)) [92, s[j]] (.slice (some ⟨wr.heap.size, 0, none⟩) 2 2) := Elt.Rd.blk hnew 2
          obtain ⟨A8, m8, ev, hr8, hn8⟩ := hrd
          injection ev with f1 f2 f3
          subst f1 f3
          have hlen := formsL_len (s.data.toList.take j)
          have hlt2 : (s.data.toList.take j).length ≤ j := by rw [List.length_take]; omega
          have HM1 : Hid ((34 :: formsL (s.data.toList.take j)).length + 2 ≤ maxLen) := Lib.hid (by rw [List.length_cons]; unfold maxLen; omega)
          have HM2 : Hid (((34 :: formsL (s.data.toList.take j)).length + 2) * EB.bytes ≤ 140737488355328) := Lib.hid (Nat.le_trans (Nat.mul_le_mul_right EB.bytes (by rw [List.length_cons]; omega : (34 :: formsL (s.data.toList.take j)).length + 2 ≤ 1000000)) (by decide))
          have HB := Lib.hid hL5.size
          have HL5 := Lib.hid hL5
          have HT := Lib.hid (fun k (hk : u3.ownBlock = some k) => (hown.lt k hk).1)
          clear hown hLW f2 hlen hlt2 hL5 hnew
          go_wp2_with (at_builtin; refine EB.appends rfl _ _ rfl w.heap.size (34 :: formsL (s.data.toList.take j)) _ rfl hown4 (some ⟨wr.heap.size, 0, none⟩) 2 2 [92, s[j]] rfl rfl hn8 hr8 HM1.out HM2.out HB.out ?_; intro v6 w6 hown6 hg6; go_must (have hL6 : Lat w w6 := HL5.out.grown hg6 HB.out HT.out; clear hr8 hg6 hown4))
          go_roundw
          case rel => exact ⟨j + 1, by omega, by go_num, by rw [HTK.out]; exact hown6, hL6⟩
          case measure => simp [intOf]; omega
        · have hown4 := hown.al (.cells #[.int .u8 92, .int .u8 (s[j].toNat : Int)] 5)
          have hL5 : Lat w (wr.alloc (.cells #[.int .u8 92, .int .u8 (s[j].toNat : Int)] 5)) := hLW.trans (Lat.al _ _)
          have hnew : Blk (wr.alloc (.cells #[.int .u8 92, .int .u8 (s[j].toNat : Int)] 5)) wr.heap.size 5 ((([92, s[j]] : List UInt8).map EB.f).flatten).toArray := Blk.new wr 5 #[.int .u8 92, .int .u8 (s[j].toNat : Int)]
          have hrd : EB.Rd (wr.alloc (.cells #[.int .u8 92, .int .u8 (s[j].toNat : Int)] 5)) [92, s[j]] (.slice (some ⟨wr.heap.size, 0, none⟩) 2 2) := Elt.Rd.blk hnew 2
          obtain ⟨A8, m8, ev, hr8, hn8⟩ := hrd
          injection ev with f1 f2 f3
          subst f1 f3
          have hlen := formsL_len (s.data.toList.take j)
          have hlt2 : (s.data.toList.take j).length ≤ j := by rw [List.length_take]; omega
          have HM1 : Hid ((34 :: formsL (s.data.toList.take j)).length + 2 ≤ maxLen) := Lib.hid (by rw [List.length_cons]; unfold maxLen; omega)
          have HM2 : Hid (((34 :: formsL (s.data.toList.take j)).length + 2) * EB.bytes ≤ 140737488355328) := Lib.hid (Nat.le_trans (Nat.mul_le_mul_right EB.bytes (by rw [List.length_cons]; omega : (34 :: formsL (s.data.toList.take j)).length + 2 ≤ 1000000)) (by decide))
          have HB := Lib.hid hL5.size
          have HL5 := Lib.hid hL5
          have HT := Lib.hid (fun k (hk : u3.ownBlock = some k) => (hown.lt k hk).1)
          clear hown hLW f2 hlen hlt2 hL5 hnew
          go_wp2_with (at_builtin; refine EB.appends rfl _ _ rfl w.heap.size (34 :: formsL (s.data.toList.take j)) _ rfl hown4 (some ⟨wr.heap.size, 0, none⟩) 2 2 [92, s[j]] rfl rfl hn8 hr8 HM1.out HM2.out HB.out ?_; intro v6 w6 hown6 hg6; go_must (have hL6 : Lat w w6 := HL5.out.grown hg6 HB.out HT.out; clear hr8 hg6 hown4))
          go_roundw
          case rel => exact ⟨j + 1, by omega, by go_num, by rw [HTK.out]; exact hown6, hL6⟩
          case measure => simp [intOf]; omega
      · rw [hF, if_neg h1] at htk
        have h2 : ((s[j].toNat : Int) == 34) = false := by rw [beq_eq_false_iff_ne]; omega
        have h3 : ((s[j].toNat : Int) == 92) = false := by rw [beq_eq_false_iff_ne]; omega
        by_cases h4 : s[j].toNat < 32 ∨ 126 < s[j].toNat
        · rw [if_pos h4] at htk
          have HTK := Lib.hid htk
          have hq : s[j].toNat / 16 % 16 = s[j].toNat / 16 := Nat.mod_eq_of_lt (by omega)
          have HD1 : Hid (Calls Tryd.prog 87 #[.int .u8 ((s[j].toNat : Int) / 16)] wr fun r w' => r = .returned (.int .u8 ((hexd (s[j].toNat / 16)).toNat : Int)) ∧ w' = wr) := Lib.hid (by have := digit_any (s[j].toNat / 16) (by omega) wr; rw [hq] at this; exact this)
          have HD2 := Lib.hid (digit_any s[j].toNat hn wr)
          clear htk hF h1 hq
          rcases h4 with h4 | h4
          · go_wp2_with fail
            refine HD1.out.mono ?_
            rintro r w3 ⟨rfl, rfl⟩
            go_wp2_with fail
            refine HD2.out.mono ?_
            rintro r w3 ⟨rfl, rfl⟩
            clear HD1 HD2
            have hown4 := hown.al (.cells #[.int .u8 92, .int .u8 120, .int .u8 ((hexd (s[j].toNat / 16)).toNat : Int), .int .u8 ((hexd (s[j].toNat % 16)).toNat : Int)] 5)
            have hL5 : Lat w (w3.alloc (.cells #[.int .u8 92, .int .u8 120, .int .u8 ((hexd (s[j].toNat / 16)).toNat : Int), .int .u8 ((hexd (s[j].toNat % 16)).toNat : Int)] 5)) := hLW.trans (Lat.al _ _)
            have hnew : Blk (w3.alloc (.cells #[.int .u8 92, .int .u8 120, .int .u8 ((hexd (s[j].toNat / 16)).toNat : Int), .int .u8 ((hexd (s[j].toNat % 16)).toNat : Int)] 5)) w3.heap.size 5 ((([92, 120, hexd (s[j].toNat / 16), hexd (s[j].toNat % 16)] : List UInt8).map EB.f).flatten).toArray := Blk.new w3 5 #[.int .u8 92, .int .u8 120, .int .u8 ((hexd (s[j].toNat / 16)).toNat : Int), .int .u8 ((hexd (s[j].toNat % 16)).toNat : Int)]
            have hrd : EB.Rd (w3.alloc (.cells #[.int .u8 92, .int .u8 120, .int .u8 ((hexd (s[j].toNat / 16)).toNat : Int), .int .u8 ((hexd (s[j].toNat % 16)).toNat : Int)] 5)) [92, 120, hexd (s[j].toNat / 16), hexd (s[j].toNat % 16)] (.slice (some ⟨w3.heap.size, 0, none⟩) 4 4) := Elt.Rd.blk hnew 4
            obtain ⟨A8, m8, ev, hr8, hn8⟩ := hrd
            injection ev with f1 f2 f3
            subst f1 f3
            have hlen := formsL_len (s.data.toList.take j)
            have hlt2 : (s.data.toList.take j).length ≤ j := by rw [List.length_take]; omega
            have HM1 : Hid ((34 :: formsL (s.data.toList.take j)).length + 4 ≤ maxLen) := Lib.hid (by rw [List.length_cons]; unfold maxLen; omega)
            have HM2 : Hid (((34 :: formsL (s.data.toList.take j)).length + 4) * EB.bytes ≤ 140737488355328) := Lib.hid (Nat.le_trans (Nat.mul_le_mul_right EB.bytes (by rw [List.length_cons]; omega : (34 :: formsL (s.data.toList.take j)).length + 4 ≤ 1000000)) (by decide))
            have HB := Lib.hid hL5.size
            have HL5 := Lib.hid hL5
            have HT := Lib.hid (fun k (hk : u3.ownBlock = some k) => (hown.lt k hk).1)
            clear hown hLW f2 hlen hlt2 hL5 hnew
            go_wp2_with (at_builtin; refine EB.appends rfl _ _ rfl w.heap.size (34 :: formsL (s.data.toList.take j)) _ rfl hown4 (some ⟨w3.heap.size, 0, none⟩) 4 4 [92, 120, hexd (s[j].toNat / 16), hexd (s[j].toNat % 16)] rfl rfl hn8 hr8 HM1.out HM2.out HB.out ?_; intro v6 w6 hown6 hg6; go_must (have hL6 : Lat w w6 := HL5.out.grown hg6 HB.out HT.out; clear hr8 hg6 hown4))
            go_roundw
            case rel => exact ⟨j + 1, by omega, by go_num, by rw [HTK.out]; exact hown6, hL6⟩
            case measure => simp [intOf]; omega
          · have h5 : ¬ ((s[j].toNat : Int) < 32) := by omega
            go_wp2_with fail
            refine HD1.out.mono ?_
            rintro r w3 ⟨rfl, rfl⟩
            go_wp2_with fail
            refine HD2.out.mono ?_
            rintro r w3 ⟨rfl, rfl⟩
            clear HD1 HD2
            have hown4 := hown.al (.cells #[.int .u8 92, .int .u8 120, .int .u8 ((hexd (s[j].toNat / 16)).toNat : Int), .int .u8 ((hexd (s[j].toNat % 16)).toNat : Int)] 5)
            have hL5 : Lat w (w3.alloc (.cells #[.int .u8 92, .int .u8 120, .int .u8 ((hexd (s[j].toNat / 16)).toNat : Int), .int .u8 ((hexd (s[j].toNat % 16)).toNat : Int)] 5)) := hLW.trans (Lat.al _ _)
            have hnew : Blk (w3.alloc (.cells #[.int .u8 92, .int .u8 120, .int .u8 ((hexd (s[j].toNat / 16)).toNat : Int), .int .u8 ((hexd (s[j].toNat % 16)).toNat : Int)] 5)) w3.heap.size 5 ((([92, 120, hexd (s[j].toNat / 16), hexd (s[j].toNat % 16)] : List UInt8).map EB.f).flatten).toArray := Blk.new w3 5 #[.int .u8 92, .int .u8 120, .int .u8 ((hexd (s[j].toNat / 16)).toNat : Int), .int .u8 ((hexd (s[j].toNat % 16)).toNat : Int)]
            have hrd : EB.Rd (w3.alloc (.cells #[.int .u8 92, .int .u8 120, .int .u8 ((hexd (s[j].toNat / 16)).toNat : Int), .int .u8 ((hexd (s[j].toNat % 16)).toNat : Int)] 5)) [92, 120, hexd (s[j].toNat / 16), hexd (s[j].toNat % 16)] (.slice (some ⟨w3.heap.size, 0, none⟩) 4 4) := Elt.Rd.blk hnew 4
            obtain ⟨A8, m8, ev, hr8, hn8⟩ := hrd
            injection ev with f1 f2 f3
            subst f1 f3
            have hlen := formsL_len (s.data.toList.take j)
            have hlt2 : (s.data.toList.take j).length ≤ j := by rw [List.length_take]; omega
            have HM1 : Hid ((34 :: formsL (s.data.toList.take j)).length + 4 ≤ maxLen) := Lib.hid (by rw [List.length_cons]; unfold maxLen; omega)
            have HM2 : Hid (((34 :: formsL (s.data.toList.take j)).length + 4) * EB.bytes ≤ 140737488355328) := Lib.hid (Nat.le_trans (Nat.mul_le_mul_right EB.bytes (by rw [List.length_cons]; omega : (34 :: formsL (s.data.toList.take j)).length + 4 ≤ 1000000)) (by decide))
            have HB := Lib.hid hL5.size
            have HL5 := Lib.hid hL5
            have HT := Lib.hid (fun k (hk : u3.ownBlock = some k) => (hown.lt k hk).1)
            clear hown hLW f2 hlen hlt2 hL5 hnew
            go_wp2_with (at_builtin; refine EB.appends rfl _ _ rfl w.heap.size (34 :: formsL (s.data.toList.take j)) _ rfl hown4 (some ⟨w3.heap.size, 0, none⟩) 4 4 [92, 120, hexd (s[j].toNat / 16), hexd (s[j].toNat % 16)] rfl rfl hn8 hr8 HM1.out HM2.out HB.out ?_; intro v6 w6 hown6 hg6; go_must (have hL6 : Lat w w6 := HL5.out.grown hg6 HB.out HT.out; clear hr8 hg6 hown4))
            go_roundw
            case rel => exact ⟨j + 1, by omega, by go_num, by rw [HTK.out]; exact hown6, hL6⟩
            case measure => simp [intOf]; omega
        · rw [if_neg h4] at htk
          have HTK := Lib.hid htk
          have h5 : ¬ ((s[j].toNat : Int) < 32) := by omega
          have h6 : ¬ (126 < (s[j].toNat : Int)) := by omega
          clear htk hF h1 h4
          have hown4 := hown.al (.cells #[.int .u8 (s[j].toNat : Int)] 5)
          have hL5 : Lat w (wr.alloc (.cells #[.int .u8 (s[j].toNat : Int)] 5)) := hLW.trans (Lat.al _ _)
          have hnew : Blk (wr.alloc (.cells #[.int .u8 (s[j].toNat : Int)] 5)) wr.heap.size 5 ((([s[j]] : List UInt8).map EB.f).flatten).toArray := Blk.new wr 5 #[.int .u8 (s[j].toNat : Int)]
          have hrd : EB.Rd (wr.alloc (.cells #[.int .u8 (s[j].toNat : Int)] 5)) [s[j]] (.slice (some ⟨wr.heap.size, 0, none⟩) 1 1) := Elt.Rd.blk hnew 1
          obtain ⟨A8, m8, ev, hr8, hn8⟩ := hrd
          injection ev with f1 f2 f3
          subst f1 f3
          have hlen := formsL_len (s.data.toList.take j)
          have hlt2 : (s.data.toList.take j).length ≤ j := by rw [List.length_take]; omega
          have HM1 : Hid ((34 :: formsL (s.data.toList.take j)).length + 1 ≤ maxLen) := Lib.hid (by rw [List.length_cons]; unfold maxLen; omega)
          have HM2 : Hid (((34 :: formsL (s.data.toList.take j)).length + 1) * EB.bytes ≤ 140737488355328) := Lib.hid (Nat.le_trans (Nat.mul_le_mul_right EB.bytes (by rw [List.length_cons]; omega : (34 :: formsL (s.data.toList.take j)).length + 1 ≤ 1000000)) (by decide))
          have HB := Lib.hid hL5.size
          have HL5 := Lib.hid hL5
          have HT := Lib.hid (fun k (hk : u3.ownBlock = some k) => (hown.lt k hk).1)
          clear hown hLW f2 hlen hlt2 hL5 hnew
          go_wp2_with (at_builtin; refine EB.appends rfl _ _ rfl w.heap.size (34 :: formsL (s.data.toList.take j)) _ rfl hown4 (some ⟨wr.heap.size, 0, none⟩) 1 1 [s[j]] rfl rfl hn8 hr8 HM1.out HM2.out HB.out ?_; intro v6 w6 hown6 hg6; go_must (have hL6 : Lat w w6 := HL5.out.grown hg6 HB.out HT.out; clear hr8 hg6 hown4))
          go_roundw
          case rel => exact ⟨j + 1, by omega, by go_num, by rw [HTK.out]; exact hown6, hL6⟩
          case measure => simp [intOf]; omega
    · have hd : s.data.toList.take j = s.data.toList := List.take_of_length_le (by show s.data.size ≤ j; exact Nat.le_of_not_lt hlt)
      rw [hd] at hown
      have hlen := formsL_len s.data.toList
      have hsl : s.data.toList.length = s.size := by simp
      have hR := HR.out
      have hR0 : 0 < R.length := by rw [hR]; simp
      have hfin : (34 :: formsL s.data.toList) ++ [34] = R := hR.symm
      have hown4 := hown.al (.cells #[.int .u8 34] 5)
      have hL5 : Lat w (wr.alloc (.cells #[.int .u8 34] 5)) := hLW.trans (Lat.al _ _)
      have hnew : Blk (wr.alloc (.cells #[.int .u8 34] 5)) wr.heap.size 5 (EB.f 34).toArray := Blk.new wr 5 #[.int .u8 34]
      have HM1 : Hid ((34 :: formsL s.data.toList).length + 1 ≤ maxLen) := Lib.hid (by rw [List.length_cons]; unfold maxLen; omega)
      have HM2 : Hid (((34 :: formsL s.data.toList).length + 1) * EB.bytes ≤ 140737488355328) := Lib.hid (Nat.le_trans (Nat.mul_le_mul_right EB.bytes (by rw [List.length_cons]; omega : (34 :: formsL s.data.toList).length + 1 ≤ 1000000)) (by decide))
      have HB := Lib.hid hL5.size
      have HL5 := Lib.hid hL5
      have HT := Lib.hid (fun k (hk : u3.ownBlock = some k) => (hown.lt k hk).1)
      have HFIN := Lib.hid hfin
      have HR0 := Lib.hid hR0
      clear hown hLW hlen hL5 hd hsl hR hfin hR0 HR
      go_wp2_with (at_builtin; refine EB.append rfl _ _ rfl w.heap.size (34 :: formsL s.data.toList) _ rfl hown4 wr.heap.size 1 34 rfl 5 hnew HM1.out HM2.out HB.out ?_; intro v6 w6 hown6 hg6 hw6; go_must (rw [HFIN.out] at hown6; have hL6 : Lat w w6 := HL5.out.grown hg6 HB.out HT.out; obtain ⟨A6, c6, rfl⟩ := hown6.slice; have hcv := EB_conv hown6.rd HR0.out; clear hnew hg6 hw6 hown4 hown6))
      go_ret
      exact ⟨rfl, hL6⟩
end Go.Proofs.YtgjoojailghilaaDoor
