/- Resolve: names.Quote. -/
import Derived.Test.YtgjoojailghilaaDoorXQuo
import Derived.Test.YtgjoojailghilaaDoorVExpl
set_option linter.unusedSimpArgs false
set_option linter.unusedVariables false
namespace Go.Proofs.YtgjoojailghilaaDoor
open Go.RowKit

def formsL (l : List UInt8) : List UInt8 := (l.map formL).flatten
def quoteL (s : ByteArray) : List UInt8 := 34 :: (formsL s.data.toList ++ [34])
def quoteB (s : ByteArray) : ByteArray := ⟨(quoteL s).toArray⟩
theorem formL_len (c : UInt8) : (formL c).length ≤ 4 := by
  unfold formL; split
  · simp
  · split <;> simp
theorem formsL_len (l : List UInt8) : (formsL l).length ≤ 4 * l.length := by
  unfold formsL
  induction l with
  | nil => simp
  | cons c l ih => have := formL_len c; simp at *; omega
theorem formsL_take (l : List UInt8) (j : Nat) (h : j < l.length) : formsL (l.take (j + 1)) = formsL (l.take j) ++ formL l[j] := by
  rw [List.take_succ_eq_append_getElem h, formsL, formsL, List.map_append, List.flatten_append]; simp
set_option maxRecDepth 100000 in
set_option maxHeartbeats 1000000 in
theorem quote_any (s : ByteArray) (hs : s.size ≤ 1000) (w : World) : Calls Tryd.prog 72 #[.string s] w fun r w' => r = .returned (.string (quoteB s)) ∧ Lat w w' := by
  have hnb : Lib.IsBuilder 65 5 w.heap.size w.heap.size (Lib.byteCells []) (w.alloc (.cells #[.pointer none, .slice none 0 0] 65)) :=
    .inl ⟨Nat.le_refl _, .slice none 0 0, Blk.new w 65 #[.pointer none, .slice none 0 0], ⟨rfl, .inl ⟨rfl, rfl⟩⟩, by simp [Value.ownBlock]⟩
  have hL1 : Lat w (w.alloc (.cells #[.pointer none, .slice none 0 0] 65)) := Lat.al _ _
  have HW1 := Lib.hid (write_bytes w.heap.size w.heap.size [] (⟨#[34]⟩ : ByteArray) (w.alloc (.cells #[.pointer none, .slice none 0 0] 65)) hnb (by decide) hL1.size)
  have HR : Hid (quoteL s = 34 :: (formsL s.data.toList ++ [34])) := Lib.hid rfl
  unfold quoteB
  generalize quoteL s = R at *
  clear hnb
  go_enter Tryd.func72, Tryd.ntmps72
  go_wp2_with fail
  refine HW1.out.mono ?_
  rintro r w2 ⟨⟨u9, rfl⟩, hbu, hB2⟩
  have hL2 : Lat w w2 := Below.trans hL1 hB2
  have hbu2 : Lib.IsBuilder 65 5 w.heap.size w.heap.size (Lib.byteCells [34]) w2 := hbu
  clear HW1 hbu hB2 hL1
  go_wp2_with fail
  go_loopw [4, 8] (fun _ i wr => ∃ j : Nat, j ≤ s.size ∧ i = .int .i64 j ∧ Lib.IsBuilder 65 5 w.heap.size w.heap.size (Lib.byteCells (34 :: formsL (s.data.toList.take j))) wr ∧ Lat w wr) (fun _ i _ => s.size - (intOf i).toNat)
  case atStart => exact ⟨0, Nat.zero_le _, rfl, by simpa [formsL] using hbu2, hL2⟩
  case round =>
    clear hbu2 hL2
    obtain ⟨j, hjl, rfl, hbu, hLW⟩ := hrel
    by_cases hlt : j < s.size
    · have hll : j < s.data.toList.length := by simpa using hlt
      have htk := formsL_take s.data.toList j hll
      have he : s.data.toList[j] = s[j] := Array.getElem_toList _
      rw [he] at htk
      have HTK := Lib.hid htk
      have HFM := Lib.hid (form_any s[j] wr)
      have hfl := formL_len s[j]
      have hfs := formsL_len (s.data.toList.take j)
      have hlt2 : (s.data.toList.take j).length = j := by rw [List.length_take]; omega
      clear htk he
      go_wp2_with fail
      refine HFM.out.mono ?_
      rintro r w3 ⟨rfl, hl3⟩
      have hL3 := hLW.trans hl3
      have hbu3 := isBuilder_carry hbu hl3
      have HWS := Lib.hid (write_bytes w.heap.size w.heap.size (34 :: formsL (s.data.toList.take j)) (⟨(formL s[j]).toArray⟩ : ByteArray) w3 hbu3 (by rw [sizeL, List.length_cons]; omega) hL3.size)
      clear HFM hl3 hLW hbu hbu3 hfl hfs hlt2
      generalize formL s[j] = fm at *
      go_wp2_with fail
      refine HWS.out.mono ?_
      rintro r w4 ⟨⟨u, rfl⟩, hbu4, hB4⟩
      have hL4 : Lat w w4 := Below.trans hL3 hB4
      clear HWS hL3 hB4
      go_wp2_with fail
      go_roundw
      case rel => exact ⟨j + 1, by omega, by go_num, by rw [HTK.out]; exact hbu4, hL4⟩
      case measure => simp [intOf]; omega
    · have hd : s.data.toList.take j = s.data.toList := List.take_of_length_le (by show s.data.size ≤ j; exact Nat.le_of_not_lt hlt)
      rw [hd] at hbu
      have hfs := formsL_len s.data.toList
      have hsl : s.data.toList.length = s.size := by simp
      have HWS := Lib.hid (write_bytes w.heap.size w.heap.size (34 :: formsL s.data.toList) (⟨#[34]⟩ : ByteArray) wr hbu (by rw [List.length_cons, show (⟨#[34]⟩ : ByteArray).size = 1 from rfl]; omega) hLW.size)
      clear hd hbu hfs hsl
      go_wp2_with fail
      refine HWS.out.mono ?_
      rintro r w4 ⟨⟨u, rfl⟩, hbu4, hB4⟩
      have hL4 : Lat w w4 := Below.trans hLW hB4
      have hbu5 : Lib.IsBuilder 65 5 w.heap.size w.heap.size (Lib.byteCells R) w4 := by rw [HR.out]; exact hbu4
      have HST := Lib.hid (Builder_String_any w.heap.size w.heap.size R w4 hbu5 hL4.size)
      clear HWS hbu4 hbu5 hB4 hLW
      go_wp2_with fail
      refine HST.out.mono ?_
      rintro r w5 ⟨rfl, hB5⟩
      go_wp2_with fail
      go_ret
      exact ⟨rfl, Below.trans hL4 hB5⟩
end Go.Proofs.YtgjoojailghilaaDoor
