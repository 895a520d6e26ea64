/- Resolve: the law on Decide. -/
import Derived.Test.YtgjoojailghilaaDoorVRDec
import Derived.Test.YtgjoojailghilaaDoorVFew
import Derived.Test.YtgjoojailghilaaDoorVSame
set_option linter.unusedSimpArgs false
set_option linter.unusedVariables false
namespace Go.Proofs.YtgjoojailghilaaDoor
open Go.RowKit

theorem decR_len (l : List LW) : (decR l).length ≤ l.length := by rw [decR, List.length_map]; exact keysR_len l
theorem decR_los (l : List LW) : ∀ d ∈ decR l, d.los.length ≤ l.length := by
  intro d hd
  obtain ⟨k, hk, rfl⟩ := List.mem_map.1 hd
  have h1 := allR_len l k
  have h2 := (decK_all hk).1
  rw [← h2, LD.all, List.length_cons] at h1
  omega
theorem few_len {l : List LW} (h : fewB l = true) : l.length ≤ 40 := by
  unfold fewB at h
  simp at h
  exact h.1
set_option maxRecDepth 100000 in
set_option maxHeartbeats 4000000 in
theorem lawDecides (l : List LW) (A : Option Addr) (c : Nat) (w : World) (hx : EW.Rd w l (.slice A l.length c)) :
    Calls Tryd.prog 4 #[.slice A l.length c] w fun r w' => r = .returned (.bool true) ∧ Lat w w' := by
  have HF := Lib.hid (few_any l A c w hx)
  go_enter Tryd.func4, Tryd.ntmps4
  go_wp2_with fail
  refine HF.out.mono ?_
  rintro r w2 ⟨rfl, hl2⟩
  clear HF
  cases hf : fewB l
  · clear hf
    go_wp2_with fail
    refine (awake_any _).mono ?_
    rintro r w9 ⟨rfl, hl9⟩
    go_wp2_with fail
    go_ret
    exact ⟨rfl, (hl2).trans hl9⟩
  · have hlen := few_len hf
    have HD := Lib.hid (decide_any l A c w2 (hx.lat hl2) (by omega))
    clear hf
    go_wp2_with fail
    refine HD.out.mono ?_
    rintro r w3 ⟨⟨ds, v3, rfl, hgood, hrd3⟩, hl3⟩
    have hL3 := hl2.trans hl3
    obtain rfl : ds = decR l := hgood.unique (decR_good l)
    have HR := Lib.hid (rdecide_any l A c w3 (hx.lat hL3) (by omega))
    clear HD hgood
    go_wp2_with fail
    refine HR.out.mono ?_
    rintro r w4 ⟨⟨v4, rfl, hrd4⟩, hl4⟩
    have hL4 := hL3.trans hl4
    have hrd3 := hrd3.lat hl4
    obtain ⟨A3, c3, rfl⟩ := hrd3.slice
    obtain ⟨A4, c4, rfl⟩ := hrd4.slice
    have h1 := decR_len l
    have h2 := decR_los l
    have HS := Lib.hid (same_any (decR l) (decR l) A3 A4 c3 c4 w4 hrd3 hrd4 (by omega) (fun x hx => by have := h2 x hx; omega))
    clear HR h1 h2 hrd3 hrd4 hlen hx
    go_wp2_with fail
    refine HS.out.mono ?_
    rintro r w5 ⟨rfl, hl5⟩
    have hL5 := hL4.trans hl5
    clear HS
    go_wp2_with fail
    refine (awake_any _).mono ?_
    rintro r w9 ⟨rfl, hl9⟩
    go_wp2_with fail
    go_ret
    exact ⟨rfl, (hL5).trans hl9⟩
end Go.Proofs.YtgjoojailghilaaDoor
