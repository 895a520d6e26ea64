/- Hold: Next against Due: the law walked. -/
import Derived.Test.YtafodibbcfoclaaHLawNext
set_option linter.unusedSimpArgs false
set_option linter.unusedVariables false
namespace Go.Proofs.Ytafodibbcfoclaa
open Go.RowKit

theorem due_none (l : List LTim) (A : Option Addr) (c : Nat) (ps : List RP) (B : Option Addr) (m : Nat) (now : Int) (w : World) (hx : RdT w l (.slice A l.length c)) (hy : RdR w ps (.slice B ps.length m)) (hf : FewR l ps) (h : dueP (holdsP ps) (validP l) now = []) :
    Calls Try.prog 13 #[.slice A l.length c, .slice B ps.length m, .int .i64 now] w fun r w' => (∃ A' c', r = .returned (.slice A' 0 c')) ∧ Lat w w' := by
  refine (due_any l A c ps B m now w hx hy (by have := hf.rules; omega) (fun p hp => by have := hf.ons p hp; omega)).mono ?_
  rintro r w' ⟨⟨v, rfl, hrd⟩, hl⟩
  rw [h] at hrd
  obtain ⟨A', c', hv, _⟩ := hrd
  exact ⟨⟨A', c', by rw [hv]; rfl⟩, hl⟩
theorem due_more (l : List LTim) (A : Option Addr) (c : Nat) (ps : List RP) (B : Option Addr) (m : Nat) (now : Int) (w : World) (hx : RdT w l (.slice A l.length c)) (hy : RdR w ps (.slice B ps.length m)) (hf : FewR l ps) (h : 0 < (dueP (holdsP ps) (validP l) now).length) :
    Calls Try.prog 13 #[.slice A l.length c, .slice B ps.length m, .int .i64 now] w fun r w' => (∃ A' k c', 0 < k ∧ r = .returned (.slice A' k c')) ∧ Lat w w' := by
  refine (due_any l A c ps B m now w hx hy (by have := hf.rules; omega) (fun p hp => by have := hf.ons p hp; omega)).mono ?_
  rintro r w' ⟨⟨v, rfl, hrd⟩, hl⟩
  obtain ⟨A', c', hv, _⟩ := hrd
  exact ⟨⟨A', _, c', h, by rw [hv]⟩, hl⟩
set_option maxRecDepth 100000 in
set_option maxHeartbeats 8000000 in
theorem lawNext (l : List LTim) (A : Option Addr) (c : Nat) (ps : List RP) (B : Option Addr) (m : Nat) (now : Int) (w : World) (hx : RdT w l (.slice A l.length c)) (hy : RdR w ps (.slice B ps.length m)) :
    Calls Try.prog 7 #[.slice A l.length c, .slice B ps.length m, .int .i64 now] w fun r w' => r = .returned (.bool true) ∧ Lat w w' := by
  have HAW := Lib.hid awake_any
  have HF := Lib.hid (few_any l A c ps B m w hy)
  have HTK := fun (w' : World) => Lib.hid (tick_any now w')
  have HNX := fun (hf : FewR l ps) (w' : World) (hl : Lat w w') => Lib.hid (next_any l A c ps B m w' (hx.lat hl) (hy.lat hl) (by have := hf.rules; omega) (fun p hp => by have := hf.ons p hp; omega))
  have HDN := fun (hf : FewR l ps) (t : Int) (h : dueP (holdsP ps) (validP l) t = []) => Lib.hid (fun (w' : World) (hl : Lat w w') => due_none l A c ps B m t w' (hx.lat hl) (hy.lat hl) hf h)
  have HDM := fun (hf : FewR l ps) (t : Int) (h : 0 < (dueP (holdsP ps) (validP l) t).length) => Lib.hid (fun (w' : World) (hl : Lat w w') => due_more l A c ps B m t w' (hx.lat hl) (hy.lat hl) hf h)
  have HNS := fun h => Lib.hid (next_says (ps := ps) (l := l) h)
  have HNN := fun h => Lib.hid (next_none (ps := ps) (l := l) h)
  generalize holdsP ps = hs at *
  generalize validP l = vs at *
  clear hx hy
  go_enter Try.func7, Try.ntmps7
  go_wp2_with fail
  refine HF.out.mono ?_
  rintro r w1 ⟨⟨b, rfl, hb⟩, hl1⟩
  clear HF
  cases b
  · clear hb HNX HDN HDM HNS HNN HTK
    go_wp2_with fail
    refine (HAW.out _).mono ?_
    rintro r w9 ⟨rfl, hl9⟩
    have hL9 := hl1.trans hl9
    clear HAW
    go_wp2_with fail
    go_ret
    exact ⟨rfl, hL9⟩
  have hf := Lib.hid (hb rfl)
  have HNX1 := HNX hf.out w1 hl1
  have HDN := HDN hf.out
  have HDM := HDM hf.out
  clear hb HNX hf
  generalize nextP hs vs = R at *
  obtain ⟨n, ok⟩ := R
  dsimp only at HNS HNN HNX1
  go_wp2_with fail
  refine HNX1.out.mono ?_
  rintro r w2 ⟨rfl, hl2⟩
  have hL2 := hl1.trans hl2
  clear HNX1 hl1 hl2
  cases ok
  · have H1 := HDN now ((HNN rfl).out now)
    have H2 := HDN 1099511627776 ((HNN rfl).out _)
    clear HNS HNN HDN HDM HTK
    go_wp2_with fail
    refine (H1.out _ hL2).mono ?_
    rintro r w3 ⟨⟨A3, c3, rfl⟩, hl⟩
    have hL3 := hL2.trans hl
    clear hl
    clear H1 hL2
    go_wp2_with fail
    refine (H2.out _ hL3).mono ?_
    rintro r w4 ⟨⟨A4, c4, rfl⟩, hl⟩
    have hL4 := hL3.trans hl
    clear hl
    clear H2 hL3
    go_wp2_with fail
    refine (HAW.out _).mono ?_
    rintro r w9 ⟨rfl, hl9⟩
    have hL9 := hL4.trans hl9
    clear HAW
    go_wp2_with fail
    go_ret
    exact ⟨rfl, hL9⟩
  · have HS := HNS rfl
    have g0 := HS.out.ge
    have g1 := HS.out.le
    have a0 : ¬ n < 0 := by omega
    have a0' : (0 : Int) ≤ n := g0
    clear HNS HNN
    by_cases h1 : lim now < n
    · have H1 := HDN now (HS.out.early now h1)
      by_cases h2 : 0 < n
      · by_cases h3 : n ≤ 1099511627776
        · have H2 := HDN _ (HS.out.before h2 h3)
          have H3 := HDM _ (HS.out.then_ h3)
          have a1 : ¬ (1099511627776 < n) := by omega
          have a2 : IntKind.i64.wrap (n - 1) = n - 1 := by rw [IntKind.wrap_i64]; omega
          clear HS HDN HDM
          generalize lim now = L at *
          go_wp2_with fail
          refine (HTK _).out.mono ?_
          rintro r w3 ⟨rfl, rfl⟩
          clear HTK
          go_wp2_with fail
          refine (H1.out _ hL2).mono ?_
          rintro r w4 ⟨⟨A4, c4, rfl⟩, hl⟩
          have hL4 := hL2.trans hl
          clear hl
          clear H1 hL2
          go_wp2_with fail
          refine (H2.out _ hL4).mono ?_
          rintro r w5 ⟨⟨A5, c5, rfl⟩, hl⟩
          have hL5 := hL4.trans hl
          clear hl
          clear H2 hL4
          go_wp2_with fail
          refine (H3.out _ hL5).mono ?_
          rintro r w6 ⟨⟨A6, k, c6, hk, rfl⟩, hl6⟩
          have hL6 := hL5.trans hl6
          have hk' : (0 : Int) < (k : Int) := by omega
          clear H3 hL5 hl6
          go_wp2_with fail
          refine (HAW.out _).mono ?_
          rintro r w9 ⟨rfl, hl9⟩
          have hL9 := hL6.trans hl9
          clear HAW
          go_wp2_with fail
          go_ret
          exact ⟨rfl, hL9⟩
        · have a1 : 1099511627776 < n := by omega
          clear HS HDN HDM
          generalize lim now = L at *
          go_wp2_with fail
          refine (HTK _).out.mono ?_
          rintro r w3 ⟨rfl, rfl⟩
          clear HTK
          go_wp2_with fail
          refine (H1.out _ hL2).mono ?_
          rintro r w4 ⟨⟨A4, c4, rfl⟩, hl⟩
          have hL4 := hL2.trans hl
          clear hl
          clear H1 hL2
          go_wp2_with fail
          refine (HAW.out _).mono ?_
          rintro r w9 ⟨rfl, hl9⟩
          have hL9 := hL4.trans hl9
          clear HAW
          go_wp2_with fail
          go_ret
          exact ⟨rfl, hL9⟩
      · exfalso
        have := lim_ge now
        omega
    · by_cases h2 : 0 < n
      · by_cases h3 : n ≤ 1099511627776
        · have H2 := HDN _ (HS.out.before h2 h3)
          have H3 := HDM _ (HS.out.then_ h3)
          have a1 : ¬ (1099511627776 < n) := by omega
          have a2 : IntKind.i64.wrap (n - 1) = n - 1 := by rw [IntKind.wrap_i64]; omega
          clear HS HDN HDM
          generalize lim now = L at *
          go_wp2_with fail
          refine (HTK _).out.mono ?_
          rintro r w3 ⟨rfl, rfl⟩
          clear HTK
          go_wp2_with fail
          refine (H2.out _ hL2).mono ?_
          rintro r w5 ⟨⟨A5, c5, rfl⟩, hl⟩
          have hL5 := hL2.trans hl
          clear hl
          clear H2 hL2
          go_wp2_with fail
          refine (H3.out _ hL5).mono ?_
          rintro r w6 ⟨⟨A6, k, c6, hk, rfl⟩, hl6⟩
          have hL6 := hL5.trans hl6
          have hk' : (0 : Int) < (k : Int) := by omega
          clear H3 hL5 hl6
          go_wp2_with fail
          refine (HAW.out _).mono ?_
          rintro r w9 ⟨rfl, hl9⟩
          have hL9 := hL6.trans hl9
          clear HAW
          go_wp2_with fail
          go_ret
          exact ⟨rfl, hL9⟩
        · exfalso
          have := lim_le now
          unfold MT at this
          omega
      · have hn0 : n = 0 := by omega
        subst hn0
        have H3 := HDM _ (HS.out.then_ (by omega))
        clear HS HDN HDM g0 g1 a0 a0' h2
        generalize lim now = L at *
        go_wp2_with fail
        refine (HTK _).out.mono ?_
        rintro r w3 ⟨rfl, rfl⟩
        clear HTK
        go_wp2_with fail
        refine (H3.out _ hL2).mono ?_
        rintro r w6 ⟨⟨A6, k, c6, hk, rfl⟩, hl6⟩
        have hL6 := hL2.trans hl6
        have hk' : (0 : Int) < (k : Int) := by omega
        clear H3 hL2 hl6
        go_wp2_with fail
        refine (HAW.out _).mono ?_
        rintro r w9 ⟨rfl, hl9⟩
        have hL9 := hL6.trans hl9
        clear HAW
        go_wp2_with fail
        go_ret
        exact ⟨rfl, hL9⟩
end Go.Proofs.Ytafodibbcfoclaa
