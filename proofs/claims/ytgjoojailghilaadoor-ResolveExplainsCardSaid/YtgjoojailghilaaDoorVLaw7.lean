/- Resolve: the law on Explain. -/
import Derived.Test.YtgjoojailghilaaDoorXPri
import Derived.Test.YtgjoojailghilaaDoorXExp
import Derived.Test.YtgjoojailghilaaDoorVLaw6
set_option linter.unusedSimpArgs false
set_option linter.unusedVariables false
namespace Go.Proofs.YtgjoojailghilaaDoor
open Go.RowKit

/-- What some asks of a decision. -/
def OkD (d : LD) : Prop := d.los.length ≤ 12 ∧ fewB d.los = true ∧ longB d.win = false ∧ d.key.cl.size ≤ 100 ∧ d.key.at_.size ≤ 100
set_option maxRecDepth 100000 in
set_option maxHeartbeats 2000000 in
theorem some2_any (ds : List LD) (A : Option Addr) (c : Nat) (w : World) (hx : RdD w ds (.slice A ds.length c)) :
    Calls Tryd.prog 18 #[.slice A ds.length c] w fun r w' => ∃ e, r = .returned (.bool e) ∧ (e = true → ∀ d ∈ ds, OkD d) ∧ Lat w w' := by
  by_cases hl : ds.length ≤ 12
  · have hgt : ¬ ((12 : Int) < (ds.length : Int)) := by omega
    go_enter Tryd.func18, Tryd.ntmps18
    go_wp2_with fail
    go_loopw [3] (fun i wr => ∃ j : Nat, j ≤ ds.length ∧ i = .int .i64 j ∧ Hid (∀ d ∈ ds.take j, OkD d) ∧ Lat w wr) (fun i _ => ds.length - (intOf i).toNat)
    case atStart => exact ⟨0, Nat.zero_le _, rfl, Lib.hid (fun d hd => by simp at hd), Lat.refl _⟩
    case round =>
      clear hgt
      obtain ⟨j, hjl, rfl, HD, hLW⟩ := hrel
      by_cases hlt : j < ds.length
      · obtain ⟨b, off, A1, n1, m1, hA, hb1, hr1, hlr⟩ := (hx.lat hLW).row j hlt
        subst hA
        have htk : ds.take (j + 1) = ds.take j ++ [ds[j]] := List.take_succ_eq_append_getElem hlt
        obtain ⟨d, hd⟩ : ∃ d, d = ds[j] := ⟨_, rfl⟩
        rw [← hd] at hr1 hlr htk
        clear hd
        obtain ⟨A1', m1', hv1⟩ : ∃ A' c', Value.slice A1 n1 m1 = .slice A' d.los.length c' := by obtain ⟨A', c', h, _⟩ := hlr; exact ⟨A', c', h⟩
        injection hv1 with f1 f2 f3
        subst f1 f2 f3
        have c13 := (dec_los hr1).1
        have HTK := Lib.hid htk
        have HFEW := Lib.hid (few_any d.los A1 m1 wr hlr)
        clear htk hlr
        by_cases h1 : (12 : Int) < (d.los.length : Int)
        · clear hr1
          go_wp2_with fail
          go_ret
          exact ⟨_, rfl, (fun h => by cases h), hLW⟩
        · go_wp2_with fail
          refine HFEW.out.mono ?_
          rintro r w2 ⟨rfl, hl2⟩
          have hL2 := hLW.trans hl2
          have hr2 := hr1.below hl2 hb1
          have hb2 := Nat.lt_of_lt_of_le hb1 hl2.size
          have hw2 := dec_win hr2
          clear HFEW hr1 hl2 hb1 hLW c13
          cases hf : fewB d.los
          · clear hr2
            go_wp2_with fail
            go_ret
            exact ⟨_, rfl, (fun h => by cases h), hL2⟩
          · have HFB := Lib.hid hf
            clear hf
            have HLONG := Lib.hid (long_any d.win w2)
            go_wp2_with (first | (with_reducible refine wpList_load_at rfl 29 _ rfl b (off + j * 15 + 3) rfl _ _ hw2 Tryd.underlying29 rfl (by kernel_rfl) ?_) | (refine wpList_load_atG rfl 29 _ rfl b (off + j * 15 + 3) rfl _ _ hw2 Tryd.underlying29 rfl (by kernel_rfl) ?_))
            refine HLONG.out.mono ?_
            rintro r w3 ⟨rfl, hl3⟩
            have hL3 := hL2.trans hl3
            have hr3 := hr2.below hl3 hb2
            obtain ⟨c1, c2⟩ := dec_strs hr3
            clear HLONG hr2 hl3 hb2 hL2 hw2 hr3
            cases hg : longB d.win
            · have HGB := Lib.hid hg
              clear hg
              by_cases h2 : (100 : Int) < (d.key.cl.size : Int)
              · go_wp2_with fail
                go_ret
                exact ⟨_, rfl, (fun h => by cases h), hL3⟩
              · by_cases h3 : (100 : Int) < (d.key.at_.size : Int)
                · go_wp2_with fail
                  go_ret
                  exact ⟨_, rfl, (fun h => by cases h), hL3⟩
                · go_wp2_with fail
                  go_roundw
                  case rel => exact ⟨j + 1, by omega, by go_num, Lib.hid (fun x hx => by rw [HTK.out] at hx; rcases List.mem_append.1 hx with hx | hx; exact HD.out x hx; rw [List.mem_singleton.1 hx]; exact ⟨by omega, HFB.out, HGB.out, by omega, by omega⟩), hL3⟩
                  case measure => simp [intOf]; omega
            · clear hg
              go_wp2_with fail
              go_ret
              exact ⟨_, rfl, (fun h => by cases h), hL3⟩
      · have hj : ds.take j = ds := List.take_of_length_le (by omega)
        have hall := HD.out
        rw [hj] at hall
        have HALL := Lib.hid hall
        clear hj hall HD
        go_wp2_with fail
        go_ret
        exact ⟨_, rfl, fun _ => HALL.out, hLW⟩
  · have hgt : (12 : Int) < (ds.length : Int) := by omega
    go_enter Tryd.func18, Tryd.ntmps18
    go_wp2_with fail
    go_ret
    exact ⟨_, rfl, (fun h => by cases h), (Lat.refl _)⟩
/-- The text of a write. -/
noncomputable def TX (x : LW) : ByteArray := textS (printB x.val) (itoaB x.cp) x
theorem textS_size (p it : ByteArray) (x : LW) : (textS p it x).size = p.size + 4 + (wordS x.ck).size + 1 + x.cn.size + 11 + it.size + 1 := by
  unfold textS
  rw [ByteArray.size_append, ByteArray.size_append, ByteArray.size_append, ByteArray.size_append, ByteArray.size_append, ByteArray.size_append, ByteArray.size_append]
  rfl
theorem TX_size {x : LW} (h : longB x = false) (hp : I64 x.cp) : (TX x).size ≤ 1000000000 := by
  unfold TX
  rw [textS_size]
  have h1 := printB_size x.val
  have h2 := itoa_size hp
  have h3 := wordS_size x.ck
  have h4 : x.cn.size ≤ 100 := by unfold longB at h; simp at h; omega
  omega
theorem tx_any (x : LW) (h : longB x = false) (hp : I64 x.cp) (w : World) (ht : Tab w) : Calls Tryd.prog 43 #[.agg (wC x).toArray] w fun r w' => r = .returned (.string (TX x)) ∧ Lat w w' := by
  have h1 := printB_size x.val
  have h2 := itoa_size hp
  have h4 : x.cn.size ≤ 100 := by unfold longB at h; simp at h; omega
  exact text_any x (printB x.val) (itoaB x.cp) w (by omega) (by omega) (by omega) (fun w' hl => print_all x.val w' (ht.lat hl)) (fun w' hl => itoa_any x.cp hp w' (ht.lat hl))
theorem rtx_any (x : LW) (h : longB x = false) (hp : I64 x.cp) (w : World) : Calls Tryd.prog 46 #[.agg (wC x).toArray] w fun r w' => r = .returned (.string (TX x)) ∧ Lat w w' := by
  have h1 := printB_size x.val
  have h2 := itoa_size hp
  have h4 : x.cn.size ≤ 100 := by unfold longB at h; simp at h; omega
  exact rtext_any x (printB x.val) (itoaB x.cp) w (by omega) (by omega) (by omega) (fun w' hl => rprint_all x.val w') (fun w' hl => digits_any x.cp hp w')
/-- The text of a decision. -/
noncomputable def EX (d : LD) : ByteArray := ⟨(explL TX (itoaB d.key.dev) d).toArray⟩
structure Fit (d : LD) : Prop where
  ok : OkD d
  dev : I64 d.key.dev
  win : I64 d.win.cp
  los : ∀ x ∈ d.los, I64 x.cp
theorem Fit.all {d : LD} (h : Fit d) : ∀ x ∈ d.win :: d.los, longB x = false ∧ I64 x.cp := by
  intro x hx
  rcases List.mem_cons.1 hx with rfl | hx
  · exact ⟨h.ok.2.2.1, h.win⟩
  · have h1 := h.ok.2.1
    unfold fewB at h1
    simp at h1
    exact ⟨h1.2 x hx, h.los x hx⟩
theorem ex_any (d : LD) (h : Fit d) (A : Option Addr) (c : Nat) (w : World) (hlos : EW.Rd w d.los (.slice A d.los.length c)) (ht : Tab w) :
    Calls Tryd.prog 24 #[.agg (kC d.key ++ wC d.win ++ [Value.slice A d.los.length c, Value.int .i64 d.err]).toArray] w fun r w' => r = .returned (.string (EX d)) ∧ Lat w w' := by
  have h1 := h.ok
  have h2 := itoa_size h.dev
  have ha := h.all
  obtain ⟨k1, k2, k3, k4, k5⟩ := h1
  exact explain_any d A c TX (itoaB d.key.dev) w hlos (by omega) (by omega) (by omega) (by omega) (fun x hx => TX_size (ha x hx).1 (ha x hx).2) (fun w' hl => itoa_any d.key.dev h.dev w' (ht.lat hl)) (fun x hx w' hl => tx_any x (ha x hx).1 (ha x hx).2 w' (ht.lat hl))
theorem rex_any (d : LD) (h : Fit d) (A : Option Addr) (c : Nat) (w : World) (hlos : EW.Rd w d.los (.slice A d.los.length c)) :
    Calls Tryd.prog 25 #[.agg (kC d.key ++ wC d.win ++ [Value.slice A d.los.length c, Value.int .i64 d.err]).toArray] w fun r w' => r = .returned (.string (EX d)) ∧ Lat w w' := by
  have h1 := h.ok
  have h2 := itoa_size h.dev
  have ha := h.all
  obtain ⟨k1, k2, k3, k4, k5⟩ := h1
  exact rexplain_any d A c TX (itoaB d.key.dev) w hlos (by omega) (by omega) (by omega) (by omega) (fun x hx => TX_size (ha x hx).1 (ha x hx).2) (fun w' hl => digits_any d.key.dev h.dev w') (fun x hx w' hl => rtx_any x (ha x hx).1 (ha x hx).2 w')
theorem rdD_one {w : World} {g : Nat} {d : LD} {A : Option Addr} {c : Nat} (h : Blk w g 44 (kC d.key ++ wC d.win ++ [Value.slice A d.los.length c, Value.int .i64 d.err]).toArray) (hl : EW.Rd w d.los (.slice A d.los.length c)) : RdD w [d] (.slice (some ⟨g, 0, none⟩) 1 1) :=
  ⟨[⟨d.key, d.win, A, d.los.length, c, d.err⟩], rfl, Elt.Rd.blk (E := ED) (ys := [⟨d.key, d.win, A, d.los.length, c, d.err⟩]) (by rw [List.map_singleton, List.flatten_singleton]; exact h) 1, fun i a b => by
    match i, a with
    | 0, _ => exact ⟨rfl, rfl, rfl, hl⟩⟩
set_option maxRecDepth 100000 in
set_option maxHeartbeats 4000000 in
theorem lawExplains0 (d : LD) (A : Option Addr) (c : Nat) (w : World) (hlos : EW.Rd w d.los (.slice A d.los.length c)) (hdev : I64 d.key.dev) (hwin : I64 d.win.cp) (hls : ∀ x ∈ d.los, I64 x.cp) (ht : Tab w) :
    Calls Tryd.prog 6 #[.agg (kC d.key ++ wC d.win ++ [Value.slice A d.los.length c, Value.int .i64 d.err]).toArray] w fun r w' => r = .returned (.bool true) ∧ Lat w w' := by
  obtain ⟨⟨k1, k2, k3⟩, ⟨⟨x1, x2, x3⟩, ⟨x4, x5, x6⟩, x7, x8, x9, x10⟩, los, e⟩ := d
  have hFit := Lib.hid (fun h : OkD ⟨⟨k1, k2, k3⟩, ⟨⟨x1, x2, x3⟩, ⟨x4, x5, x6⟩, x7, x8, x9, x10⟩, los, e⟩ => (⟨h, hdev, hwin, hls⟩ : Fit ⟨⟨k1, k2, k3⟩, ⟨⟨x1, x2, x3⟩, ⟨x4, x5, x6⟩, x7, x8, x9, x10⟩, los, e⟩))
  have HEX := fun h w' (hl : Lat w w') => Lib.hid (ex_any ⟨⟨k1, k2, k3⟩, ⟨⟨x1, x2, x3⟩, ⟨x4, x5, x6⟩, x7, x8, x9, x10⟩, los, e⟩ h A c w' (hlos.lat hl) (ht.lat hl))
  have HRX := fun h w' (hl : Lat w w') => Lib.hid (rex_any ⟨⟨k1, k2, k3⟩, ⟨⟨x1, x2, x3⟩, ⟨x4, x5, x6⟩, x7, x8, x9, x10⟩, los, e⟩ h A c w' (hlos.lat hl))
  simp only [wC, kC, vC, List.cons_append, List.nil_append] at HEX HRX ⊢
  have hL0 : Lat w ((w.alloc (.cells #[.int .i64 k1, .string k2, .string k3, .int .i64 x1, .string x2, .string x3, .int .i64 x4, .int .i64 x5, .string x6, .int .i64 x7, .string x8, .int .i64 x9, .int .i64 x10, .slice A los.length c, .int .i64 e] 44)).alloc (.cells #[.int .i64 k1, .string k2, .string k3, .int .i64 x1, .string x2, .string x3, .int .i64 x4, .int .i64 x5, .string x6, .int .i64 x7, .string x8, .int .i64 x9, .int .i64 x10, .slice A los.length c, .int .i64 e] 44)) := (Lat.al _ _).trans (Lat.al _ _)
  have hb0 := (Blk.new w 44 #[.int .i64 k1, .string k2, .string k3, .int .i64 x1, .string x2, .string x3, .int .i64 x4, .int .i64 x5, .string x6, .int .i64 x7, .string x8, .int .i64 x9, .int .i64 x10, .slice A los.length c, .int .i64 e]).row
  have hb1 := ((Blk.new w 44 #[.int .i64 k1, .string k2, .string k3, .int .i64 x1, .string x2, .string x3, .int .i64 x4, .int .i64 x5, .string x6, .int .i64 x7, .string x8, .int .i64 x9, .int .i64 x10, .slice A los.length c, .int .i64 e]).alloc (.cells #[.int .i64 k1, .string k2, .string k3, .int .i64 x1, .string x2, .string x3, .int .i64 x4, .int .i64 x5, .string x6, .int .i64 x7, .string x8, .int .i64 x9, .int .i64 x10, .slice A los.length c, .int .i64 e] 44)).row
  have hlt1 := ((Blk.new w 44 #[.int .i64 k1, .string k2, .string k3, .int .i64 x1, .string x2, .string x3, .int .i64 x4, .int .i64 x5, .string x6, .int .i64 x7, .string x8, .int .i64 x9, .int .i64 x10, .slice A los.length c, .int .i64 e]).alloc (.cells #[.int .i64 k1, .string k2, .string k3, .int .i64 x1, .string x2, .string x3, .int .i64 x4, .int .i64 x5, .string x6, .int .i64 x7, .string x8, .int .i64 x9, .int .i64 x10, .slice A los.length c, .int .i64 e] 44)).lt
  have hrd : RdD ((w.alloc (.cells #[.int .i64 k1, .string k2, .string k3, .int .i64 x1, .string x2, .string x3, .int .i64 x4, .int .i64 x5, .string x6, .int .i64 x7, .string x8, .int .i64 x9, .int .i64 x10, .slice A los.length c, .int .i64 e] 44)).alloc (.cells #[.int .i64 k1, .string k2, .string k3, .int .i64 x1, .string x2, .string x3, .int .i64 x4, .int .i64 x5, .string x6, .int .i64 x7, .string x8, .int .i64 x9, .int .i64 x10, .slice A los.length c, .int .i64 e] 44)) [(⟨⟨k1, k2, k3⟩, ⟨⟨x1, x2, x3⟩, ⟨x4, x5, x6⟩, x7, x8, x9, x10⟩, los, e⟩ : LD)] (.slice (some ⟨w.heap.size + 1, 0, none⟩) 1 1) :=
    rdD_one (Blk.at1 w (.cells #[.int .i64 k1, .string k2, .string k3, .int .i64 x1, .string x2, .string x3, .int .i64 x4, .int .i64 x5, .string x6, .int .i64 x7, .string x8, .int .i64 x9, .int .i64 x10, .slice A los.length c, .int .i64 e] 44) 44 #[.int .i64 k1, .string k2, .string k3, .int .i64 x1, .string x2, .string x3, .int .i64 x4, .int .i64 x5, .string x6, .int .i64 x7, .string x8, .int .i64 x9, .int .i64 x10, .slice A los.length c, .int .i64 e]) (hlos.lat hL0)
  have HSO := Lib.hid (some2_any _ _ _ _ hrd)
  generalize EX ⟨⟨k1, k2, k3⟩, ⟨⟨x1, x2, x3⟩, ⟨x4, x5, x6⟩, x7, x8, x9, x10⟩, los, e⟩ = R at *
  clear hrd hdev hwin hls ht hlos
  go_enter Tryd.func6, Tryd.ntmps6
  go_wp2_with (with_reducible refine wpList_load_at rfl 44 _ rfl w.heap.size 0 rfl _ _ hb0 Tryd.underlying44 rfl (by kernel_rfl) ?_)
  refine HSO.out.mono ?_
  rintro r w2 ⟨b, rfl, hok, hl2⟩
  have hL2 := hL0.trans hl2
  have hb2 := hb1.below hl2 hlt1
  have hlt2 : w.heap.size < w2.heap.size := Nat.lt_of_lt_of_le hlt1 hl2.size
  clear HSO hb0 hb1 hlt1 hl2
  cases b
  · clear hok
    go_wp2_with fail
    refine (awake_any _).mono ?_
    rintro r w9 ⟨rfl, hl9⟩
    go_wp2_with fail
    go_ret
    exact ⟨rfl, (hL2).trans hl9⟩
  · have hfit := hFit.out (hok rfl (⟨⟨k1, k2, k3⟩, ⟨⟨x1, x2, x3⟩, ⟨x4, x5, x6⟩, x7, x8, x9, x10⟩, los, e⟩ : LD) (List.mem_singleton_self _))
    have HE := HEX hfit
    have HR := HRX hfit
    clear hok HEX HRX hFit hfit
    go_wp2_with fail
    refine wp_rely (by kernel_rfl) (by kernel_rfl) ?_
    apply RelyL.val
    · intro ν w' hL hF K hK'
      refine take_op rfl ?_
      refine wp_load_at 44 _ rfl w.heap.size (0) rfl _ _ (hb2.below hL hlt2) Tryd.underlying44 rfl (by kernel_rfl) ?_
      exact hK'.out _ _ rfl (Lat.refl _)
    simp only [Act.put, List.setIfInBounds_toArray, List.set_cons_zero, List.set_cons_succ, Nat.reduceAdd]
    apply RelyL.val
    · intro ν w' hL hF K hK'
      have H := Lib.hid ((HE w' (hL2.trans hL)).out)
      go_simp
      go_at_call 24
      refine H.out.mono ?_
      rintro r w'' ⟨rfl, hbp⟩
      exact hK'.out _ _ rfl hbp
    simp only [Act.put, List.setIfInBounds_toArray, List.set_cons_zero, List.set_cons_succ, Nat.reduceAdd]
    apply RelyL.val
    · intro ν w' hL hF K hK'
      refine take_op rfl ?_
      refine wp_load_at 44 _ rfl w.heap.size (0) rfl _ _ (hb2.below hL hlt2) Tryd.underlying44 rfl (by kernel_rfl) ?_
      exact hK'.out _ _ rfl (Lat.refl _)
    simp only [Act.put, List.setIfInBounds_toArray, List.set_cons_zero, List.set_cons_succ, Nat.reduceAdd]
    apply RelyL.val
    · intro ν w' hL hF K hK'
      have H := Lib.hid ((HR w' (hL2.trans hL)).out)
      go_simp
      go_at_call 25
      refine H.out.mono ?_
      rintro r w'' ⟨rfl, hbp⟩
      exact hK'.out _ _ rfl hbp
    simp only [Act.put, List.setIfInBounds_toArray, List.set_cons_zero, List.set_cons_succ, Nat.reduceAdd]
    apply RelyL.val
    · intro ν w' hL hF K hK'
      go_simp
      exact hK'.out _ _ rfl (Lat.refl _)
    simp only [Act.put, List.setIfInBounds_toArray, List.set_cons_zero, List.set_cons_succ, Nat.reduceAdd]
    apply RelyL.val
    · intro ν w' hL hF K hK'
      go_simp
      exact hK'.out _ _ rfl (Lat.refl _)
    simp only [Act.put, List.setIfInBounds_toArray, List.set_cons_zero, List.set_cons_succ, Nat.reduceAdd]
    apply RelyL.val
    · intro ν w' hL hF K hK'
      have H := Lib.hid (awake_any w')
      go_simp
      go_at_call 11
      refine H.out.mono ?_
      rintro r w'' ⟨rfl, hbp⟩
      exact hK'.out _ _ rfl hbp
    simp only [Act.put, List.setIfInBounds_toArray, List.set_cons_zero, List.set_cons_succ, Nat.reduceAdd]
    apply RelyL.val
    · intro ν w' hL hF K hK'
      go_simp
      exact hK'.out _ _ rfl (Lat.refl _)
    simp only [Act.put, List.setIfInBounds_toArray, List.set_cons_zero, List.set_cons_succ, Nat.reduceAdd]
    apply RelyL.val
    · intro ν w' hL hF K hK'
      go_simp
      exact hK'.out _ _ rfl (Lat.refl _)
    simp only [Act.put, List.setIfInBounds_toArray, List.set_cons_zero, List.set_cons_succ, Nat.reduceAdd]
    refine RelyL.done fun ν w5 hL hF => ?_
    have hLW := hL2.trans hL
    go_wp2_with fail
    go_ret
    exact ⟨rfl, hLW⟩
end Go.Proofs.YtgjoojailghilaaDoor
