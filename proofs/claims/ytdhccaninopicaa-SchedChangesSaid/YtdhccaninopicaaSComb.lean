/- Combining two schedules. -/
import Derived.Test.YtdhccaninopicaaSInts
import Derived.Test.YtdhccaninopicaaSNext
import Derived.Deep.DeepCutAuto
set_option linter.unusedSimpArgs false
set_option linter.unusedVariables false
namespace Go.Proofs.Ytdhccaninopicaa
open Go.RowKit

theorem infoInt : (Try.prog.info? 3).map (fun i => (i.zero, i.size, i.bytes)) = some (some (.int .i64 0), 1, 8) := by kernel_rfl
theorem flat_ints (l : List Int) : (l.map fun e => [Value.int .i64 e]).flatten = l.map (Value.int .i64) := by
  induction l with
  | nil => rfl
  | cons a l ih => simp [ih]
theorem endsOf_len (l : List Sp) : (endsOf l).length = l.length * 2 := by
  induction l with
  | nil => rfl
  | cons s l ih => unfold endsOf at *; simp [List.flatMap_cons, ih]; omega
theorem endsOf_take {l : List Sp} {k : Nat} (h : k < l.length) : endsOf (l.take (k + 1)) = endsOf (l.take k) ++ [l[k].1, l[k].2] := by
  rw [List.take_succ_eq_append_getElem h, endsOf_append]
  rfl
theorem pairs_take : ∀ {E : List Int} {k : Nat} (h : k + 1 < E.length), pairsOf (E.take (k + 2)) = pairsOf (E.take (k + 1)) ++ [(E[k], E[k + 1])] := by
  intro E
  unfold pairsOf
  induction E with
  | nil => intro k h; simp at h
  | cons a E ih =>
    intro k h
    cases E with
    | nil => simp at h
    | cons b E =>
      cases k with
      | zero => simp
      | succ k =>
        have := ih (k := k) (by simpa using h)
        simp only [List.take_succ_cons, List.tail_cons, List.zip_cons_cons, List.getElem_cons_succ, List.cons_append] at this ⊢
        rw [List.cons.injEq]
        exact ⟨rfl, this⟩
theorem keepL_take (K : Bool → Bool → Bool) (x y : List Sp) {E : List Int} {k : Nat} (h : k + 1 < E.length) : keepL K x y (E.take (k + 2)) = keepL K x y (E.take (k + 1)) ++ (if K (memS x E[k]) (memS y E[k]) then [(E[k], E[k + 1])] else []) := by
  unfold keepL
  rw [pairs_take h, List.filter_append]
  congr 1
  rw [List.filter_cons, List.filter_nil]
theorem keepL_len (K : Bool → Bool → Bool) (x y : List Sp) (E : List Int) : (keepL K x y E).length ≤ E.length := by
  unfold keepL pairsOf
  refine Nat.le_trans (List.length_filter_le _ _) ?_
  rw [List.length_zip]
  exact Nat.min_le_left _ _
theorem one_row {w : World} {g k : Nat} {t : TypeId} {cs : Array Value} {u : Value} (h : Blk w g t cs) (hk : cs[k]? = some u) : RowAt w g k [u] := fun j x hj => by
  cases j with
  | zero => rw [Nat.add_zero, h.cell, hk]; simpa using hj
  | succ j => simp at hj
theorem two_rows {w : World} {g : Nat} {t : TypeId} {u v : Value} (h : Blk w g t #[u, v]) (B : Nat) (hB : g < B) : IsRows B w 1 [[u], [v]] (some ⟨g, 0, none⟩) := fun _ => ⟨g, 0, rfl, hB, fun i hi => by
  match i, hi with
  | 0, _ => exact one_row h rfl
  | 1, _ => exact one_row h rfl⟩
theorem own_ints {w : World} {base : Nat} {v : Value} {E : List Int} (h : w.ownsRow base 3 1 v E.length (E.map (Value.int .i64))) :
    ∃ A c, v = .slice A E.length c ∧ (0 < E.length → ∃ g, A = some ⟨g, 0, none⟩ ∧ base ≤ g ∧ g < w.heap.size ∧ ∀ j (hj : j < E.length), w.cell? ⟨g, j, none⟩ = some (.int .i64 E[j])) := by
  rcases Nat.eq_zero_or_pos E.length with h0 | h0
  · rcases h.2 with ⟨hv, _⟩ | ⟨g, cap, cur, hv, _⟩
    · exact ⟨none, 0, by rw [h0]; exact hv, fun h' => absurd h' (by omega)⟩
    · exact ⟨_, cap, hv, fun h' => absurd h' (by omega)⟩
  · obtain ⟨g, cap, rfl, hb, hl⟩ := h.form h0
    exact ⟨_, cap, rfl, fun _ => ⟨g, rfl, hb, hl, fun j hj => by rw [h.cellAt j (by omega), List.getElem?_map, List.getElem?_eq_getElem hj]; rfl⟩⟩
theorem row_later {B : Nat} {w w' : World} {l : List Sp} {A : Option Addr} (h : IsRows B w 2 (l.map spC) A) (hB : B ≤ w.heap.size) (hb : Below w.heap.size w w') : IsRows w'.heap.size w' 2 (l.map spC) A :=
  ((h.mono hB).carry hb).mono hb.size
/-- The cells of the spans of a slice, in every later world. -/
theorem cells_at {w : World} {l : List Sp} {A : Option Addr} (h : IsRows w.heap.size w 2 (l.map spC) A) {k : Nat} (hk : k < l.length) : ∃ b off, A = some ⟨b, off, none⟩ ∧ ∀ w' : World, Below w.heap.size w w' → w'.cell? ⟨b, off + k * 2, none⟩ = some (.int .i64 l[k].1) ∧ w'.cell? ⟨b, off + k * 2 + 1, none⟩ = some (.int .i64 l[k].2) := by
  obtain ⟨b, off, hA, hb, hrow⟩ := h (by simp; omega)
  refine ⟨b, off, hA, fun w' hl => ?_⟩
  have hr := (hrow k (by simpa using hk)).below hl hb
  simp only [List.getElem_map, spC] at hr
  exact ⟨hr 0 _ rfl, hr 1 _ rfl⟩

set_option maxRecDepth 100000 in
set_option maxHeartbeats 16000000 in
theorem comb_any (K : Bool → Bool → Bool) (hK : K false false = false) (g : Nat) (eg : ∀ args w, (callFunc g args).run Try.prog w = .ok (.enter g args) w)
    (hg : ∀ (p q : Bool) (w : World), Calls Try.prog g #[.bool p, .bool q] w fun r w' => r = .returned (.bool (K p q)) ∧ w = w')
    (a b : List Sp) (A A2 : Option Addr) (c c2 : Nat) (B : Nat) (w : World) (hB : B ≤ w.heap.size) (hr : IsRows B w 2 (a.map spC) A) (hl : a.length ≤ 1000000) (hr2 : IsRows B w 2 (b.map spC) A2) (hl2 : b.length ≤ 1000000) :
    Calls Try.prog 41 #[.slice A a.length c, .slice A2 b.length c2, .func (.func g) #[] #[]] w (RetSp (nf fun m => K (memS a m) (memS b m)) w) := by
  have H1 := Lib.hid (norm_any a A c B w hB hr hl)
  have H2 : ∀ w1 : World, Below w.heap.size w w1 → Hid (Calls Try.prog 14 #[.slice A2 b.length c2] w1 (RetSp (nf (memS b)) w1)) := fun w1 h => Lib.hid (norm_any b A2 c2 B w1 (Nat.le_trans hB h.size) (hr2.carry (h.mono hB)) hl2)
  have HEND := Lib.hid (fun (out : List Sp) (ho : ∀ m, memS out m = K (memS (nf (memS a)) m) (memS (nf (memS b)) m)) => (nf_congr (S := memS out) (T := fun m => K (memS a m) (memS b m)) fun m _ _ => by rw [ho, memS_nf_mem, memS_nf_mem]))
  have hxn := nf_isNf (memS a)
  have hyn := nf_isNf (memS b)
  have hxl := nf_len (memS a)
  have hyl := nf_len (memS b)
  clear hr hr2
  generalize nf (memS a) = x at *
  generalize nf (memS b) = y at *
  generalize (nf fun m => K (memS a m) (memS b m)) = Z at *
  obtain ⟨i0, hi, hz0, hz1, hz2⟩ := info_parts infoSp2
  obtain ⟨i1, hi1, hy0, hy1, hy2⟩ := info_parts infoInt
  have HG := Lib.hid hg
  have HXN := Lib.hid hxn
  have HYN := Lib.hid hyn
  clear hg hxn hyn
  go_enter Try.func41, Try.ntmps41
  go_upto_region 2 with (first | (go_at_call 14; refine H1.out.mono ?_; rintro r w1 ⟨Ax, cx, rfl, hrx, hnx, hb1⟩; clear H1) | (go_at_call 14; refine (H2 w1 hb1).out.mono ?_; rintro r w2 ⟨Ay, cy, rfl, hry, hny, hb2⟩; clear H2))
  have hrx2 := row_later hrx (Nat.le_refl _) hb2
  have hbw2 := hb1.trans (hb2.mono hb1.size)
  have HCL := Lib.hid (clone_any x Ax cx w2.heap.size w2 (Nat.le_refl _) hrx2 hnx (by omega))
  clear hrx hb1 hb2 hnx
  have hxm : (x.map spC).length = x.length := List.length_map ..
  have hym : (y.map spC).length = y.length := List.length_map ..
  have HXM := Lib.hid hxm
  have HYM := Lib.hid hym
  clear hxm hym
  go_wp2_with (first
    | (go_at_call 48; refine HCL.out.mono ?_; rintro r w3 ⟨v3, rfl, own3, hb3⟩; have own3' : w3.ownsRow w2.heap.size 35 2 v3 (x.map spC).length (x.map spC).flatten := (by rw [HXM.out]; exact own3); have hry3 := row_later hry (Nat.le_refl _) hb3; clear HCL own3)
    | (at_builtin; refine append_rows rfl _ _ 22 rfl w2.heap.size 35 i0 _ 2 16 Try.underlying22 hi hz0 hz1 hz2 rfl (by decide) v3 (x.map spC) rfl own3' Ay y.length cy w3.heap.size (y.map spC) rfl HYM.out.symm hny hry3 spC_all spC_one (by rw [HXM.out, HYM.out]; simp [maxLen]; omega) (by rw [HXM.out, HYM.out]; omega) hb3.size ?_; intro v4 w4 own4 hg4; go_must (have hb4 : Below w2.heap.size w2 w4 := hb3.grown hg4 hb3.size (fun q hq => (own3'.lt q hq).1); have own4' : w4.ownsRow w2.heap.size 35 2 v4 (x ++ y).length ((x ++ y).map spC).flatten := (by rw [← List.map_append, List.length_map] at own4; exact own4); obtain ⟨A4, c4, rfl, hr4, _⟩ := own_ret own4'; clear own4 own4' own3' hg4 hry3 hb3; generalize hn4 : (x ++ y).length = n4 at *; have HN4 := Lib.hid hn4; clear hn4)))
  have hrx4 := row_later hrx2 (Nat.le_refl _) hb4
  have hry4 := row_later hry (Nat.le_refl _) hb4
  have hbw4 := hbw2.trans (hb4.mono hbw2.size)
  have hLb : n4 ≤ 20160 := by have := HN4.out; rw [List.length_append] at this; omega
  clear hrx2 hry hb4 hbw2 hny
  generalize hL : x ++ y = L at *
  have HL := Lib.hid hL
  clear hL
  go_loopw [9, 27] (fun e i wr => ∃ (k : Nat) (v : Value), k ≤ n4 ∧ i = .int .i64 k ∧ v = e ∧ wr.ownsRow w4.heap.size 3 1 v (endsOf (L.take k)).length ((endsOf (L.take k)).map (Value.int .i64)) ∧ Below w4.heap.size w4 wr) (fun _ i _ => n4 - (intOf i).toNat)
  case atStart => exact ⟨0, _, Nat.zero_le _, rfl, rfl, World.ownsRow_nil _ _ _ _, Below.refl _ _⟩
  case round =>
    obtain ⟨k, v, hkl, rfl, rfl, hown, hbw⟩ := hrel
    by_cases hlkF : k < n4
    · have hlk : k < L.length := by rw [HN4.out]; exact hlkF
      obtain ⟨b, off, rfl, hbB, hrow⟩ := hr4 (by simp; omega)
      have hr1 := (hrow k (by simpa using hlk)).below hbw hbB
      have HT := Lib.hid (endsOf_take hlk)
      have hel : (endsOf (L.take k)).length ≤ 2 * k := by rw [endsOf_len, List.length_take]; omega
      simp only [List.getElem_map] at hr1
      clear hrow hr4 HEND
      generalize hF : endsOf (L.take k) = F at *
      have HF := Lib.hid hF
      clear hF
      generalize L[k] = s at *
      obtain ⟨sf, st⟩ := s
      simp only [spC] at hr1
      have hsz := hbw.size
      have hlt := hown.lt
      have hown' : wr.ownsRow w4.heap.size 3 1 v (F.map fun e => [Value.int .i64 e]).length (F.map fun e => [Value.int .i64 e]).flatten := by rw [flat_ints, List.length_map]; exact hown
      have FIN := Lib.hid (show ∀ (v6 : Value) (w6 : World), w6.ownsRow w4.heap.size 3 1 v6 ((F.map fun e => [Value.int .i64 e]) ++ [[Value.int .i64 sf], [Value.int .i64 st]]).length ((F.map fun e => [Value.int .i64 e]) ++ [[Value.int .i64 sf], [Value.int .i64 st]]).flatten → w6.ownsRow w4.heap.size 3 1 v6 (endsOf (L.take (k + 1))).length ((endsOf (L.take (k + 1))).map (Value.int .i64)) from fun v6 w6 h => by
        rw [HT.out]
        have e1 : (F.map fun e => [Value.int .i64 e]) ++ [[Value.int .i64 sf], [Value.int .i64 st]] = (F ++ [sf, st]).map fun e => [Value.int .i64 e] := by simp
        rw [e1, flat_ints, List.length_map] at h
        exact h)
      have hRl : (F.map fun e => [Value.int .i64 e]).length ≤ 2 * k := by rw [List.length_map]; exact hel
      have h1c : ∀ r ∈ [[Value.int .i64 sf], [Value.int .i64 st]], r.length = 1 := by simp
      have h1d : ∀ u ∈ [[Value.int .i64 sf], [Value.int .i64 st]].flatten, u.oneCell' = true := by simp [Value.oneCell']
      have OWN := Lib.hid hown'
      have HLT := Lib.hid hlt
      have H1C := Lib.hid h1c
      have H1D := Lib.hid h1d
      clear hown hown' hlt h1c h1d
      generalize (F.map fun e => [Value.int .i64 e]) = R at *
      go_wp2_with (first | (with_reducible refine wpList_load_at rfl 35 _ rfl b (off + k * 2) rfl _ _ hr1 Try.underlying35 rfl (by kernel_rfl) ?_) | (at_builtin; refine append_rows rfl _ _ 52 rfl w4.heap.size 3 i1 _ 1 8 Try.underlying52 hi1 hy0 hy1 hy2 rfl (by decide) v R rfl ((OWN.out.alloc _).alloc _) (some ⟨wr.heap.size + 1, 0, none⟩) 2 2 (wr.heap.size + 2) [[.int .i64 sf], [.int .i64 st]] rfl rfl (fun h => by cases h) (two_rows (Blk.at1 wr _ 3 #[Value.int .i64 sf, Value.int .i64 st]) _ (by omega)) H1C.out H1D.out (by simp [maxLen]; omega) (by simp; omega) (by simp; omega) ?_; intro v6 w6 own6 hg6))
      go_roundw
      case rel => exact ⟨k + 1, _, by omega, by go_num, rfl, FIN.out _ _ own6, ((hbw.al _).al _).grown hg6 (by simp; omega) (fun q hq => (HLT.out q hq).1)⟩
      case measure => simp [intOf]; omega
    · rw [List.take_of_length_le (by rw [HN4.out]; omega)] at hown
      clear hr4
      have hel : (endsOf L).length = n4 * 2 := by rw [endsOf_len L, HN4.out]
      have HIS := Lib.hid (isort_any (endsOf L) v w4.heap.size wr hown (by omega))
      clear hown
      go_upto_region 10 with (first
        | (go_at_call 49; refine HIS.out.mono ?_; rintro r w5 ⟨ys, rfl, hperm, hsort, own5, hsz5, hbel5⟩; go_must (have hyl5 : ys.length = n4 * 2 := hperm.length_eq.trans hel; have HIC := Lib.hid (icompact_any ys v w4.heap.size w5 own5 (by omega)); have hE := compact_ok hsort; have HEM := Lib.hid (fun e => (hE.2 e).trans (hperm.mem_iff (a := e))); have HEP := Lib.hid hE.1; have hEl : (Go.Lib.compact ys).length ≤ n4 * 2 := Nat.le_trans (Go.Lib.compact_length_le ys) (by omega); have hb5 : Below w4.heap.size w4 w5 := hbw.trans (hbel5 _ (Nat.le_refl _) hbw.size); clear HIS own5 hbel5 hsort hperm hyl5 hE hbw))
        | (go_at_call 50; refine HIC.out.mono ?_; rintro r w6 ⟨v6, rfl, own6, hsz6, hbel6⟩; go_must (have hb6 : Below w4.heap.size w4 w6 := hb5.trans (hbel6 _ (Nat.le_refl _) hb5.size); generalize Go.Lib.compact ys = E at *; obtain ⟨A6, c6, rfl, hEc⟩ := own_ints own6; clear HIC own6 hbel6 hb5)))
      have hrx6 := row_later hrx4 (Nat.le_refl _) hb6
      have hry6 := row_later hry4 (Nat.le_refl _) hb6
      have hbw6 := hbw4.trans (hb6.mono hbw4.size)
      have HEC := Lib.hid (fun (h : 0 < E.length) => (hEc h))
      clear hrx4 hry4 hbw4 hb6 hEc hel hsz5 hsz6
      go_wp2_with fail
      go_loopw [12, 13, 14, 15] (fun o ip iq kk wr => ∃ (k p q : Nat) (v : Value), (k + 1 ≤ E.length ∨ k = 0) ∧ p ≤ x.length ∧ q ≤ y.length ∧ ip = .int .i64 p ∧ iq = .int .i64 q ∧ kk = .int .i64 ((k + 1 : Nat) : Int) ∧ v = o ∧
        Hid (∀ h : k < E.length, ∀ t (ht : t < x.length), t < p → x[t].2 ≤ E[k]) ∧ Hid (∀ h : k < E.length, ∀ t (ht : t < y.length), t < q → y[t].2 ≤ E[k]) ∧
        wr.ownsRow w6.heap.size 35 2 v (keepL K x y (E.take (k + 1))).length ((keepL K x y (E.take (k + 1))).map spC).flatten ∧ Below w6.heap.size w6 wr) (fun _ _ _ kk _ => E.length + 1 - (intOf kk).toNat)
      case atStart =>
        refine ⟨0, 0, 0, _, .inr rfl, Nat.zero_le _, Nat.zero_le _, rfl, rfl, rfl, rfl, Lib.hid (fun _ t _ h => absurd h (by omega)), Lib.hid (fun _ t _ h => absurd h (by omega)), ?_, Below.refl _ _⟩
        have e0 : keepL K x y (E.take (0 + 1)) = [] := by
          unfold keepL pairsOf
          cases E with
          | nil => rfl
          | cons a E => rfl
        rw [e0]
        exact World.ownsRow_nil _ _ _ _
      case round =>
        obtain ⟨k, p, q, v, hkE, hpl, hql, rfl, rfl, rfl, rfl, HP, HQ, hown, hbw⟩ := hrel
        by_cases hk : k + 1 < E.length
        · obtain ⟨g6, rfl, hg6b, hg6l, hcE⟩ := HEC.out (by omega)
          have HKT := Lib.hid (keepL_take K x y hk)
          have he01 : E[k] < E[k + 1] := List.pairwise_iff_getElem.1 HEP.out k (k + 1) (by omega) hk (by omega)
          have HP0 := Lib.hid (HP.out (by omega))
          have HQ0 := Lib.hid (HQ.out (by omega))
          have HCE := Lib.hid (fun (w' : World) (hL : Lat wr w') => (show w'.cell? ⟨g6, k, none⟩ = some (.int .i64 E[k]) ∧ w'.cell? ⟨g6, k + 1, none⟩ = some (.int .i64 E[k + 1]) from
            ⟨((hbw.th hL).cell (p := ⟨g6, k, none⟩) hg6l).trans (hcE k (by omega)), ((hbw.th hL).cell (p := ⟨g6, k + 1, none⟩) hg6l).trans (hcE (k + 1) hk)⟩))
          have HKL := Lib.hid (keepL_len K x y (E.take (k + 1)))
          have HKL2 : (keepL K x y (E.take (k + 1))).length ≤ k + 1 := Nat.le_trans HKL.out (List.length_take_le _ _)
          have HEq := Lib.hid (show ∀ h : k + 1 < E.length, E[k + 1] = E[k + 1] from fun _ => rfl)
          have HXA := Lib.hid (fun (t : Nat) (ht : t < x.length) => cells_at hrx6 ht)
          have HYA := Lib.hid (fun (t : Nat) (ht : t < y.length) => cells_at hry6 ht)
          have HXL := Lib.hid hxl
          have HYL := Lib.hid hyl
          clear HEC hcE HP HQ HEND HEM HEP HKL hrx6 hry6 hg6b hbw6
          generalize E[k] = e0 at *
          generalize hE1 : E[k + 1] = e1 at *
          have HE1 := Lib.hid hE1
          clear hE1 HEq
          generalize hM : keepL K x y (E.take (k + 1)) = M at *
          have HM := Lib.hid hM
          clear hM
          have hlt := hown.lt
          have HLT := Lib.hid hlt
          have OWN := Lib.hid hown
          clear hlt hown
          have d1 : decide ((k : Int) + 1 < (E.length : Int)) = true := decide_eq_true (by omega)
          have hw1 : IntKind.i64.wrap (k : Int) = (k : Int) := IntWalk.i64_in _ (by omega)
          have hl1 : (k : Int) < (E.length : Int) := by omega
          have hl2 : (k : Int) + 1 < (E.length : Int) := by omega
          have hl3 : (0 : Int) ≤ (k : Int) + 1 := by omega
          have hl4 : ((k : Int) + 1).toNat = k + 1 := by omega
          have HW1 := Lib.hid hw1
          have HL4 := Lib.hid hl4
          clear hw1 hl4
          go_upto_region 15 with fail
          have hw1 := HW1.out
          have hl4 := HL4.out
          refine wp_rely (by kernel_rfl) (by kernel_rfl) ?_
          iterate 11
            apply RelyL.val
            · intro ν w' hL hF K hK
              obtain ⟨q0, q1⟩ := HCE.out w' hL
              go_simp
              exact hK.out _ _ rfl (Lat.refl _)
            simp only [Act.put, List.setIfInBounds_toArray, List.set_cons_zero, List.set_cons_succ, Nat.reduceAdd]
          refine RelyL.done fun ν w1 hL hF => ?_
          clear hF hw1 hl4
          have hb1 := hbw.th hL
          have OWN1 := Lib.hid (own_later' OWN.out hL)
          have hs1 := hL.size
          clear OWN HCE hbw
          go_wp2_with fail
          go_loop [13] (fun i => ∃ p : Nat, p ≤ x.length ∧ i = .int .i64 p ∧ Hid (∀ t (ht : t < x.length), t < p → x[t].2 ≤ e0)) (fun i => x.length - (intOf i).toNat)
          case atStart => exact ⟨p, hpl, rfl, HP0⟩
          case round =>
            clear HP0 hpl
            obtain ⟨p, hpl, rfl, HP⟩ := hrel
            by_cases hp : p < x.length
            · obtain ⟨bx, ox, rfl, hcx⟩ := HXA.out p hp
              obtain ⟨cx0, cx1⟩ := hcx w1 hb1
              by_cases hle : x[p].2 ≤ e0
              · have HPn := Lib.hid (show ∀ t (ht : t < x.length), t < p + 1 → x[t].2 ≤ e0 from fun t ht htp => by
                  by_cases htp' : t = p
                  · subst htp'; exact hle
                  · exact HP.out t ht (by omega))
                clear HXA HYA hcx
                generalize x[p].2 = xt at *
                go_wp2_with fail
                go_round
                case rel => exact ⟨p + 1, by omega, by go_num, HPn⟩
                case measure => simp [intOf]; omega
              · have HMX : Hid (memS x e0 = decide (x[p].1 ≤ e0)) := Lib.hid ((nf_at HXN.out (i := p) (f := e0) HP.out (fun _ => by omega)).trans (decide_eq_decide.2 ⟨fun ⟨_, h⟩ => h, fun h => ⟨hp, h⟩⟩))
                have HCX := Lib.hid (fun (w' : World) (hL : Lat w1 w') => (hcx w' (hb1.th hL)).1)
                have dp : decide ((p : Int) < (x.length : Int)) = true := decide_eq_true (by omega)
                have dlx : decide (x[p].2 ≤ e0) = false := decide_eq_false hle
                clear HXA hcx
                generalize x[p].2 = xt at *
                generalize x[p].1 = xf at *
                generalize hbA : decide (xf ≤ e0) = bA at *
                go_wp2_with fail
                go_loop [14] (fun i => ∃ q : Nat, q ≤ y.length ∧ i = .int .i64 q ∧ Hid (∀ t (ht : t < y.length), t < q → y[t].2 ≤ e0)) (fun i => y.length - (intOf i).toNat)
                case atStart => exact ⟨q, hql, rfl, HQ0⟩
                case round =>
                  clear HQ0 hql
                  obtain ⟨q, hql, rfl, HQ⟩ := hrel
                  by_cases hq : q < y.length
                  · obtain ⟨by_, oy, rfl, hcy⟩ := HYA.out q hq
                    obtain ⟨cy0, cy1⟩ := hcy w1 hb1
                    by_cases hle : y[q].2 ≤ e0
                    · have HQn := Lib.hid (show ∀ t (ht : t < y.length), t < q + 1 → y[t].2 ≤ e0 from fun t ht htp => by
                        by_cases htp' : t = q
                        · subst htp'; exact hle
                        · exact HQ.out t ht (by omega))
                      clear HYA hcy
                      generalize y[q].2 = yt at *
                      go_wp2_with fail
                      go_round
                      case rel => exact ⟨q + 1, by omega, by go_num, HQn⟩
                      case measure => simp [intOf]; omega
                    · have HMY : Hid (memS y e0 = decide (y[q].1 ≤ e0)) := Lib.hid ((nf_at HYN.out (i := q) (f := e0) HQ.out (fun _ => by omega)).trans (decide_eq_decide.2 ⟨fun ⟨_, h⟩ => h, fun h => ⟨hq, h⟩⟩))
                      have HCY := Lib.hid (fun (w' : World) (hL : Lat w1 w') => (hcy w' (hb1.th hL)).1)
                      have dq : decide ((q : Int) < (y.length : Int)) = true := decide_eq_true (by omega)
                      have dle : decide (y[q].2 ≤ e0) = false := decide_eq_false hle
                      clear HYA hcy
                      generalize y[q].2 = yt at *
                      generalize y[q].1 = yf at *
                      generalize hbB : decide (yf ≤ e0) = bB at *
                      cases hkv : K bA bB
                      · have HGK : ∀ w : World, Hid (Calls Try.prog g #[.bool bA, .bool bB] w fun r w' => r = .returned (.bool false) ∧ w = w') := fun w => Lib.hid (by have := HG.out bA bB w; rw [hkv] at this; exact this)
                        have hKT := HKT.out
                        rw [HMX.out, HMY.out, hkv, if_neg (by simp), List.append_nil] at hKT
                        have HT := Lib.hid hKT
                        clear hKT hkv HKT HMX HMY
                        go_upto_region 20 with fail
                        refine wp_rely (by kernel_rfl) (by kernel_rfl) ?_
                        iterate 27
                          apply RelyL.val
                          · intro ν w' hL hF K' hK'
                            have qx := HCX.out w' hL
                            have qy := HCY.out w' hL
                            first
                              | (refine skip_op rfl ?_; exact hK'.out _ _ rfl (Lat.refl _))
                              | (go_simp; exact hK'.out _ _ rfl (Lat.refl _))
                          simp only [Act.put, List.setIfInBounds_toArray, List.set_cons_zero, List.set_cons_succ, Nat.reduceAdd]
                        apply RelyL.val
                        · intro ν w' hL hF K' hK'
                          go_simp
                          go_at_fn g
                          refine (HGK w').out.mono ?_
                          rintro r w'' ⟨rfl, rfl⟩
                          exact hK'.out _ _ rfl (Lat.refl _)
                        simp only [Act.put, List.setIfInBounds_toArray, List.set_cons_zero, List.set_cons_succ, Nat.reduceAdd]
                        refine RelyL.done fun ν w2 hL2 hF => ?_
                        clear hF
                        have hb2 := hb1.th hL2
                        have OWN2 := Lib.hid (own_later' OWN1.out hL2)
                        have hs2 := hb2.size
                        clear OWN1 HCX HCY hL2 hb1
                        go_wp2_with fail
                        go_roundw
                        case rel => exact ⟨k + 1, p, q, _, .inl (by omega), hpl, hql, rfl, rfl, by go_num, rfl, Lib.hid (fun h t ht htp => by have h1 := HP.out t ht htp; have h2 := HE1.out; omega), Lib.hid (fun h t ht htp => by have h1 := HQ.out t ht htp; have h2 := HE1.out; omega), by rw [HT.out]; exact OWN2.out, hb2⟩
                        case measure => simp [intOf]; omega
                      · have HGK : ∀ w : World, Hid (Calls Try.prog g #[.bool bA, .bool bB] w fun r w' => r = .returned (.bool true) ∧ w = w') := fun w => Lib.hid (by have := HG.out bA bB w; rw [hkv] at this; exact this)
                        have hKT := HKT.out
                        rw [HMX.out, HMY.out, hkv, if_pos rfl] at hKT
                        have HT := Lib.hid hKT
                        clear hKT hkv HKT HMX HMY
                        go_upto_region 20 with fail
                        refine wp_rely (by kernel_rfl) (by kernel_rfl) ?_
                        iterate 27
                          apply RelyL.val
                          · intro ν w' hL hF K' hK'
                            have qx := HCX.out w' hL
                            have qy := HCY.out w' hL
                            first
                              | (refine skip_op rfl ?_; exact hK'.out _ _ rfl (Lat.refl _))
                              | (go_simp; exact hK'.out _ _ rfl (Lat.refl _))
                          simp only [Act.put, List.setIfInBounds_toArray, List.set_cons_zero, List.set_cons_succ, Nat.reduceAdd]
                        apply RelyL.val
                        · intro ν w' hL hF K' hK'
                          go_simp
                          go_at_fn g
                          refine (HGK w').out.mono ?_
                          rintro r w'' ⟨rfl, rfl⟩
                          exact hK'.out _ _ rfl (Lat.refl _)
                        simp only [Act.put, List.setIfInBounds_toArray, List.set_cons_zero, List.set_cons_succ, Nat.reduceAdd]
                        refine RelyL.done fun ν w2 hL2 hF => ?_
                        clear hF
                        have hb2 := hb1.th hL2
                        have OWN2 := Lib.hid (own_later' OWN1.out hL2)
                        have hs2 := hb2.size
                        clear OWN1 HCX HCY hL2 hb1
                        have hML : (M.map spC).length ≤ k + 1 := by rw [List.length_map]; exact HKL2
                        have OWN3 := Lib.hid (show w2.ownsRow w6.heap.size 35 2 v (M.map spC).length (M.map spC).flatten by rw [List.length_map]; exact OWN2.out)
                        have FIN := Lib.hid (show ∀ (v7 : Value) (w7 : World), w7.ownsRow w6.heap.size 35 2 v7 (M.map spC ++ [[Value.int .i64 e0, Value.int .i64 e1]]).length (M.map spC ++ [[Value.int .i64 e0, Value.int .i64 e1]]).flatten → w7.ownsRow w6.heap.size 35 2 v7 (keepL K x y (E.take (k + 2))).length ((keepL K x y (E.take (k + 2))).map spC).flatten from fun v7 w7 h => by
                          rw [HT.out, snoc_map]
                          have : (M ++ [(e0, e1)]).length = (M.map spC ++ [[Value.int .i64 e0, Value.int .i64 e1]]).length := by simp
                          rw [this]; exact h)
                        clear OWN2 HT HM
                        generalize M.map spC = R at *
                        go_wp2_with (at_builtin; refine append_rows rfl _ _ 22 rfl w6.heap.size 35 i0 _ 2 16 Try.underlying22 hi hz0 hz1 hz2 rfl (by decide) v R rfl (OWN3.out.alloc _) (some ⟨w2.heap.size, 0, none⟩) 1 1 (w2.heap.size + 1) [[.int .i64 e0, .int .i64 e1]] rfl rfl (fun h => by cases h) (fun _ => ⟨w2.heap.size, 0, rfl, by simp, fun i hi => by match i, hi with | 0, _ => simpa using (Blk.new w2 35 #[Value.int .i64 e0, Value.int .i64 e1]).row⟩) (by simp) (by simp [Value.oneCell']) (by simp [maxLen]; omega) (by simp; omega) (by simp; omega) ?_; intro v7 w7 own7 hg7)
                        go_roundw
                        case rel => exact ⟨k + 1, p, q, _, .inl (by omega), hpl, hql, rfl, rfl, by go_num, rfl, Lib.hid (fun h t ht htp => by have h1 := HP.out t ht htp; have h2 := HE1.out; omega), Lib.hid (fun h t ht htp => by have h1 := HQ.out t ht htp; have h2 := HE1.out; omega), FIN.out _ _ own7, (hb2.al _).grown hg7 (by simp; omega) (fun q hq => (HLT.out q hq).1)⟩
                        case measure => simp [intOf]; omega
                  · have HMY : Hid (memS y e0 = false) := Lib.hid ((nf_at HYN.out (i := q) (f := e0) HQ.out (fun h => absurd h hq)).trans (decide_eq_false (fun ⟨h, _⟩ => hq h)))
                    have HCY := Lib.hid (fun (w' : World) (hL : Lat w1 w') => trivial)
                    have dq : decide ((q : Int) < (y.length : Int)) = false := decide_eq_false (by omega)
                    clear HYA
                    cases hkv : K bA false
                    · have HGK : ∀ w : World, Hid (Calls Try.prog g #[.bool bA, .bool false] w fun r w' => r = .returned (.bool false) ∧ w = w') := fun w => Lib.hid (by have := HG.out bA false w; rw [hkv] at this; exact this)
                      have hKT := HKT.out
                      rw [HMX.out, HMY.out, hkv, if_neg (by simp), List.append_nil] at hKT
                      have HT := Lib.hid hKT
                      clear hKT hkv HKT HMX HMY
                      go_upto_region 20 with fail
                      refine wp_rely (by kernel_rfl) (by kernel_rfl) ?_
                      iterate 27
                        apply RelyL.val
                        · intro ν w' hL hF K' hK'
                          have qx := HCX.out w' hL
                          have qy := HCY.out w' hL
                          first
                            | (refine skip_op rfl ?_; exact hK'.out _ _ rfl (Lat.refl _))
                            | (go_simp; exact hK'.out _ _ rfl (Lat.refl _))
                        simp only [Act.put, List.setIfInBounds_toArray, List.set_cons_zero, List.set_cons_succ, Nat.reduceAdd]
                      apply RelyL.val
                      · intro ν w' hL hF K' hK'
                        go_simp
                        go_at_fn g
                        refine (HGK w').out.mono ?_
                        rintro r w'' ⟨rfl, rfl⟩
                        exact hK'.out _ _ rfl (Lat.refl _)
                      simp only [Act.put, List.setIfInBounds_toArray, List.set_cons_zero, List.set_cons_succ, Nat.reduceAdd]
                      refine RelyL.done fun ν w2 hL2 hF => ?_
                      clear hF
                      have hb2 := hb1.th hL2
                      have OWN2 := Lib.hid (own_later' OWN1.out hL2)
                      have hs2 := hb2.size
                      clear OWN1 HCX HCY hL2 hb1
                      go_wp2_with fail
                      go_roundw
                      case rel => exact ⟨k + 1, p, q, _, .inl (by omega), hpl, hql, rfl, rfl, by go_num, rfl, Lib.hid (fun h t ht htp => by have h1 := HP.out t ht htp; have h2 := HE1.out; omega), Lib.hid (fun h t ht htp => by have h1 := HQ.out t ht htp; have h2 := HE1.out; omega), by rw [HT.out]; exact OWN2.out, hb2⟩
                      case measure => simp [intOf]; omega
                    · have HGK : ∀ w : World, Hid (Calls Try.prog g #[.bool bA, .bool false] w fun r w' => r = .returned (.bool true) ∧ w = w') := fun w => Lib.hid (by have := HG.out bA false w; rw [hkv] at this; exact this)
                      have hKT := HKT.out
                      rw [HMX.out, HMY.out, hkv, if_pos rfl] at hKT
                      have HT := Lib.hid hKT
                      clear hKT hkv HKT HMX HMY
                      go_upto_region 20 with fail
                      refine wp_rely (by kernel_rfl) (by kernel_rfl) ?_
                      iterate 27
                        apply RelyL.val
                        · intro ν w' hL hF K' hK'
                          have qx := HCX.out w' hL
                          have qy := HCY.out w' hL
                          first
                            | (refine skip_op rfl ?_; exact hK'.out _ _ rfl (Lat.refl _))
                            | (go_simp; exact hK'.out _ _ rfl (Lat.refl _))
                        simp only [Act.put, List.setIfInBounds_toArray, List.set_cons_zero, List.set_cons_succ, Nat.reduceAdd]
                      apply RelyL.val
                      · intro ν w' hL hF K' hK'
                        go_simp
                        go_at_fn g
                        refine (HGK w').out.mono ?_
                        rintro r w'' ⟨rfl, rfl⟩
                        exact hK'.out _ _ rfl (Lat.refl _)
                      simp only [Act.put, List.setIfInBounds_toArray, List.set_cons_zero, List.set_cons_succ, Nat.reduceAdd]
                      refine RelyL.done fun ν w2 hL2 hF => ?_
                      clear hF
                      have hb2 := hb1.th hL2
                      have OWN2 := Lib.hid (own_later' OWN1.out hL2)
                      have hs2 := hb2.size
                      clear OWN1 HCX HCY hL2 hb1
                      have hML : (M.map spC).length ≤ k + 1 := by rw [List.length_map]; exact HKL2
                      have OWN3 := Lib.hid (show w2.ownsRow w6.heap.size 35 2 v (M.map spC).length (M.map spC).flatten by rw [List.length_map]; exact OWN2.out)
                      have FIN := Lib.hid (show ∀ (v7 : Value) (w7 : World), w7.ownsRow w6.heap.size 35 2 v7 (M.map spC ++ [[Value.int .i64 e0, Value.int .i64 e1]]).length (M.map spC ++ [[Value.int .i64 e0, Value.int .i64 e1]]).flatten → w7.ownsRow w6.heap.size 35 2 v7 (keepL K x y (E.take (k + 2))).length ((keepL K x y (E.take (k + 2))).map spC).flatten from fun v7 w7 h => by
                        rw [HT.out, snoc_map]
                        have : (M ++ [(e0, e1)]).length = (M.map spC ++ [[Value.int .i64 e0, Value.int .i64 e1]]).length := by simp
                        rw [this]; exact h)
                      clear OWN2 HT HM
                      generalize M.map spC = R at *
                      go_wp2_with (at_builtin; refine append_rows rfl _ _ 22 rfl w6.heap.size 35 i0 _ 2 16 Try.underlying22 hi hz0 hz1 hz2 rfl (by decide) v R rfl (OWN3.out.alloc _) (some ⟨w2.heap.size, 0, none⟩) 1 1 (w2.heap.size + 1) [[.int .i64 e0, .int .i64 e1]] rfl rfl (fun h => by cases h) (fun _ => ⟨w2.heap.size, 0, rfl, by simp, fun i hi => by match i, hi with | 0, _ => simpa using (Blk.new w2 35 #[Value.int .i64 e0, Value.int .i64 e1]).row⟩) (by simp) (by simp [Value.oneCell']) (by simp [maxLen]; omega) (by simp; omega) (by simp; omega) ?_; intro v7 w7 own7 hg7)
                      go_roundw
                      case rel => exact ⟨k + 1, p, q, _, .inl (by omega), hpl, hql, rfl, rfl, by go_num, rfl, Lib.hid (fun h t ht htp => by have h1 := HP.out t ht htp; have h2 := HE1.out; omega), Lib.hid (fun h t ht htp => by have h1 := HQ.out t ht htp; have h2 := HE1.out; omega), FIN.out _ _ own7, (hb2.al _).grown hg7 (by simp; omega) (fun q hq => (HLT.out q hq).1)⟩
                      case measure => simp [intOf]; omega
            · have HMX : Hid (memS x e0 = false) := Lib.hid ((nf_at HXN.out (i := p) (f := e0) HP.out (fun h => absurd h hp)).trans (decide_eq_false (fun ⟨h, _⟩ => hp h)))
              have HCX := Lib.hid (fun (w' : World) (hL : Lat w1 w') => trivial)
              have dp : decide ((p : Int) < (x.length : Int)) = false := decide_eq_false (by omega)
              clear HXA
              go_wp2_with fail
              go_loop [14] (fun i => ∃ q : Nat, q ≤ y.length ∧ i = .int .i64 q ∧ Hid (∀ t (ht : t < y.length), t < q → y[t].2 ≤ e0)) (fun i => y.length - (intOf i).toNat)
              case atStart => exact ⟨q, hql, rfl, HQ0⟩
              case round =>
                clear HQ0 hql
                obtain ⟨q, hql, rfl, HQ⟩ := hrel
                by_cases hq : q < y.length
                · obtain ⟨by_, oy, rfl, hcy⟩ := HYA.out q hq
                  obtain ⟨cy0, cy1⟩ := hcy w1 hb1
                  by_cases hle : y[q].2 ≤ e0
                  · have HQn := Lib.hid (show ∀ t (ht : t < y.length), t < q + 1 → y[t].2 ≤ e0 from fun t ht htp => by
                      by_cases htp' : t = q
                      · subst htp'; exact hle
                      · exact HQ.out t ht (by omega))
                    clear HYA hcy
                    generalize y[q].2 = yt at *
                    go_wp2_with fail
                    go_round
                    case rel => exact ⟨q + 1, by omega, by go_num, HQn⟩
                    case measure => simp [intOf]; omega
                  · have HMY : Hid (memS y e0 = decide (y[q].1 ≤ e0)) := Lib.hid ((nf_at HYN.out (i := q) (f := e0) HQ.out (fun _ => by omega)).trans (decide_eq_decide.2 ⟨fun ⟨_, h⟩ => h, fun h => ⟨hq, h⟩⟩))
                    have HCY := Lib.hid (fun (w' : World) (hL : Lat w1 w') => (hcy w' (hb1.th hL)).1)
                    have dq : decide ((q : Int) < (y.length : Int)) = true := decide_eq_true (by omega)
                    have dle : decide (y[q].2 ≤ e0) = false := decide_eq_false hle
                    clear HYA hcy
                    generalize y[q].2 = yt at *
                    generalize y[q].1 = yf at *
                    generalize hbB : decide (yf ≤ e0) = bB at *
                    cases hkv : K false bB
                    · have HGK : ∀ w : World, Hid (Calls Try.prog g #[.bool false, .bool bB] w fun r w' => r = .returned (.bool false) ∧ w = w') := fun w => Lib.hid (by have := HG.out false bB w; rw [hkv] at this; exact this)
                      have hKT := HKT.out
                      rw [HMX.out, HMY.out, hkv, if_neg (by simp), List.append_nil] at hKT
                      have HT := Lib.hid hKT
                      clear hKT hkv HKT HMX HMY
                      go_upto_region 20 with fail
                      refine wp_rely (by kernel_rfl) (by kernel_rfl) ?_
                      iterate 27
                        apply RelyL.val
                        · intro ν w' hL hF K' hK'
                          have qx := HCX.out w' hL
                          have qy := HCY.out w' hL
                          first
                            | (refine skip_op rfl ?_; exact hK'.out _ _ rfl (Lat.refl _))
                            | (go_simp; exact hK'.out _ _ rfl (Lat.refl _))
                        simp only [Act.put, List.setIfInBounds_toArray, List.set_cons_zero, List.set_cons_succ, Nat.reduceAdd]
                      apply RelyL.val
                      · intro ν w' hL hF K' hK'
                        go_simp
                        go_at_fn g
                        refine (HGK w').out.mono ?_
                        rintro r w'' ⟨rfl, rfl⟩
                        exact hK'.out _ _ rfl (Lat.refl _)
                      simp only [Act.put, List.setIfInBounds_toArray, List.set_cons_zero, List.set_cons_succ, Nat.reduceAdd]
                      refine RelyL.done fun ν w2 hL2 hF => ?_
                      clear hF
                      have hb2 := hb1.th hL2
                      have OWN2 := Lib.hid (own_later' OWN1.out hL2)
                      have hs2 := hb2.size
                      clear OWN1 HCX HCY hL2 hb1
                      go_wp2_with fail
                      go_roundw
                      case rel => exact ⟨k + 1, p, q, _, .inl (by omega), hpl, hql, rfl, rfl, by go_num, rfl, Lib.hid (fun h t ht htp => by have h1 := HP.out t ht htp; have h2 := HE1.out; omega), Lib.hid (fun h t ht htp => by have h1 := HQ.out t ht htp; have h2 := HE1.out; omega), by rw [HT.out]; exact OWN2.out, hb2⟩
                      case measure => simp [intOf]; omega
                    · have HGK : ∀ w : World, Hid (Calls Try.prog g #[.bool false, .bool bB] w fun r w' => r = .returned (.bool true) ∧ w = w') := fun w => Lib.hid (by have := HG.out false bB w; rw [hkv] at this; exact this)
                      have hKT := HKT.out
                      rw [HMX.out, HMY.out, hkv, if_pos rfl] at hKT
                      have HT := Lib.hid hKT
                      clear hKT hkv HKT HMX HMY
                      go_upto_region 20 with fail
                      refine wp_rely (by kernel_rfl) (by kernel_rfl) ?_
                      iterate 27
                        apply RelyL.val
                        · intro ν w' hL hF K' hK'
                          have qx := HCX.out w' hL
                          have qy := HCY.out w' hL
                          first
                            | (refine skip_op rfl ?_; exact hK'.out _ _ rfl (Lat.refl _))
                            | (go_simp; exact hK'.out _ _ rfl (Lat.refl _))
                        simp only [Act.put, List.setIfInBounds_toArray, List.set_cons_zero, List.set_cons_succ, Nat.reduceAdd]
                      apply RelyL.val
                      · intro ν w' hL hF K' hK'
                        go_simp
                        go_at_fn g
                        refine (HGK w').out.mono ?_
                        rintro r w'' ⟨rfl, rfl⟩
                        exact hK'.out _ _ rfl (Lat.refl _)
                      simp only [Act.put, List.setIfInBounds_toArray, List.set_cons_zero, List.set_cons_succ, Nat.reduceAdd]
                      refine RelyL.done fun ν w2 hL2 hF => ?_
                      clear hF
                      have hb2 := hb1.th hL2
                      have OWN2 := Lib.hid (own_later' OWN1.out hL2)
                      have hs2 := hb2.size
                      clear OWN1 HCX HCY hL2 hb1
                      have hML : (M.map spC).length ≤ k + 1 := by rw [List.length_map]; exact HKL2
                      have OWN3 := Lib.hid (show w2.ownsRow w6.heap.size 35 2 v (M.map spC).length (M.map spC).flatten by rw [List.length_map]; exact OWN2.out)
                      have FIN := Lib.hid (show ∀ (v7 : Value) (w7 : World), w7.ownsRow w6.heap.size 35 2 v7 (M.map spC ++ [[Value.int .i64 e0, Value.int .i64 e1]]).length (M.map spC ++ [[Value.int .i64 e0, Value.int .i64 e1]]).flatten → w7.ownsRow w6.heap.size 35 2 v7 (keepL K x y (E.take (k + 2))).length ((keepL K x y (E.take (k + 2))).map spC).flatten from fun v7 w7 h => by
                        rw [HT.out, snoc_map]
                        have : (M ++ [(e0, e1)]).length = (M.map spC ++ [[Value.int .i64 e0, Value.int .i64 e1]]).length := by simp
                        rw [this]; exact h)
                      clear OWN2 HT HM
                      generalize M.map spC = R at *
                      go_wp2_with (at_builtin; refine append_rows rfl _ _ 22 rfl w6.heap.size 35 i0 _ 2 16 Try.underlying22 hi hz0 hz1 hz2 rfl (by decide) v R rfl (OWN3.out.alloc _) (some ⟨w2.heap.size, 0, none⟩) 1 1 (w2.heap.size + 1) [[.int .i64 e0, .int .i64 e1]] rfl rfl (fun h => by cases h) (fun _ => ⟨w2.heap.size, 0, rfl, by simp, fun i hi => by match i, hi with | 0, _ => simpa using (Blk.new w2 35 #[Value.int .i64 e0, Value.int .i64 e1]).row⟩) (by simp) (by simp [Value.oneCell']) (by simp [maxLen]; omega) (by simp; omega) (by simp; omega) ?_; intro v7 w7 own7 hg7)
                      go_roundw
                      case rel => exact ⟨k + 1, p, q, _, .inl (by omega), hpl, hql, rfl, rfl, by go_num, rfl, Lib.hid (fun h t ht htp => by have h1 := HP.out t ht htp; have h2 := HE1.out; omega), Lib.hid (fun h t ht htp => by have h1 := HQ.out t ht htp; have h2 := HE1.out; omega), FIN.out _ _ own7, (hb2.al _).grown hg7 (by simp; omega) (fun q hq => (HLT.out q hq).1)⟩
                      case measure => simp [intOf]; omega
                · have HMY : Hid (memS y e0 = false) := Lib.hid ((nf_at HYN.out (i := q) (f := e0) HQ.out (fun h => absurd h hq)).trans (decide_eq_false (fun ⟨h, _⟩ => hq h)))
                  have HCY := Lib.hid (fun (w' : World) (hL : Lat w1 w') => trivial)
                  have dq : decide ((q : Int) < (y.length : Int)) = false := decide_eq_false (by omega)
                  clear HYA
                  cases hkv : K false false
                  · have HGK : ∀ w : World, Hid (Calls Try.prog g #[.bool false, .bool false] w fun r w' => r = .returned (.bool false) ∧ w = w') := fun w => Lib.hid (by have := HG.out false false w; rw [hkv] at this; exact this)
                    have hKT := HKT.out
                    rw [HMX.out, HMY.out, hkv, if_neg (by simp), List.append_nil] at hKT
                    have HT := Lib.hid hKT
                    clear hKT hkv HKT HMX HMY
                    go_upto_region 20 with fail
                    refine wp_rely (by kernel_rfl) (by kernel_rfl) ?_
                    iterate 27
                      apply RelyL.val
                      · intro ν w' hL hF K' hK'
                        have qx := HCX.out w' hL
                        have qy := HCY.out w' hL
                        first
                          | (refine skip_op rfl ?_; exact hK'.out _ _ rfl (Lat.refl _))
                          | (go_simp; exact hK'.out _ _ rfl (Lat.refl _))
                      simp only [Act.put, List.setIfInBounds_toArray, List.set_cons_zero, List.set_cons_succ, Nat.reduceAdd]
                    apply RelyL.val
                    · intro ν w' hL hF K' hK'
                      go_simp
                      go_at_fn g
                      refine (HGK w').out.mono ?_
                      rintro r w'' ⟨rfl, rfl⟩
                      exact hK'.out _ _ rfl (Lat.refl _)
                    simp only [Act.put, List.setIfInBounds_toArray, List.set_cons_zero, List.set_cons_succ, Nat.reduceAdd]
                    refine RelyL.done fun ν w2 hL2 hF => ?_
                    clear hF
                    have hb2 := hb1.th hL2
                    have OWN2 := Lib.hid (own_later' OWN1.out hL2)
                    have hs2 := hb2.size
                    clear OWN1 HCX HCY hL2 hb1
                    go_wp2_with fail
                    go_roundw
                    case rel => exact ⟨k + 1, p, q, _, .inl (by omega), hpl, hql, rfl, rfl, by go_num, rfl, Lib.hid (fun h t ht htp => by have h1 := HP.out t ht htp; have h2 := HE1.out; omega), Lib.hid (fun h t ht htp => by have h1 := HQ.out t ht htp; have h2 := HE1.out; omega), by rw [HT.out]; exact OWN2.out, hb2⟩
                    case measure => simp [intOf]; omega
                  · have HGK : ∀ w : World, Hid (Calls Try.prog g #[.bool false, .bool false] w fun r w' => r = .returned (.bool true) ∧ w = w') := fun w => Lib.hid (by have := HG.out false false w; rw [hkv] at this; exact this)
                    have hKT := HKT.out
                    rw [HMX.out, HMY.out, hkv, if_pos rfl] at hKT
                    have HT := Lib.hid hKT
                    clear hKT hkv HKT HMX HMY
                    go_upto_region 20 with fail
                    refine wp_rely (by kernel_rfl) (by kernel_rfl) ?_
                    iterate 27
                      apply RelyL.val
                      · intro ν w' hL hF K' hK'
                        have qx := HCX.out w' hL
                        have qy := HCY.out w' hL
                        first
                          | (refine skip_op rfl ?_; exact hK'.out _ _ rfl (Lat.refl _))
                          | (go_simp; exact hK'.out _ _ rfl (Lat.refl _))
                      simp only [Act.put, List.setIfInBounds_toArray, List.set_cons_zero, List.set_cons_succ, Nat.reduceAdd]
                    apply RelyL.val
                    · intro ν w' hL hF K' hK'
                      go_simp
                      go_at_fn g
                      refine (HGK w').out.mono ?_
                      rintro r w'' ⟨rfl, rfl⟩
                      exact hK'.out _ _ rfl (Lat.refl _)
                    simp only [Act.put, List.setIfInBounds_toArray, List.set_cons_zero, List.set_cons_succ, Nat.reduceAdd]
                    refine RelyL.done fun ν w2 hL2 hF => ?_
                    clear hF
                    have hb2 := hb1.th hL2
                    have OWN2 := Lib.hid (own_later' OWN1.out hL2)
                    have hs2 := hb2.size
                    clear OWN1 HCX HCY hL2 hb1
                    have hML : (M.map spC).length ≤ k + 1 := by rw [List.length_map]; exact HKL2
                    have OWN3 := Lib.hid (show w2.ownsRow w6.heap.size 35 2 v (M.map spC).length (M.map spC).flatten by rw [List.length_map]; exact OWN2.out)
                    have FIN := Lib.hid (show ∀ (v7 : Value) (w7 : World), w7.ownsRow w6.heap.size 35 2 v7 (M.map spC ++ [[Value.int .i64 e0, Value.int .i64 e1]]).length (M.map spC ++ [[Value.int .i64 e0, Value.int .i64 e1]]).flatten → w7.ownsRow w6.heap.size 35 2 v7 (keepL K x y (E.take (k + 2))).length ((keepL K x y (E.take (k + 2))).map spC).flatten from fun v7 w7 h => by
                      rw [HT.out, snoc_map]
                      have : (M ++ [(e0, e1)]).length = (M.map spC ++ [[Value.int .i64 e0, Value.int .i64 e1]]).length := by simp
                      rw [this]; exact h)
                    clear OWN2 HT HM
                    generalize M.map spC = R at *
                    go_wp2_with (at_builtin; refine append_rows rfl _ _ 22 rfl w6.heap.size 35 i0 _ 2 16 Try.underlying22 hi hz0 hz1 hz2 rfl (by decide) v R rfl (OWN3.out.alloc _) (some ⟨w2.heap.size, 0, none⟩) 1 1 (w2.heap.size + 1) [[.int .i64 e0, .int .i64 e1]] rfl rfl (fun h => by cases h) (fun _ => ⟨w2.heap.size, 0, rfl, by simp, fun i hi => by match i, hi with | 0, _ => simpa using (Blk.new w2 35 #[Value.int .i64 e0, Value.int .i64 e1]).row⟩) (by simp) (by simp [Value.oneCell']) (by simp [maxLen]; omega) (by simp; omega) (by simp; omega) ?_; intro v7 w7 own7 hg7)
                    go_roundw
                    case rel => exact ⟨k + 1, p, q, _, .inl (by omega), hpl, hql, rfl, rfl, by go_num, rfl, Lib.hid (fun h t ht htp => by have h1 := HP.out t ht htp; have h2 := HE1.out; omega), Lib.hid (fun h t ht htp => by have h1 := HQ.out t ht htp; have h2 := HE1.out; omega), FIN.out _ _ own7, (hb2.al _).grown hg7 (by simp; omega) (fun q hq => (HLT.out q hq).1)⟩
                    case measure => simp [intOf]; omega
        · have hke : E.take (k + 1) = E := List.take_of_length_le (by omega)
          rw [hke] at hown
          have hol := keepL_len K x y E
          have hmem : ∀ m, memS (keepL K x y E) m = K (memS x m) (memS y m) := fun m => keepL_mem K hK HXN.out.2 HYN.out.2 HEP.out (fun e => by rw [HEM.out, HL.out]) m
          have HZ := Lib.hid (HEND.out (keepL K x y E) hmem)
          obtain ⟨A7, c7, rfl, hr7, _⟩ := own_ret hown
          have HN := Lib.hid (norm_any (keepL K x y E) A7 c7 wr.heap.size wr (Nat.le_refl _) hr7 (by omega))
          clear hown hr7 hmem HEND
          generalize keepL K x y E = O at *
          go_wp2_with (go_at_call 14; refine HN.out.mono ?_; rintro r w8 ⟨A8, c8, rfl, h8, hn8, hb8⟩)
          rw [HZ.out] at *
          go_ret
          exact ⟨A8, c8, rfl, h8, hn8, (hbw6.trans (hbw.mono hbw6.size)).th hb8⟩

end Go.Proofs.Ytdhccaninopicaa
