/- The reference's minutes of a schedule, and the spans of a set of minutes. -/
import Derived.Test.YtdhccaninopicaaSBase
import Derived.Deep.AppendLies
set_option linter.unusedSimpArgs false
set_option linter.unusedVariables false
namespace Go.Proofs.Ytdhccaninopicaa
open Go.RowKit

/-- The cells of a set of minutes. -/
def minsOf (S : Int → Bool) : Array Value := (Array.range 10080).map fun j : Nat => Value.bool (S (j : Int))
theorem minsOf_size (S : Int → Bool) : (minsOf S).size = 10080 := by unfold minsOf; rw [Array.size_map, Array.size_range]
theorem minsOf_get (S : Int → Bool) {j : Nat} (h : j < 10080) : (minsOf S)[j]? = some (.bool (S j)) := by
  unfold minsOf
  rw [Array.getElem?_map, Array.getElem?_range, if_pos h]; rfl
theorem minsOf_congr {S T : Int → Bool} (h : ∀ j : Nat, j < 10080 → S j = T j) : minsOf S = minsOf T := by
  apply Array.ext_getElem?
  intro j
  by_cases hj : j < 10080
  · rw [minsOf_get S hj, minsOf_get T hj, h j hj]
  · rw [Array.getElem?_eq_none (by rw [minsOf_size]; omega), Array.getElem?_eq_none (by rw [minsOf_size]; omega)]
theorem minsOf_set (S : Int → Bool) (j : Nat) (b : Bool) : (minsOf S).setIfInBounds j (.bool b) = minsOf (fun m => if m = j then b else S m) := by
  apply Array.ext_getElem?
  intro i
  rw [Array.getElem?_setIfInBounds]
  by_cases hi : i < 10080
  · rw [minsOf_get _ hi, minsOf_get _ hi, minsOf_size]
    by_cases hij : j = i
    · subst hij; simp [hi]
    · have : ¬ (i : Int) = j := by omega
      simp [hij, this]
  · have hn : (minsOf fun m => if m = ↑j then b else S m)[i]? = none := Array.getElem?_eq_none (by rw [minsOf_size]; omega)
    have hn' : (minsOf S)[i]? = none := Array.getElem?_eq_none (by rw [minsOf_size]; omega)
    rw [hn, hn', minsOf_size]
    by_cases hij : j = i
    · subst hij; simp [hi]
    · simp [hij]
theorem infoBool : (Try.prog.info? 4).map (fun i => (i.zero, i.size, i.bytes)) = some (some (.bool false), 1, 1) := by kernel_rfl
theorem mk_mins (w : World) : (Instr.makeSlice 43 (.int .i64 10080) (.int .i64 10080)).run Try.prog w = .ok (.slice (some ⟨w.heap.size, 0, none⟩) 10080 10080) (w.alloc (.cells (minsOf fun _ => false) 4)) := by
  obtain ⟨i0, hi, hz0, hz1, hz2⟩ := info_parts infoBool
  have h := run_make (P := Try.prog) w 43 4 i0 (.bool false) Try.underlying43 hi hz0 .i64 .i64 10080 10080 (by omega) (by omega) (by rw [hz2]; omega) (by omega)
  have e : madeCells (Value.bool false).cells (Int.toNat 10080 * i0.size) = minsOf fun _ => false := by
    rw [hz1]
    unfold madeCells minsOf
    refine Array.map_congr_left fun j _ => ?_
    have hm : j % 1 = 0 := Nat.mod_one j
    show (#[Value.bool false] : Array Value)[j % 1]! = _
    rw [hm]; rfl
  rw [e] at h
  exact h

def RetMins (S : Int → Bool) (w : World) (r : Ending) (w' : World) : Prop := ∃ g, r = .returned (.slice (some ⟨g, 0, none⟩) 10080 10080) ∧ w.heap.size ≤ g ∧ Blk w' g 4 (minsOf S) ∧ Below w.heap.size w w'
theorem memS_snoc (l : List Sp) (s : Sp) (m : Int) : memS (l ++ [s]) m = (memS l m || spIn s m) := by rw [memS_append, memS_cons, memS_nil, Bool.or_false]
set_option maxRecDepth 100000 in
set_option maxHeartbeats 4000000 in
theorem minutes_any (l : List Sp) (A : Option Addr) (c : Nat) (B : Nat) (w : World) (hB : B ≤ w.heap.size) (hr : IsRows B w 2 (l.map spC) A) (hl : l.length ≤ 140737488351232) :
    Calls Try.prog 37 #[.slice A l.length c] w (RetMins (memS l) w) := by
  have hmk := mk_mins
  go_enter Try.func37, Try.ntmps37
  go_wp2_with fail
  clear hmk
  go_loopw [9] (fun i wr => ∃ k : Nat, k ≤ l.length ∧ i = .int .i64 k ∧ Below w.heap.size w wr ∧ Blk wr w.heap.size 4 (minsOf (memS (l.take k)))) (fun i _ => l.length - (intOf i).toNat)
  case atStart => exact ⟨0, Nat.zero_le _, rfl, (Below.refl _ _).al _, Blk.new _ _ _⟩
  case round =>
    obtain ⟨k, hkl, rfl, hbw, kM⟩ := hrel
    by_cases hlk : k < l.length
    · obtain ⟨b, off, rfl, hbB, hrow⟩ := hr (by simp; omega)
      have hbl : b < wr.heap.size := by have := hbw.size; omega
      have hr1 := (hrow k (by simpa using hlk)).below hbw (Nat.lt_of_lt_of_le hbB hB)
      have hT := Lib.hid (show ∀ m, memS (l.take (k + 1)) m = (memS (l.take k) m || spIn l[k] m) from fun m => by rw [List.take_succ_eq_append_getElem hlk, memS_snoc])
      simp only [List.getElem_map] at hr1
      clear hrow hr
      generalize memS (l.take k) = S at *
      generalize l[k] = s at *
      obtain ⟨sf, st⟩ := s
      simp only [spC] at hr1
      have HV := fun w => Lib.hid (rvalid_any sf st w)
      by_cases hok : spOk (sf, st) = true
      · rw [hok] at HV
        obtain ⟨h0, h1, h2⟩ := (spOk_iff _).1 hok
        simp only at h0 h1 h2
        clear hok
        obtain ⟨a, rfl⟩ : ∃ a : Nat, sf = a := ⟨sf.toNat, by omega⟩
        obtain ⟨z, rfl⟩ : ∃ z : Nat, st = z := ⟨st.toNat, by omega⟩
        go_wp2_with (first | (with_reducible refine wpList_load_at rfl 35 _ rfl b (off + k * 2) rfl _ _ hr1 Try.underlying35 rfl (by kernel_rfl) ?_) | (go_at_call 40; refine (HV _).out.mono ?_; rintro r w2 ⟨rfl, hb2⟩; have hr2 := hr1.below hb2 hbl; have g0 := hr2 0 _ rfl; have g1 := hr2 1 _ rfl; rw [Nat.add_zero] at g0))
        have hs2 := hb2.size
        have kM2 := kM.below hb2
        have hbw2 := hbw.th hb2
        clear HV hr1 g0 g1 kM hbw
        go_loopw [5] (fun m w3 => ∃ (j : Nat) (wq : World), wq = w3 ∧ a ≤ j ∧ j ≤ z ∧ m = .int .i64 j ∧ Below w.heap.size w wq ∧ Blk wq w.heap.size 4 (minsOf (fun m => S m || decide ((a : Int) ≤ m ∧ m < (j : Int)))) ∧ RowAt wq b (off + k * 2) [.int .i64 a, .int .i64 z]) (fun m _ => z - (intOf m).toNat)
        case atStart =>
          refine ⟨a, _, rfl, Nat.le_refl _, by omega, rfl, hbw2, ?_, hr2⟩
          have e : minsOf (fun m => S m || decide ((a : Int) ≤ m ∧ m < (a : Int))) = minsOf S := minsOf_congr fun j _ => by
            have : ¬ ((a : Int) ≤ j ∧ (j : Int) < a) := by omega
            rw [decide_eq_false this, Bool.or_false]
          rw [e]; exact kM2
        case round =>
          clear kM2 hbw2 hr2
          obtain ⟨j, wq, rfl, hja, hjz, rfl, hbq, kQ, hrq⟩ := hrel
          have g1 := hrq 1 _ rfl
          have hgb : b ≠ w.heap.size := by omega
          by_cases hj : j < z
          · have c0 : wq.cell? ⟨w.heap.size, j, none⟩ = some (.bool (S j || decide ((a : Int) ≤ j ∧ (j : Int) < (j : Int)))) := by rw [kQ.cell, minsOf_get _ (by omega)]
            have f0 := kQ.free j
            have kN := kQ.set j (.bool true)
            rw [minsOf_set] at kN
            have e : minsOf (fun m => if m = (j : Int) then true else (S m || decide ((a : Int) ≤ m ∧ m < (j : Int)))) = minsOf (fun m => S m || decide ((a : Int) ≤ m ∧ m < ((j + 1 : Nat) : Int))) := minsOf_congr fun i _ => by
              by_cases hij : (i : Int) = j
              · have : ((a : Int) ≤ i ∧ (i : Int) < ((j + 1 : Nat) : Int)) := by omega
                simp [hij, this]; omega
              · have : ((a : Int) ≤ i ∧ (i : Int) < (j : Int)) ↔ ((a : Int) ≤ i ∧ (i : Int) < ((j + 1 : Nat) : Int)) := by omega
                simp only [hij, if_false, this]
            rw [e] at kN
            clear e
            generalize (S j || decide ((a : Int) ≤ j ∧ (j : Int) < (j : Int))) = bb at *
            have KN := Lib.hid kN
            clear kN
            have KQ := Lib.hid kQ
            clear kQ
            go_wp2_with fail
            go_roundw
            case rel => exact ⟨j + 1, _, rfl, by omega, by omega, by go_num, hbq.st (Nat.le_refl _) _, KN.out, fun i v hi => by rw [World.cell?_setCell_other _ _ _ _ (fun e => hgb (congrArg Addr.block e).symm)]; exact hrq i v hi⟩
            case measure => simp [intOf]; omega
          · have hjz' : j = z := by omega
            subst hjz'
            go_wp2_with fail
            go_roundw
            case rel =>
              refine ⟨k + 1, by omega, by go_num, hbq, ?_⟩
              have e : minsOf (fun m => S m || decide ((a : Int) ≤ m ∧ m < (j : Int))) = minsOf (memS (l.take (k + 1))) := minsOf_congr fun i _ => by
                rw [hT.out]
                congr 1
                rw [Bool.eq_iff_iff, decide_eq_true_eq, spIn_iff]
                simp only; omega
              rw [← e]; exact kQ
            case measure => simp [intOf]; omega
      · have hok' : spOk (sf, st) = false := by simpa using hok
        rw [hok'] at HV
        go_wp2_with (first | (with_reducible refine wpList_load_at rfl 35 _ rfl b (off + k * 2) rfl _ _ hr1 Try.underlying35 rfl (by kernel_rfl) ?_) | (go_at_call 40; refine (HV _).out.mono ?_; rintro r w2 ⟨rfl, hb2⟩))
        go_roundw
        case rel =>
          refine ⟨k + 1, by omega, by go_num, hbw.th hb2, ?_⟩
          have e : minsOf S = minsOf (memS (l.take (k + 1))) := minsOf_congr fun i _ => by
            rw [hT.out]
            have : spIn (sf, st) i = false := by unfold spIn; rw [hok']; rfl
            rw [this, Bool.or_false]
          rw [← e]; exact kM.below hb2
        case measure => simp [intOf]; omega
    · rw [List.take_of_length_le (by omega)] at kM
      go_wp2_with fail
      go_ret
      exact ⟨_, rfl, Nat.le_refl _, kM, hbw⟩

/-- A list of spans handed back, in memory of the call's own. -/
def RetSp (l : List Sp) (w : World) (r : Ending) (w' : World) : Prop := ∃ A c, r = .returned (.slice A l.length c) ∧ IsRows w'.heap.size w' 2 (l.map spC) A ∧ (A = none → c = 0 ∧ l.length = 0) ∧ Below w.heap.size w w'
theorem own_ret {w : World} {base : Nat} {v : Value} {l : List Sp} (h : w.ownsRow base 35 2 v l.length (l.map spC).flatten) : ∃ A c, v = .slice A l.length c ∧ IsRows w.heap.size w 2 (l.map spC) A ∧ (A = none → c = 0 ∧ l.length = 0) := by
  have h' : w.ownsRow base 35 2 v (l.map spC).length (l.map spC).flatten := by rw [List.length_map]; exact h
  obtain ⟨A, c, hv, hi⟩ := ownsRow_rows h' spC_all rfl
  rw [List.length_map] at hv
  refine ⟨A, c, hv, hi w (Nat.le_refl _) (fun _ _ _ => rfl), fun hA => ?_⟩
  subst hv hA
  rcases h.2 with ⟨hv, _⟩ | ⟨g, cap, cur, hv, _⟩
  · injection hv with _ h1 h2
    exact ⟨h2, h1⟩
  · cases hv
theorem last_set (a : List Sp) (s : Sp) (x : Int) : ((a ++ [s]).map spC).flatten.set (a.length * 2 + 1) (.int .i64 x) = ((a ++ [(s.1, x)]).map spC).flatten := by
  have hl : (a.map spC).flatten.length = a.length * 2 := by rw [flat_len _ spC_all, List.length_map]
  rw [List.map_append, List.map_append, List.flatten_append, List.flatten_append, List.set_append_right _ _ (by omega), hl]
  congr 1
  simp [spC]
theorem infoSpan : (Try.prog.info? 35).map (fun i => (i.zero, i.size, i.bytes)) = some (some (.agg #[.int .i64 0, .int .i64 0]), 2, 16) := by kernel_rfl
theorem spansTo_len (S : Int → Bool) : ∀ n, (spansTo S n).length ≤ n
  | 0 => Nat.le_refl _
  | n + 1 => by
    have := spansTo_len S n
    rw [spansTo]
    split
    · split
      · unfold extLast
        split
        · simp
        · simp; omega
      · simp; omega
    · omega
set_option maxRecDepth 100000 in
set_option maxHeartbeats 4000000 in
theorem spans_any (S : Int → Bool) (g : Nat) (w : World) (hg : Blk w g 4 (minsOf S)) :
    Calls Try.prog 36 #[.slice (some ⟨g, 0, none⟩) 10080 10080] w (RetSp (nf S) w) := by
  have hgl := hg.lt
  go_enter Try.func36, Try.ntmps36
  go_wp2_with fail
  go_loopw [3, 4] (fun x i wr => ∃ (k : Nat) (v : Value), k ≤ 10080 ∧ i = .int .i64 k ∧ v = x ∧ wr.ownsRow w.heap.size 35 2 v (spansTo S k).length ((spansTo S k).map spC).flatten ∧ Below w.heap.size w wr) (fun _ i _ => 10080 - (intOf i).toNat)
  case atStart => exact ⟨0, _, Nat.zero_le _, rfl, rfl, World.ownsRow_nil _ _ _ _, Below.refl _ _⟩
  case round =>
    obtain ⟨k, v, hkl, rfl, rfl, hown, hbw⟩ := hrel
    by_cases hlk : k < 10080
    · have kG := (hg.below hbw)
      have c0 : wr.cell? ⟨g, k, none⟩ = some (.bool (S k)) := by rw [kG.cell, minsOf_get _ hlk]
      have hsp := (spansTo_spec S k hkl).2.2.2.1
      have hst : spansTo S (k + 1) = if S k then (if (0 < k) && S ((k : Int) - 1) then extLast (spansTo S k) (k + 1) else spansTo S k ++ [((k : Int), (k : Int) + 1)]) else spansTo S k := rfl
      have hlen := spansTo_len S k
      cases hS : S k with
      | false =>
        rw [hS] at c0 hst
        rw [if_neg (by simp)] at hst
        have HST := Lib.hid hst
        clear hst hsp
        go_wp2_with fail
        go_roundw
        case rel => exact ⟨k + 1, _, by omega, by go_num, rfl, by rw [HST.out]; exact hown, hbw⟩
        case measure => simp [intOf]; omega
      | true =>
        rw [hS] at c0 hst
        rw [if_pos rfl] at hst
        by_cases hp : 0 < k ∧ S ((k : Int) - 1) = true
        · obtain ⟨a, s, es, _⟩ := hsp hp.1 hp.2
          obtain ⟨h0, h1⟩ := hp
          rw [h1, if_pos (by simp [h0]), es, extLast_snoc] at hst
          rw [es] at hown hlen
          obtain ⟨j, rfl⟩ : ∃ j, k = j + 1 := ⟨k - 1, by omega⟩
          have ej : ((j + 1 : Nat) : Int) - 1 = j := by omega
          rw [ej] at h1
          have c1 : wr.cell? ⟨g, j, none⟩ = some (.bool true) := by rw [kG.cell, minsOf_get _ (by omega), h1]
          rw [List.length_append, List.length_singleton] at hown hlen
          obtain ⟨gg, cap, rfl, hgg, hggl⟩ := hown.form (by omega)
          have HST := Lib.hid hst
          have hL := last_set a s ((j + 1 : Nat) + 1)
          have hcl : (((a ++ [s]).map spC).flatten)[a.length * 2 + 1]? = some (.int .i64 s.2) := by
            have hl : (a.map spC).flatten.length = a.length * 2 := by rw [flat_len _ spC_all, List.length_map]
            rw [List.map_append, List.flatten_append, List.getElem?_append_right (by omega), hl]
            simp [spC]
          have cT := hown.cellAt (a.length * 2 + 1) (by omega)
          rw [hcl] at cT
          have fT := hown.frozenAt (a.length * 2 + 1)
          obtain ⟨own2, gr2⟩ := hown.stored (a.length * 2 + 1) (.int .i64 ((j + 1 : Nat) + 1))
          rw [hL] at own2
          have OWN := Lib.hid own2
          have hge := (hown.lt gg rfl).1
          generalize hN : a.length = n at *
          have HN := Lib.hid hN
          clear hN
          clear hst hsp es hL hcl own2 gr2 hS kG
          go_wp2_with fail
          go_roundw
          case rel => exact ⟨j + 1 + 1, _, by omega, by go_num, rfl, by rw [HST.out]; simpa [HN.out] using OWN.out, hbw.st hge _⟩
          case measure => simp [intOf]; omega
        · rw [if_neg (by simpa using hp)] at hst
          obtain ⟨i0, hi, hz0, hz1, hz2⟩ := info_parts infoSpan
          have HT := Lib.hid (show (spansTo S k).map spC ++ [[.int .i64 k, .int .i64 ((k : Int) + 1)]] = (spansTo S (k + 1)).map spC by rw [hst, List.map_append]; rfl)
          have HL := Lib.hid (show (spansTo S (k + 1)).length = (spansTo S k).length + 1 by rw [hst]; simp)
          have hown' : wr.ownsRow w.heap.size 35 2 v ((spansTo S k).map spC).length ((spansTo S k).map spC).flatten := by rw [List.length_map]; exact hown
          have hml : ((spansTo S k).map spC).length ≤ k := by rw [List.length_map]; exact hlen
          have hrl : ∀ r ∈ (spansTo S k).map spC, r.length = 2 := spC_all
          clear hst hsp hown hS
          have hsz := hbw.size
          generalize hR : (spansTo S k).map spC = R at *
          have hap : ∀ (K : Value → World → Prop), True := fun _ => trivial
          have OWN := Lib.hid hown'
          clear hown' hap
          have fin : ∀ (v6 : Value) (w6 : World), w6.ownsRow w.heap.size 35 2 v6 (R ++ [[Value.int .i64 k, Value.int .i64 ((k : Int) + 1)]]).length (R ++ [[Value.int .i64 k, Value.int .i64 ((k : Int) + 1)]]).flatten → w6.ownsRow w.heap.size 35 2 v6 (spansTo S (k + 1)).length ((spansTo S (k + 1)).map spC).flatten := fun v6 w6 h => by
            rw [HT.out, List.length_map] at h; exact h
          have FIN := Lib.hid fin
          clear fin
          have HR := Lib.hid hR
          clear hR
          by_cases h0 : 0 < k
          · obtain ⟨j, rfl⟩ : ∃ j, k = j + 1 := ⟨k - 1, by omega⟩
            have ej : ((j + 1 : Nat) : Int) - 1 = j := by omega
            rw [ej] at hp
            have h1 : S j = false := by simpa using fun h => hp ⟨h0, h⟩
            have c1 : wr.cell? ⟨g, j, none⟩ = some (.bool false) := by rw [kG.cell, minsOf_get _ (by omega), h1]
            clear hp ej h1 kG
            go_wp2_with (at_builtin; refine append_rows rfl _ _ 22 rfl w.heap.size 35 i0 _ 2 16 Try.underlying22 hi hz0 hz1 hz2 rfl (by decide) v R rfl (OWN.out.alloc _) (some ⟨wr.heap.size, 0, none⟩) 1 1 (wr.heap.size + 1) [[.int .i64 ((j + 1 : Nat) : Int), .int .i64 (((j + 1 : Nat) : Int) + 1)]] rfl rfl (fun h => by cases h) (fun _ => ⟨wr.heap.size, 0, rfl, by simp, fun i hi => by match i, hi with | 0, _ => simpa using (Blk.new wr 35 #[Value.int .i64 ((j + 1 : Nat) : Int), Value.int .i64 (((j + 1 : Nat) : Int) + 1)]).row⟩) (by simp) (by simp [Value.oneCell']) (by simp [maxLen]; omega) (by simp; omega) (by simp; omega) ?_; intro v6 w6 own6 hg6)
            go_roundw
            case rel => exact ⟨j + 1 + 1, _, by omega, by go_num, rfl, FIN.out _ _ own6, (hbw.al _).grown hg6 (by simp; omega) (fun q hq => (OWN.out.lt q hq).1)⟩
            case measure => simp [intOf]; omega
          · have hk0 : k = 0 := by omega
            subst hk0
            clear hp kG
            go_wp2_with (at_builtin; refine append_rows rfl _ _ 22 rfl w.heap.size 35 i0 _ 2 16 Try.underlying22 hi hz0 hz1 hz2 rfl (by decide) v R rfl (OWN.out.alloc _) (some ⟨wr.heap.size, 0, none⟩) 1 1 (wr.heap.size + 1) [[.int .i64 0, .int .i64 1]] rfl rfl (fun h => by cases h) (fun _ => ⟨wr.heap.size, 0, rfl, by simp, fun i hi => by match i, hi with | 0, _ => simpa using (Blk.new wr 35 #[Value.int .i64 0, Value.int .i64 1]).row⟩) (by simp) (by simp [Value.oneCell']) (by simp [maxLen]; omega) (by simp; omega) (by simp; omega) ?_; intro v6 w6 own6 hg6)
            go_roundw
            case rel => exact ⟨0 + 1, _, by omega, by go_num, rfl, FIN.out _ _ own6, (hbw.al _).grown hg6 (by simp; omega) (fun q hq => (OWN.out.lt q hq).1)⟩
            case measure => simp [intOf]
    · have hk0 : k = 10080 := by omega
      subst hk0
      go_wp2_with fail
      go_ret
      obtain ⟨A, c, hv, hi, hn⟩ := own_ret hown
      subst hv
      exact ⟨A, c, rfl, hi, hn, hbw⟩

end Go.Proofs.Ytdhccaninopicaa
