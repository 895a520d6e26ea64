/- Guard: the comparison of locks; names searched; locks sorted. -/
import Derived.Test.YtmgalnbacenbbaaGreatGOps
import Derived.Test.YtmgalnbacenbbaaGreatGStable
import Derived.Lib.Bytealg
set_option linter.unusedSimpArgs false
set_option linter.unusedVariables false
namespace Go.Proofs.YtmgalnbacenbbaaGreat
open Go.RowKit

theorem STO.swo {α : Type} {lt : α → α → Bool} (h : STO lt) : Sort.SWO lt where
  irrefl := h.irrefl
  trans := h.trans
  ntrans x y z h1 h2 := by
    by_cases h3 : lt x z = true
    · exfalso
      by_cases e1 : x = y
      · subst e1; rw [h3] at h2; cases h2
      · have h4 := h.trans _ _ _ (h.tri _ _ h1 e1) h3
        rw [h2] at h4; cases h4
    · simpa using h3
theorem swo_by {α β : Type} {lt : β → β → Bool} (h : Sort.SWO lt) (f : α → β) : Sort.SWO (fun a b => lt (f a) (f b)) := ⟨fun x => h.irrefl _, fun x y z => h.trans _ _ _, fun x y z => h.ntrans _ _ _⟩
/-- The stronger of two. -/
def rn (n1 : ByteArray) (r1 : Int) (n2 : ByteArray) (r2 : Int) : Bool := lexP ltI ltB (r1, n1) (r2, n2)
def strK (a b : LLock) : Bool := rn a.name a.rank b.name b.rank
def strP (a b : LkR × LLock) : Bool := rn a.1.name a.1.rank b.1.name b.1.rank
theorem swo_strK : Sort.SWO strK := swo_by (sto_ltI.lex sto_ltB).swo (fun l : LLock => (l.rank, l.name))
theorem swo_strP : Sort.SWO strP := swo_by (sto_ltI.lex sto_ltB).swo (fun l : LkR × LLock => (l.1.rank, l.1.name))
theorem cmpB_neg : ∀ (a b : List UInt8), Lib.compareBytes a b < 0 ↔ a < b
  | [], [] => by simp [Lib.compareBytes]
  | _ :: _, [] => by simp [Lib.compareBytes]
  | [], _ :: _ => by simp [Lib.compareBytes]
  | a :: x, b :: y => by
    unfold Lib.compareBytes
    rw [List.cons_lt_cons_iff]
    by_cases h1 : a < b
    · rw [if_pos h1]; simp [h1]
    · rw [if_neg h1]
      by_cases h2 : b < a
      · rw [if_pos h2]
        constructor
        · intro h; omega
        · rintro (h | ⟨h, -⟩)
          · exact absurd h h1
          · subst h; exact absurd h2 h1
      · rw [if_neg h2, cmpB_neg x y]
        have e : a = b := by
          apply UInt8.toNat_inj.1
          have h3 : ¬ a.toNat < b.toNat := fun h => h1 (UInt8.lt_iff_toNat_lt.2 h)
          have h4 : ¬ b.toNat < a.toNat := fun h => h2 (UInt8.lt_iff_toNat_lt.2 h)
          omega
        simp [h1, e]
def cmpI3 (a b : Int) : Int := if a < b then -1 else if b < a then 1 else 0
def cmpLk (a b : LkR) : Int := if cmpI3 a.rank b.rank ≠ 0 then cmpI3 a.rank b.rank else Lib.compareBytes a.name.data.toList b.name.data.toList
theorem cmpLk_neg (a b : LkR) (x y : LLock) : decide (cmpLk a b < 0) = strP (a, x) (b, y) := by
  rw [Bool.eq_iff_iff, decide_eq_true_eq]
  unfold cmpLk strP rn lexP cmpI3
  dsimp only
  by_cases h1 : a.rank < b.rank
  · have h2 : a.rank ≠ b.rank := by omega
    simp [h1, h2, ltI]
  · by_cases h2 : b.rank < a.rank
    · have h3 : a.rank ≠ b.rank := by omega
      simp [h1, h2, h3, ltI]
    · have h3 : a.rank = b.rank := by omega
      simp only [h3, Int.lt_irrefl, if_false, ne_eq, not_true_eq_false]
      rw [cmpB_neg, ltB, bl_eq, decide_eq_true_eq, Lib.toList_data, Lib.toList_data]
theorem nan_any (a : Int) (w : World) : Calls Tryz.prog 55 #[.int .i64 a] w fun r w' => r = .returned (.bool false) ∧ w' = w := by
  go_enter Tryz.func55, Tryz.ntmps55
  go_wp2_with fail
  go_ret
  exact ⟨ret_bool (by simp), rfl⟩
theorem cmpInt_any (a b : Int) (w : World) : Calls Tryz.prog 28 #[.int .i64 a, .int .i64 b] w fun r w' => r = .returned (.int .i64 (cmpI3 a b)) ∧ w' = w := by
  have HN := fun a w => Lib.hid (nan_any a w)
  have HC : Hid (cmpI3 a b = if a < b then -1 else if b < a then 1 else 0) := Lib.hid rfl
  generalize cmpI3 a b = R at *
  go_enter Tryz.func28, Tryz.ntmps28
  go_wp2_with fail
  refine (HN _ _).out.mono ?_
  rintro r w1 ⟨rfl, rfl⟩
  go_wp2_with fail
  refine (HN _ _).out.mono ?_
  rintro r w2 ⟨rfl, rfl⟩
  by_cases h1 : a < b
  · go_wp2_with fail
    go_ret
    rw [HC.out, if_pos h1]; exact ⟨rfl, rfl⟩
  · by_cases h2 : b < a
    · go_wp2_with fail
      go_ret
      rw [HC.out, if_neg (by omega), if_pos h2]; exact ⟨rfl, rfl⟩
    · go_wp2_with fail
      go_ret
      rw [HC.out, if_neg (by omega), if_neg (by omega)]; exact ⟨rfl, rfl⟩
set_option maxRecDepth 100000 in
set_option maxHeartbeats 1000000 in
theorem bytesCmp_any (a b : ByteArray) (w : World) : Calls Tryz.prog 56 #[.string a, .string b] w fun r w' => r = .returned (.int .i64 (Lib.compareBytes a.data.toList b.data.toList)) ∧ w' = w := by
  go_enter Tryz.func56, Tryz.ntmps56
  go_wp2
  rw [run_callFunc_extern Tryz.func76 (by kernel_rfl) (by kernel_rfl) (by kernel_rfl) (e := Extern.BytealgCompare.compare) (by kernel_rfl), Lib.run_compareString]
  simp only [Result.andThen]
  rw [Oper.upon_value]
  go_wp2_with fail
  go_ret
  exact ⟨rfl, rfl⟩
theorem strCmp_any (a b : ByteArray) (w : World) : Calls Tryz.prog 29 #[.string a, .string b] w fun r w' => r = .returned (.int .i64 (Lib.compareBytes a.data.toList b.data.toList)) ∧ w' = w := by
  have H := fun w => Lib.hid (bytesCmp_any a b w)
  go_enter Tryz.func29, Tryz.ntmps29
  go_wp2_with fail
  refine (H _).out.mono ?_
  rintro r w1 ⟨rfl, rfl⟩
  go_wp2_with fail
  go_ret
  exact ⟨rfl, rfl⟩
set_option maxRecDepth 100000 in
set_option maxHeartbeats 1000000 in
theorem closure_lk (x y : LkR) (w : World) : Calls Tryz.prog 27 #[.agg (lkC x).toArray, .agg (lkC y).toArray] w fun r w' => r = .returned (.int .i64 (cmpLk x y)) ∧ Dr.Lat w w' := by
  have H1 := fun a b w => Lib.hid (cmpInt_any a b w)
  have H2 := fun a b w => Lib.hid (strCmp_any a b w)
  have HC : Hid (cmpLk x y = if cmpI3 x.rank y.rank ≠ 0 then cmpI3 x.rank y.rank else Lib.compareBytes x.name.data.toList y.name.data.toList) := Lib.hid rfl
  generalize cmpLk x y = R at *
  obtain ⟨x1, x2, ⟨a1, a2, a3, a4, ⟨a5, a6, a7⟩, ⟨a8, a9, a10⟩, a11, a12, a13⟩, x3, x4, x5, x6, x7, x8, x9⟩ := x
  obtain ⟨y1, y2, ⟨b1, b2, b3, b4, ⟨b5, b6, b7⟩, ⟨b8, b9, b10⟩, b11, b12, b13⟩, y3, y4, y5, y6, y7, y8, y9⟩ := y
  simp only [lkC, whC, kC, vC, List.cons_append, List.nil_append] at *
  have hL := fun (a b : Obj) => (Dr.Lat.al w a).trans (Dr.Lat.al (w.alloc a) b)
  go_enter Tryz.func27, Tryz.ntmps27
  go_wp2_with fail
  refine (H1 _ _ _).out.mono ?_
  rintro r w1 ⟨rfl, rfl⟩
  generalize cmpI3 x2 y2 = C1 at *
  by_cases h1 : C1 = 0
  · have h2 : (C1 != 0) = false := by rw [h1]; rfl
    go_wp2_with fail
    refine (H2 _ _ _).out.mono ?_
    rintro r w2 ⟨rfl, rfl⟩
    go_wp2_with fail
    go_ret
    have e := HC.out
    rw [if_neg (by simp [h1])] at e
    rw [e]
    exact ⟨rfl, hL _ _⟩
  · have h2 : (C1 != 0) = true := bne_iff_ne.2 h1
    go_wp2_with fail
    go_ret
    have e := HC.out
    rw [if_pos h1] at e
    rw [e]
    exact ⟨rfl, hL _ _⟩
end Go.Proofs.YtmgalnbacenbbaaGreat
