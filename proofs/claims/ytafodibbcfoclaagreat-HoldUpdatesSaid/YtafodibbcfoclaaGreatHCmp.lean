/- Hold: the order of watched rules; what the comparison answers. -/
import Derived.Test.YtafodibbcfoclaaGreatHMap
import Derived.Test.YtafodibbcfoclaaGreatGPlain
import Derived.Lib.Bytealg
import Derived.Lib.Strings
set_option linter.unusedSimpArgs false
set_option linter.unusedVariables false
namespace Go.Proofs.YtafodibbcfoclaaGreat
open Go.RowKit

theorem STO.swo {α : Type} {lt : α → α → Bool} (h : STO lt) : Sort.SWO lt where
  irrefl := h.irrefl
  trans := h.trans
  ntrans x y z h1 h2 := by
    by_cases h3 : lt x z = true
    · exfalso
      by_cases e1 : x = y
      · subst e1; rw [h3] at h2; cases h2
      · have h4 := h.trans _ _ _ (h.tri _ _ h1 e1) h3
        rw [h2] at h4; cases h4
    · simpa using h3
theorem swo_by {α β : Type} {lt : β → β → Bool} (h : Sort.SWO lt) (f : α → β) : Sort.SWO (fun a b => lt (f a) (f b)) := ⟨fun x => h.irrefl _, fun x y z => h.trans _ _ _, fun x y z => h.ntrans _ _ _⟩
theorem cmpB_neg : ∀ (a b : List UInt8), Lib.compareBytes a b < 0 ↔ a < b
  | [], [] => by simp [Lib.compareBytes]
  | _ :: _, [] => by simp [Lib.compareBytes]
  | [], _ :: _ => by simp [Lib.compareBytes]
  | a :: x, b :: y => by
    unfold Lib.compareBytes
    rw [List.cons_lt_cons_iff]
    by_cases h1 : a < b
    · rw [if_pos h1]; simp [h1]
    · rw [if_neg h1]
      by_cases h2 : b < a
      · rw [if_pos h2]
        constructor
        · intro h; omega
        · rintro (h | ⟨h, -⟩)
          · exact absurd h h1
          · subst h; exact absurd h2 h1
      · rw [if_neg h2, cmpB_neg x y]
        have e : a = b := by
          apply UInt8.toNat_inj.1
          have h3 : ¬ a.toNat < b.toNat := fun h => h1 (UInt8.lt_iff_toNat_lt.2 h)
          have h4 : ¬ b.toNat < a.toNat := fun h => h2 (UInt8.lt_iff_toNat_lt.2 h)
          omega
        simp [h1, e]
set_option maxRecDepth 100000 in
set_option maxHeartbeats 1000000 in
theorem bytesCmp_any (a b : ByteArray) (w : World) : Calls Tryz.prog 41 #[.string a, .string b] w fun r w' => r = .returned (.int .i64 (Lib.compareBytes a.data.toList b.data.toList)) ∧ w' = w := by
  go_enter Tryz.func41, Tryz.ntmps41
  go_wp2
  rw [run_callFunc_extern Tryz.func57 (by kernel_rfl) (by kernel_rfl) (by kernel_rfl) (e := Extern.BytealgCompare.compare) (by kernel_rfl), Lib.run_compareString]
  simp only [Result.andThen]
  rw [Oper.upon_value]
  go_wp2_with fail
  go_ret
  exact ⟨rfl, rfl⟩
theorem strCmp_any (a b : ByteArray) (w : World) : Calls Tryz.prog 31 #[.string a, .string b] w fun r w' => r = .returned (.int .i64 (Lib.compareBytes a.data.toList b.data.toList)) ∧ w' = w := by
  have H := fun w => Lib.hid (bytesCmp_any a b w)
  go_enter Tryz.func31, Tryz.ntmps31
  go_wp2_with fail
  refine (H _).out.mono ?_
  rintro r w1 ⟨rfl, rfl⟩
  go_wp2_with fail
  go_ret
  exact ⟨rfl, rfl⟩
/-- A watched rule: its cells and what they say, and its time. -/
abbrev HP := (RlR × LRule) × Int
def encH (p : HP) : RlR × Int := (p.1.1, p.2)
def ltH (p q : HP) : Bool := ltB p.1.1.name q.1.1.name
def cmpH (p q : HP) : Int := Lib.compareBytes p.1.1.name.data.toList q.1.1.name.data.toList
theorem cmpH_neg (p q : HP) : decide (cmpH p q < 0) = ltH p q := by
  rw [Bool.eq_iff_iff, decide_eq_true_eq]
  unfold cmpH ltH
  rw [cmpB_neg, ltB, bl_eq, decide_eq_true_eq, Lib.toList_data, Lib.toList_data]
theorem swo_ltH : Sort.SWO ltH := swo_by sto_ltB.swo (fun p : HP => p.1.1.name)
set_option maxRecDepth 100000 in
set_option maxHeartbeats 1000000 in
theorem closure_h (p q : HP) (w : World) : Calls Tryz.prog 30 #[.agg (hC (encH p)).toArray, .agg (hC (encH q)).toArray] w fun r w' => r = .returned (.int .i64 (cmpH p q)) ∧ Dr.Lat w w' := by
  have H2 := fun a b w => Lib.hid (strCmp_any a b w)
  have HC : Hid (cmpH p q = Lib.compareBytes p.1.1.name.data.toList q.1.1.name.data.toList) := Lib.hid rfl
  generalize cmpH p q = R at *
  obtain ⟨⟨⟨x1, x2, x3, x4, x5, ⟨y1, y2, y3, y4, y5, y6, y7, y8, y9, y10⟩, x6, x7, x8, x9, x10, x11⟩, xl⟩, xt⟩ := p
  obtain ⟨⟨⟨z1, z2, z3, z4, z5, ⟨v1, v2, v3, v4, v5, v6, v7, v8, v9, v10⟩, z6, z7, z8, z9, z10, z11⟩, zl⟩, zt⟩ := q
  simp only [encH, hC, rC, List.cons_append, List.nil_append] at *
  have hL := fun (a b : Obj) => (Dr.Lat.al w a).trans (Dr.Lat.al (w.alloc a) b)
  go_enter Tryz.func30, Tryz.ntmps30
  go_wp2_with fail
  refine (H2 _ _ _).out.mono ?_
  rintro r w1 ⟨rfl, rfl⟩
  go_wp2_with fail
  go_ret
  rw [HC.out]
  exact ⟨rfl, hL _ _⟩
end Go.Proofs.YtafodibbcfoclaaGreat
