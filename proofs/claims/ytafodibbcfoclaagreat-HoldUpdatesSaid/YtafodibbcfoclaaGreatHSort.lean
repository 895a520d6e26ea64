/- Hold: watched rules sorted by name. -/
import Derived.Test.YtafodibbcfoclaaGreatHShelf
import Derived.Test.YtafodibbcfoclaaGreatHCmp
import Derived.Test.YtafodibbcfoclaaGreatGRowK
set_option linter.unusedSimpArgs false
set_option linter.unusedVariables false
namespace Go.Proofs.YtafodibbcfoclaaGreat
open Go.Shelf Go.RowKit Go.Lib Go.Sort

instance : Inhabited HP := ⟨((⟨noStr, 0, none, 0, 0, ⟨0, 0, 0, noStr, 0, 0, noStr, 0, noStr, noStr⟩, none, 0, 0, none, 0, 0⟩, ⟨noStr, [], .mk ⟨0, 0, 0, noStr, 0, 0, noStr, 0, noStr, noStr⟩ []⟩), 0)⟩
instance : Inhabited RlR := ⟨⟨noStr, 0, none, 0, 0, ⟨0, 0, 0, noStr, 0, 0, noStr, 0, noStr, noStr⟩, none, 0, 0, none, 0, 0⟩⟩
theorem sizeH : ∀ w, (Go.sizeOf 61).run Tryz.prog w = .ok EH.n w := Tryz.sizeOf61
set_option maxHeartbeats 2000000 in
theorem insH_none (p : Option Addr) (cap : Nat) (fv : Value) (w : World) : Calls Tryz.prog 47 #[.slice p 0 cap, .int .i64 0, .int .i64 0, fv] w fun e w' => e = .returned (.tuple #[]) ∧ w = w' := by
  go_enter Tryz.func47, Tryz.ntmps47
  go_wp2_with fail
  refine wp_loop_rounds 1 ?_
  rw [rounds_succ]
  go_wp2_with fail
  go_end0
  exact ⟨rfl, rfl⟩
set_option maxHeartbeats 2000000 in
theorem pdqH_none (p : Option Addr) (cap : Nat) (lim : Int) (fv : Value) (w : World) : Calls Tryz.prog 39 #[.slice p 0 cap, .int .i64 0, .int .i64 0, .int .i64 lim, fv] w fun e w' => e = .returned (.tuple #[]) ∧ w = w' := by
  go_enter Tryz.func39, Tryz.ntmps39
  go_wp2_with fail
  refine wp_loop_rounds 1 ?_
  rw [rounds_succ]
  go_wp2_with (go_at_call 47; refine (insH_none _ _ _ _).mono ?_; rintro e w' ⟨rfl, rfl⟩)
  (try simp only [Exit.inBlock, Exit.then]); refine bodyPost_ret (results_none rfl _ _ _) rfl ?_
  exact ⟨rfl, rfl⟩
set_option maxHeartbeats 2000000 in
theorem sortH_none (p : Option Addr) (cap : Nat) (fv : Value) (w : World) : Calls Tryz.prog 29 #[.slice p 0 cap, fv] w fun e w' => e = .returned (.tuple #[]) ∧ w = w' := by
  have hl : ∀ W, Hid (Calls Tryz.prog 40 #[.int .u64 0] W fun e w' => e = .returned (.int .i64 (Lib.bitLen 0 : Nat)) ∧ w' = W) := fun W => Lib.hid (by
    have h := Any.bits_Len (SlLaysF0.n15.bits (P := Tryz.prog) (ρ := sortH_ren) { sortH with }) 0 W (by omega) (by omega)
    exact h)
  go_enter Tryz.func29, Tryz.ntmps29
  go_wp2_with (first | (go_at_call 40; refine (hl _).out.mono ?_; rintro e w' ⟨rfl, rfl⟩) | (go_at_call 39; refine (pdqH_none _ _ _ _ _).mono ?_; rintro e w' ⟨rfl, rfl⟩))
  go_end0
  exact ⟨rfl, rfl⟩
/-- Where a sort has been: what lies below stays. -/
def Turned (w w' : World) (base : Nat) : Prop := w.heap.size ≤ w'.heap.size ∧ ∀ B, B ≤ base → B ≤ w.heap.size → RowKit.Below B w w'
theorem ltOfH : ltOf cmpH = ltH := by
  funext x y
  unfold ltOf
  exact cmpH_neg x y
theorem sortH_any (l : List HP) (v : Value) (base : Nat) (w : World) (hown : EH.Own w base (l.map encH) v) (hl : l.length ≤ 1000000) :
    Calls Tryz.prog 29 #[v, .func (.func 30) #[] #[]] w fun e w' => e = .returned (.tuple #[]) ∧ (∃ d : List HP, d.Perm l ∧ d.Pairwise (fun a b => ltH b a = false) ∧ EH.Own w' base (d.map encH) v) ∧ Turned w w' base := by
  cases l with
  | nil =>
    obtain ⟨A, c, hv⟩ := hown.slice
    subst hv
    refine (sortH_none A c _ w).mono ?_
    rintro e w' ⟨rfl, rfl⟩
    exact ⟨rfl, ⟨[], List.Perm.refl _, List.Pairwise.nil, hown⟩, Nat.le_refl _, fun B _ _ => RowKit.Below.refl _ _⟩
  | cons s r =>
    obtain ⟨g, cap, rfl, hbg, hgl⟩ := hown.form (by simp)
    have eg : ∀ args w, (callFunc 30 args).run Tryz.prog w = .ok (.enter 30 args) w := enters_of Tryz.func30 (by kernel_rfl) rfl
    have hH := EH.holdsK encH hown
    have hsw : SWO (ltOf cmpH) := by rw [ltOfH]; exact swo_ltH
    have hlm : ((s :: r).map encH).length = (s :: r).length := List.length_map ..
    have hcon := AnyQ.slices_SortFunc sortH EH.n Tryz.isAgg61 sizeH (fun x => EH.f (encH x)) (fun x => EH.len (encH x)) (fun x v hv => EH.one (encH x) v hv) cmpH hsw 30 #[] g 0 cap (s :: r).toArray w eg
      (fun _ _ _ _ x y => (closure_h x y _).mono fun e w' h => ⟨h.1, h.2.grows⟩) hH hgl (by simp at hl ⊢; omega)
    rw [hlm]
    refine hcon.mono ?_
    rintro e w' ⟨rfl, d', n, os, hp, hs, rfl⟩
    obtain ⟨hp1, _, hp2⟩ := hp
    have hsz : d'.size = (s :: r).length := by rw [hp1]; simp
    have e1 : d'.extract 0 (s :: r).toArray.size = d' := by rw [List.size_toArray, ← hsz]; exact Array.extract_size
    have e2 : (s :: r).toArray.extract 0 (s :: r).toArray.size = (s :: r).toArray := Array.extract_size
    rw [e1, e2] at hp2
    have ho := SWK.own EH encH hown ⟨n, os, rfl⟩ hsz
    rw [hlm] at ho
    refine ⟨rfl, ⟨d'.toList, by simpa using hp2, ?_, ho.1⟩, ho.2⟩
    rw [List.pairwise_iff_getElem]
    intro i j hi hj hij
    have := hs i j (Nat.zero_le _) hij (by simp; simpa [hsz] using hj)
    rw [ltOfH] at this
    have hi' : i < d'.size := by simpa using hi
    have hj' : j < d'.size := by simpa using hj
    rw [getElem!_pos d' i hi', getElem!_pos d' j hj'] at this
    simpa using this
end Go.Proofs.YtafodibbcfoclaaGreat
