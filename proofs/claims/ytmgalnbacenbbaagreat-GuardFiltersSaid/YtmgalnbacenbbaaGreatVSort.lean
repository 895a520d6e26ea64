/- Guard: writes sorted by keys, then by precedence. -/
import Derived.Test.YtmgalnbacenbbaaGreatVShelfW
import Derived.Test.YtmgalnbacenbbaaGreatVRanks
import Derived.Test.YtmgalnbacenbbaaGreatGRowK
import Derived.Test.YtmgalnbacenbbaaGreatGSort
set_option linter.unusedSimpArgs false
set_option linter.unusedVariables false
namespace Go.Proofs.YtmgalnbacenbbaaGreat
open Go.Shelf Go.RowKit Go.Lib Go.Sort

instance : Inhabited LW := ⟨⟨⟨0, noStr, noStr⟩, ⟨0, 0, noStr⟩, 0, noStr, 0, 0⟩⟩
theorem ltW (x y : LW) : ltOf ordI x y = wless x y := by
  unfold ltOf
  rw [Bool.eq_iff_iff]
  simp only [decide_eq_true_eq]
  exact cmpI_neg x y
theorem swoW : SWO (ltOf ordI) where
  irrefl x := by rw [ltW]; exact sto_wless.irrefl x
  trans x y z h1 h2 := by rw [ltW] at *; exact sto_wless.trans _ _ _ h1 h2
  ntrans x y z h1 h2 := by
    rw [ltW] at *
    by_cases h : wless x z = true
    · exfalso
      by_cases e1 : x = y
      · subst e1; rw [h] at h2; cases h2
      · have h3 := sto_wless.trans _ _ _ (sto_wless.tri _ _ h1 e1) h
        rw [h2] at h3; cases h3
    · simpa using h
theorem sizeW : ∀ w, (Go.sizeOf 44).run Tryz.prog w = .ok EW.n w := Tryz.sizeOf44
set_option maxHeartbeats 2000000 in
theorem insW_none (p : Option Addr) (cap : Nat) (fv : Value) (w : World) : Calls Tryz.prog 77 #[.slice p 0 cap, .int .i64 0, .int .i64 0, fv] w fun e w' => e = .returned (.tuple #[]) ∧ w = w' := by
  go_enter Tryz.func77, Tryz.ntmps77
  go_wp2_with fail
  refine wp_loop_rounds 1 ?_
  rw [rounds_succ]
  go_wp2_with fail
  go_end0
  exact ⟨rfl, rfl⟩
set_option maxHeartbeats 2000000 in
theorem pdqW_none (p : Option Addr) (cap : Nat) (lim : Int) (fv : Value) (w : World) : Calls Tryz.prog 58 #[.slice p 0 cap, .int .i64 0, .int .i64 0, .int .i64 lim, fv] w fun e w' => e = .returned (.tuple #[]) ∧ w = w' := by
  go_enter Tryz.func58, Tryz.ntmps58
  go_wp2_with fail
  refine wp_loop_rounds 1 ?_
  rw [rounds_succ]
  go_wp2_with (go_at_call 77; refine (insW_none _ _ _ _).mono ?_; rintro e w' ⟨rfl, rfl⟩)
  (try simp only [Exit.inBlock, Exit.then]); refine bodyPost_ret (results_none rfl _ _ _) rfl ?_
  exact ⟨rfl, rfl⟩
set_option maxHeartbeats 2000000 in
theorem sortW_none (p : Option Addr) (cap : Nat) (fv : Value) (w : World) : Calls Tryz.prog 32 #[.slice p 0 cap, fv] w fun e w' => e = .returned (.tuple #[]) ∧ w = w' := by
  have hl : ∀ W, Hid (Calls Tryz.prog 59 #[.int .u64 0] W fun e w' => e = .returned (.int .i64 (Lib.bitLen 0 : Nat)) ∧ w' = W) := fun W => Lib.hid (by
    have h := Any.bits_Len (SlLaysF0.n15.bits (P := Tryz.prog) (ρ := sortW_ren) { sortW with }) 0 W (by omega) (by omega)
    exact h)
  go_enter Tryz.func32, Tryz.ntmps32
  go_wp2_with (first | (go_at_call 59; refine (hl _).out.mono ?_; rintro e w' ⟨rfl, rfl⟩) | (go_at_call 58; refine (pdqW_none _ _ _ _ _).mono ?_; rintro e w' ⟨rfl, rfl⟩))
  go_end0
  exact ⟨rfl, rfl⟩
theorem sort_any (l : List LW) (v : Value) (base : Nat) (w : World) (hown : EW.Own w base l v) (hl : l.length ≤ 1000000) :
    Calls Tryz.prog 32 #[v, .func (.func 33) #[] #[]] w fun e w' => e = .returned (.tuple #[]) ∧ (∃ d : List LW, d.Perm l ∧ d.Pairwise (fun a b => wless b a = false) ∧ EW.Own w' base d v) ∧ Turned w w' base := by
  cases l with
  | nil =>
    obtain ⟨A, c, hv⟩ := hown.slice
    subst hv
    refine (sortW_none A c _ w).mono ?_
    rintro e w' ⟨rfl, rfl⟩
    exact ⟨rfl, ⟨[], List.Perm.refl _, List.Pairwise.nil, hown⟩, Nat.le_refl _, fun B _ _ => RowKit.Below.refl _ _⟩
  | cons s r =>
    obtain ⟨g, cap, rfl, hbg, hgl⟩ := hown.form (by simp)
    have hown' : EW.Own w base ((s :: r).map (fun x => x)) (.slice (some ⟨g, 0, none⟩) (s :: r).length cap) := by rw [List.map_id']; exact hown
    have eg : ∀ args w, (callFunc 33 args).run Tryz.prog w = .ok (.enter 33 args) w := enters_of Tryz.func33 (by kernel_rfl) rfl
    have hH := EW.holdsK (fun x => x) hown'
    have hcon := AnyQ.slices_SortFunc sortW EW.n Tryz.isAgg44 sizeW (fun x => EW.f x) (fun x => EW.len x) (fun x v hv => EW.one x v hv) ordI swoW 33 #[] g 0 cap (s :: r).toArray w eg
      (fun _ _ _ _ x y => (Dr.closure_any x y _).mono fun e w' h => ⟨h.1, h.2.grows⟩) hH hgl (by simp at hl ⊢; omega)
    refine hcon.mono ?_
    rintro e w' ⟨rfl, d', n, os, hp, hs, rfl⟩
    obtain ⟨hp1, _, hp2⟩ := hp
    have hsz : d'.size = (s :: r).length := by rw [hp1]; simp
    have e1 : d'.extract 0 (s :: r).toArray.size = d' := by rw [List.size_toArray, ← hsz]; exact Array.extract_size
    have e2 : (s :: r).toArray.extract 0 (s :: r).toArray.size = (s :: r).toArray := Array.extract_size
    rw [e1, e2] at hp2
    have ho := SWK.own EW (fun x => x) hown' ⟨n, os, rfl⟩ hsz
    rw [List.map_id'] at ho
    have hl' : d'.toList.length = (s :: r).length := by rw [Array.length_toList]; exact hsz
    refine ⟨rfl, ⟨d'.toList, by simpa using hp2, ?_, ho.1⟩, ho.2⟩
    rw [List.pairwise_iff_getElem]
    intro i j hi hj hij
    have := hs i j (Nat.zero_le _) hij (by simp; simpa [hsz] using hj)
    rw [ltW] at this
    have hi' : i < d'.size := by simpa using hi
    have hj' : j < d'.size := by simpa using hj
    rw [getElem!_pos d' i hi', getElem!_pos d' j hj'] at this
    simpa using this
end Go.Proofs.YtmgalnbacenbbaaGreat
