/- Guard: locks sorted, keys sorted. -/
import Derived.Test.YtmgalnbacenbbaaGreatGCmp
import Derived.Test.YtmgalnbacenbbaaGreatGPlain
import Derived.Test.YtmgalnbacenbbaaGreatGRowK
import Derived.Test.YtmgalnbacenbbaaGreatGOps
set_option linter.unusedSimpArgs false
set_option linter.unusedVariables false
namespace Go.Proofs.YtmgalnbacenbbaaGreat
open Go.Shelf Go.RowKit Go.Lib Go.Sort
instance : Inhabited LkR := ⟨⟨noStr, 0, ⟨0, 0, 0, noStr, ⟨0, 0, noStr⟩, ⟨0, noStr, noStr⟩, none, 0, 0⟩, false, none, 0, 0, none, 0, 0⟩⟩
instance : Inhabited LLock := ⟨⟨noStr, 0, [], []⟩⟩
instance : Inhabited LKey := ⟨⟨0, noStr, noStr⟩⟩
def encT (p : (LkR × LLock) × Nat) : LkR := p.1.1
theorem sizeLk : ∀ w, (Go.sizeOf 40).run Tryz.prog w = .ok EL.n w := Tryz.sizeOf40
theorem zip_fst (ps : List (LkR × LLock)) : (ps.zipIdx.map encT) = ps.map Prod.fst := by
  have : encT = Prod.fst ∘ Prod.fst := rfl
  rw [this, ← List.map_map, List.zipIdx_map_fst]
theorem zip_tags (ps : List (LkR × LLock)) : ps.zipIdx.Pairwise (fun a b => a.2 < b.2) := by
  rw [List.pairwise_iff_getElem]
  intro i j hi hj h
  rw [List.getElem_zipIdx, List.getElem_zipIdx]
  simpa using h
/-- Where a sort has been: what lies below stays. -/
def Turned (w w' : World) (base : Nat) : Prop := w.heap.size ≤ w'.heap.size ∧ ∀ B, B ≤ base → B ≤ w.heap.size → RowKit.Below B w w'
theorem sortLk_any (ps : List (LkR × LLock)) (v : Value) (base : Nat) (w : World) (hown : EL.Own w base (ps.map Prod.fst) v) (hl : ps.length < 40) :
    Calls Tryz.prog 26 #[v, .func (.func 27) #[] #[]] w fun e w' => e = .returned (.tuple #[]) ∧ EL.Own w' base ((stab strP ps).map Prod.fst) v ∧ Turned w w' base := by
  cases ps with
  | nil =>
    obtain ⟨A, c, hv⟩ := hown.slice
    subst hv
    refine (sortStable_none A c _ w).mono ?_
    rintro e w' ⟨rfl, rfl⟩
    exact ⟨rfl, hown, Nat.le_refl _, fun B _ _ => RowKit.Below.refl _ _⟩
  | cons s r =>
    obtain ⟨g, cap, rfl, hbg, hgl⟩ := hown.form (by simp)
    have hown' : EL.Own w base (((s :: r).zipIdx).map encT) (.slice (some ⟨g, 0, none⟩) ((s :: r).map Prod.fst).length cap) := by rw [zip_fst]; exact hown
    have hlen : ((s :: r).zipIdx).length = (s :: r).length := List.length_zipIdx ..
    have eg : ∀ args w, (callFunc 27 args).run Tryz.prog w = .ok (.enter 27 args) w := enters_of Tryz.func27 (by kernel_rfl) rfl
    have hR : RowK (fun x => EL.f (encT x)) EL.n w g 0 ((s :: r).zipIdx).toArray := ⟨fun x => EL.len _, fun x v hv => EL.one _ v hv, EL.holdsK encT hown', hgl⟩
    have htg := zip_tags (s :: r)
    have hcon := sortStable_any (lt := strP) swo_strP EL.n sizeLk (fun x => EL.f (encT x)) (fun x y => cmpLk (encT x) (encT y)) (fun x y => cmpLk_neg _ _ _ _) 27 #[] g 0 cap ((s :: r).zipIdx).toArray w eg
      (fun _ _ _ _ x y => (closure_lk (encT x) (encT y) _).mono fun e w' h => ⟨h.1, h.2.grows⟩) hR (by rw [List.size_toArray, hlen]; exact hl)
      (fun p q h1 h2 => by
        rw [List.size_toArray] at h2
        rw [List.pairwise_iff_getElem] at htg
        have := htg q p (by omega) h2 h1
        have e1 : (((s :: r).zipIdx).toArray)[q]! = ((s :: r).zipIdx)[q]'(by omega) := by rw [getElem!_pos _ _ (by rw [List.size_toArray]; omega)]; simp
        have e2 : (((s :: r).zipIdx).toArray)[p]! = ((s :: r).zipIdx)[p]'h2 := by rw [getElem!_pos _ _ (by rw [List.size_toArray]; exact h2)]; simp
        rw [e1, e2]; exact this)
    have hsz : (((s :: r).zipIdx).toArray).size = ((s :: r).map Prod.fst).length := by rw [List.size_toArray, hlen, List.length_map]
    rw [hsz] at hcon
    refine hcon.mono ?_
    rintro e w' ⟨rfl, d', hp, hs, S⟩
    rw [List.size_toArray] at hp hs
    have hst := stabled swo_strP htg hp hs
    rw [List.zipIdx_map_fst] at hst
    have hd : d'.size = ((s :: r).zipIdx).length := by have := hp.1; simpa using this
    have ho := SWK.own EL encT hown' S hd
    have e3 : d'.toList.map encT = (stab strP (s :: r)).map Prod.fst := by
      rw [← hst, List.map_map]; rfl
    rw [e3] at ho
    exact ⟨rfl, ho.1, ho.2⟩
set_option maxRecDepth 100000 in
set_option maxHeartbeats 1000000 in
theorem closure_ky (x y : LKey) (w : World) : Calls Tryz.prog 50 #[.agg (kC x).toArray, .agg (kC y).toArray] w fun r w' => r = .returned (.int .i64 (if kless x y then -1 else if kless y x then 1 else 0)) ∧ Dr.Lat w w' := by
  have H := fun a b w => Lib.hid (Dr.less_any a b w)
  have hb := fun (a b : Obj) => (Dr.Lat.al w a).trans (Dr.Lat.al (w.alloc a) b)
  generalize hk1 : kless x y = k1 at *
  generalize hk2 : kless y x = k2 at *
  have K1 := Lib.hid hk1
  have K2 := Lib.hid hk2
  have H1 : ∀ w', Hid (Calls Tryz.prog 36 #[.agg (kC x).toArray, .agg (kC y).toArray] w' fun r w'' => r = .returned (.bool k1) ∧ Dr.Lat w' w'') := fun w' => Lib.hid (by rw [← hk1]; exact (H x y w').out)
  have H2 : ∀ w', Hid (Calls Tryz.prog 36 #[.agg (kC y).toArray, .agg (kC x).toArray] w' fun r w'' => r = .returned (.bool k2) ∧ Dr.Lat w' w'') := fun w' => Lib.hid (by rw [← hk2]; exact (H y x w').out)
  clear H hk1 hk2 K1 K2
  obtain ⟨x1, x2, x3⟩ := x
  obtain ⟨y1, y2, y3⟩ := y
  simp only [kC] at *
  have bx := (Blk.new w 34 #[.int .i64 x1, .string x2, .string x3]).alloc (.cells #[.int .i64 y1, .string y2, .string y3] 34)
  have by_ := Blk.at1 w (.cells #[.int .i64 x1, .string x2, .string x3] 34) 34 #[.int .i64 y1, .string y2, .string y3]
  go_enter Tryz.func50, Tryz.ntmps50
  go_wp2_with fail
  refine (H1 _).out.mono ?_
  rintro r w1 ⟨rfl, hl1⟩
  have hL1 := (hb _ _).trans hl1
  have cx := (bx.below (drLat hl1)).cell
  have cy := (by_.below (drLat hl1)).cell
  cases k1
  · go_wp2_with fail
    refine (H2 _).out.mono ?_
    rintro r w2 ⟨rfl, hl2⟩
    have hL2 := hL1.trans hl2
    cases k2
    · go_wp2_with fail
      go_ret
      exact ⟨rfl, hL2⟩
    · go_wp2_with fail
      go_ret
      exact ⟨rfl, hL2⟩
  · go_wp2_with fail
    go_ret
    exact ⟨rfl, hL1⟩
theorem ltK (x y : LKey) : ltOf (fun x y => if kless x y then (-1 : Int) else if kless y x then 1 else 0) x y = kless x y := by
  unfold ltOf
  cases h1 : kless x y <;> cases h2 : kless y x <;> simp [h1, h2]
theorem swoK : SWO (ltOf (fun x y => if kless x y then (-1 : Int) else if kless y x then 1 else 0)) := by
  have : ltOf (fun x y => if kless x y then (-1 : Int) else if kless y x then 1 else 0) = kless := by funext x y; exact ltK x y
  rw [this]; exact sto_kless.swo
theorem sizeKy : ∀ w, (Go.sizeOf 34).run Tryz.prog w = .ok EK.n w := Tryz.sizeOf34
set_option maxHeartbeats 2000000 in
theorem insK_none (p : Option Addr) (cap : Nat) (fv : Value) (w : World) : Calls Tryz.prog 89 #[.slice p 0 cap, .int .i64 0, .int .i64 0, fv] w fun e w' => e = .returned (.tuple #[]) ∧ w = w' := by
  go_enter Tryz.func89, Tryz.ntmps89
  go_wp2_with fail
  refine wp_loop_rounds 1 ?_
  rw [rounds_succ]
  go_wp2_with fail
  go_end0
  exact ⟨rfl, rfl⟩
set_option maxHeartbeats 2000000 in
theorem pdqK_none (p : Option Addr) (cap : Nat) (lim : Int) (fv : Value) (w : World) : Calls Tryz.prog 72 #[.slice p 0 cap, .int .i64 0, .int .i64 0, .int .i64 lim, fv] w fun e w' => e = .returned (.tuple #[]) ∧ w = w' := by
  go_enter Tryz.func72, Tryz.ntmps72
  go_wp2_with fail
  refine wp_loop_rounds 1 ?_
  rw [rounds_succ]
  go_wp2_with (go_at_call 89; refine (insK_none _ _ _ _).mono ?_; rintro e w' ⟨rfl, rfl⟩)
  (try simp only [Exit.inBlock, Exit.then]); refine bodyPost_ret (results_none rfl _ _ _) rfl ?_
  exact ⟨rfl, rfl⟩
set_option maxHeartbeats 2000000 in
theorem sortK_none (p : Option Addr) (cap : Nat) (fv : Value) (w : World) : Calls Tryz.prog 49 #[.slice p 0 cap, fv] w fun e w' => e = .returned (.tuple #[]) ∧ w = w' := by
  have hl : ∀ W, Hid (Calls Tryz.prog 59 #[.int .u64 0] W fun e w' => e = .returned (.int .i64 (Lib.bitLen 0 : Nat)) ∧ w' = W) := fun W => Lib.hid (by
    have h := Any.bits_Len (SlLaysF0.n15.bits (P := Tryz.prog) (ρ := sortKy_ren) { sortKy with }) 0 W (by omega) (by omega)
    exact h)
  go_enter Tryz.func49, Tryz.ntmps49
  go_wp2_with (first | (go_at_call 59; refine (hl _).out.mono ?_; rintro e w' ⟨rfl, rfl⟩) | (go_at_call 72; refine (pdqK_none _ _ _ _ _).mono ?_; rintro e w' ⟨rfl, rfl⟩))
  go_end0
  exact ⟨rfl, rfl⟩
theorem sortKy_any (l : List LKey) (v : Value) (base : Nat) (w : World) (hown : EK.Own w base l v) (hl : l.length ≤ 1000000) :
    Calls Tryz.prog 49 #[v, .func (.func 50) #[] #[]] w fun e w' => e = .returned (.tuple #[]) ∧ (∃ d : List LKey, d.Perm l ∧ d.Pairwise (fun a b => kless b a = false) ∧ EK.Own w' base d v) ∧ Turned w w' base := by
  cases l with
  | nil =>
    obtain ⟨A, c, hv⟩ := hown.slice
    subst hv
    refine (sortK_none A c _ w).mono ?_
    rintro e w' ⟨rfl, rfl⟩
    exact ⟨rfl, ⟨[], List.Perm.refl _, List.Pairwise.nil, hown⟩, Nat.le_refl _, fun B _ _ => RowKit.Below.refl _ _⟩
  | cons s r =>
    obtain ⟨g, cap, rfl, hbg, hgl⟩ := hown.form (by simp)
    have hown' : EK.Own w base ((s :: r).map (fun x => x)) (.slice (some ⟨g, 0, none⟩) (s :: r).length cap) := by rw [List.map_id']; exact hown
    have eg : ∀ args w, (callFunc 50 args).run Tryz.prog w = .ok (.enter 50 args) w := enters_of Tryz.func50 (by kernel_rfl) rfl
    have hH := EK.holdsK (fun x => x) hown'
    have hcon := AnyQ.slices_SortFunc sortKy EK.n Tryz.isAgg34 sizeKy (fun x => EK.f x) (fun x => EK.len x) (fun x v hv => EK.one x v hv) (fun x y => if kless x y then (-1 : Int) else if kless y x then 1 else 0) swoK 50 #[] g 0 cap (s :: r).toArray w eg
      (fun _ _ _ _ x y => (closure_ky x y _).mono fun e w' h => ⟨h.1, h.2.grows⟩) hH hgl (by simp at hl ⊢; omega)
    refine hcon.mono ?_
    rintro e w' ⟨rfl, d', n, os, hp, hs, rfl⟩
    obtain ⟨hp1, _, hp2⟩ := hp
    have hsz : d'.size = (s :: r).length := by rw [hp1]; simp
    have e1 : d'.extract 0 (s :: r).toArray.size = d' := by rw [List.size_toArray, ← hsz]; exact Array.extract_size
    have e2 : (s :: r).toArray.extract 0 (s :: r).toArray.size = (s :: r).toArray := Array.extract_size
    rw [e1, e2] at hp2
    have ho := SWK.own EK (fun x => x) hown' ⟨n, os, rfl⟩ hsz
    rw [List.map_id'] at ho
    have hl' : d'.toList.length = (s :: r).length := by rw [Array.length_toList]; exact hsz
    refine ⟨rfl, ⟨d'.toList, by simpa using hp2, ?_, ho.1⟩, ho.2⟩
    rw [List.pairwise_iff_getElem]
    intro i j hi hj hij
    have := hs i j (Nat.zero_le _) hij (by simp; simpa [hsz] using hj)
    rw [ltK] at this
    have hi' : i < d'.size := by simpa using hi
    have hj' : j < d'.size := by simpa using hj
    rw [getElem!_pos d' i hi', getElem!_pos d' j hj'] at this
    simpa using this
end Go.Proofs.YtmgalnbacenbbaaGreat
