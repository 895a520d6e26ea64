/- Resolve: the examples. -/
import Derived.Test.YtgjoojailghilaaDoorVExpl
import Derived.Test.YtgjoojailghilaaDoorVMerge
import Derived.Test.YtgjoojailghilaaDoorVWin
import Derived.Test.YtgjoojailghilaaDoorVSame
import Derived.Test.YtgjoojailghilaaDoorVBef
set_option linter.unusedSimpArgs false
set_option linter.unusedVariables false
namespace Go.Proofs.YtgjoojailghilaaDoor
open Go.RowKit

set_option maxRecDepth 100000 in
set_option maxHeartbeats 1000000 in
theorem check_bool (n : Bool) (w : World) : Calls Tryd.prog 70 #[.agg #[.int .i64 1, .int .i64 (if n then 1 else 0), .string ⟨#[]⟩]] w fun r w' => r = .returned (.int .i64 0) ∧ Lat w w' := by
  have hL : ∀ i, Lat w (w.alloc (.cells #[.int .i64 1, .int .i64 i, .string ⟨#[]⟩] 25)) := fun i => Lat.al _ _
  cases n
  · simp only [Bool.false_eq_true, if_false]
    have hl := hL 0
    go_enter Tryd.func70, Tryd.ntmps70
    go_wp2_with fail
    go_ret
    exact ⟨rfl, hl⟩
  · simp only [if_true]
    have hl := hL 1
    go_enter Tryd.func70, Tryd.ntmps70
    go_wp2_with fail
    go_ret
    exact ⟨rfl, hl⟩
def boolS (n : Bool) : ByteArray := if n then ⟨#[116, 114, 117, 101]⟩ else ⟨#[102, 97, 108, 115, 101]⟩
set_option maxRecDepth 100000 in
set_option maxHeartbeats 1000000 in
theorem print_bool (n : Bool) (w : World) : Calls Tryd.prog 55 #[.agg #[.int .i64 1, .int .i64 (if n then 1 else 0), .string ⟨#[]⟩]] w fun r w' => r = .returned (.string (boolS n)) ∧ Lat w w' := by
  have hL : ∀ i, Lat w (w.alloc (.cells #[.int .i64 1, .int .i64 i, .string ⟨#[]⟩] 25)) := fun i => Lat.al _ _
  have HC := fun w' => Lib.hid (check_bool n w')
  cases n
  · simp only [Bool.false_eq_true, if_false] at *
    have hl := hL 0
    have hb := Blk.new w 25 #[.int .i64 1, .int .i64 0, .string ⟨#[]⟩]
    go_enter Tryd.func55, Tryd.ntmps55
    go_wp2_with fail
    refine (HC _).out.mono ?_
    rintro r w2 ⟨rfl, hl2⟩
    have cx := (hb.lat hl2).cell
    have hl3 := hl.trans hl2
    go_wp2_with fail
    go_ret
    exact ⟨rfl, hl3⟩
  · simp only [if_true] at *
    have hl := hL 1
    have hb := Blk.new w 25 #[.int .i64 1, .int .i64 1, .string ⟨#[]⟩]
    go_enter Tryd.func55, Tryd.ntmps55
    go_wp2_with fail
    refine (HC _).out.mono ?_
    rintro r w2 ⟨rfl, hl2⟩
    have cx := (hb.lat hl2).cell
    have hl3 := hl.trans hl2
    go_wp2_with fail
    go_ret
    exact ⟨rfl, hl3⟩
def kE : LKey := ⟨3, ⟨#[111, 110, 111, 102, 102]⟩, ⟨#[111, 110]⟩⟩
def aE : LW := ⟨kE, ⟨1, 1, ⟨#[]⟩⟩, 2, ⟨#[110, 105, 103, 104, 116]⟩, 5, 0⟩
def bE : LW := ⟨kE, ⟨1, 0, ⟨#[]⟩⟩, 3, ⟨#[97, 110, 110]⟩, 0, 0⟩
def cE : LW := ⟨kE, ⟨1, 1, ⟨#[]⟩⟩, 2, ⟨#[110, 105, 103, 104, 116]⟩, 5, 1⟩
def dE : LD := ⟨kE, bE, [aE], 0⟩
theorem bef_ba : bef bE aE = true := rfl
theorem bef_ca : bef cE aE = true := by simp [bef, cE, aE, gtI]
theorem bef_aa : bef aE aE = false := sto_bef.irrefl aE
theorem mem3 (x : LW) : x ∈ [aE, bE, aE] ↔ (x = aE ∨ x = bE) := by
  simp only [List.mem_cons, List.not_mem_nil, or_false]
  exact ⟨fun h => h.elim .inl (fun h => h.elim .inr .inl), fun h => h.elim .inl (fun h => .inr (.inl h))⟩
theorem mem2 (x : LW) : x ∈ dE.all ↔ (x = aE ∨ x = bE) := by
  show x ∈ [bE, aE] ↔ _
  simp only [List.mem_cons, List.not_mem_nil, or_false]
  exact ⟨fun h => h.elim .inr .inl, fun h => h.elim .inr .inl⟩
theorem good_dE : Good (fun x => x ∈ [aE, bE, aE]) [dE] where
  keys := by simp
  err := by intro d h; rw [List.mem_singleton] at h; subst h; rfl
  ord := by
    intro d h
    rw [List.mem_singleton] at h; subst h
    show List.Pairwise _ [bE, aE]
    simp [bef_ba]
  key := by intro d h x hx; rw [List.mem_singleton] at h; subst h; rcases (mem2 x).1 hx with rfl | rfl <;> rfl
  sound := by intro d h x hx; rw [List.mem_singleton] at h; subst h; exact (mem3 x).2 ((mem2 x).1 hx)
  full := by intro x hx; exact ⟨dE, by simp, (mem2 x).2 ((mem3 x).1 hx)⟩
theorem good_dE' : Good (fun x => x ∈ allW ([dE] ++ [dE])) [dE] := good_dE.congr (fun x => by
  rw [mem_allW, mem3, ← mem2]
  exact ⟨fun h => ⟨dE, by simp, h⟩, fun ⟨d, hd, h⟩ => by
    have : d = dE := by simpa using hd
    rw [← this]; exact h⟩)
def T_E (x : LW) : ByteArray := textS (boolS (x.val.n == 1)) (⟨(Lib.decDigits x.cp.toNat).toArray⟩ : ByteArray) x
def litE : ByteArray := ⟨#[51, 46, 111, 110, 111, 102, 102, 46, 111, 110, 32, 61, 32, 102, 97, 108, 115, 101, 32, 98, 121, 32, 109, 101, 109, 98, 101, 114, 32, 97, 110, 110, 32, 40, 112, 114, 105, 111, 114, 105, 116, 121, 32, 48, 41, 32, 111, 118, 101, 114, 32, 116, 114, 117, 101, 32, 98, 121, 32, 114, 117, 108, 101, 32, 110, 105, 103, 104, 116, 32, 40, 112, 114, 105, 111, 114, 105, 116, 121, 32, 53, 41]⟩
theorem expl_lit : (⟨(explL T_E (⟨(Lib.decDigits 3).toArray⟩ : ByteArray) dE).toArray⟩ : ByteArray) = litE := by kernel_rfl
theorem dsz5 : (⟨(Lib.decDigits 5).toArray⟩ : ByteArray).size ≤ 1000000000 := by
  have h : (⟨(Lib.decDigits 5).toArray⟩ : ByteArray).size = 1 := by kernel_rfl
  rw [h]; decide
theorem dsz0 : (⟨(Lib.decDigits 0).toArray⟩ : ByteArray).size ≤ 1000000000 := by
  have h : (⟨(Lib.decDigits 0).toArray⟩ : ByteArray).size = 1 := by kernel_rfl
  rw [h]; decide
theorem dsz3 : (⟨(Lib.decDigits 3).toArray⟩ : ByteArray).size ≤ 1000000000 := by
  have h : (⟨(Lib.decDigits 3).toArray⟩ : ByteArray).size = 1 := by kernel_rfl
  rw [h]; decide
theorem text_a (w : World) : Calls Tryd.prog 43 #[.agg (wC aE).toArray] w fun r w' => r = .returned (.string (T_E aE)) ∧ Lat w w' :=
  text_any aE (boolS true) (⟨(Lib.decDigits 5).toArray⟩ : ByteArray) w (by decide) dsz5 (by decide) (fun w' _ => print_bool true w') (fun w' _ => (strconv_Itoa_small 5 (by decide) w').mono (by rintro e w'' ⟨rfl, rfl⟩; exact ⟨rfl, Lat.refl _⟩))
theorem text_b (w : World) : Calls Tryd.prog 43 #[.agg (wC bE).toArray] w fun r w' => r = .returned (.string (T_E bE)) ∧ Lat w w' :=
  text_any bE (boolS false) (⟨(Lib.decDigits 0).toArray⟩ : ByteArray) w (by decide) dsz0 (by decide) (fun w' _ => print_bool false w') (fun w' _ => (strconv_Itoa_small 0 (by decide) w').mono (by rintro e w'' ⟨rfl, rfl⟩; exact ⟨rfl, Lat.refl _⟩))
theorem size_TE (x : LW) (h : x = aE ∨ x = bE) : (T_E x).size ≤ 1000000000 := by
  have ha : (T_E aE).size = 31 := by kernel_rfl
  have hb : (T_E bE).size = 32 := by kernel_rfl
  rcases h with rfl | rfl
  · rw [ha]; decide
  · rw [hb]; decide
theorem explain_e (A : Option Addr) (c : Nat) (w : World) (hlos : EW.Rd w [aE] (.slice A 1 c)) :
    Calls Tryd.prog 24 #[.agg (kC kE ++ wC bE ++ [Value.slice A 1 c, Value.int .i64 0]).toArray] w fun r w' => r = .returned (.string litE) ∧ Lat w w' := by
  have h := explain_any dE A c T_E (⟨(Lib.decDigits 3).toArray⟩ : ByteArray) w hlos (by decide) dsz3 (by decide) (by decide) (fun x hx => size_TE x ((mem2 x).1 hx)) (fun w' _ => (strconv_Itoa_small 3 (by decide) w').mono (by rintro e w'' ⟨rfl, rfl⟩; exact ⟨rfl, Lat.refl _⟩))
    (fun x hx w' _ => (((mem2 x).1 hx).elim (fun e => by subst e; exact text_a w') (fun e => by subst e; exact text_b w')))
  rw [expl_lit] at h
  exact h
theorem drLat {w w' : World} (h : Dr.Lat w w') : Lat w w' := ⟨h.os, h.tape, h.output, h.size, h.block⟩
theorem equal_same (xs : List LW) (A B : Option Addr) (c c' : Nat) (w : World) (hx : EW.Rd w xs (.slice A xs.length c)) (hy : EW.Rd w xs (.slice B xs.length c')) (hbig : xs.length ≤ 1000000) :
    Calls Tryd.prog 21 #[.slice A xs.length c, .slice B xs.length c'] w fun r w' => r = .returned (.bool true) ∧ Lat w w' := by
  have h := equal_any xs xs A B c c' w hx hy hbig
  rw [decide_eq_true (p := xs = xs) rfl] at h
  exact h
theorem same_same (xs : List LD) (A B : Option Addr) (c c' : Nat) (w : World) (hx : RdD w xs (.slice A xs.length c)) (hy : RdD w xs (.slice B xs.length c')) (hbig : xs.length ≤ 100000) (hl : ∀ x ∈ xs, x.los.length ≤ 100000) :
    Calls Tryd.prog 15 #[.slice A xs.length c, .slice B xs.length c'] w fun r w' => r = .returned (.bool true) ∧ Lat w w' := by
  have h := same_any xs xs A B c c' w hx hy hbig hl
  rw [decide_eq_true (p := xs = xs) rfl] at h
  exact h
theorem before_any' (x y : LW) (w : World) {e : Bool} (h : bef x y = e) : Calls Tryd.prog 12 #[.agg (wC x).toArray, .agg (wC y).toArray] w fun r w' => r = .returned (.bool e) ∧ Lat w w' := by
  subst h; exact (before_any x y w).mono (fun r w' h => ⟨h.1, drLat h.2⟩)
theorem rd_one {w : World} {g : Nat} (x : LW) (h : Blk w g 29 (wC x).toArray) : EW.Rd w [x] (.slice (some ⟨g, 0, none⟩) 1 1) :=
  Elt.Own.rd (E := EW) (base := 0) ⟨by rw [EW.flat], .inr ⟨g, 1, (wC x).toArray, rfl, Nat.zero_le _, h, Nat.le_refl _, by decide, rfl, by simp [EW, wC, kC, vC]⟩⟩
set_option maxRecDepth 100000 in
set_option maxHeartbeats 8000000 in
theorem awake_any (w : World) : Calls Tryd.prog 11 #[] w fun r w' => r = .returned (.bool true) ∧ Lat w w' := by
  have hL00 : Lat w (((((w.alloc (.cells #[.int .i64 3, .string ⟨#[111, 110, 111, 102, 102]⟩, .string ⟨#[111, 110]⟩] 23)).alloc (.cells #[.int .i64 3, .string ⟨#[111, 110, 111, 102, 102]⟩, .string ⟨#[111, 110]⟩, .int .i64 1, .int .i64 1, .string ⟨#[]⟩, .int .i64 2, .string ⟨#[110, 105, 103, 104, 116]⟩, .int .i64 5, .int .i64 0] 29)).alloc (.cells #[.int .i64 3, .string ⟨#[111, 110, 111, 102, 102]⟩, .string ⟨#[111, 110]⟩, .int .i64 1, .int .i64 0, .string ⟨#[]⟩, .int .i64 3, .string ⟨#[97, 110, 110]⟩, .int .i64 0, .int .i64 0] 29)).alloc (.cells #[.int .i64 3, .string ⟨#[111, 110, 111, 102, 102]⟩, .string ⟨#[111, 110]⟩, .int .i64 1, .int .i64 1, .string ⟨#[]⟩, .int .i64 2, .string ⟨#[110, 105, 103, 104, 116]⟩, .int .i64 5, .int .i64 1] 29)).alloc (.cells #[.int .i64 3, .string ⟨#[111, 110, 111, 102, 102]⟩, .string ⟨#[111, 110]⟩, .int .i64 1, .int .i64 1, .string ⟨#[]⟩, .int .i64 2, .string ⟨#[110, 105, 103, 104, 116]⟩, .int .i64 5, .int .i64 0, .int .i64 3, .string ⟨#[111, 110, 111, 102, 102]⟩, .string ⟨#[111, 110]⟩, .int .i64 1, .int .i64 0, .string ⟨#[]⟩, .int .i64 3, .string ⟨#[97, 110, 110]⟩, .int .i64 0, .int .i64 0, .int .i64 3, .string ⟨#[111, 110, 111, 102, 102]⟩, .string ⟨#[111, 110]⟩, .int .i64 1, .int .i64 1, .string ⟨#[]⟩, .int .i64 2, .string ⟨#[110, 105, 103, 104, 116]⟩, .int .i64 5, .int .i64 0] 29)) := ((((Lat.al _ _).trans (Lat.al _ _)).trans (Lat.al _ _)).trans (Lat.al _ _)).trans (Lat.al _ _)
  have b2 : Blk (((((w.alloc (.cells #[.int .i64 3, .string ⟨#[111, 110, 111, 102, 102]⟩, .string ⟨#[111, 110]⟩] 23)).alloc (.cells #[.int .i64 3, .string ⟨#[111, 110, 111, 102, 102]⟩, .string ⟨#[111, 110]⟩, .int .i64 1, .int .i64 1, .string ⟨#[]⟩, .int .i64 2, .string ⟨#[110, 105, 103, 104, 116]⟩, .int .i64 5, .int .i64 0] 29)).alloc (.cells #[.int .i64 3, .string ⟨#[111, 110, 111, 102, 102]⟩, .string ⟨#[111, 110]⟩, .int .i64 1, .int .i64 0, .string ⟨#[]⟩, .int .i64 3, .string ⟨#[97, 110, 110]⟩, .int .i64 0, .int .i64 0] 29)).alloc (.cells #[.int .i64 3, .string ⟨#[111, 110, 111, 102, 102]⟩, .string ⟨#[111, 110]⟩, .int .i64 1, .int .i64 1, .string ⟨#[]⟩, .int .i64 2, .string ⟨#[110, 105, 103, 104, 116]⟩, .int .i64 5, .int .i64 1] 29)).alloc (.cells #[.int .i64 3, .string ⟨#[111, 110, 111, 102, 102]⟩, .string ⟨#[111, 110]⟩, .int .i64 1, .int .i64 1, .string ⟨#[]⟩, .int .i64 2, .string ⟨#[110, 105, 103, 104, 116]⟩, .int .i64 5, .int .i64 0, .int .i64 3, .string ⟨#[111, 110, 111, 102, 102]⟩, .string ⟨#[111, 110]⟩, .int .i64 1, .int .i64 0, .string ⟨#[]⟩, .int .i64 3, .string ⟨#[97, 110, 110]⟩, .int .i64 0, .int .i64 0, .int .i64 3, .string ⟨#[111, 110, 111, 102, 102]⟩, .string ⟨#[111, 110]⟩, .int .i64 1, .int .i64 1, .string ⟨#[]⟩, .int .i64 2, .string ⟨#[110, 105, 103, 104, 116]⟩, .int .i64 5, .int .i64 0] 29)) (w.heap.size + 1) 29 #[.int .i64 3, .string ⟨#[111, 110, 111, 102, 102]⟩, .string ⟨#[111, 110]⟩, .int .i64 1, .int .i64 1, .string ⟨#[]⟩, .int .i64 2, .string ⟨#[110, 105, 103, 104, 116]⟩, .int .i64 5, .int .i64 0] := (((Blk.at1 w (.cells #[.int .i64 3, .string ⟨#[111, 110, 111, 102, 102]⟩, .string ⟨#[111, 110]⟩] 23) 29 #[.int .i64 3, .string ⟨#[111, 110, 111, 102, 102]⟩, .string ⟨#[111, 110]⟩, .int .i64 1, .int .i64 1, .string ⟨#[]⟩, .int .i64 2, .string ⟨#[110, 105, 103, 104, 116]⟩, .int .i64 5, .int .i64 0]).alloc (.cells #[.int .i64 3, .string ⟨#[111, 110, 111, 102, 102]⟩, .string ⟨#[111, 110]⟩, .int .i64 1, .int .i64 0, .string ⟨#[]⟩, .int .i64 3, .string ⟨#[97, 110, 110]⟩, .int .i64 0, .int .i64 0] 29)).alloc (.cells #[.int .i64 3, .string ⟨#[111, 110, 111, 102, 102]⟩, .string ⟨#[111, 110]⟩, .int .i64 1, .int .i64 1, .string ⟨#[]⟩, .int .i64 2, .string ⟨#[110, 105, 103, 104, 116]⟩, .int .i64 5, .int .i64 1] 29)).alloc (.cells #[.int .i64 3, .string ⟨#[111, 110, 111, 102, 102]⟩, .string ⟨#[111, 110]⟩, .int .i64 1, .int .i64 1, .string ⟨#[]⟩, .int .i64 2, .string ⟨#[110, 105, 103, 104, 116]⟩, .int .i64 5, .int .i64 0, .int .i64 3, .string ⟨#[111, 110, 111, 102, 102]⟩, .string ⟨#[111, 110]⟩, .int .i64 1, .int .i64 0, .string ⟨#[]⟩, .int .i64 3, .string ⟨#[97, 110, 110]⟩, .int .i64 0, .int .i64 0, .int .i64 3, .string ⟨#[111, 110, 111, 102, 102]⟩, .string ⟨#[111, 110]⟩, .int .i64 1, .int .i64 1, .string ⟨#[]⟩, .int .i64 2, .string ⟨#[110, 105, 103, 104, 116]⟩, .int .i64 5, .int .i64 0] 29)
  have b3 : Blk (((((w.alloc (.cells #[.int .i64 3, .string ⟨#[111, 110, 111, 102, 102]⟩, .string ⟨#[111, 110]⟩] 23)).alloc (.cells #[.int .i64 3, .string ⟨#[111, 110, 111, 102, 102]⟩, .string ⟨#[111, 110]⟩, .int .i64 1, .int .i64 1, .string ⟨#[]⟩, .int .i64 2, .string ⟨#[110, 105, 103, 104, 116]⟩, .int .i64 5, .int .i64 0] 29)).alloc (.cells #[.int .i64 3, .string ⟨#[111, 110, 111, 102, 102]⟩, .string ⟨#[111, 110]⟩, .int .i64 1, .int .i64 0, .string ⟨#[]⟩, .int .i64 3, .string ⟨#[97, 110, 110]⟩, .int .i64 0, .int .i64 0] 29)).alloc (.cells #[.int .i64 3, .string ⟨#[111, 110, 111, 102, 102]⟩, .string ⟨#[111, 110]⟩, .int .i64 1, .int .i64 1, .string ⟨#[]⟩, .int .i64 2, .string ⟨#[110, 105, 103, 104, 116]⟩, .int .i64 5, .int .i64 1] 29)).alloc (.cells #[.int .i64 3, .string ⟨#[111, 110, 111, 102, 102]⟩, .string ⟨#[111, 110]⟩, .int .i64 1, .int .i64 1, .string ⟨#[]⟩, .int .i64 2, .string ⟨#[110, 105, 103, 104, 116]⟩, .int .i64 5, .int .i64 0, .int .i64 3, .string ⟨#[111, 110, 111, 102, 102]⟩, .string ⟨#[111, 110]⟩, .int .i64 1, .int .i64 0, .string ⟨#[]⟩, .int .i64 3, .string ⟨#[97, 110, 110]⟩, .int .i64 0, .int .i64 0, .int .i64 3, .string ⟨#[111, 110, 111, 102, 102]⟩, .string ⟨#[111, 110]⟩, .int .i64 1, .int .i64 1, .string ⟨#[]⟩, .int .i64 2, .string ⟨#[110, 105, 103, 104, 116]⟩, .int .i64 5, .int .i64 0] 29)) (w.heap.size + 1 + 1) 29 #[.int .i64 3, .string ⟨#[111, 110, 111, 102, 102]⟩, .string ⟨#[111, 110]⟩, .int .i64 1, .int .i64 0, .string ⟨#[]⟩, .int .i64 3, .string ⟨#[97, 110, 110]⟩, .int .i64 0, .int .i64 0] := ((Blk.at2 w (.cells #[.int .i64 3, .string ⟨#[111, 110, 111, 102, 102]⟩, .string ⟨#[111, 110]⟩] 23) (.cells #[.int .i64 3, .string ⟨#[111, 110, 111, 102, 102]⟩, .string ⟨#[111, 110]⟩, .int .i64 1, .int .i64 1, .string ⟨#[]⟩, .int .i64 2, .string ⟨#[110, 105, 103, 104, 116]⟩, .int .i64 5, .int .i64 0] 29) 29 #[.int .i64 3, .string ⟨#[111, 110, 111, 102, 102]⟩, .string ⟨#[111, 110]⟩, .int .i64 1, .int .i64 0, .string ⟨#[]⟩, .int .i64 3, .string ⟨#[97, 110, 110]⟩, .int .i64 0, .int .i64 0]).alloc (.cells #[.int .i64 3, .string ⟨#[111, 110, 111, 102, 102]⟩, .string ⟨#[111, 110]⟩, .int .i64 1, .int .i64 1, .string ⟨#[]⟩, .int .i64 2, .string ⟨#[110, 105, 103, 104, 116]⟩, .int .i64 5, .int .i64 1] 29)).alloc (.cells #[.int .i64 3, .string ⟨#[111, 110, 111, 102, 102]⟩, .string ⟨#[111, 110]⟩, .int .i64 1, .int .i64 1, .string ⟨#[]⟩, .int .i64 2, .string ⟨#[110, 105, 103, 104, 116]⟩, .int .i64 5, .int .i64 0, .int .i64 3, .string ⟨#[111, 110, 111, 102, 102]⟩, .string ⟨#[111, 110]⟩, .int .i64 1, .int .i64 0, .string ⟨#[]⟩, .int .i64 3, .string ⟨#[97, 110, 110]⟩, .int .i64 0, .int .i64 0, .int .i64 3, .string ⟨#[111, 110, 111, 102, 102]⟩, .string ⟨#[111, 110]⟩, .int .i64 1, .int .i64 1, .string ⟨#[]⟩, .int .i64 2, .string ⟨#[110, 105, 103, 104, 116]⟩, .int .i64 5, .int .i64 0] 29)
  have b4 : Blk (((((w.alloc (.cells #[.int .i64 3, .string ⟨#[111, 110, 111, 102, 102]⟩, .string ⟨#[111, 110]⟩] 23)).alloc (.cells #[.int .i64 3, .string ⟨#[111, 110, 111, 102, 102]⟩, .string ⟨#[111, 110]⟩, .int .i64 1, .int .i64 1, .string ⟨#[]⟩, .int .i64 2, .string ⟨#[110, 105, 103, 104, 116]⟩, .int .i64 5, .int .i64 0] 29)).alloc (.cells #[.int .i64 3, .string ⟨#[111, 110, 111, 102, 102]⟩, .string ⟨#[111, 110]⟩, .int .i64 1, .int .i64 0, .string ⟨#[]⟩, .int .i64 3, .string ⟨#[97, 110, 110]⟩, .int .i64 0, .int .i64 0] 29)).alloc (.cells #[.int .i64 3, .string ⟨#[111, 110, 111, 102, 102]⟩, .string ⟨#[111, 110]⟩, .int .i64 1, .int .i64 1, .string ⟨#[]⟩, .int .i64 2, .string ⟨#[110, 105, 103, 104, 116]⟩, .int .i64 5, .int .i64 1] 29)).alloc (.cells #[.int .i64 3, .string ⟨#[111, 110, 111, 102, 102]⟩, .string ⟨#[111, 110]⟩, .int .i64 1, .int .i64 1, .string ⟨#[]⟩, .int .i64 2, .string ⟨#[110, 105, 103, 104, 116]⟩, .int .i64 5, .int .i64 0, .int .i64 3, .string ⟨#[111, 110, 111, 102, 102]⟩, .string ⟨#[111, 110]⟩, .int .i64 1, .int .i64 0, .string ⟨#[]⟩, .int .i64 3, .string ⟨#[97, 110, 110]⟩, .int .i64 0, .int .i64 0, .int .i64 3, .string ⟨#[111, 110, 111, 102, 102]⟩, .string ⟨#[111, 110]⟩, .int .i64 1, .int .i64 1, .string ⟨#[]⟩, .int .i64 2, .string ⟨#[110, 105, 103, 104, 116]⟩, .int .i64 5, .int .i64 0] 29)) (w.heap.size + 1 + 1 + 1) 29 #[.int .i64 3, .string ⟨#[111, 110, 111, 102, 102]⟩, .string ⟨#[111, 110]⟩, .int .i64 1, .int .i64 1, .string ⟨#[]⟩, .int .i64 2, .string ⟨#[110, 105, 103, 104, 116]⟩, .int .i64 5, .int .i64 1] := (Blk.at3 w (.cells #[.int .i64 3, .string ⟨#[111, 110, 111, 102, 102]⟩, .string ⟨#[111, 110]⟩] 23) (.cells #[.int .i64 3, .string ⟨#[111, 110, 111, 102, 102]⟩, .string ⟨#[111, 110]⟩, .int .i64 1, .int .i64 1, .string ⟨#[]⟩, .int .i64 2, .string ⟨#[110, 105, 103, 104, 116]⟩, .int .i64 5, .int .i64 0] 29) (.cells #[.int .i64 3, .string ⟨#[111, 110, 111, 102, 102]⟩, .string ⟨#[111, 110]⟩, .int .i64 1, .int .i64 0, .string ⟨#[]⟩, .int .i64 3, .string ⟨#[97, 110, 110]⟩, .int .i64 0, .int .i64 0] 29) 29 #[.int .i64 3, .string ⟨#[111, 110, 111, 102, 102]⟩, .string ⟨#[111, 110]⟩, .int .i64 1, .int .i64 1, .string ⟨#[]⟩, .int .i64 2, .string ⟨#[110, 105, 103, 104, 116]⟩, .int .i64 5, .int .i64 1]).alloc (.cells #[.int .i64 3, .string ⟨#[111, 110, 111, 102, 102]⟩, .string ⟨#[111, 110]⟩, .int .i64 1, .int .i64 1, .string ⟨#[]⟩, .int .i64 2, .string ⟨#[110, 105, 103, 104, 116]⟩, .int .i64 5, .int .i64 0, .int .i64 3, .string ⟨#[111, 110, 111, 102, 102]⟩, .string ⟨#[111, 110]⟩, .int .i64 1, .int .i64 0, .string ⟨#[]⟩, .int .i64 3, .string ⟨#[97, 110, 110]⟩, .int .i64 0, .int .i64 0, .int .i64 3, .string ⟨#[111, 110, 111, 102, 102]⟩, .string ⟨#[111, 110]⟩, .int .i64 1, .int .i64 1, .string ⟨#[]⟩, .int .i64 2, .string ⟨#[110, 105, 103, 104, 116]⟩, .int .i64 5, .int .i64 0] 29)
  have b5 : Blk (((((w.alloc (.cells #[.int .i64 3, .string ⟨#[111, 110, 111, 102, 102]⟩, .string ⟨#[111, 110]⟩] 23)).alloc (.cells #[.int .i64 3, .string ⟨#[111, 110, 111, 102, 102]⟩, .string ⟨#[111, 110]⟩, .int .i64 1, .int .i64 1, .string ⟨#[]⟩, .int .i64 2, .string ⟨#[110, 105, 103, 104, 116]⟩, .int .i64 5, .int .i64 0] 29)).alloc (.cells #[.int .i64 3, .string ⟨#[111, 110, 111, 102, 102]⟩, .string ⟨#[111, 110]⟩, .int .i64 1, .int .i64 0, .string ⟨#[]⟩, .int .i64 3, .string ⟨#[97, 110, 110]⟩, .int .i64 0, .int .i64 0] 29)).alloc (.cells #[.int .i64 3, .string ⟨#[111, 110, 111, 102, 102]⟩, .string ⟨#[111, 110]⟩, .int .i64 1, .int .i64 1, .string ⟨#[]⟩, .int .i64 2, .string ⟨#[110, 105, 103, 104, 116]⟩, .int .i64 5, .int .i64 1] 29)).alloc (.cells #[.int .i64 3, .string ⟨#[111, 110, 111, 102, 102]⟩, .string ⟨#[111, 110]⟩, .int .i64 1, .int .i64 1, .string ⟨#[]⟩, .int .i64 2, .string ⟨#[110, 105, 103, 104, 116]⟩, .int .i64 5, .int .i64 0, .int .i64 3, .string ⟨#[111, 110, 111, 102, 102]⟩, .string ⟨#[111, 110]⟩, .int .i64 1, .int .i64 0, .string ⟨#[]⟩, .int .i64 3, .string ⟨#[97, 110, 110]⟩, .int .i64 0, .int .i64 0, .int .i64 3, .string ⟨#[111, 110, 111, 102, 102]⟩, .string ⟨#[111, 110]⟩, .int .i64 1, .int .i64 1, .string ⟨#[]⟩, .int .i64 2, .string ⟨#[110, 105, 103, 104, 116]⟩, .int .i64 5, .int .i64 0] 29)) (w.heap.size + 1 + 1 + 1 + 1) 29 #[.int .i64 3, .string ⟨#[111, 110, 111, 102, 102]⟩, .string ⟨#[111, 110]⟩, .int .i64 1, .int .i64 1, .string ⟨#[]⟩, .int .i64 2, .string ⟨#[110, 105, 103, 104, 116]⟩, .int .i64 5, .int .i64 0, .int .i64 3, .string ⟨#[111, 110, 111, 102, 102]⟩, .string ⟨#[111, 110]⟩, .int .i64 1, .int .i64 0, .string ⟨#[]⟩, .int .i64 3, .string ⟨#[97, 110, 110]⟩, .int .i64 0, .int .i64 0, .int .i64 3, .string ⟨#[111, 110, 111, 102, 102]⟩, .string ⟨#[111, 110]⟩, .int .i64 1, .int .i64 1, .string ⟨#[]⟩, .int .i64 2, .string ⟨#[110, 105, 103, 104, 116]⟩, .int .i64 5, .int .i64 0] := by
    have h := Blk.new ((((w.alloc (.cells #[.int .i64 3, .string ⟨#[111, 110, 111, 102, 102]⟩, .string ⟨#[111, 110]⟩] 23)).alloc (.cells #[.int .i64 3, .string ⟨#[111, 110, 111, 102, 102]⟩, .string ⟨#[111, 110]⟩, .int .i64 1, .int .i64 1, .string ⟨#[]⟩, .int .i64 2, .string ⟨#[110, 105, 103, 104, 116]⟩, .int .i64 5, .int .i64 0] 29)).alloc (.cells #[.int .i64 3, .string ⟨#[111, 110, 111, 102, 102]⟩, .string ⟨#[111, 110]⟩, .int .i64 1, .int .i64 0, .string ⟨#[]⟩, .int .i64 3, .string ⟨#[97, 110, 110]⟩, .int .i64 0, .int .i64 0] 29)).alloc (.cells #[.int .i64 3, .string ⟨#[111, 110, 111, 102, 102]⟩, .string ⟨#[111, 110]⟩, .int .i64 1, .int .i64 1, .string ⟨#[]⟩, .int .i64 2, .string ⟨#[110, 105, 103, 104, 116]⟩, .int .i64 5, .int .i64 1] 29)) 29 #[.int .i64 3, .string ⟨#[111, 110, 111, 102, 102]⟩, .string ⟨#[111, 110]⟩, .int .i64 1, .int .i64 1, .string ⟨#[]⟩, .int .i64 2, .string ⟨#[110, 105, 103, 104, 116]⟩, .int .i64 5, .int .i64 0, .int .i64 3, .string ⟨#[111, 110, 111, 102, 102]⟩, .string ⟨#[111, 110]⟩, .int .i64 1, .int .i64 0, .string ⟨#[]⟩, .int .i64 3, .string ⟨#[97, 110, 110]⟩, .int .i64 0, .int .i64 0, .int .i64 3, .string ⟨#[111, 110, 111, 102, 102]⟩, .string ⟨#[111, 110]⟩, .int .i64 1, .int .i64 1, .string ⟨#[]⟩, .int .i64 2, .string ⟨#[110, 105, 103, 104, 116]⟩, .int .i64 5, .int .i64 0]
    simp only [World.size_alloc] at h
    exact h
  go_enter Tryd.func11, Tryd.ntmps11
  go_wp2_with fail
  generalize (((((w.alloc (.cells #[.int .i64 3, .string ⟨#[111, 110, 111, 102, 102]⟩, .string ⟨#[111, 110]⟩] 23)).alloc (.cells #[.int .i64 3, .string ⟨#[111, 110, 111, 102, 102]⟩, .string ⟨#[111, 110]⟩, .int .i64 1, .int .i64 1, .string ⟨#[]⟩, .int .i64 2, .string ⟨#[110, 105, 103, 104, 116]⟩, .int .i64 5, .int .i64 0] 29)).alloc (.cells #[.int .i64 3, .string ⟨#[111, 110, 111, 102, 102]⟩, .string ⟨#[111, 110]⟩, .int .i64 1, .int .i64 0, .string ⟨#[]⟩, .int .i64 3, .string ⟨#[97, 110, 110]⟩, .int .i64 0, .int .i64 0] 29)).alloc (.cells #[.int .i64 3, .string ⟨#[111, 110, 111, 102, 102]⟩, .string ⟨#[111, 110]⟩, .int .i64 1, .int .i64 1, .string ⟨#[]⟩, .int .i64 2, .string ⟨#[110, 105, 103, 104, 116]⟩, .int .i64 5, .int .i64 1] 29)).alloc (.cells #[.int .i64 3, .string ⟨#[111, 110, 111, 102, 102]⟩, .string ⟨#[111, 110]⟩, .int .i64 1, .int .i64 1, .string ⟨#[]⟩, .int .i64 2, .string ⟨#[110, 105, 103, 104, 116]⟩, .int .i64 5, .int .i64 0, .int .i64 3, .string ⟨#[111, 110, 111, 102, 102]⟩, .string ⟨#[111, 110]⟩, .int .i64 1, .int .i64 0, .string ⟨#[]⟩, .int .i64 3, .string ⟨#[97, 110, 110]⟩, .int .i64 0, .int .i64 0, .int .i64 3, .string ⟨#[111, 110, 111, 102, 102]⟩, .string ⟨#[111, 110]⟩, .int .i64 1, .int .i64 1, .string ⟨#[]⟩, .int .i64 2, .string ⟨#[110, 105, 103, 104, 116]⟩, .int .i64 5, .int .i64 0] 29)) = w0 at *
  generalize w.heap.size = g at *
  have hown : EW.Own w0 0 [aE, bE, aE] (.slice (some ⟨g + 1 + 1 + 1 + 1, 0, none⟩) 3 3) :=
    ⟨rfl, .inr ⟨g + 1 + 1 + 1 + 1, 3, #[.int .i64 3, .string ⟨#[111, 110, 111, 102, 102]⟩, .string ⟨#[111, 110]⟩, .int .i64 1, .int .i64 1, .string ⟨#[]⟩, .int .i64 2, .string ⟨#[110, 105, 103, 104, 116]⟩, .int .i64 5, .int .i64 0, .int .i64 3, .string ⟨#[111, 110, 111, 102, 102]⟩, .string ⟨#[111, 110]⟩, .int .i64 1, .int .i64 0, .string ⟨#[]⟩, .int .i64 3, .string ⟨#[97, 110, 110]⟩, .int .i64 0, .int .i64 0, .int .i64 3, .string ⟨#[111, 110, 111, 102, 102]⟩, .string ⟨#[111, 110]⟩, .int .i64 1, .int .i64 1, .string ⟨#[]⟩, .int .i64 2, .string ⟨#[110, 105, 103, 104, 116]⟩, .int .i64 5, .int .i64 0], rfl, Nat.zero_le _, b5, Nat.le_refl _, by decide, rfl, rfl⟩⟩
  refine (decide_any [aE, bE, aE] _ 3 w0 hown.rd (by decide)).mono ?_
  rintro r w1 ⟨⟨ds, v, rfl, hgood, hrd⟩, hl1⟩
  obtain rfl := hgood.unique good_dE
  obtain ⟨A, c, rfl⟩ := hrd.slice
  obtain ⟨b, off, A1, n1, m1, hA, hb1, hr0, hlr⟩ := hrd.row 0 (by decide)
  subst hA
  obtain ⟨A1', m1', hv1⟩ : ∃ A' c', Value.slice A1 n1 m1 = .slice A' 1 c' := by obtain ⟨A', c', h, _⟩ := hlr; exact ⟨A', c', h⟩
  injection hv1 with f1 f2 f3
  subst f1 f2 f3
  have hr : RowAt w1 b off (kC kE ++ wC bE ++ [.slice A1 1 m1, .int .i64 0]) := by rw [Nat.zero_mul, Nat.add_zero] at hr0; exact hr0
  have hrk := dec_win hr
  have b2' := b2.lat hl1
  have b3' := b3.lat hl1
  have b4' := b4.lat hl1
  have e2 := b2'.row
  have e3 := b3'.row
  have e4 := b4'.row
  have l2 := b2'.lt
  have l3 := b3'.lt
  have l4 := b4'.lt
  have hlr' : EW.Rd w1 [aE] (.slice A1 1 m1) := hlr
  clear b2 b3 b4 b5 hown hgood hr0 hlr
  simp only [List.length_cons, List.length_nil, Nat.zero_add] at hrd ⊢
  go_wp2_with fail
  refine wp_rely (by kernel_rfl) (by kernel_rfl) ?_
  apply RelyL.val
  · intro ν w' hL hF K hK'
    go_simp
    exact hK'.out _ _ rfl (Lat.refl _)
  simp only [Act.put, List.setIfInBounds_toArray, List.set_cons_zero, List.set_cons_succ, Nat.reduceAdd]
  apply RelyL.val
  · intro ν w' hL hF K hK'
    go_simp
    exact hK'.out _ _ rfl (Lat.refl _)
  simp only [Act.put, List.setIfInBounds_toArray, List.set_cons_zero, List.set_cons_succ, Nat.reduceAdd]
  apply RelyL.val
  · intro ν w' hL hF K hK'
    go_simp
    exact hK'.out _ _ rfl (Lat.refl _)
  simp only [Act.put, List.setIfInBounds_toArray, List.set_cons_zero, List.set_cons_succ, Nat.reduceAdd]
  apply RelyL.val
  · intro ν w' hL hF K hK'
    go_simp
    exact hK'.out _ _ rfl (Lat.refl _)
  simp only [Act.put, List.setIfInBounds_toArray, List.set_cons_zero, List.set_cons_succ, Nat.reduceAdd]
  apply RelyL.val
  · intro ν w' hL hF K hK'
    go_simp
    exact hK'.out _ _ rfl (Lat.refl _)
  simp only [Act.put, List.setIfInBounds_toArray, List.set_cons_zero, List.set_cons_succ, Nat.reduceAdd]
  apply RelyL.val
  · intro ν w' hL hF K hK'
    go_simp
    exact hK'.out _ _ rfl (Lat.refl _)
  simp only [Act.put, List.setIfInBounds_toArray, List.set_cons_zero, List.set_cons_succ, Nat.reduceAdd]
  apply RelyL.val
  · intro ν w' hL hF K hK'
    go_simp
    exact hK'.out _ _ rfl (Lat.refl _)
  simp only [Act.put, List.setIfInBounds_toArray, List.set_cons_zero, List.set_cons_succ, Nat.reduceAdd]
  apply RelyL.val
  · intro ν w' hL hF K hK'
    refine take_op rfl ?_
    refine wp_load_at 29 _ rfl b (off + 3) rfl _ _ (hrk.below hL hb1) Tryd.underlying29 rfl (by kernel_rfl) ?_
    exact hK'.out _ _ rfl (Lat.refl _)
  simp only [Act.put, List.setIfInBounds_toArray, List.set_cons_zero, List.set_cons_succ, Nat.reduceAdd]
  apply RelyL.val
  · intro ν w' hL hF K hK'
    refine take_op rfl ?_
    refine wp_load_at 29 _ rfl (g + 1 + 1) (0) rfl _ _ (e3.below hL l3) Tryd.underlying29 rfl (by kernel_rfl) ?_
    exact hK'.out _ _ rfl (Lat.refl _)
  simp only [Act.put, List.setIfInBounds_toArray, List.set_cons_zero, List.set_cons_succ, Nat.reduceAdd]
  apply RelyL.val
  · intro ν w' hL hF K hK'
    refine take_op rfl ?_
    refine wp_neq_w _ _ _ rfl bE bE rfl rfl (decide_eq_true rfl) ?_
    exact hK'.out _ _ rfl (Lat.refl _)
  simp only [Act.put, List.setIfInBounds_toArray, List.set_cons_zero, List.set_cons_succ, Nat.reduceAdd]
  apply RelyL.val
  · intro ν w' hL hF K hK'
    go_simp
    exact hK'.out _ _ rfl (Lat.refl _)
  simp only [Act.put, List.setIfInBounds_toArray, List.set_cons_zero, List.set_cons_succ, Nat.reduceAdd]
  apply RelyL.val
  · intro ν w' hL hF K hK'
    go_simp
    exact hK'.out _ _ rfl (Lat.refl _)
  simp only [Act.put, List.setIfInBounds_toArray, List.set_cons_zero, List.set_cons_succ, Nat.reduceAdd]
  apply RelyL.val
  · intro ν w' hL hF K hK'
    go_simp
    exact hK'.out _ _ rfl (Lat.refl _)
  simp only [Act.put, List.setIfInBounds_toArray, List.set_cons_zero, List.set_cons_succ, Nat.reduceAdd]
  apply RelyL.val
  · intro ν w' hL hF K hK'
    go_simp
    exact hK'.out _ _ rfl (Lat.refl _)
  simp only [Act.put, List.setIfInBounds_toArray, List.set_cons_zero, List.set_cons_succ, Nat.reduceAdd]
  apply RelyL.val
  · intro ν w' hL hF K hK'
    go_simp
    exact hK'.out _ _ rfl (Lat.refl _)
  simp only [Act.put, List.setIfInBounds_toArray, List.set_cons_zero, List.set_cons_succ, Nat.reduceAdd]
  apply RelyL.val
  · intro ν w' hL hF K hK'
    obtain ⟨c13, c14⟩ := dec_los (hr.below hL hb1)
    go_simp
    exact hK'.out _ _ rfl (Lat.refl _)
  simp only [Act.put, List.setIfInBounds_toArray, List.set_cons_zero, List.set_cons_succ, Nat.reduceAdd]
  apply RelyL.val
  · intro ν w' hL hF K hK'
    refine take_op rfl ?_
    refine wp_load_at 29 _ rfl (g + 1) (0) rfl _ _ (e2.below hL l2) Tryd.underlying29 rfl (by kernel_rfl) ?_
    exact hK'.out _ _ rfl (Lat.refl _)
  simp only [Act.put, List.setIfInBounds_toArray, List.set_cons_zero, List.set_cons_succ, Nat.reduceAdd]
  refine RelyL.law (fun v w => ∃ g1, v = .slice (some ⟨g1, 0, none⟩) 1 1 ∧ Blk w g1 29 #[.int .i64 3, .string ⟨#[111, 110, 111, 102, 102]⟩, .string ⟨#[111, 110]⟩, .int .i64 1, .int .i64 1, .string ⟨#[]⟩, .int .i64 2, .string ⟨#[110, 105, 103, 104, 116]⟩, .int .i64 5, .int .i64 0]) (fun v w1 w2 hl h => by obtain ⟨g1, h1, h2⟩ := h; exact ⟨g1, h1, h2.lat hl⟩) (fun ν w' hL hF K hK => ?_) ?_
  · go_simp
    exact hK.out _ _ _ rfl ⟨_, rfl, Blk.new _ _ _⟩ (Lat.al _ _)
  simp only [Act.put, List.setIfInBounds_toArray, List.set_cons_zero, List.set_cons_succ, Nat.reduceAdd]
  apply RelyL.val
  · intro ν w' hL hF K hK'
    have h4 := hF.get 0 rfl (by kernel_rfl)
    dsimp only at h4
    generalize ν 17 = y4 at *
    obtain ⟨g1, rfl, hb⟩ := h4
    have H := Lib.hid (equal_same [aE] A1 (some ⟨g1, 0, none⟩) m1 1 w' (hlr'.lat hL) (rd_one aE hb) (by decide))
    clear hF
    go_simp
    go_at_call 21
    refine H.out.mono ?_
    rintro r w'' ⟨rfl, hbp⟩
    exact hK'.out _ _ rfl hbp
  simp only [Act.put, List.setIfInBounds_toArray, List.set_cons_zero, List.set_cons_succ, Nat.reduceAdd]
  apply RelyL.val
  · intro ν w' hL hF K hK'
    go_simp
    exact hK'.out _ _ rfl (Lat.refl _)
  simp only [Act.put, List.setIfInBounds_toArray, List.set_cons_zero, List.set_cons_succ, Nat.reduceAdd]
  apply RelyL.val
  · intro ν w' hL hF K hK'
    go_simp
    exact hK'.out _ _ rfl (Lat.refl _)
  simp only [Act.put, List.setIfInBounds_toArray, List.set_cons_zero, List.set_cons_succ, Nat.reduceAdd]
  apply RelyL.val
  · intro ν w' hL hF K hK'
    go_simp
    exact hK'.out _ _ rfl (Lat.refl _)
  simp only [Act.put, List.setIfInBounds_toArray, List.set_cons_zero, List.set_cons_succ, Nat.reduceAdd]
  apply RelyL.val
  · intro ν w' hL hF K hK'
    go_simp
    exact hK'.out _ _ rfl (Lat.refl _)
  simp only [Act.put, List.setIfInBounds_toArray, List.set_cons_zero, List.set_cons_succ, Nat.reduceAdd]
  apply RelyL.val
  · intro ν w' hL hF K hK'
    go_simp
    exact hK'.out _ _ rfl (Lat.refl _)
  simp only [Act.put, List.setIfInBounds_toArray, List.set_cons_zero, List.set_cons_succ, Nat.reduceAdd]
  apply RelyL.val
  · intro ν w' hL hF K hK'
    go_simp
    exact hK'.out _ _ rfl (Lat.refl _)
  simp only [Act.put, List.setIfInBounds_toArray, List.set_cons_zero, List.set_cons_succ, Nat.reduceAdd]
  apply RelyL.val
  · intro ν w' hL hF K hK'
    obtain ⟨c13, c14⟩ := dec_los (hr.below hL hb1)
    go_simp
    exact hK'.out _ _ rfl (Lat.refl _)
  simp only [Act.put, List.setIfInBounds_toArray, List.set_cons_zero, List.set_cons_succ, Nat.reduceAdd]
  apply RelyL.val
  · intro ν w' hL hF K hK'
    go_simp
    exact hK'.out _ _ rfl (Lat.refl _)
  simp only [Act.put, List.setIfInBounds_toArray, List.set_cons_zero, List.set_cons_succ, Nat.reduceAdd]
  apply RelyL.val
  · intro ν w' hL hF K hK'
    go_simp
    exact hK'.out _ _ rfl (Lat.refl _)
  simp only [Act.put, List.setIfInBounds_toArray, List.set_cons_zero, List.set_cons_succ, Nat.reduceAdd]
  apply RelyL.val
  · intro ν w' hL hF K hK'
    go_simp
    exact hK'.out _ _ rfl (Lat.refl _)
  simp only [Act.put, List.setIfInBounds_toArray, List.set_cons_zero, List.set_cons_succ, Nat.reduceAdd]
  apply RelyL.val
  · intro ν w' hL hF K hK'
    refine take_op rfl ?_
    refine wp_load_at 29 _ rfl (g + 1 + 1 + 1) (0) rfl _ _ (e4.below hL l4) Tryd.underlying29 rfl (by kernel_rfl) ?_
    exact hK'.out _ _ rfl (Lat.refl _)
  simp only [Act.put, List.setIfInBounds_toArray, List.set_cons_zero, List.set_cons_succ, Nat.reduceAdd]
  apply RelyL.val
  · intro ν w' hL hF K hK'
    refine take_op rfl ?_
    refine wp_load_at 29 _ rfl (g + 1) (0) rfl _ _ (e2.below hL l2) Tryd.underlying29 rfl (by kernel_rfl) ?_
    exact hK'.out _ _ rfl (Lat.refl _)
  simp only [Act.put, List.setIfInBounds_toArray, List.set_cons_zero, List.set_cons_succ, Nat.reduceAdd]
  apply RelyL.val
  · intro ν w' hL hF K hK'
    have H := Lib.hid (before_any' cE aE w' bef_ca)
    go_simp
    go_at_call 12
    refine H.out.mono ?_
    rintro r w'' ⟨rfl, hbp⟩
    exact hK'.out _ _ rfl hbp
  simp only [Act.put, List.setIfInBounds_toArray, List.set_cons_zero, List.set_cons_succ, Nat.reduceAdd]
  apply RelyL.val
  · intro ν w' hL hF K hK'
    go_simp
    exact hK'.out _ _ rfl (Lat.refl _)
  simp only [Act.put, List.setIfInBounds_toArray, List.set_cons_zero, List.set_cons_succ, Nat.reduceAdd]
  apply RelyL.val
  · intro ν w' hL hF K hK'
    go_simp
    exact hK'.out _ _ rfl (Lat.refl _)
  simp only [Act.put, List.setIfInBounds_toArray, List.set_cons_zero, List.set_cons_succ, Nat.reduceAdd]
  apply RelyL.val
  · intro ν w' hL hF K hK'
    go_simp
    exact hK'.out _ _ rfl (Lat.refl _)
  simp only [Act.put, List.setIfInBounds_toArray, List.set_cons_zero, List.set_cons_succ, Nat.reduceAdd]
  apply RelyL.val
  · intro ν w' hL hF K hK'
    refine take_op rfl ?_
    refine wp_load_at 29 _ rfl (g + 1) (0) rfl _ _ (e2.below hL l2) Tryd.underlying29 rfl (by kernel_rfl) ?_
    exact hK'.out _ _ rfl (Lat.refl _)
  simp only [Act.put, List.setIfInBounds_toArray, List.set_cons_zero, List.set_cons_succ, Nat.reduceAdd]
  apply RelyL.val
  · intro ν w' hL hF K hK'
    refine take_op rfl ?_
    refine wp_load_at 29 _ rfl (g + 1) (0) rfl _ _ (e2.below hL l2) Tryd.underlying29 rfl (by kernel_rfl) ?_
    exact hK'.out _ _ rfl (Lat.refl _)
  simp only [Act.put, List.setIfInBounds_toArray, List.set_cons_zero, List.set_cons_succ, Nat.reduceAdd]
  apply RelyL.val
  · intro ν w' hL hF K hK'
    have H := Lib.hid (before_any' aE aE w' bef_aa)
    go_simp
    go_at_call 12
    refine H.out.mono ?_
    rintro r w'' ⟨rfl, hbp⟩
    exact hK'.out _ _ rfl hbp
  simp only [Act.put, List.setIfInBounds_toArray, List.set_cons_zero, List.set_cons_succ, Nat.reduceAdd]
  apply RelyL.val
  · intro ν w' hL hF K hK'
    go_simp
    exact hK'.out _ _ rfl (Lat.refl _)
  simp only [Act.put, List.setIfInBounds_toArray, List.set_cons_zero, List.set_cons_succ, Nat.reduceAdd]
  refine RelyL.done fun ν w2 hL hF => ?_
  clear hF
  generalize ν 17 = u39 at *
  have hLW := (hL00.trans hl1).trans hL
  have hr2 := hr.below hL hb1
  have hb2 : b < w2.heap.size := Nat.lt_of_lt_of_le hb1 hL.size
  have e3' := e3.below hL l3
  have l3' : g + 1 + 1 < w2.heap.size := Nat.lt_of_lt_of_le l3 hL.size
  have hlr2 := hlr'.lat hL
  have hrd2 := hrd.lat hL
  clear hr hb1 e3 l3 hlr' hrd e2 e4 l2 l4 hrk b2' b3' b4' hl1 hL
  go_wp2_with fail
  refine wp_rely (by kernel_rfl) (by kernel_rfl) ?_
  apply RelyL.val
  · intro ν w' hL hF K hK'
    go_simp
    exact hK'.out _ _ rfl (Lat.refl _)
  simp only [Act.put, List.setIfInBounds_toArray, List.set_cons_zero, List.set_cons_succ, Nat.reduceAdd]
  apply RelyL.val
  · intro ν w' hL hF K hK'
    go_simp
    exact hK'.out _ _ rfl (Lat.refl _)
  simp only [Act.put, List.setIfInBounds_toArray, List.set_cons_zero, List.set_cons_succ, Nat.reduceAdd]
  apply RelyL.val
  · intro ν w' hL hF K hK'
    refine take_op rfl ?_
    refine wp_load_at 44 _ rfl b (off) rfl _ _ (hr2.below hL hb2) Tryd.underlying44 rfl (by kernel_rfl) ?_
    exact hK'.out _ _ rfl (Lat.refl _)
  simp only [Act.put, List.setIfInBounds_toArray, List.set_cons_zero, List.set_cons_succ, Nat.reduceAdd]
  apply RelyL.val
  · intro ν w' hL hF K hK'
    have H := Lib.hid (explain_e A1 m1 w' (hlr2.lat hL))
    go_simp
    go_at_call 24
    refine H.out.mono ?_
    rintro r w'' ⟨rfl, hbp⟩
    exact hK'.out _ _ rfl hbp
  simp only [Act.put, List.setIfInBounds_toArray, List.set_cons_zero, List.set_cons_succ, Nat.reduceAdd]
  apply RelyL.val
  · intro ν w' hL hF K hK'
    have q : litE = litE := rfl
    unfold litE
    go_simp
    exact hK'.out _ _ rfl (Lat.refl _)
  simp only [Act.put, List.setIfInBounds_toArray, List.set_cons_zero, List.set_cons_succ, Nat.reduceAdd]
  apply RelyL.val
  · intro ν w' hL hF K hK'
    go_simp
    exact hK'.out _ _ rfl (Lat.refl _)
  simp only [Act.put, List.setIfInBounds_toArray, List.set_cons_zero, List.set_cons_succ, Nat.reduceAdd]
  apply RelyL.val
  · intro ν w' hL hF K hK'
    go_simp
    exact hK'.out _ _ rfl (Lat.refl _)
  simp only [Act.put, List.setIfInBounds_toArray, List.set_cons_zero, List.set_cons_succ, Nat.reduceAdd]
  refine RelyL.law (fun v w => ∃ A c, v = .slice A 1 c ∧ EW.Rd w [bE] (.slice A 1 c)) (fun v w1 w2 hl h => by obtain ⟨A, c, h1, h2⟩ := h; exact ⟨A, c, h1, h2.lat hl⟩) (fun ν w' hL hF K hK => ?_) ?_
  · have H := Lib.hid (winners_any [dE] (some ⟨b, off, none⟩) c w' (hrd2.lat hL) (by decide))
    clear hF
    go_simp
    go_at_call 22
    refine H.out.mono ?_
    rintro r w'' ⟨v, rfl, hown, hl⟩
    have hown' : EW.Own w'' w'.heap.size [bE] v := hown
    obtain ⟨A', c', rfl⟩ := hown'.slice
    exact hK.out _ _ _ rfl ⟨_, _, rfl, hown'.rd⟩ hl
  simp only [Act.put, List.setIfInBounds_toArray, List.set_cons_zero, List.set_cons_succ, Nat.reduceAdd]
  apply RelyL.val
  · intro ν w' hL hF K hK'
    refine take_op rfl ?_
    refine wp_load_at 29 _ rfl (g + 1 + 1) (0) rfl _ _ (e3'.below hL l3') Tryd.underlying29 rfl (by kernel_rfl) ?_
    exact hK'.out _ _ rfl (Lat.refl _)
  simp only [Act.put, List.setIfInBounds_toArray, List.set_cons_zero, List.set_cons_succ, Nat.reduceAdd]
  refine RelyL.law (fun v w => ∃ g1, v = .slice (some ⟨g1, 0, none⟩) 1 1 ∧ Blk w g1 29 #[.int .i64 3, .string ⟨#[111, 110, 111, 102, 102]⟩, .string ⟨#[111, 110]⟩, .int .i64 1, .int .i64 0, .string ⟨#[]⟩, .int .i64 3, .string ⟨#[97, 110, 110]⟩, .int .i64 0, .int .i64 0]) (fun v w1 w2 hl h => by obtain ⟨g1, h1, h2⟩ := h; exact ⟨g1, h1, h2.lat hl⟩) (fun ν w' hL hF K hK => ?_) ?_
  · go_simp
    exact hK.out _ _ _ rfl ⟨_, rfl, Blk.new _ _ _⟩ (Lat.al _ _)
  simp only [Act.put, List.setIfInBounds_toArray, List.set_cons_zero, List.set_cons_succ, Nat.reduceAdd]
  apply RelyL.val
  · intro ν w' hL hF K hK'
    have h4 := hF.get 0 rfl (by kernel_rfl)
    have h5 := hF.get 1 rfl (by kernel_rfl)
    dsimp only at h4 h5
    generalize ν 9 = y9 at *
    generalize ν 7 = y7 at *
    obtain ⟨g1, rfl, hb⟩ := h4
    obtain ⟨A7, c7, rfl, hb7⟩ := h5
    have H := Lib.hid (equal_same [bE] A7 (some ⟨g1, 0, none⟩) c7 1 w' hb7 (rd_one bE hb) (by decide))
    clear hF
    go_simp
    go_at_call 21
    refine H.out.mono ?_
    rintro r w'' ⟨rfl, hbp⟩
    exact hK'.out _ _ rfl hbp
  simp only [Act.put, List.setIfInBounds_toArray, List.set_cons_zero, List.set_cons_succ, Nat.reduceAdd]
  apply RelyL.val
  · intro ν w' hL hF K hK'
    go_simp
    exact hK'.out _ _ rfl (Lat.refl _)
  simp only [Act.put, List.setIfInBounds_toArray, List.set_cons_zero, List.set_cons_succ, Nat.reduceAdd]
  apply RelyL.val
  · intro ν w' hL hF K hK'
    go_simp
    exact hK'.out _ _ rfl (Lat.refl _)
  simp only [Act.put, List.setIfInBounds_toArray, List.set_cons_zero, List.set_cons_succ, Nat.reduceAdd]
  apply RelyL.val
  · intro ν w' hL hF K hK'
    go_simp
    exact hK'.out _ _ rfl (Lat.refl _)
  simp only [Act.put, List.setIfInBounds_toArray, List.set_cons_zero, List.set_cons_succ, Nat.reduceAdd]
  apply RelyL.val
  · intro ν w' hL hF K hK'
    go_simp
    exact hK'.out _ _ rfl (Lat.refl _)
  simp only [Act.put, List.setIfInBounds_toArray, List.set_cons_zero, List.set_cons_succ, Nat.reduceAdd]
  refine RelyL.law (fun v w => ∃ A c, v = .slice A 1 c ∧ RdD w [dE] (.slice A 1 c)) (fun v w1 w2 hl h => by obtain ⟨A, c, h1, h2⟩ := h; exact ⟨A, c, h1, h2.lat hl⟩) (fun ν w' hL hF K hK => ?_) ?_
  · have H := Lib.hid (merge_any [dE] [dE] (some ⟨b, off, none⟩) (some ⟨b, off, none⟩) c c w' (hrd2.lat hL) (hrd2.lat hL) (by decide) (by decide))
    clear hF
    go_simp
    go_at_call 19
    refine H.out.mono ?_
    rintro r w'' ⟨⟨ds, v, rfl, hg, hrd3⟩, hl⟩
    obtain rfl := hg.unique good_dE'
    obtain ⟨A', c', rfl⟩ := hrd3.slice
    exact hK.out _ _ _ rfl ⟨_, _, rfl, hrd3⟩ hl
  simp only [Act.put, List.setIfInBounds_toArray, List.set_cons_zero, List.set_cons_succ, Nat.reduceAdd]
  apply RelyL.val
  · intro ν w' hL hF K hK'
    go_simp
    exact hK'.out _ _ rfl (Lat.refl _)
  simp only [Act.put, List.setIfInBounds_toArray, List.set_cons_zero, List.set_cons_succ, Nat.reduceAdd]
  apply RelyL.val
  · intro ν w' hL hF K hK'
    have h4 := hF.get 0 rfl (by kernel_rfl)
    dsimp only at h4
    generalize ν 15 = y9 at *
    obtain ⟨A7, c7, rfl, hb7⟩ := h4
    have H := Lib.hid (same_same [dE] A7 (some ⟨b, off, none⟩) c7 c w' hb7 (hrd2.lat hL) (by decide) (by intro x hx; rw [List.mem_singleton] at hx; subst hx; decide))
    clear hF
    go_simp
    go_at_call 15
    refine H.out.mono ?_
    rintro r w'' ⟨rfl, hbp⟩
    exact hK'.out _ _ rfl hbp
  simp only [Act.put, List.setIfInBounds_toArray, List.set_cons_zero, List.set_cons_succ, Nat.reduceAdd]
  apply RelyL.val
  · intro ν w' hL hF K hK'
    go_simp
    exact hK'.out _ _ rfl (Lat.refl _)
  simp only [Act.put, List.setIfInBounds_toArray, List.set_cons_zero, List.set_cons_succ, Nat.reduceAdd]
  apply RelyL.val
  · intro ν w' hL hF K hK'
    go_simp
    exact hK'.out _ _ rfl (Lat.refl _)
  simp only [Act.put, List.setIfInBounds_toArray, List.set_cons_zero, List.set_cons_succ, Nat.reduceAdd]
  refine RelyL.done fun ν w3 hL hF => ?_
  clear hF
  generalize ν 7 = u1 at *
  generalize ν 9 = u2 at *
  generalize ν 15 = u3 at *
  go_wp2_with fail
  have hLW3 := hLW.trans hL
  go_ret
  exact ⟨rfl, hLW3⟩
end Go.Proofs.YtgjoojailghilaaDoor
