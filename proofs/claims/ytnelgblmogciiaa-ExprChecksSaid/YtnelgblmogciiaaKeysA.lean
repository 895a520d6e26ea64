/- The keys of an expression that reads at most one. The keys of an expression that reads at most one: the visitor. -/
import Derived.Test.YtnelgblmogciiaaWalks
import Derived.Test.YtnelgblmogciiaaShapes
import Derived.Test.YtnelgblmogciiaaRelies
import Derived.Test.YtnelgblmogciiaaSizes
namespace Go.Proofs.Ytnelgblmogciiaa
section
set_option linter.unusedSimpArgs false
set_option linter.unusedVariables false
open Go.RowKit

theorem infoKey : (Try.prog.info? 29).map (fun i => (i.zero, i.size, i.bytes)) = some (some (.agg #[.int .i64 0, .string { data := #[] }, .string { data := #[] }]), 3, 40) := by kernel_rfl

set_option maxRecDepth 100000 in
set_option maxHeartbeats 1000000 in
theorem insert0_any (w : World) (g : Nat) (d : Int) (cl at_ : ByteArray) (hb : Blk w g 29 #[.int .i64 d, .string cl, .string at_]) :
    Calls Try.prog 57 #[.slice none 0 0, .int .i64 0, .slice (some ⟨g, 0, none⟩) 1 1] w fun r w' => (∃ A c, r = .returned (.slice A 1 c)) ∧ Below w.heap.size w w' := by
  obtain ⟨i0, hi, hz0, hz1, hz2⟩ := info_parts infoKey
  have hown0 : w.ownsRow w.heap.size 29 3 (.slice none 0 0) 0 [] := ⟨rfl, .inl ⟨rfl, rfl⟩⟩
  have hr : IsRows w.heap.size w 3 [[.int .i64 d, .string cl, .string at_]] (some ⟨g, 0, none⟩) := fun _ => ⟨g, 0, rfl, hb.lt, fun i hi => by
    have : i = 0 := by simpa using hi
    subst this
    intro j v hj
    simp only [Nat.zero_mul, Nat.add_zero, Nat.zero_add, List.getElem_cons_zero] at hj ⊢
    rw [cell_of_row _ _ _ _ _ _ hb, ← Array.getElem?_toList]; exact hj⟩
  go_enter Try.func57, Try.ntmps57
  go_wp2_with (at_builtin; refine append_rows rfl _ _ 48 rfl w.heap.size 29 i0 _ 3 40 Try.underlying48 hi hz0 hz1 hz2 rfl (by decide) _ [] rfl hown0 (some ⟨g, 0, none⟩) 1 1 w.heap.size [[.int .i64 d, .string cl, .string at_]] rfl rfl (by intro h; cases h) hr (by simp) (by simp [Value.oneCell']) (by simp [maxLen]) (by simp) (Nat.le_refl _) ?_; intro v1 w3 hown1 hg1; go_must (have hB3 := (Below.refl w.heap.size w).grown hg1 (by simp) (fun k hk => by cases hk); obtain ⟨A2, c2, rfl, hr2⟩ := ownsRow_rows hown1 (by simp) rfl))
  go_ret
  exact ⟨⟨_, _, rfl⟩, hB3⟩
end

section
set_option linter.unusedSimpArgs false
set_option linter.unusedVariables false
open Go.RowKit

def cstK (h : Hd) : Nat := if h.kind = 2 then 1 else 0
def visK (e : LExpr) (_ : Int) (s : Nat) : Nat × Bool := (s + cstK e.hd, true)
def RK (b : Nat) (s : Nat) (w : World) : Prop := ∃ A c, Var w b 48 (.slice A s c) ∧ (s = 0 → A = none ∧ c = 0)
set_option maxRecDepth 100000 in
set_option maxHeartbeats 1000000 in
theorem keys1_any (B b : Nat) (hb : B ≤ b) (e : LExpr) (cs : List Value) (lv : Int) (w : World) (s : Nat) (hB : B ≤ w.heap.size) (he : IsExpr B w e cs) (hR : RK b s w) (hs : s + cstK e.hd ≤ 1) :
    Calls Try.prog 55 #[.agg cs.toArray, .int .i64 lv, .pointer (some ⟨b, 0, none⟩)] w fun r w' => r = .returned (.bool (visK e lv s).2) ∧ RK b (visK e lv s).1 w' ∧ Fr B w w' := by
  obtain ⟨hd, ks, A, c, rfl, rfl, hlen⟩ := he.form
  obtain ⟨A0, c0, hc0, hz⟩ := hR
  clear he
  by_cases hk : hd.kind = 2
  · have e1 : cstK hd = 1 := if_pos hk
    have hs0 : s = 0 := by change s + cstK hd ≤ 1 at hs; omega
    subst hs0
    obtain ⟨rfl, rfl⟩ := hz rfl
    have hv : visK (.mk hd ks) lv 0 = (1, true) := by simp [visK, LExpr.hd, e1]
    rw [hv]
    obtain ⟨kd, n, m, nm, vk, vn, vs, dv, cl, at_⟩ := hd
    dsimp only at hk
    subst hk
    have hl := Var.lt hc0
    have hx1 := Blk.new w 32 (Hd.cells ⟨2, n, m, nm, vk, vn, vs, dv, cl, at_⟩ (.slice A ks.length c)).toArray
    have hc1 := Blk.alloc hc0 (.cells (Hd.cells ⟨2, n, m, nm, vk, vn, vs, dv, cl, at_⟩ (.slice A ks.length c)).toArray 32)
    have hF1 := (Fr.refl B w).alloc hB (.cells (Hd.cells ⟨2, n, m, nm, vk, vn, vs, dv, cl, at_⟩ (.slice A ks.length c)).toArray 32)
    go_enter Try.func55, Try.ntmps55
    unfold Hd.cells at hx1 hc1 hF1 ⊢
    go_upto_region 1 with fail
    generalize w.alloc _ = W1 at *
    have cx := hx1.cell
    have cz := hc1.cell
    go_wp2_with fail
    go_loopw [6] (fun i wr => i = .int .i64 0 ∧ Lat W1 wr) (fun _ _ => 0)
    case atStart => exact ⟨rfl, Lat.refl _⟩
    case round =>
      obtain ⟨rfl, hLr⟩ := hrel
      have hc2 := hc1.lat hLr
      have hx2 := hx1.lat hLr
      clear cx cz hx1 hc1
      go_wp2_with fail
      refine wp_rely (by kernel_rfl) (by kernel_rfl) ?_
      repeat
        (apply RelyL.val
         focus (intro ν w' hL hF K hK; first
           | (refine skip_op rfl ?_; exact hK.out _ _ rfl (Lat.refl _))
           | (have cz := (hc2.lat hL).cell; go_simp; exact hK.out _ _ rfl (Lat.refl _)))
         simp only [Act.put, List.setIfInBounds_toArray, List.set_cons_zero, List.set_cons_succ, Nat.reduceAdd])
      refine RelyL.done fun ν w3 hL3 hF3 => ?_
      go_wp2_with fail
      replace hc2 := hc2.lat hL3
      replace hx2 := hx2.lat hL3
      replace hLr := hLr.trans hL3
      clear hF3 hL3
      refine wp_rely (by kernel_rfl) (by kernel_rfl) ?_
      repeat
        (apply RelyL.val
         focus (intro ν w' hL hF K hK; first
           | (refine skip_op rfl ?_; exact hK.out _ _ rfl (Lat.refl _))
           | (have cz := (hc2.lat hL).cell; go_simp; exact hK.out _ _ rfl (Lat.refl _)))
         simp only [Act.put, List.setIfInBounds_toArray, List.set_cons_zero, List.set_cons_succ, Nat.reduceAdd])
      refine RelyL.done fun ν w4 hL4 hF4 => ?_
      replace hc2 := hc2.lat hL4
      replace hx2 := hx2.lat hL4
      replace hLr := hLr.trans hL4
      clear hF4 hL4
      have cx := hx2.cell
      have cz := hc2.cell
      go_wp2_with fail
      refine (insert0_any _ _ dv cl at_ (Blk.new _ _ _)).mono ?_
      rintro r w5 ⟨⟨A5, c5, rfl⟩, hb5⟩
      have hl5 := (Lat.al w4 _).trans hb5
      replace hc2 := hc2.lat hl5
      replace hLr := hLr.trans hl5
      clear hx2 cx cz hb5 hl5
      have cz := hc2.cell
      have fz := hc2.free
      go_wp2_with fail
      go_ret
      exact ⟨rfl, ⟨_, _, hc2.set 0 _, by intro h; cases h⟩, (hF1.trans (Fr.of_below hLr (by have := hF1.size; omega))).set hc2 (by decide) hb _⟩
  · have e1 : cstK hd = 0 := if_neg hk
    have hv : visK (.mk hd ks) lv s = (s, true) := by simp [visK, LExpr.hd, e1]
    rw [hv]
    go_enter Try.func55, Try.ntmps55
    unfold Hd.cells
    have hk2 : (hd.kind == 2) = false := by simpa using hk
    go_wp2_with fail
    go_ret
    exact ⟨rfl, ⟨_, _, Blk.alloc hc0 _, hz⟩, (Fr.refl B w).alloc hB _⟩

set_option maxHeartbeats 1000000 in
theorem keysOne_any (e : LExpr) (cs : List Value) (B : Nat) (w : World) (hB : B ≤ w.heap.size) (he : IsExpr B w e cs) (hone : costE cstK e ≤ 1) :
    Calls Try.prog 34 #[.agg cs.toArray] w fun r w' => (∃ A c, r = .returned (.slice A (walkS visK e 1 0).1 c)) ∧ Below w.heap.size w w' := by
  obtain ⟨hd, ks, A, c, rfl, rfl, hlen⟩ := he.form
  have hcall : ∀ (args : Array Value) (w : World), (callFunc 55 args).run Try.prog w = .ok (.enter 55 args) w := fun args w => by kernel_rfl
  have HW := fun W hB' he' hR' => Lib.hid (walkM_any visK (RK (w.heap.size + 1)) w.heap.size 55 #[.pointer (some ⟨w.heap.size + 1, 0, none⟩)] hcall
    (fun s w o ⟨A, c, h, h0⟩ => ⟨A, c, Var.alloc h o, h0⟩) id cstK 1 (fun e lv s => Nat.le_refl _) (fun e cs lv w' s hB he hR hs => keys1_any w.heap.size (w.heap.size + 1) (by omega) e cs lv w' s hB he hR hs)
    (.mk hd ks) (hd.cells (.slice A ks.length c)) W 0 (by simpa using hone) hB' he' hR')
  clear hcall
  have he1 := he.mono hB
  clear he hone
  go_enter Try.func34, Try.ntmps34
  unfold Hd.cells
  go_wp2_with fail
  refine (HW _ ?_ ?_ ?_).out.mono ?_
  · simp; omega
  · exact he1.carry (((Below.refl _ _).al _).al _)
  · exact ⟨_, _, Blk.at1 _ _ _ _, fun _ => ⟨rfl, rfl⟩⟩
  rintro r w1 ⟨rfl, ⟨A1, c1, hR1, _⟩, F1⟩
  have b1 := Var.cell hR1
  clear HW he1
  go_wp2_with fail
  go_ret
  exact ⟨⟨_, _, rfl⟩, (((Below.refl _ _).al _).al _).trans F1.low⟩
end

end Go.Proofs.Ytnelgblmogciiaa
