/- The iterator over the values of kids. -/
import Derived.Test.YtnelgblmogciiaaFind2
import Derived.RangeFuncNested
import Derived.RangeFuncLeaves
import Derived.OwnWalkIn
import Derived.TacticsInMore
import Derived.LoopNIn
import Derived.LoopIn
import Derived.BigFrameIn
set_option linter.unusedSimpArgs false
set_option linter.unusedVariables false
namespace Go.Proofs.Ytnelgblmogciiaa
open Go.RowKit

theorem _root_.Go.RowKit.Below.grows {w w' : World} (h : Below w.heap.size w w') : w.grownBy w' none := ⟨h.os, h.tape, h.output, h.size, fun k hk _ => h.block k hk⟩

section
variable {P : Program} {F : Fence} {n : Nat}
theorem wpListIn_load_at {ops : Array Oper} {rest : List Oper} {o : Oper} {a : Act} {w : World} {Q : Exit → Act → World → Prop} (hgd : o.guard = none) (ty : TypeId) (x : Operand) (ho : o.op = .load ty x)
    (b off : Nat) (hx : a.eval x = .pointer (some ⟨b, off, none⟩)) (cs : List Value) (d : TypeDesc) (h : RowAt w b off cs)
    (hu : P.underlying ty = some d) (hd : (match d with | .struct _ | .array _ _ => true | _ => false) = true) (hi : (P.info? ty).map (·.size) = some cs.length)
    (hK : wpListIn F n P ops Q rest (a.put o.dst (.agg cs.toArray)) w) : wpListIn F n P ops Q (o :: rest) a w :=
  wpListIn_plain hgd fun K hK' => by
    unfold Oper.wpIn
    refine ⟨fun f hf => by simp [Oper.about, ho] at hf, ?_⟩
    rw [Oper.semAt_eq _ _ _ (fun c hc => by rw [ho] at hc; cases hc)]
    unfold execOp
    simp only [ho, hx, Instr.loadAt, Instr.sureAddr, Sem.run_bind, Sem.run_pure, Result.andThen_ok, run_loadVar_at w b off ty cs d h hu hd hi]
    exact hK' _ _ hK
end

/-- What a round keeps: what lay below n₀, and the iterator's own copy of the view. -/
def KpV (n₀ bv : Nat) (A B : World) : Prop := Below n₀ A B ∧ ∀ t cs, Blk A bv t cs → Blk B bv t cs
theorem KpV.t {n₀ bv : Nat} {A B C : World} (h : KpV n₀ bv A B) (k : KpV n₀ bv B C) : KpV n₀ bv A C := ⟨h.1.trans k.1, fun t cs hc => k.2 t cs (h.2 t cs hc)⟩
theorem KpV.b {n₀ bv : Nat} {w : World} (hn : n₀ ≤ w.heap.size) (W : World) (l : Nat) (o o' : Obj) (hl : w.heap.size ≤ l) (h : W.heap[l]? = some o) (hc : o.isCells = false) (hw : o.isWalk = false) : KpV n₀ bv W (W.putObj l o') :=
  ⟨belowK_b hn W l o o' hl h hc hw, fun t cs hb => ((grownBy_putObj' W l o').block bv hb.lt (fun e => by cases e; unfold Blk at hb; rw [hb] at h; cases h; cases hc)).trans hb⟩
theorem KpV.of_below {n₀ bv : Nat} {A B : World} (h : Below A.heap.size A B) (hn : n₀ ≤ A.heap.size) : KpV n₀ bv A B := ⟨h.mono hn, fun t cs hb => hb.below h⟩

abbrev encV (x : EV) : Array Value := #[.agg #[.int .i64 x.k, .int .i64 x.n, .string x.s], .bool x.ok]

set_option maxRecDepth 100000 in
set_option maxHeartbeats 1000000 in
theorem kids1_in (V : LView) (IA : Option Addr) (ic : Nat) (MA : Option Addr) (mc : Nat) (ks : List LExpr) (xs : List EV) (hlen : xs.length = ks.length)
    (hF : ∀ (i : Nat) (hi : i < ks.length), FindOk V ks[i] ∧ findS V ks[i] = xs[i]) (l bl bv n₀ B : Nat) (A : Option Addr) (c b off : Nat) (cs : Nat → List Value) (W : World) (hsz1 : ks.length * 136 ≤ 140737488351232)
    (hsl : Blk W bl 30 #[.slice A ks.length c]) (hvw : Blk W bv 25 #[.slice IA V.items.length ic, .string V.mode, .int .i64 V.minute, .slice MA V.members.length mc])
    (hv : IsView n₀ W V [.slice IA V.items.length ic, .string V.mode, .int .i64 V.minute, .slice MA V.members.length mc]) (hn : n₀ ≤ W.heap.size) (hA : 0 < ks.length → A = some ⟨b, off, none⟩ ∧ b < n₀)
    (hsz : ∀ i, (cs i).length = 11) (hrow : ∀ i (hi : i < ks.length), RowAt W b (off + i * 11) (cs i)) (hk : ∀ i (hi : i < ks.length), IsExpr n₀ W ks[i] (cs i))
    (J Jx : List EV → World → Prop) (hJ : AbidesFrom W.heap.size J)
    (hY : ∀ pre x W1, J pre W1 → pre.length < ks.length → YieldAt Fence.wide 7 Try.prog l (encV x) W1 fun e W' =>
      (e = .returned (.bool true) ∧ J (pre ++ [x]) W' ∧ KpV n₀ bv W1 W') ∨ (e = .returned (.bool false) ∧ Jx (pre ++ [x]) W'))
    (h0 : J [] W) :
    CallsIn Fence.wide 8 Try.prog 122 #[.func (.yield l) #[] #[], .pointer (some ⟨bl, 0, none⟩), .pointer (some ⟨bv, 0, none⟩)] W fun e W' => (∃ v, e = .returned v) ∧
      ((∃ ys, ys = xs ∧ J ys W') ∨ (∃ pre, pre <+: xs ∧ Jx pre W')) := by
  have c1 := hsl.cell 0
  have c2 := hvw.cell
  refine callsIn_of_wp Try.func122 rfl trivial ?_ rfl
  simp only [Try.ntmps122, List.size_toArray, List.length_cons, List.length_nil, Nat.reduceAdd, Nat.reduceSub, Array.replicate_succ, Array.replicate_zero, List.push_toArray, List.append_toArray, List.nil_append, List.cons_append]
  gi_wp2
  gi_loopw [5, 8] (fun _ i wr => ∃ k : Nat, k ≤ ks.length ∧ i = .int .i64 k ∧ J (xs.take k) wr ∧ KpV n₀ bv W wr) (fun _ i _ => ks.length - (intOf i).toNat)
  case atStart => exact ⟨0, Nat.zero_le _, rfl, by simpa using h0, Below.refl _ _, fun _ _ h => h⟩
  case round =>
    obtain ⟨k, hkl, rfl, hJs, hKp⟩ := hrel
    by_cases hlk : k < ks.length
    · obtain ⟨rfl, hbn⟩ := hA (by omega)
      have hr := (hrow k hlk).below hKp.1 hbn
      have hvr := hKp.2 _ _ hvw
      have cv := hvr.cell
      have lbv := hvr.lt
      have nbv : ¬ wr.heap.size = bv := by omega
      have hkk := (hk k hlk).carry hKp.1
      have hx1 := hF k hlk
      have htk : xs.take (k + 1) = xs.take k ++ [xs[k]] := by rw [List.take_add_one, List.getElem?_eq_getElem (by omega)]; rfl
      have hpre : xs.take (k + 1) <+: xs := List.take_prefix _ _
      have hpl : (xs.take k).length < ks.length := by simp; omega
      rw [htk] at hpre
      obtain ⟨hfo, hfe⟩ := hx1
      rw [FindOk, hfe] at hfo
      have hxs : k < xs.length := by omega
      generalize hX : xs[k] = X at *
      clear hX
      obtain ⟨hd', ks', A', c', hkd, hcs, _⟩ := hkk.form
      rw [hkd] at hkk
      rw [hkd] at hfo
      rw [hcs] at hr hkk
      have HI := fun W' hB' hv' he' => Lib.hid (hfo [.slice IA V.items.length ic, .string V.mode, .int .i64 V.minute, .slice MA V.members.length mc] (hd'.cells (.slice A' ks'.length c')) n₀ W' hB' hv' he')
      have hvr2 := hv.carry hKp.1
      have hsw := hKp.1.size
      clear hfo hfe hF hk hrow hA hcs hkd hsl
      unfold Hd.cells at hr HI hkk
      gi_wp2_with (first | (with_reducible refine wpListIn_load_at rfl 32 _ rfl b (off + k * 11) rfl _ _ hr Try.underlying32 rfl (by kernel_rfl) ?_))
      refine ⟨trivial, (callsIn_wide.2 (HI _ ?_ ?_ ?_).out).mono ?_⟩
      · simp; omega
      · exact hvr2.carry ((Below.refl _ _).alloc (by omega) _)
      · exact hkk.carry ((Below.refl _ _).alloc (by omega) _)
      rintro r W3 ⟨rfl, hb3⟩
      have hW3 : Below wr.heap.size wr W3 := ((Below.refl _ _).al _).th hb3
      have hJ3 : J (xs.take k) W3 := hJ _ _ _ none hJs hW3.grows (fun r hr => by cases hr)
      obtain ⟨fn, tmps, assign, body, hy, hR⟩ := hY _ X W3 hJ3 hpl
      dsimp only [encV] at hy
      have hK3 : KpV n₀ bv W W3 := hKp.t (KpV.of_below hW3 (by omega))
      clear HI
      gi_wp2
      refine hR.mono ?_
      rintro e W4 (⟨rfl, hJ4, hK4⟩ | ⟨rfl, hJx4⟩)
      · gi_wp2
        go_roundw
        case rel => exact ⟨k + 1, by omega, by go_num, by rw [htk]; exact hJ4, hK3.t hK4⟩
        case measure => simp [intOf]; omega
      · gi_wp2
        refine bodyPost_ret (results_none rfl _ _ _) rfl ?_
        exact ⟨⟨_, rfl⟩, .inr ⟨_, hpre, hJx4⟩⟩
    · gi_wp2
      go_end0
      exact ⟨⟨_, rfl⟩, .inl ⟨_, rfl, by rw [List.take_of_length_le (by omega)] at hJs; exact hJs⟩⟩

set_option maxHeartbeats 1000000 in
theorem kids_in (vc : Array Value) (A : Option Addr) (n c : Nat) (w : World) :
    Calls Try.prog 103 #[.agg vc, .slice A n c] w fun e w' => e = .returned (.func (.func 122) #[] #[.pointer (some ⟨w.heap.size + 1, 0, none⟩), .pointer (some ⟨w.heap.size, 0, none⟩)]) ∧ w' = (w.alloc (.cells vc 25)).alloc (.cells #[.slice A n c] 30) := by
  go_enter Try.func103, Try.ntmps103
  go_wp2_with fail
  go_ret
  exact ⟨rfl, rfl⟩

end Go.Proofs.Ytnelgblmogciiaa
