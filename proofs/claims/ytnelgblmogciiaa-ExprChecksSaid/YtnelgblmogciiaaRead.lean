/- What comes in, read as plain data. -/
import Derived.Test.YtnelgblmogciiaaEvals
import Derived.ProofKit
import Derived.OpenShut
set_option linter.unusedSimpArgs false
set_option linter.unusedVariables false
namespace Go.Proofs.Ytnelgblmogciiaa
open Go.ChangeShapes Go.WideShapes Go.ChangeAt Go.RowKit

theorem i64_of_wf {a : Int} (h : (Lit.int .i64 a).wf = true) : I64 a := by
  have h2 : -9223372036854775808 ≤ a ∧ a ≤ 9223372036854775807 := by
    simpa [Lit.wf, IntKind.signed, IntKind.bits, IntKind.min, IntKind.max] using h
  exact h2

theorem c3 : Try.prog.cellsOf 3 = 1 := by kernel_rfl
theorem c9 : Try.prog.cellsOf 9 = 1 := by kernel_rfl
theorem c4 : Try.prog.cellsOf 4 = 1 := by kernel_rfl
theorem c27 : Try.prog.cellsOf 27 = 3 := by kernel_rfl
theorem c29 : Try.prog.cellsOf 29 = 3 := by kernel_rfl
theorem c30 : Try.prog.cellsOf 30 = 1 := by kernel_rfl
theorem c32 : Try.prog.cellsOf 32 = 11 := by kernel_rfl
theorem b32 : Try.prog.bytesOf 32 = 136 := by kernel_rfl

section
variable {H : Type} {enc : TypeId × Value → H} {W : World}

set_option maxRecDepth 100000 in
theorem rd_val {fuel : Nat} {cs : List Value} {x : DataW H × List MemPlace} (h : DataW.trod enc Try.prog W 0 (fun _ => true) true fuel 27 cs = some x) :
    ∃ k n s, cs = [.int .i64 k, .int .i64 n, .string s] ∧ I64 k ∧ I64 n := by
  obtain ⟨xs, m, rfl, -, hl, hx, hf⟩ := DataW.trod_struct Try.underlying27 h
  rw [c27] at hl
  match cs, hl with
  | [a, b, c], _ =>
    have hx3 : xs.length = 3 := hx
    have f0 := hf 0 _ rfl
    have f1 := hf 1 _ rfl
    have f2 := hf 2 _ rfl
    rw [List.getElem?_eq_getElem (by omega)] at f0 f1 f2
    obtain ⟨k, e0, -, w0⟩ := DataW.trod_int Try.underlying3 f0
    obtain ⟨n, e1, -, w1⟩ := DataW.trod_int Try.underlying3 f1
    obtain ⟨s, e2, -, -⟩ := DataW.trod_string Try.underlying9 f2
    simp [c3, c9] at e0 e1 e2
    subst e0 e1 e2
    exact ⟨k, n, s, rfl, i64_of_wf w0, i64_of_wf w1⟩
set_option maxRecDepth 100000 in
theorem rd_key {fuel : Nat} {cs : List Value} {x : DataW H × List MemPlace} (h : DataW.trod enc Try.prog W 0 (fun _ => true) true fuel 29 cs = some x) :
    ∃ k s t, cs = [.int .i64 k, .string s, .string t] ∧ I64 k := by
  obtain ⟨xs, m, rfl, -, hl, hx, hf⟩ := DataW.trod_struct Try.underlying29 h
  rw [c29] at hl
  match cs, hl with
  | [a, b, c], _ =>
    have hx3 : xs.length = 3 := hx
    have f0 := hf 0 _ rfl
    have f1 := hf 1 _ rfl
    have f2 := hf 2 _ rfl
    rw [List.getElem?_eq_getElem (by omega)] at f0 f1 f2
    obtain ⟨k, e0, -, w0⟩ := DataW.trod_int Try.underlying3 f0
    obtain ⟨n, e1, -, w1⟩ := DataW.trod_string Try.underlying9 f1
    obtain ⟨s, e2, -, -⟩ := DataW.trod_string Try.underlying9 f2
    simp [c3, c9] at e0 e1 e2
    subst e0 e1 e2
    exact ⟨k, n, s, rfl, i64_of_wf w0⟩

theorem row_read {b off i n : Nat} {cs : List Value} (h : W.cells? 0 ((⟨b, off, none⟩ : Addr).add i) n = some cs) (hn : 0 < n) : b < W.heap.size ∧ RowAt W b (off + i) cs ∧ cs.length = n := by
  obtain ⟨-, hl, hc⟩ := World.cells?_some h
  have h0 : W.cell? ((Addr.add ⟨b, off, none⟩ i).add 0) = some (cs[0]'(by omega)) := by rw [hc 0 hn, List.getElem?_eq_getElem (by omega)]
  refine ⟨?_, fun j v hv => ?_, hl⟩
  · rw [Go.WideShapes.add_plain, Go.WideShapes.add_plain] at h0
    unfold World.cell? at h0
    cases hb : W.heap[b]? with
    | none => simp [hb] at h0
    | some o => exact (Array.getElem?_eq_some_iff.1 hb).1
  · have hj : j < n := by rw [← hl]; exact (List.getElem?_eq_some_iff.1 hv).1
    have := hc j hj
    rw [Go.WideShapes.add_plain, Go.WideShapes.add_plain] at this
    rw [this, hv]
theorem row_plain {a : Addr} {n : Nat} {cs : List Value} (h : W.cells? 0 (a.add 0) n = some cs) (hn : 0 < n) : ∃ b off, a = ⟨b, off, none⟩ := by
  obtain ⟨-, hl, hc⟩ := World.cells?_some h
  obtain ⟨b, off, spot⟩ := a
  have h0 : W.cell? ((Addr.add ⟨b, off, spot⟩ 0).add 0) = some (cs[0]'(by omega)) := by rw [hc 0 hn, List.getElem?_eq_getElem (by omega)]
  have hspot : spot = none := by simpa [Addr.add] using World.cell?_spot h0
  exact ⟨b, off, by rw [hspot]⟩

set_option maxRecDepth 100000 in
theorem rd_expr : ∀ (fuel : Nat) (cs : List Value) (x : DataW H × List MemPlace), DataW.trod enc Try.prog W 0 (fun _ => true) true fuel 32 cs = some x → (∀ n ∈ x.1.weights Try.prog 32, n ≤ reachBytes) →
    ∃ e, IsExpr W.heap.size W e cs := by
  intro fuel
  induction fuel using Nat.strongRecOn with | _ fuel ih => ?_
  intro cs x h hwt
  obtain ⟨xs, m, rfl, hxe, hl, hx, hf⟩ := DataW.trod_struct Try.underlying32 h
  rw [c32] at hl
  match cs, hl with
  | [a0, a1, a2, a3, a4, a5, a6, a7, a8, a9, a10], _ =>
    have hx7 : xs.length = 7 := hx
    match xs, hx7 with
    | [x0, x1, x2, x3, x4, x5, x6], _ =>
      have f0 := hf 0 _ rfl
      have f1 := hf 1 _ rfl
      have f2 := hf 2 _ rfl
      have f3 := hf 3 _ rfl
      have f4 := hf 4 _ rfl
      have f5 := hf 5 _ rfl
      have f6 := hf 6 _ rfl
      simp only [List.getElem?_cons_zero, List.getElem?_cons_succ] at f0 f1 f2 f3 f4 f5 f6
      clear hf h
      obtain ⟨k, e0, -, w0⟩ := DataW.trod_int Try.underlying3 f0
      obtain ⟨n, e1, -, w1⟩ := DataW.trod_int Try.underlying3 f1
      obtain ⟨mm, e2, -, w2⟩ := DataW.trod_int Try.underlying3 f2
      obtain ⟨nm, e3, -, -⟩ := DataW.trod_string Try.underlying9 f3
      obtain ⟨vk, vn, vs, e4, i4, i4'⟩ := rd_val f4
      obtain ⟨dv, cl, at_, e5, i5⟩ := rd_key f5
      simp [c3, c9, c27, c29] at e0 e1 e2 e3 e4 e5
      obtain ⟨rfl, rfl, rfl⟩ := e4
      obtain ⟨rfl, rfl, rfl⟩ := e5
      subst e0 e1 e2 e3
      have ok : (⟨k, n, mm, nm, vk, vn, vs, dv, cl, at_⟩ : Hd).ok := ⟨i64_of_wf w0, i64_of_wf w1, i64_of_wf w2, i4, i4', i5⟩
      rcases DataW.trod_slice Try.underlying30 f6 with ⟨e6, -⟩ | ⟨a, len, cap, elems, rest, q, rfl, e6, hx6, -, hlc, -, hel, he, -, -⟩
      · simp [c30] at e6
        subst e6
        exact ⟨.mk _ [], .mk _ [] none 0 0 0 (fun _ => List.replicate 11 undef) ok (by simp) (fun h0 => by simp at h0) (fun _ => by simp) (fun i hi => by simp at hi) (fun i hi => by simp at hi)⟩
      · simp [c30] at e6
        subst e6
        have hwt6 : ∀ n ∈ x6.1.weights Try.prog 30, n ≤ reachBytes := by
          intro n hn
          refine hwt n ?_
          rw [hxe]
          simp only [DataW.weights, Try.underlying32]
          simp [DataW.weightsEach, hn]
        rw [hx6] at hwt6
        simp only [DataW.weights, Try.underlying30] at hwt6
        have hb1 := hwt6 _ (List.mem_cons_self)
        have hb2 : ∀ n ∈ DataW.weightsAll Try.prog 32 (elems.map (·.1)), n ≤ reachBytes := fun n hn => hwt6 n (List.mem_cons_of_mem _ (List.mem_append.2 (.inl hn)))
        rw [b32] at hb1
        simp only [List.length_map, reachBytes] at hb1
        have hel2 : ∀ (l : List (DataW H)) (d : DataW H), d ∈ l → ∀ n ∈ d.weights Try.prog 32, n ∈ DataW.weightsAll Try.prog 32 l := by
          intro l
          induction l with
          | nil => intro d hd; cases hd
          | cons y l ihl =>
            intro d hd n hn
            simp only [DataW.weightsAll, List.mem_append]
            rcases List.mem_cons.1 hd with rfl | hd'
            · exact .inl hn
            · exact .inr (ihl d hd' n hn)
        -- each kid
        have hkid : ∀ i, i < len → ∃ (cs' : List Value) (e : LExpr), W.cells? 0 (a.add (i * 11)) 11 = some cs' ∧ IsExpr W.heap.size W e cs' := by
          intro i hi
          have h1 := he i hi
          rw [c32, List.getElem?_eq_getElem (by omega)] at h1
          obtain ⟨cs', h2, h3⟩ := Option.bind_eq_some_iff.1 h1
          obtain ⟨e, h4⟩ := ih q (by omega) cs' _ h3 (fun n hn => hb2 n (hel2 _ elems[i].1 (List.mem_map.2 ⟨elems[i], List.getElem_mem _, rfl⟩) n hn))
          exact ⟨cs', e, h2, h4⟩
        by_cases hlen : len = 0
        · subst hlen
          exact ⟨.mk _ [], .mk _ [] (some a) cap 0 0 (fun _ => List.replicate 11 undef) ok (by simp) (fun h0 => by simp at h0) (fun _ => by simp) (fun i hi => by simp at hi) (fun i hi => by simp at hi)⟩
        · classical
          obtain ⟨cs0, ek, hck⟩ : ∃ (cs0 : Nat → List Value) (ek : Nat → LExpr), ∀ i, i < len → W.cells? 0 (a.add (i * 11)) 11 = some (cs0 i) ∧ IsExpr W.heap.size W (ek i) (cs0 i) := by
            refine ⟨fun i => if h : i < len then Classical.choose (hkid i h) else [], fun i => if h : i < len then Classical.choose (Classical.choose_spec (hkid i h)) else .mk ⟨0, 0, 0, noStr, 0, 0, noStr, 0, noStr, noStr⟩ [], fun i hi => ?_⟩
            dsimp only
            rw [dif_pos hi, dif_pos hi]
            exact Classical.choose_spec (Classical.choose_spec (hkid i hi))
          obtain ⟨b, off, rfl⟩ := row_plain (n := 11) (by have := (hck 0 (by omega)).1; simpa using this) (by omega)
          obtain ⟨hbl, -, -⟩ := row_read (hck 0 (by omega)).1 (by omega)
          have hrow : ∀ i, i < len → RowAt W b (off + i * 11) (cs0 i) ∧ (cs0 i).length = 11 := fun i hi => by
            obtain ⟨-, h1, h2⟩ := row_read (hck i hi).1 (by omega)
            exact ⟨h1, h2⟩
          have hln : ((List.range len).map ek).length = len := by simp
          have key := IsExpr.mk (B := W.heap.size) (w := W) ⟨k, n, mm, nm, vk, vn, vs, dv, cl, at_⟩ ((List.range len).map ek) (some ⟨b, off, none⟩) cap b off (fun i => if i < len then cs0 i else List.replicate 11 undef) ok
            (by rw [hln]; omega) (fun _ => ⟨rfl, hbl⟩) (fun i => by
              by_cases hi : i < len
              · simp only [if_pos hi]; exact (hrow i hi).2
              · simp [if_neg hi]) (fun i hi => by
              rw [hln] at hi
              simp only [if_pos hi]; exact (hrow i hi).1) (fun i hi => by
              have hi' : i < len := by rwa [hln] at hi
              simp only [if_pos hi', List.getElem_map, List.getElem_range]
              exact (hck i hi').2)
          rw [hln] at key
          exact ⟨_, key⟩
end
end Go.Proofs.Ytnelgblmogciiaa
