/- Hold: arguments read as lists of timers, of names, of bools. Hold: an argument read as a list of rules. -/
import Derived.Test.YtafodibbcfoclaaGreatGenRead
import Derived.Test.YtafodibbcfoclaaGreatHMem
import Derived.Test.YtafodibbcfoclaaGreatEvReads
import Derived.Test.YtafodibbcfoclaaGreatHFews
namespace Go.Proofs.YtafodibbcfoclaaGreat
section
set_option linter.unusedSimpArgs false
set_option linter.unusedVariables false
open Go.ChangeShapes Go.WideShapes Go.ChangeAt Go.RowKit

section
variable {H : Type} {enc : TypeId × Value → H} {W : World}
theorem cTm : Tryz.prog.cellsOf 50 = 3 := by kernel_rfl
theorem cI : Tryz.prog.cellsOf 3 = 1 := by kernel_rfl
theorem cS : Tryz.prog.cellsOf 9 = 1 := by kernel_rfl
theorem cB : Tryz.prog.cellsOf 4 = 1 := by kernel_rfl
theorem rd_rowsP {α : Type} (y0 : α) (f : α → List Value) (Pr : α → Prop) {t e : TypeId} (ht : Tryz.prog.underlying t = some (.slice e)) {n : Nat} (hc : Tryz.prog.cellsOf e = n) (hn : 0 < n)
    (hread : ∀ (fuel : Nat) (cs : List Value) (x : DataW H × List MemPlace), DataW.trod enc Tryz.prog W 0 (fun _ => true) true fuel e cs = some x → ∃ y, cs = f y ∧ Pr y)
    {fuel : Nat} {cs : List Value} {x : DataW H × List MemPlace} (h : DataW.trod enc Tryz.prog W 0 (fun _ => true) true fuel t cs = some x) :
    ∃ (A : Option Addr) (l : List α) (c : Nat), cs = [.slice A l.length c] ∧ IsRows W.heap.size W n (l.map f) A ∧ (∀ y ∈ l, Pr y) ∧ (A = none → c = 0 ∧ l.length = 0) ∧ l.length ≤ c := by
  have hnil := fun l c (he : cs = [.slice none l c]) => rd_nil ht h l c he
  rcases DataW.trod_slice ht h with ⟨e6, -⟩ | ⟨a, len, cap, elems, rest, q, rfl, e6, hx6, -, hlc, -, hel, he, -, -⟩
  · exact ⟨none, [], 0, e6, fun h => by simp at h, fun y hy => absurd hy (by simp), fun _ => ⟨rfl, rfl⟩, Nat.le_refl _⟩
  · have hkid : ∀ i, i < len → ∃ y, W.cells? 0 (a.add (i * n)) n = some (f y) ∧ Pr y := by
      intro i hi
      have h1 := he i hi
      rw [hc, List.getElem?_eq_getElem (by omega)] at h1
      obtain ⟨cs', h2, h3⟩ := Option.bind_eq_some_iff.1 h1
      obtain ⟨y, rfl, hy⟩ := hread _ _ _ h3
      exact ⟨y, h2, hy⟩
    classical
    obtain ⟨ys, hys⟩ : ∃ ys : Nat → α, ∀ i, i < len → W.cells? 0 (a.add (i * n)) n = some (f (ys i)) ∧ Pr (ys i) := by
      refine ⟨fun i => if h : i < len then Classical.choose (hkid i h) else y0, fun i hi => ?_⟩
      dsimp only
      rw [dif_pos hi]
      exact Classical.choose_spec (hkid i hi)
    have hln : ((List.range len).map ys).length = len := by simp
    refine ⟨some a, (List.range len).map ys, cap, by rw [hln]; exact e6, fun h0 => ?_, fun y hy => ?_, (fun hA => by cases hA), by rw [hln]; exact hlc⟩
    · have h0' : 0 < len := by simpa using h0
      obtain ⟨b, off, rfl⟩ := row_plain (n := n) (by have := (hys 0 h0').1; simpa using this) hn
      refine ⟨b, off, rfl, (row_read (hys 0 h0').1 hn).1, fun i hi => ?_⟩
      have hi' : i < len := by simpa using hi
      have := (row_read (hys i hi').1 hn).2.1
      simpa using this
    · obtain ⟨i, hi, rfl⟩ := List.mem_map.1 hy
      exact (hys i (by simpa using hi)).2
set_option maxRecDepth 100000 in
theorem slice_arg {t e : TypeId} (ht : Tryz.prog.underlying t = some (.slice e)) {base : Nat} {v : Value} (hok : Value.okWide Tryz.prog W .any base t v) {u : Value} (h : v.cells.toList = [u]) : v = u := by
  obtain ⟨a, len, cap, rfl⟩ := okWide_slice ht hok
  have : [Value.slice a len cap] = [u] := h
  injection this
set_option maxRecDepth 100000 in
theorem rd_timer {fuel : Nat} {cs : List Value} {x : DataW H × List MemPlace} (h : DataW.trod enc Tryz.prog W 0 (fun _ => true) true fuel 50 cs = some x) : ∃ y : LTim, cs = tC y ∧ y.rule.size ≤ maxLen := by
  obtain ⟨xs, m, rfl, hxe, hl, hx, hf⟩ := DataW.trod_struct Tryz.underlying50 h
  rw [cTm] at hl
  match cs, hl with
  | [a0, a1, a2], _ =>
    have hx3 : xs.length = 3 := hx
    match xs, hx3 with
    | [x0, x1, x2], _ =>
      have f0 := hf 0 _ rfl
      have f1 := hf 1 _ rfl
      have f2 := hf 2 _ rfl
      simp only [List.getElem?_cons_zero, List.getElem?_cons_succ] at f0 f1 f2
      clear hf h
      obtain ⟨p0, e0, -, hs⟩ := DataW.trod_string Tryz.underlying9 f0
      obtain ⟨p1, e1, -, -⟩ := DataW.trod_int Tryz.underlying3 f1
      obtain ⟨p2, e2, -⟩ := DataW.trod_bool Tryz.underlying4 f2
      simp [cI, cS, cB] at e0 e1 e2
      subst e0 e1 e2
      exact ⟨⟨p0, p1, p2⟩, rfl, hs⟩
set_option maxRecDepth 100000 in
theorem arg_timers {base : Nat} {v : Value} {d : DataW H} {p : List MemPlace} (hok : Value.okWide Tryz.prog W .any base 22 v) (h : DataW.Trod enc Tryz.prog W 0 (fun _ => true) true 22 v d p) :
    ∃ (l : List LTim) (A : Option Addr) (c : Nat), v = .slice A l.length c ∧ RdT W l (.slice A l.length c) := by
  obtain ⟨fuel, h1⟩ := h
  obtain ⟨A, l, c, e, hr, hp, hn, hc⟩ := rd_rowsP (⟨noStr, 0, false⟩ : LTim) tC (fun y => y.rule.size ≤ maxLen) Tryz.underlying22 cTm (by decide) (fun _ _ _ h => rd_timer h) h1
  obtain rfl := slice_arg Tryz.underlying22 hok e
  exact ⟨l, A, c, rfl, ⟨A, c, rfl, hr, hn⟩, hp⟩
set_option maxRecDepth 100000 in
theorem arg_names {base : Nat} {v : Value} {d : DataW H} {p : List MemPlace} (hok : Value.okWide Tryz.prog W .any base 51 v) (h : DataW.Trod enc Tryz.prog W 0 (fun _ => true) true 51 v d p) :
    ∃ (l : List ByteArray) (A : Option Addr) (c : Nat), v = .slice A l.length c ∧ ES.Rd W l (.slice A l.length c) := by
  obtain ⟨fuel, h1⟩ := h
  obtain ⟨A, l, c, e, hr, hp, hn, hc⟩ := rd_rowsP noStr (fun s : ByteArray => [Value.string s]) (fun _ => True) Tryz.underlying51 cS (by decide) (fun _ _ _ h => by
    obtain ⟨p1, e1, -, -⟩ := DataW.trod_string Tryz.underlying9 h
    exact ⟨p1, e1, trivial⟩) h1
  obtain rfl := slice_arg Tryz.underlying51 hok e
  exact ⟨l, A, c, rfl, ⟨A, c, rfl, hr, hn⟩⟩
end
theorem canTS : Tryz.prog.readableRec 22 = true := by kernel_rfl
theorem rowTS : 22 < Tryz.prog.types.size := of_decide_eq_true (by kernel_rfl)
theorem canNS : Tryz.prog.readableRec 51 = true := by kernel_rfl
theorem rowNS : 51 < Tryz.prog.types.size := of_decide_eq_true (by kernel_rfl)
end
end Go.Proofs.YtafodibbcfoclaaGreat

namespace Go.Proofs.YtafodibbcfoclaaGreat
section
set_option linter.unusedSimpArgs false
set_option linter.unusedVariables false
open Go.ChangeShapes Go.WideShapes Go.ChangeAt Go.RowKit

section
variable {H : Type} {enc : TypeId × Value → H} {W : World}
theorem cRl : Tryz.prog.cellsOf 44 = 15 := by kernel_rfl
theorem cTg : Tryz.prog.cellsOf 73 = 10 := by kernel_rfl
theorem cKy : Tryz.prog.cellsOf 38 = 3 := by kernel_rfl
theorem cEv : Tryz.prog.cellsOf 71 = 3 := by kernel_rfl
theorem cEx : Tryz.prog.cellsOf 41 = 11 := by kernel_rfl
theorem cTgs : Tryz.prog.cellsOf 34 = 1 := by kernel_rfl
theorem cSts : Tryz.prog.cellsOf 42 = 1 := by kernel_rfl
theorem rd_rowsW {α : Type} (y0 : α) (f : α → List Value) (Pr : α → Prop) {t e : TypeId} (ht : Tryz.prog.underlying t = some (.slice e)) {n : Nat} (hc : Tryz.prog.cellsOf e = n) (hn : 0 < n)
    (hread : ∀ (fuel : Nat) (cs : List Value) (x : DataW H × List MemPlace), DataW.trod enc Tryz.prog W 0 (fun _ => true) true fuel e cs = some x → (∀ n ∈ x.1.weights Tryz.prog e, n ≤ reachBytes) → ∃ y, cs = f y ∧ Pr y)
    {fuel : Nat} {cs : List Value} {x : DataW H × List MemPlace} (h : DataW.trod enc Tryz.prog W 0 (fun _ => true) true fuel t cs = some x) (hwt : ∀ n ∈ x.1.weights Tryz.prog t, n ≤ reachBytes) :
    ∃ (A : Option Addr) (l : List α) (c : Nat), cs = [.slice A l.length c] ∧ IsRows W.heap.size W n (l.map f) A ∧ (∀ y ∈ l, Pr y) ∧ (A = none → c = 0 ∧ l.length = 0) ∧ l.length ≤ c := by
  have hnil := fun l c (he : cs = [.slice none l c]) => rd_nil ht h l c he
  rcases DataW.trod_slice ht h with ⟨e6, -⟩ | ⟨a, len, cap, elems, rest, q, rfl, e6, hx6, -, hlc, -, hel, he, -, -⟩
  · exact ⟨none, [], 0, e6, fun h => by simp at h, fun y hy => absurd hy (by simp), fun _ => ⟨rfl, rfl⟩, Nat.le_refl _⟩
  · rw [hx6] at hwt
    simp only [DataW.weights, ht] at hwt
    have hb2 : ∀ n ∈ DataW.weightsAll Tryz.prog e (elems.map (·.1)), n ≤ reachBytes := fun n hn => hwt n (List.mem_cons_of_mem _ (List.mem_append.2 (.inl hn)))
    have hel2 : ∀ (l : List (DataW H)) (d : DataW H), d ∈ l → ∀ n ∈ d.weights Tryz.prog e, n ∈ DataW.weightsAll Tryz.prog e l := by
      intro l
      induction l with
      | nil => intro d hd; cases hd
      | cons y l ihl =>
        intro d hd n hn
        simp only [DataW.weightsAll, List.mem_append]
        rcases List.mem_cons.1 hd with rfl | hd'
        · exact .inl hn
        · exact .inr (ihl d hd' n hn)
    have hkid : ∀ i, i < len → ∃ y, W.cells? 0 (a.add (i * n)) n = some (f y) ∧ Pr y := by
      intro i hi
      have h1 := he i hi
      rw [hc, List.getElem?_eq_getElem (by omega)] at h1
      obtain ⟨cs', h2, h3⟩ := Option.bind_eq_some_iff.1 h1
      obtain ⟨y, rfl, hy⟩ := hread _ _ _ h3 (fun n hn => hb2 n (hel2 _ elems[i].1 (List.mem_map.2 ⟨elems[i], List.getElem_mem _, rfl⟩) n hn))
      exact ⟨y, h2, hy⟩
    classical
    obtain ⟨ys, hys⟩ : ∃ ys : Nat → α, ∀ i, i < len → W.cells? 0 (a.add (i * n)) n = some (f (ys i)) ∧ Pr (ys i) := by
      refine ⟨fun i => if h : i < len then Classical.choose (hkid i h) else y0, fun i hi => ?_⟩
      dsimp only
      rw [dif_pos hi]
      exact Classical.choose_spec (hkid i hi)
    have hln : ((List.range len).map ys).length = len := by simp
    refine ⟨some a, (List.range len).map ys, cap, by rw [hln]; exact e6, fun h0 => ?_, fun y hy => ?_, (fun hA => by cases hA), by rw [hln]; exact hlc⟩
    · have h0' : 0 < len := by simpa using h0
      obtain ⟨b, off, rfl⟩ := row_plain (n := n) (by have := (hys 0 h0').1; simpa using this) hn
      refine ⟨b, off, rfl, (row_read (hys 0 h0').1 hn).1, fun i hi => ?_⟩
      have hi' : i < len := by simpa using hi
      have := (row_read (hys i hi').1 hn).2.1
      simpa using this
    · obtain ⟨i, hi, rfl⟩ := List.mem_map.1 hy
      exact (hys i (by simpa using hi)).2
set_option maxRecDepth 100000 in
theorem rd_event {fuel : Nat} {cs : List Value} {x : DataW H × List MemPlace} (h : DataW.trod enc Tryz.prog W 0 (fun _ => true) true fuel 71 cs = some x) : ∃ k s t, cs = [.int .i64 k, .string s, .string t] := by
  obtain ⟨xs, m, rfl, -, hl, hx, hf⟩ := DataW.trod_struct Tryz.underlying71 h
  rw [cEv] at hl
  match cs, hl with
  | [a, b, c], _ =>
    have hx3 : xs.length = 3 := hx
    have f0 := hf 0 _ rfl
    have f1 := hf 1 _ rfl
    have f2 := hf 2 _ rfl
    rw [List.getElem?_eq_getElem (by omega)] at f0 f1 f2
    obtain ⟨k, e0, -, -⟩ := DataW.trod_int Tryz.underlying3 f0
    obtain ⟨n, e1, -, -⟩ := DataW.trod_string Tryz.underlying9 f1
    obtain ⟨s, e2, -, -⟩ := DataW.trod_string Tryz.underlying9 f2
    simp [cI, cS] at e0 e1 e2
    subst e0 e1 e2
    exact ⟨k, n, s, rfl⟩
set_option maxRecDepth 100000 in
theorem rd_trigger {fuel : Nat} {cs : List Value} {x : DataW H × List MemPlace} (h : DataW.trod enc Tryz.prog W 0 (fun _ => true) true fuel 73 cs = some x) : ∃ y : TrR, cs = gC y ∧ True := by
  obtain ⟨xs, m, rfl, -, hl, hx, hf⟩ := DataW.trod_struct Tryz.underlying73 h
  rw [cTg] at hl
  match cs, hl with
  | [a0, a1, a2, a3, a4, a5, a6, a7, a8, a9], _ =>
    have hx3 : xs.length = 6 := hx
    have f0 := hf 0 _ rfl
    have f1 := hf 1 _ rfl
    have f2 := hf 2 _ rfl
    have f3 := hf 3 _ rfl
    have f4 := hf 4 _ rfl
    have f5 := hf 5 _ rfl
    rw [List.getElem?_eq_getElem (by omega)] at f0 f1 f2 f3 f4 f5
    obtain ⟨k, e0, -, -⟩ := DataW.trod_int Tryz.underlying3 f0
    obtain ⟨k1, k2, k3, e1, -⟩ := Ev.rd_key f1
    obtain ⟨v1, v2, v3, e2⟩ := rd_event f2
    obtain ⟨nm, e3, -, -⟩ := DataW.trod_string Tryz.underlying9 f3
    obtain ⟨n, e4, -, -⟩ := DataW.trod_int Tryz.underlying3 f4
    obtain ⟨mm, e5, -, -⟩ := DataW.trod_int Tryz.underlying3 f5
    simp [cI, cS, cKy, cEv] at e0 e1 e2 e3 e4 e5
    obtain ⟨rfl, rfl, rfl⟩ := e1
    obtain ⟨rfl, rfl, rfl⟩ := e2
    subst e0 e3 e4 e5
    exact ⟨⟨k, k1, k2, k3, v1, v2, v3, nm, n, mm⟩, rfl, trivial⟩
set_option maxRecDepth 100000 in
theorem rd_rule {fuel : Nat} {cs : List Value} {x : DataW H × List MemPlace} (h : DataW.trod enc Tryz.prog W 0 (fun _ => true) true fuel 44 cs = some x) (hwt : ∀ n ∈ x.1.weights Tryz.prog 44, n ≤ reachBytes) :
    ∃ y : RlR × LRule, cs = rC y.1 ∧ y.1.Says W y.2 := by
  obtain ⟨xs, m, rfl, hxe, hl, hx, hf⟩ := DataW.trod_struct Tryz.underlying44 h
  rw [cRl] at hl
  match cs, hl with
  | [a0, a1, a2, a3, a4, a5, a6, a7, a8, a9, a10, a11, a12, a13, a14], _ =>
    have hx5 : xs.length = 5 := hx
    match xs, hx5 with
    | [x0, x1, x2, x3, x4], _ =>
      have f0 := hf 0 _ rfl
      have f1 := hf 1 _ rfl
      have f2 := hf 2 _ rfl
      have f3 := hf 3 _ rfl
      have f4 := hf 4 _ rfl
      simp only [List.getElem?_cons_zero, List.getElem?_cons_succ] at f0 f1 f2 f3 f4
      clear hf h
      have hw3 : ∀ n ∈ x3.1.weights Tryz.prog 41, n ≤ reachBytes := by
        intro n hn
        refine hwt n ?_
        rw [hxe]
        simp only [DataW.weights, Tryz.underlying44]
        simp [DataW.weightsEach, hn]
      obtain ⟨nm, e0, -, hs⟩ := DataW.trod_string Tryz.underlying9 f0
      obtain ⟨pr, e1, -, -⟩ := DataW.trod_int Tryz.underlying3 f1
      obtain ⟨A, l, c, e2, hr2, -, hn2, -⟩ := rd_rowsP (⟨0, 0, noStr, noStr, 0, noStr, noStr, noStr, 0, 0⟩ : TrR) gC (fun _ => True) Tryz.underlying34 cTg (by decide) (fun _ _ _ h => rd_trigger h) f2
      obtain ⟨e, he⟩ := Ev.rd_expr _ _ _ f3 hw3
      obtain ⟨A4, l4, c4, e4⟩ := rd_sl Tryz.underlying42 f4
      simp [cI, cS, cTgs, cEx, cSts] at e0 e1 e2 e4 he
      obtain ⟨hd, A3, l3, c3, e3⟩ := isExpr_form he
      rw [e3] at he
      simp only [Ev.Hd.cells, List.cons.injEq, and_true] at e3
      obtain ⟨rfl, rfl, rfl, rfl, rfl, rfl, rfl, rfl, rfl, rfl, rfl⟩ := e3
      subst e0 e1 e2 e4
      exact ⟨(⟨nm, pr, A, l.length, c, hd, A3, l3, c3, A4, l4, c4⟩, ⟨nm, l, e⟩), rfl, ⟨rfl, hs, ⟨A, c, rfl, hr2, hn2⟩, he⟩⟩
set_option maxRecDepth 100000 in
theorem arg_rules {base : Nat} {v : Value} {d : DataW H} {p : List MemPlace} (hok : Value.okWide Tryz.prog W .any base 23 v) (h : DataW.Trod enc Tryz.prog W 0 (fun _ => true) true 23 v d p) (hwt : ∀ n ∈ d.weights Tryz.prog 23, n ≤ reachBytes) :
    ∃ (l : List (RlR × LRule)) (A : Option Addr) (c : Nat), v = .slice A l.length c ∧ RdR W l (.slice A l.length c) := by
  obtain ⟨fuel, h1⟩ := h
  obtain ⟨A, l, c, e, hr, hp, hn, hc⟩ := rd_rowsW ((⟨noStr, 0, none, 0, 0, ⟨0, 0, 0, noStr, 0, 0, noStr, 0, noStr, noStr⟩, none, 0, 0, none, 0, 0⟩, ⟨noStr, [], .mk ⟨0, 0, 0, noStr, 0, 0, noStr, 0, noStr, noStr⟩ []⟩) : RlR × LRule) (fun y => rC y.1) (fun y => y.1.Says W y.2) Tryz.underlying23 cRl (by decide) (fun _ _ _ h hw => rd_rule h hw) h1 hwt
  obtain rfl := slice_arg Tryz.underlying23 hok e
  refine ⟨l, A, c, rfl, ⟨A, c, by rw [List.length_map], ?_, fun hA => by rw [List.length_map]; exact hn hA⟩, hp⟩
  rw [List.map_map]
  exact hr
end
theorem canRS : Tryz.prog.readableRec 23 = true := by kernel_rfl
theorem rowRS : 23 < Tryz.prog.types.size := of_decide_eq_true (by kernel_rfl)
end
end Go.Proofs.YtafodibbcfoclaaGreat
