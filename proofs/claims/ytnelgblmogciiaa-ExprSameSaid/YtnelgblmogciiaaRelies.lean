/- A region that draws its order of evaluation: one operation at a time is shown to answer in every later world, and then every order goes alike. A region that draws its order of evaluation: the walk of Rely holds of every order. A region that draws its order of evaluation: the moves of the walk. A region that draws its order of evaluation, whose last operations wait for all others, one behind the other. -/
import Derived.OrdersHeld
import Derived.Below
import Derived.Lib.Hide
import Derived.Test.YtnelgblmogciiaaEvals
namespace Go.Proofs.Ytnelgblmogciiaa
section
set_option linter.unusedVariables false
open Go Go.RowKit

/-- A later world: all that stood is as it was. -/
def Lat (w w' : World) : Prop := Below w.heap.size w w'
theorem Lat.refl (w : World) : Lat w w := Below.refl _ _
theorem Lat.trans {a b c : World} (h : Lat a b) (h' : Lat b c) : Lat a c := Below.trans h (Below.mono h' (Below.size h))
theorem Lat.drew (w : World) : Lat w w.drew := Below.drew (Below.refl _ _)

def noExit : Exit → Act → World → Prop := fun _ _ _ => False

section
variable {P : Program} {ops : Array Oper} {md : Region.Mode} {Q : Exit → Act → World → Prop}

def edge (md : Region.Mode) (o : Oper) (i : Nat) : Bool := o.after.any fun e => Region.binds md e && e.on == i

/-- What an operation is shown to do: it answers with a value of which Φ is known, in a later world. -/
def OpDoes (P : Program) (ops : Array Oper) (i : Nat) (Φ : Value → World → Prop) (a : Act) (w : World) : Prop :=
  ∀ o, ops[i]? = some o → ∀ K : Act → World → Prop, Hid (∀ b v w', b = a.put o.dst v → Φ v w' → Lat w w' → K b w') →
    if Region.wanted o (yielded ops a.tmps) = true then o.wp P a w K noExit else K (a.put o.dst undef) w

def dstOf (ops : Array Oper) (i : Nat) : Option Tmp := (ops[i]?).bind (·.dst)

abbrev Facts := List (Nat × (Value → World → Prop))

/-- The walk, operation by operation in the text's order. -/
def Rely (P : Program) (md : Region.Mode) (ops : Array Oper) (w0 : World) (E : Act → World → Prop) : Nat → Nat → Facts → ((Nat → Value) → Act) → Prop
  | 0, _, F, A => ∀ ν w, Lat w0 w → (∀ p ∈ F, p.2 (ν p.1) w) → E (A ν) w
  | m + 1, i, F, A =>
    (∃ c : Value, (∀ ν w, Lat w0 w → (∀ p ∈ F, (ops[i]?.map (edge md · p.1)).getD false = true → p.2 (ν p.1) w) → OpDoes P ops i (fun v _ => v = c) (A ν) w) ∧
      Rely P md ops w0 E m (i + 1) F (fun ν => (A ν).put (dstOf ops i) c)) ∨
    (∃ φ : Value → World → Prop, (∀ v w1 w2, Lat w1 w2 → φ v w1 → φ v w2) ∧ (∀ ν w, Lat w0 w → (∀ p ∈ F, (ops[i]?.map (edge md · p.1)).getD false = true → p.2 (ν p.1) w) → OpDoes P ops i φ (A ν) w) ∧
      Rely P md ops w0 E m (i + 1) ((i, φ) :: F) (fun ν => (A ν).put (dstOf ops i) (ν i)))

/-- What is known of an operation. -/
inductive Spec where
  | val (c : Value)
  | law (φ : Value → World → Prop)
def Spec.get : Spec → Value → Value
  | .val c, _ => c
  | .law _, u => u
def Spec.fact : Spec → Value → World → Prop
  | .val _, _, _ => True
  | .law φ, u, w => φ u w
def Spec.ans : Spec → Value → World → Prop
  | .val c, v, _ => v = c
  | .law φ, v, w => φ v w
def Spec.lasts (s : Spec) : Prop := ∀ v w1 w2, Lat w1 w2 → s.fact v w1 → s.fact v w2
theorem Spec.of_ans {s : Spec} {v : Value} {w : World} (h : s.ans v w) : s.get v = v ∧ s.fact v w := by
  cases s with
  | val c => exact ⟨h.symm, trivial⟩
  | law φ => exact ⟨rfl, h⟩

/-- The frame behind the first operations. -/
def actTo (ops : Array Oper) (S : Nat → Spec) (a0 : Act) (ν : Nat → Value) : Nat → Act
  | 0 => a0
  | i + 1 => (actTo ops S a0 ν i).put (dstOf ops i) ((S i).get (ν i))

theorem actTo_congr {S S' : Nat → Spec} {a0 : Act} {ν : Nat → Value} : ∀ (n : Nat), (∀ i, i < n → S i = S' i) → actTo ops S a0 ν n = actTo ops S' a0 ν n
  | 0, _ => rfl
  | n + 1, h => by rw [actTo, actTo, actTo_congr n (fun i hi => h i (by omega)), h n (by omega)]

/-- What the walk gives. -/
structure Walked (P : Program) (md : Region.Mode) (ops : Array Oper) (w0 : World) (E : Act → World → Prop) (a0 : Act) (n : Nat) (S : Nat → Spec) : Prop where
  lasts : ∀ i, i < n → (S i).lasts
  does : ∀ i, i < n → ∀ ν w, Lat w0 w → (∀ j, j < i → (ops[i]?.map (edge md · j)).getD false = true → (S j).fact (ν j) w) → OpDoes P ops i (S i).ans (actTo ops S a0 ν i) w
  ends : ∀ ν w, Lat w0 w → (∀ j, j < n → (S j).fact (ν j) w) → E (actTo ops S a0 ν n) w

def FactsOf (F : Facts) (S : Nat → Spec) (i : Nat) : Prop := ∀ p ∈ F, p.1 < i ∧ S p.1 = .law p.2

theorem Rely.walked {w0 : World} {E : Act → World → Prop} {a0 : Act} : ∀ (m i : Nat) (F : Facts) (A : (Nat → Value) → Act) (S0 : Nat → Spec),
    Rely P md ops w0 E m i F A → (∀ ν, A ν = actTo ops S0 a0 ν i) → FactsOf F S0 i →
    ∃ S : Nat → Spec, (∀ j, j < i → S j = S0 j) ∧ (∀ j, i ≤ j → j < i + m → (S j).lasts) ∧
      (∀ j, i ≤ j → j < i + m → ∀ ν w, Lat w0 w → (∀ k, k < j → (ops[j]?.map (edge md · k)).getD false = true → (S k).fact (ν k) w) → OpDoes P ops j (S j).ans (actTo ops S a0 ν j) w) ∧
      (∀ ν w, Lat w0 w → (∀ j, j < i + m → (S j).fact (ν j) w) → E (actTo ops S a0 ν (i + m)) w) := by
  intro m
  induction m with
  | zero =>
    intro i F A S0 h hA hF
    refine ⟨S0, fun _ _ => rfl, fun j h1 h2 => by omega, fun j h1 h2 => by omega, fun ν w hw hf => ?_⟩
    have := h ν w hw (fun p hp => by have := hf p.1 (hF p hp).1; rw [(hF p hp).2] at this; exact this)
    rw [hA] at this; exact this
  | succ m ih =>
    intro i F A S0 h hA hF
    have main : ∀ (s : Spec) (F' : Facts), s.lasts →
        (∀ ν w, Lat w0 w → (∀ p ∈ F, (ops[i]?.map (edge md · p.1)).getD false = true → p.2 (ν p.1) w) → OpDoes P ops i s.ans (A ν) w) →
        Rely P md ops w0 E m (i + 1) F' (fun ν => (A ν).put (dstOf ops i) (s.get (ν i))) → (∀ p ∈ F', p ∈ F ∨ (p.1 = i ∧ s = .law p.2)) →
        ∃ S : Nat → Spec, (∀ j, j < i → S j = S0 j) ∧ (∀ j, i ≤ j → j < i + (m + 1) → (S j).lasts) ∧
          (∀ j, i ≤ j → j < i + (m + 1) → ∀ ν w, Lat w0 w → (∀ k, k < j → (ops[j]?.map (edge md · k)).getD false = true → (S k).fact (ν k) w) → OpDoes P ops j (S j).ans (actTo ops S a0 ν j) w) ∧
          (∀ ν w, Lat w0 w → (∀ j, j < i + (m + 1) → (S j).fact (ν j) w) → E (actTo ops S a0 ν (i + (m + 1))) w) := by
      intro s F' hl hd hr hF'
      have e0 : ∀ j, j < i → (fun j => if j = i then s else S0 j) j = S0 j := fun j hj => by simp; omega
      obtain ⟨S, e, l, d, en⟩ := ih (i + 1) F' _ (fun j => if j = i then s else S0 j) hr (fun ν => by
        rw [actTo, hA, actTo_congr i (fun j hj => (e0 j hj).symm)]; simp) (fun p hp => by
        rcases hF' p hp with h1 | ⟨h1, h2⟩
        · obtain ⟨h3, h4⟩ := hF p h1
          exact ⟨by omega, by simp only []; rw [if_neg (by omega)]; exact h4⟩
        · exact ⟨by omega, by simp only []; rw [if_pos h1]; exact h2⟩)
      have eS : ∀ j, j < i → S j = S0 j := fun j hj => (e j (by omega)).trans (e0 j hj)
      have eI : S i = s := (e i (by omega)).trans (by simp)
      refine ⟨S, eS, fun j h1 h2 => ?_, fun j h1 h2 => ?_, fun ν w hw hf => ?_⟩
      · by_cases hj : j = i
        · subst hj; rw [eI]; exact hl
        · exact l j (by omega) (by omega)
      · by_cases hj : j = i
        · subst hj
          intro ν w hw hf
          rw [eI, actTo_congr j eS, ← hA]
          exact hd ν w hw (fun p hp he => by
            have := hf p.1 (hF p hp).1 he
            rw [eS _ (hF p hp).1, (hF p hp).2] at this; exact this)
        · exact d j (by omega) (by omega)
      · have := en ν w hw (fun j hj => hf j (by omega))
        rw [show i + (m + 1) = i + 1 + m from by omega]; exact this
    rcases h with ⟨c, hd, hr⟩ | ⟨φ, hl, hd, hr⟩
    · exact main (.val c) F (fun _ _ _ _ _ => trivial) hd hr (fun p hp => .inl hp)
    · exact main (.law φ) ((i, φ) :: F) hl hd hr (fun p hp => by
        rcases List.mem_cons.1 hp with rfl | hp
        · exact .inr ⟨rfl, rfl⟩
        · exact .inl hp)

theorem Rely.start {w0 : World} {E : Act → World → Prop} {a0 : Act} {n : Nat} (h : Rely P md ops w0 E n 0 [] (fun _ => a0)) : ∃ S, Walked P md ops w0 E a0 n S := by
  obtain ⟨S, _, l, d, e⟩ := Rely.walked n 0 [] _ (fun _ => .val undef) h (fun _ => rfl) (fun p hp => by cases hp)
  refine ⟨S, fun i hi => l i (by omega) (by omega), fun i hi => d i (by omega) (by omega), fun ν w hw hf => ?_⟩
  have := e ν w hw (fun j hj => hf j (by omega))
  simpa using this
end
end

section
set_option linter.unusedVariables false
set_option linter.unusedSimpArgs false
open Go Go.RowKit

section
variable {P : Program} {ops : Array Oper} {md : Region.Mode} {Q : Exit → Act → World → Prop}

/-- A frame that differs from the first by what some operations have answered. -/
structure Agr (ops : Array Oper) (a0 a : Act) (L : Nat → Bool) (val : Nat → Value) : Prop where
  size : a.tmps.size = a0.tmps.size
  defers : a.defers = a0.defers
  done : ∀ i t, L i = true → dstOf ops i = some t → t < a0.tmps.size → a.tmps[t]? = some (val i)
  rest : ∀ t, (∀ i, L i = true → dstOf ops i ≠ some t) → a.tmps[t]? = a0.tmps[t]?

def Uniq (ops : Array Oper) : Prop := ∀ i j t, dstOf ops i = some t → dstOf ops j = some t → i = j

theorem Agr.refl (a0 : Act) (val : Nat → Value) : Agr ops a0 a0 (fun _ => false) val :=
  ⟨rfl, rfl, fun _ _ h => by simp at h, fun _ _ => rfl⟩

theorem put_size (a : Act) (d : Option Tmp) (v : Value) : (a.put d v).tmps.size = a.tmps.size := by
  cases d <;> simp [Act.put]
theorem put_defers (a : Act) (d : Option Tmp) (v : Value) : (a.put d v).defers = a.defers := by
  cases d <;> simp [Act.put]
theorem put_get_same (a : Act) (t : Tmp) (v : Value) (h : t < a.tmps.size) : (a.put (some t) v).tmps[t]? = some v := by
  simp [Act.put, h]
theorem put_get_other (a : Act) (d : Option Tmp) (t : Tmp) (v : Value) (h : d ≠ some t) : (a.put d v).tmps[t]? = a.tmps[t]? := by
  cases d with
  | none => rfl
  | some d =>
    have : d ≠ t := fun e => h (by rw [e])
    simp [Act.put, Array.getElem?_setIfInBounds_ne this]

theorem Agr.put {a0 a : Act} {L L' : Nat → Bool} {val val' : Nat → Value} (hu : Uniq ops) (h : Agr ops a0 a L val) {j : Nat} {v : Value} (hj : val' j = v)
    (hL : ∀ i, L' i = true ↔ i = j ∨ L i = true) (hv : ∀ i, L i = true → i ≠ j → val' i = val i) : Agr ops a0 (a.put (dstOf ops j) v) L' val' := by
  refine ⟨by rw [put_size]; exact h.size, by rw [put_defers]; exact h.defers, fun i t hi ht hs => ?_, fun t ht => ?_⟩
  · by_cases hij : i = j
    · subst hij
      rw [ht, put_get_same _ _ _ (by rw [h.size]; exact hs), hj]
    · have hLi : L i = true := ((hL i).1 hi).resolve_left hij
      rw [put_get_other _ _ _ _ (fun e => hij (hu _ _ _ ht e)), hv i hLi hij]
      exact h.done i t hLi ht hs
  · rw [put_get_other _ _ _ _ (ht j ((hL j).2 (.inl rfl)))]
    exact h.rest t (fun i hi => ht i ((hL i).2 (.inr hi)))

theorem Agr.eq {a0 a a' : Act} {L L' : Nat → Bool} {val : Nat → Value} (h : Agr ops a0 a L val) (h' : Agr ops a0 a' L' val) (hL : ∀ i, i < ops.size → L i = L' i) : a = a' := by
  have hd : ∀ i t, dstOf ops i = some t → i < ops.size := fun i t ht => by
    unfold dstOf at ht
    rcases Nat.lt_or_ge i ops.size with h | h
    · exact h
    · rw [Array.getElem?_eq_none h] at ht; simp at ht
  have e : a.tmps = a'.tmps := by
    apply Array.ext_getElem?
    intro t
    by_cases hs : t < a0.tmps.size
    · by_cases hex : ∃ i, L i = true ∧ dstOf ops i = some t
      · obtain ⟨i, h1, h2⟩ := hex
        rw [h.done i t h1 h2 hs, h'.done i t (by rw [← hL i (hd i t h2)]; exact h1) h2 hs]
      · rw [h.rest t (fun i hi ht => hex ⟨i, hi, ht⟩), h'.rest t (fun i hi ht => hex ⟨i, by rw [hL i (hd i t ht)]; exact hi, ht⟩)]
    · have g1 : a.tmps[t]? = none := Array.getElem?_eq_none (Nat.le_of_not_lt (by rw [h.size]; exact hs))
      have g2 : a'.tmps[t]? = none := Array.getElem?_eq_none (Nat.le_of_not_lt (by rw [h'.size]; exact hs))
      rw [g1, g2]
  obtain ⟨x, y⟩ := a
  obtain ⟨x', y'⟩ := a'
  have e2 := h.defers.trans h'.defers.symm
  simp only at e e2
  rw [e, e2]

theorem actTo_agr (hu : Uniq ops) (S : Nat → Spec) (a0 : Act) (ν : Nat → Value) : ∀ n, Agr ops a0 (actTo ops S a0 ν n) (fun i => decide (i < n)) (fun i => (S i).get (ν i))
  | 0 => by
    have := Agr.refl (ops := ops) a0 (fun i => (S i).get (ν i))
    simpa [actTo] using this
  | n + 1 => (actTo_agr hu S a0 ν n).put hu rfl (fun i => by simp; omega) (fun i _ _ => rfl)

/-- What a look at the temporaries finds is alike. -/
theorem Agr.look {a0 a a' : Act} {L L' : Nat → Bool} {val : Nat → Value} (h : Agr ops a0 a L val) (h' : Agr ops a0 a' L' val) {t : Tmp} (hL : ∀ i, dstOf ops i = some t → (L i = true ↔ L' i = true)) : a.tmps[t]? = a'.tmps[t]? := by
  by_cases hs : t < a0.tmps.size
  · by_cases hex : ∃ i, L i = true ∧ dstOf ops i = some t
    · obtain ⟨i, h1, h2⟩ := hex
      rw [h.done i t h1 h2 hs, h'.done i t ((hL i h2).1 h1) h2 hs]
    · rw [h.rest t (fun i hi ht => hex ⟨i, hi, ht⟩), h'.rest t (fun i hi ht => hex ⟨i, (hL i ht).2 hi, ht⟩)]
  · have g1 : a.tmps[t]? = none := Array.getElem?_eq_none (Nat.le_of_not_lt (by rw [h.size]; exact hs))
    have g2 : a'.tmps[t]? = none := Array.getElem?_eq_none (Nat.le_of_not_lt (by rw [h'.size]; exact hs))
    rw [g1, g2]

theorem exec_alike {a a' : Act} (o : Oper) (hs : ∀ cs b, o.op ≠ .select cs b) (h : ∀ t ∈ o.looksAt ops, a.tmps[t]? = a'.tmps[t]?) : execOp a.eval o = execOp a'.eval o :=
  execOp_congr o hs fun x hx => by
    cases x with
    | tmp t =>
      have := h t (List.mem_append_left _ (List.mem_filterMap.2 ⟨.tmp t, by simpa using hx, rfl⟩))
      simp [Act.eval, this]
    | _ => rfl
theorem wanted_alike {a a' : Act} (o : Oper) (h : ∀ t ∈ o.looksAt ops, a.tmps[t]? = a'.tmps[t]?) : Region.wanted o (yielded ops a.tmps) = Region.wanted o (yielded ops a'.tmps) := by
  unfold Region.wanted
  cases hg : o.guard with
  | none => rfl
  | some gw =>
    obtain ⟨g, want⟩ := gw
    have hy : yielded ops a.tmps g = yielded ops a'.tmps g := by
      unfold yielded
      cases ht : (ops[g]?).bind (·.dst) with
      | none => rfl
      | some t =>
        have := h t (by simp [Oper.looksAt, hg, ht])
        simp [this]
    simp only [hy]

theorem put_same {a a' : Act} {d : Option Tmp} {u v : Value} (h : a'.put d u = a'.put d v) (hs : a.tmps.size = a'.tmps.size) : a.put d u = a.put d v := by
  cases d with
  | none => rfl
  | some t =>
    by_cases ht : t < a.tmps.size
    · have h1 := put_get_same a' t u (by rw [← hs]; exact ht)
      rw [h, put_get_same a' t v (by rw [← hs]; exact ht)] at h1
      injection h1 with h1
      rw [h1]
    · simp [Act.put, Array.setIfInBounds, ht]

theorem OpDoes.alike {i : Nat} {o : Oper} {Φ : Value → World → Prop} {a a' : Act} {w : World} (hi : ops[i]? = some o) (h : OpDoes P ops i Φ a' w)
    (hsel : ∀ cs b, o.op ≠ .select cs b) (hl : ∀ t ∈ o.looksAt ops, a.tmps[t]? = a'.tmps[t]?) (hs : a.tmps.size = a'.tmps.size) {K : Act → World → Prop}
    (hK : ∀ v w', Φ v w' ∨ (Region.wanted o (yielded ops a.tmps) = false ∧ Φ v w') → Lat w w' → K (a.put o.dst v) w') : wpOp P ops Q i K a w := by
  have h1 := h o hi (fun b w' => ∃ v, b = a'.put o.dst v ∧ Φ v w' ∧ Lat w w') (fun b v w' e1 e2 e3 => ⟨v, e1, e2, e3⟩)
  unfold wpOp
  simp only [hi]
  rw [wanted_alike o hl]
  by_cases hw : Region.wanted o (yielded ops a'.tmps) = true
  · rw [if_pos hw] at h1 ⊢
    refine .inl ?_
    unfold Oper.wp at *
    rw [exec_alike o hsel hl]
    generalize (execOp a'.eval o).run P w = r at *
    cases r with
    | ok n w' =>
      cases n <;> simp only [Oper.upon] at h1 ⊢
      case value u =>
        obtain ⟨v, e1, e2, e3⟩ := h1
        rw [put_same e1 hs]; exact hK v w' (.inl e2) e3
      case skip =>
        obtain ⟨v, e1, e2, e3⟩ := h1
        rw [put_same e1 hs]; exact hK v w' (.inl e2) e3
      case defer d =>
        obtain ⟨v, e1, e2, e3⟩ := h1
        have := congrArg Act.defers e1
        rw [put_defers, put_defers] at this
        have := congrArg List.length this
        simp at this
      case enter f args =>
        refine Calls.mono h1 fun e w'' he => ?_
        cases e with
        | returned u =>
          obtain ⟨v, e1, e2, e3⟩ := he
          show K (a.put o.dst u) w''
          rw [put_same e1 hs]; exact hK v w'' (.inl e2) e3
        | panicked c => exact False.elim he
        | outgrown => obtain ⟨_, _, h⟩ := he; exact False.elim h
      case row row args =>
        refine Rows.mono h1 fun u w'' he => ?_
        obtain ⟨v, e1, e2, e3⟩ := he
        rw [put_same e1 hs]; exact hK v w'' (.inl e2) e3
    | halt x w' =>
      cases x <;> simp only [Oper.upon] at h1 ⊢
      case panic u => exact False.elim h1
  · rw [if_neg hw] at h1 ⊢
    obtain ⟨v, e1, e2, e3⟩ := h1
    rw [put_same e1 hs]; exact hK v w (.inl e2) e3

/-- What is asked of the region's text: nobody chooses, each slot is written once, edges lead back, and who reads a slot waits for who writes it, or is waited for. -/
def calmB (md : Region.Mode) (ops : Array Oper) : Bool :=
  Region.noSelect ops && (List.range ops.size).all fun j => match ops[j]? with
    | none => true
    | some oj => oj.after.all (fun e => !Region.binds md e || decide (e.on < j)) && (List.range ops.size).all fun i => i == j || match ops[i]? with
      | none => true
      | some oi => match oi.dst with
        | none => true
        | some t => !(oj.dst == some t) && (!(oj.looksAt ops).contains t || (if i < j then edge md oj i else edge md oi j))

structure Calm (md : Region.Mode) (ops : Array Oper) : Prop where
  sel : Region.noSelect ops = true
  back : ∀ j oj e, ops[j]? = some oj → e ∈ oj.after → Region.binds md e = true → e.on < j
  uniq : Uniq ops
  look : ∀ i j oi oj t, ops[i]? = some oi → ops[j]? = some oj → i ≠ j → oi.dst = some t → t ∈ oj.looksAt ops → (i < j → edge md oj i = true) ∧ (j < i → edge md oi j = true)

theorem calm_of (h : calmB md ops = true) : Calm md ops := by
  unfold calmB at h
  rw [Bool.and_eq_true, List.all_eq_true] at h
  obtain ⟨h1, h2⟩ := h
  have key : ∀ j oj, ops[j]? = some oj → (∀ e ∈ oj.after, Region.binds md e = true → e.on < j) ∧
      ∀ i oi t, ops[i]? = some oi → i ≠ j → oi.dst = some t → oj.dst ≠ some t ∧ (t ∈ oj.looksAt ops → (if i < j then edge md oj i else edge md oi j) = true) := by
    intro j oj hj
    have := h2 j (List.mem_range.2 (Array.getElem?_eq_some_iff.1 hj).1)
    simp only [hj, Bool.and_eq_true, List.all_eq_true] at this
    obtain ⟨t1, t2⟩ := this
    refine ⟨fun e he hb => ?_, fun i oi t hi hne ht => ?_⟩
    · have := Array.all_eq_true_iff_forall_mem.1 t1 e he
      simpa [hb] using this
    · have := t2 i (List.mem_range.2 (Array.getElem?_eq_some_iff.1 hi).1)
      simp only [hi, ht, Bool.or_eq_true, beq_iff_eq, hne, false_or, Bool.and_eq_true, Bool.not_eq_true', beq_eq_false_iff_ne] at this
      obtain ⟨u1, u2⟩ := this
      refine ⟨u1, fun hm => u2.resolve_left (by simp [List.contains_iff_mem, hm])⟩
  refine ⟨h1, fun j oj e hj he hb => (key j oj hj).1 e he hb, fun i j t hi hj => ?_, fun i j oi oj t hi hj hne ht hm => ?_⟩
  · unfold dstOf at hi hj
    cases hoi : ops[i]? with
    | none => simp [hoi] at hi
    | some oi =>
      cases hoj : ops[j]? with
      | none => simp [hoj] at hj
      | some oj =>
        simp [hoi] at hi
        simp [hoj] at hj
        by_cases hne : i = j
        · exact hne
        · exact absurd hj ((key j oj hoj).2 i oi t hoi hne hi).1
  · have := ((key j oj hj).2 i oi t hi hne ht).2 hm
    refine ⟨fun hlt => by simpa [hlt] using this, fun hlt => ?_⟩
    have hn : ¬ i < j := by omega
    simpa [hn] using this

theorem edge_spec {o : Oper} {i : Nat} (h : edge md o i = true) : ∃ e ∈ o.after, Region.binds md e = true ∧ e.on = i := by
  unfold edge at h
  obtain ⟨e, he, hb⟩ := Array.any_eq_true'.1 h
  simp only [Bool.and_eq_true, beq_iff_eq] at hb
  exact ⟨e, he, hb.1, hb.2⟩

def unl (listed : Array Bool) : Nat := listed.toList.countP (fun b => !b)

/-- The state of a run through the region. -/
structure Run (md : Region.Mode) (ops : Array Oper) (w0 : World) (a0 : Act) (S : Nat → Spec) (n : Nat) (listed : Array Bool) (a : Act) (w : World) (ν : Nat → Value) : Prop where
  size : listed.size = ops.size
  last : listed.getD n false = false
  closed : ∀ j o e, listed.getD j false = true → ops[j]? = some o → e ∈ o.after → Region.binds md e = true → listed.getD e.on false = true
  world : Lat w0 w
  facts : ∀ i, i < n → listed.getD i false = true → (S i).fact (ν i) w
  agr : Agr ops a0 a (fun i => listed.getD i false) (fun i => (S i).get (ν i))

theorem all_listed {listed : Array Bool} (h : unl listed = 0) (i : Nat) (hi : i < listed.size) : listed.getD i false = true := by
  unfold unl at h
  rw [List.countP_eq_zero] at h
  have := h listed[i] (by simp)
  simp at this
  simp [hi, this]
theorem some_unlisted {listed : Array Bool} {k : Nat} (h : unl listed = k + 1) : ∃ i, i < listed.size ∧ listed.getD i false = false := by
  unfold unl at h
  have : 0 < listed.toList.countP (fun b => !b) := by omega
  rw [List.countP_pos_iff] at this
  obtain ⟨b, hb, hn⟩ := this
  obtain ⟨i, hi, e⟩ := List.getElem_of_mem hb
  refine ⟨i, by simpa using hi, ?_⟩
  have hi' : i < listed.size := by simpa using hi
  simp at hn
  subst hn
  simp [hi']
  simpa using e
theorem unl_set {listed : Array Bool} {j k : Nat} (h : unl listed = k + 1) (hj : j < listed.size) (hf : listed.getD j false = false) : unl (listed.setIfInBounds j true) = k := by
  unfold unl at *
  have hj' : j < listed.toList.length := by simpa using hj
  have e : (listed.setIfInBounds j true).toList = listed.toList.set j true := by simp
  rw [e, List.countP_set hj']
  have hv : (!listed.toList[j]) = true := by simpa [hj] using hf
  rw [if_pos hv, if_neg (by simp)]
  omega

theorem getD_tf {listed : Array Bool} {i : Nat} (h : i < listed.size) : listed.getD i true = listed.getD i false := by simp [h]

theorem ready_ne {listed : Array Bool} (hc : Calm md ops) (hs : listed.size = ops.size) : ∀ (k j : Nat), j ≤ k → j < ops.size → listed.getD j false = false → Region.ready md ops listed ≠ []
  | k, j, hk, hj, hf => by
    by_cases hr : j ∈ Region.ready md ops listed
    · intro h; rw [h] at hr; cases hr
    · have hoj : ops[j]? = some ops[j] := Array.getElem?_eq_getElem hj
      have : ∃ e ∈ ops[j].after, Region.binds md e = true ∧ listed.getD e.on false = false := by
        apply Classical.byContradiction
        intro hno
        refine hr (mem_ready.2 ⟨by rw [getD_tf (by omega)]; exact hf, ops[j], hoj, fun e he hb => ?_⟩)
        cases h : listed.getD e.on false with
        | true => rfl
        | false => exact absurd ⟨e, he, hb, h⟩ hno
      obtain ⟨e, he, hb, hf'⟩ := this
      have hlt := hc.back j _ e hoj he hb
      cases k with
      | zero => omega
      | succ k => exact ready_ne hc hs k e.on (by omega) (by omega) hf'

/-- The last operation waits for all others. -/
def lastMarks (md : Region.Mode) (ops : Array Oper) : List Nat → List Nat → List Nat
  | [], m => m
  | i :: l, m => lastMarks md ops l (if m.contains i then (match ops[i]? with | none => [] | some o => (o.after.toList.filter (Region.binds md)).map (·.on)) ++ m else m)
def lastB (md : Region.Mode) (ops : Array Oper) (n : Nat) : Bool := (List.range n).all fun i => (lastMarks md ops (List.range (n + 1)).reverse [n]).contains i

theorem lastMarks_ok {L : Nat → Bool} {n : Nat} (hcl : ∀ j o e, (L j = true ∨ j = n) → ops[j]? = some o → e ∈ o.after → Region.binds md e = true → L e.on = true) :
    ∀ (l m : List Nat), (∀ i ∈ m, L i = true ∨ i = n) → ∀ i ∈ lastMarks md ops l m, L i = true ∨ i = n := by
  intro l
  induction l with
  | nil => intro m h; exact h
  | cons x l ih =>
    intro m h
    rw [lastMarks]
    apply ih
    intro i hi
    by_cases hx : m.contains x = true
    · rw [if_pos hx, List.mem_append] at hi
      rcases hi with hi | hi
      · cases ho : ops[x]? with
        | none => simp [ho] at hi
        | some o =>
          simp only [ho, List.mem_map, List.mem_filter] at hi
          obtain ⟨e, ⟨he, hb⟩, rfl⟩ := hi
          exact .inl (hcl x o e (h x (by simpa using hx)) ho (by simpa using he) hb)
      · exact h i hi
    · rw [if_neg hx] at hi; exact h i hi

theorem Run.step {w0 : World} {E : Act → World → Prop} {a0 : Act} {n : Nat} {S : Nat → Spec} (hc : Calm md ops) (hW : Walked P md ops w0 E a0 n S)
    {listed : Array Bool} {a : Act} {w : World} {ν : Nat → Value} (h : Run md ops w0 a0 S n listed a w ν) {j : Nat} (hj : j ∈ Region.ready md ops listed) (hjn : j < n)
    {K : Act → World → Prop} (hK : ∀ a' w' ν', Run md ops w0 a0 S n (listed.setIfInBounds j true) a' w' ν' → K a' w') : wpOp P ops Q j K a w := by
  obtain ⟨hun, oj, hoj, hall⟩ := mem_ready.1 hj
  have hjs : j < ops.size := (Array.getElem?_eq_some_iff.1 hoj).1
  have hjl : listed.getD j false = false := by rw [← getD_tf (by rw [h.size]; exact hjs)]; exact hun
  have hd := hW.does j hjn ν w h.world (fun k hk he => by
    rw [hoj] at he
    obtain ⟨e, he', hb, rfl⟩ := edge_spec (md := md) (o := oj) (i := k) (by simpa using he)
    exact h.facts _ (by omega) (hall e he' hb))
  have hag := actTo_agr hc.uniq S a0 ν j
  refine hd.alike hoj (fun cs b => Region.noSelect_spec hc.sel j oj cs b hoj) (fun t ht => ?_) (h.agr.size.trans hag.size.symm) (fun v w' hv hl => ?_)
  · refine h.agr.look hag (fun i hi => ?_)
    have hoi : ∃ oi, ops[i]? = some oi ∧ oi.dst = some t := by
      unfold dstOf at hi
      cases ho : ops[i]? with
      | none => simp [ho] at hi
      | some oi => exact ⟨oi, rfl, by simpa [ho] using hi⟩
    obtain ⟨oi, hoi, hdi⟩ := hoi
    by_cases hij : i = j
    · subst hij; rw [hjl]; simp
    · obtain ⟨l1, l2⟩ := hc.look i j oi oj t hoi hoj hij hdi ht
      by_cases hlt : i < j
      · obtain ⟨e, he, hb, rfl⟩ := edge_spec (l1 hlt)
        rw [hall e he hb]; simp [hlt]
      · obtain ⟨e, he, hb, e1⟩ := edge_spec (l2 (by omega))
        have : ¬ listed.getD i false = true := fun hi' => by
          have := h.closed i oi e hi' hoi he hb
          rw [e1, hjl] at this; cases this
        simp only [decide_eq_true_eq]
        exact ⟨fun h' => absurd h' this, fun h' => absurd h' hlt⟩
  · have hv : (S j).ans v w' := hv.elim id (·.2)
    obtain ⟨g1, g2⟩ := Spec.of_ans hv
    have hset : ∀ i, (listed.setIfInBounds j true).getD i false = true ↔ i = j ∨ listed.getD i false = true := fun i => by
      by_cases hij : j = i
      · subst hij; simp [h.size, hjs]
      · rw [getD_set_ne false hij]
        exact ⟨.inr, fun h' => h'.resolve_left (fun e => hij e.symm)⟩
    have hdst : oj.dst = dstOf ops j := by unfold dstOf; rw [hoj]; rfl
    rw [hdst]
    refine hK _ _ (fun i => if i = j then v else ν i) ⟨by simpa using h.size, ?_, fun k o e hk hok he hb => ?_, h.world.trans hl, fun i hin hi => ?_, ?_⟩
    · rw [getD_set_ne false (by omega)]; exact h.last
    · rcases (hset k).1 hk with rfl | hk'
      · rw [hoj] at hok; cases hok
        exact (hset _).2 (.inr (hall e he hb))
      · exact (hset _).2 (.inr (h.closed k o e hk' hok he hb))
    · by_cases hij : i = j
      · subst hij; simp only [if_true]; exact g2
      · simp only [if_neg hij]
        have hLi := ((hset i).1 hi).resolve_left hij
        exact hW.lasts i hin _ _ _ hl (h.facts i hin hLi)
    · exact h.agr.put hc.uniq (by simp [g1]) (fun i => hset i) (fun i _ hij => by simp [hij])

/-- Whatever order is picked. -/
theorem Run.any {w0 : World} {E : Act → World → Prop} {a0 : Act} {n : Nat} {S : Nat → Spec} (hc : Calm md ops) (hW : Walked P md ops w0 E a0 n S)
    (hn : (n = ops.size ∧ ∀ a w, E a w → Q .normal a w) ∨ (n + 1 = ops.size ∧ lastB md ops n = true ∧ ∀ a w, E a w → wpOp P ops Q n (Q .normal) a w)) :
    ∀ (fuel : Nat) (listed : Array Bool) (a : Act) (w : World) (ν : Nat → Value), unl listed = fuel → Run md ops w0 a0 S n listed a w ν → wpAny P md ops Q fuel listed a w := by
  intro fuel
  induction fuel with
  | zero =>
    intro listed a w ν hu h
    have hall := fun i (hi : i < ops.size) => all_listed hu i (by rw [h.size]; exact hi)
    refine ⟨List.eq_nil_iff_forall_not_mem.2 fun j hj => ?_, ?_⟩
    · obtain ⟨h1, o, ho, _⟩ := mem_ready.1 hj
      have hjs := (Array.getElem?_eq_some_iff.1 ho).1
      rw [getD_tf (by rw [h.size]; exact hjs), hall j hjs] at h1
      cases h1
    · rcases hn with ⟨rfl, hE⟩ | ⟨h1, _⟩
      · have e := h.agr.eq (actTo_agr hc.uniq S a0 ν ops.size) (fun i hi => by simp [hall i hi, hi])
        rw [e]
        exact hE _ _ (hW.ends ν w h.world (fun j hj => h.facts j hj (hall j hj)))
      · have := h.last
        rw [hall n (by omega)] at this; cases this
  | succ fuel ih =>
    intro listed a w ν hu h
    obtain ⟨i0, hi0, hf0⟩ := some_unlisted hu
    rw [h.size] at hi0
    refine ⟨fun h' => absurd h' (ready_ne hc h.size i0 i0 (Nat.le_refl _) hi0 hf0), fun j hj => ?_⟩
    have hjr := mem_ready.1 hj
    obtain ⟨hun, oj, hoj, hall⟩ := hjr
    have hjs : j < ops.size := (Array.getElem?_eq_some_iff.1 hoj).1
    have hjl : listed.getD j false = false := by rw [← getD_tf (by rw [h.size]; exact hjs)]; exact hun
    by_cases hjn : j < n
    · exact h.step hc hW hj hjn fun a' w' ν' h' => ih _ _ _ _ (unl_set hu (by rw [h.size]; exact hjs) hjl) h'
    · rcases hn with ⟨h1, _⟩ | ⟨h1, hm, hE⟩
      · omega
      · have hjn' : j = n := by omega
        subst hjn'
        have hmark := lastMarks_ok (md := md) (ops := ops) (L := fun i => listed.getD i false) (n := j) (fun k o e hk hok he hb => by
          rcases hk with hk | rfl
          · exact h.closed k o e hk hok he hb
          · rw [hoj] at hok; cases hok; exact hall e he hb) (List.range (j + 1)).reverse [j] (fun i hi => by simp at hi; exact .inr hi)
        have hothers : ∀ i, i < j → listed.getD i false = true := fun i hi => by
          unfold lastB at hm
          rw [List.all_eq_true] at hm
          have := hm i (List.mem_range.2 hi)
          rcases hmark i (by simpa using this) with h' | h'
          · exact h'
          · omega
        have e := h.agr.eq (actTo_agr hc.uniq S a0 ν j) (fun i hi => by
          by_cases hij : i < j
          · simp [hothers i hij, hij]
          · have : i = j := by omega
            subst this; simp [hjl])
        rw [e]
        have hend := hE _ _ (hW.ends ν w h.world (fun k hk => h.facts k hk (hothers k hk)))
        refine wpOp_mono (fun a' w' hQ => ?_) hend
        refine wpAny_done (List.eq_nil_iff_forall_not_mem.2 fun k hk => ?_) hQ fuel
        obtain ⟨h2, o, ho, _⟩ := mem_ready.1 hk
        have hks := (Array.getElem?_eq_some_iff.1 ho).1
        rw [getD_tf (by simpa [h.size] using hks)] at h2
        by_cases hkj : k = j
        · subst hkj; simp [h.size, hks] at h2
        · rw [getD_set_ne false (fun e => hkj e.symm), hothers k (by omega)] at h2; cases h2

theorem unl_start (n : Nat) : unl (Array.replicate n false) = n := by
  unfold unl
  rw [Array.toList_replicate, List.countP_replicate]
  simp

theorem Run.start (w : World) (a0 : Act) (S : Nat → Spec) (n : Nat) (ν : Nat → Value) : Run md ops w a0 S n (Array.replicate ops.size false) a0 w.drew ν := by
  have hf : ∀ i, (Array.replicate ops.size false).getD i false = false := fun i => by
    simp only [Array.getD_eq_getD_getElem?, Array.getElem?_replicate]; split <;> rfl
  refine ⟨by simp, hf n, fun j o e hj => ?_, Lat.drew w, fun i _ hi => ?_, ?_⟩
  · rw [hf] at hj; cases hj
  · rw [hf] at hi; cases hi
  · have := Agr.refl (ops := ops) a0 (fun i => (S i).get (ν i))
    simpa only [hf] using this

/-- A region whose operations all answer alike, whatever order is picked. -/
theorem wp_region_rely {id : Nat} {a : Act} {w : World} (hm : P.follows .mixedOrders = true) (hc : calmB .any ops = true)
    (h : Rely P .any ops w (Q .normal) ops.size 0 [] (fun _ => a)) : (Code.region id ops true).wp P Q a w := by
  obtain ⟨S, hW⟩ := h.start
  exact wp_region_any hm (Run.any (calm_of hc) hW (.inl ⟨rfl, fun _ _ h => h⟩) ops.size _ _ _ _ (unl_start _) (Run.start w a S ops.size (fun _ => undef)))

/-- The same, where the last operation waits for all others and does what it likes. -/
theorem wp_region_rely_last {id n : Nat} {a : Act} {w : World} (hm : P.follows .mixedOrders = true) (hc : calmB .any ops = true) (hn : n + 1 = ops.size) (hl : lastB .any ops n = true)
    (h : Rely P .any ops w (fun a w => wpOp P ops Q n (Q .normal) a w) n 0 [] (fun _ => a)) : (Code.region id ops true).wp P Q a w := by
  obtain ⟨S, hW⟩ := h.start
  exact wp_region_any hm (Run.any (calm_of hc) hW (.inr ⟨hn, hl, fun _ _ h => h⟩) ops.size _ _ _ _ (unl_start _) (Run.start w a S n (fun _ => undef)))
end
end

section
set_option linter.unusedVariables false
set_option linter.unusedSimpArgs false
open Go Go.RowKit

section
variable {P : Program} {ops : Array Oper} {md : Region.Mode} {w0 : World} {E : Act → World → Prop} {F : Facts} {A : (Nat → Value) → Act} {m i : Nat}

def FactsAt (md : Region.Mode) (ops : Array Oper) (i : Nat) (F : Facts) (ν : Nat → Value) (w : World) : Prop := ∀ p ∈ F, (ops[i]?.map (edge md · p.1)).getD false = true → p.2 (ν p.1) w
def FactsEnd (F : Facts) (ν : Nat → Value) (w : World) : Prop := ∀ p ∈ F, p.2 (ν p.1) w

theorem FactsAt.get {ν : Nat → Value} {w : World} (hF : FactsAt md ops i F ν w) (k : Nat) {p : Nat × (Value → World → Prop)} (h : F[k]? = some p) (he : (ops[i]?.map (edge md · p.1)).getD false = true) : p.2 (ν p.1) w :=
  hF p (List.mem_of_getElem? h) he
theorem FactsEnd.get {ν : Nat → Value} {w : World} (hF : FactsEnd F ν w) (k : Nat) {p : Nat × (Value → World → Prop)} (h : F[k]? = some p) : p.2 (ν p.1) w :=
  hF p (List.mem_of_getElem? h)

/-- The walk over the operations that are left, written out. -/
def RelyL (P : Program) (md : Region.Mode) (ops : Array Oper) (w0 : World) (E : Act → World → Prop) (l : List Oper) (i : Nat) (F : Facts) (A : (Nat → Value) → Act) : Prop :=
  (∀ k, k < l.length → ops[i + k]? = l[k]?) → Rely P md ops w0 E l.length i F A

theorem RelyL.tail {o : Oper} {l : List Oper} (hl : ∀ k, k < (o :: l).length → ops[i + k]? = (o :: l)[k]?) : ops[i]? = some o ∧ ∀ k, k < l.length → ops[i + 1 + k]? = l[k]? := by
  refine ⟨hl 0 (by simp), fun k hk => ?_⟩
  have := hl (k + 1) (by simpa using hk)
  rw [show i + 1 + k = i + (k + 1) from by omega, this]
  rfl

/-- An operation whose value is known. -/
theorem RelyL.val {o : Oper} {l : List Oper} (c : Value)
    (h : ∀ (ν : Nat → Value) (w : World), Lat w0 w → FactsAt md ops i F ν w → ∀ K : Act → World → Prop, Hid (∀ b w', b = (A ν).put o.dst c → Lat w w' → K b w') →
      if Region.wanted o (yielded ops (A ν).tmps) = true then o.wp P (A ν) w K noExit else K ((A ν).put o.dst undef) w)
    (rest : RelyL P md ops w0 E l (i + 1) F (fun ν => (A ν).put o.dst c)) : RelyL P md ops w0 E (o :: l) i F A := by
  intro hl
  obtain ⟨ho, hl'⟩ := RelyL.tail hl
  refine .inl ⟨c, fun ν w hL hF o' ho' K hK => ?_, ?_⟩
  · rw [ho] at ho'; cases ho'
    exact h ν w hL hF K (fun b w' e l => hK b c w' e rfl l)
  · have : dstOf ops i = o.dst := by unfold dstOf; rw [ho]; rfl
    rw [this]; exact rest hl'

/-- An operation of whose value a law is known that lasts. -/
theorem RelyL.law {o : Oper} {l : List Oper} (φ : Value → World → Prop) (hφ : ∀ v w1 w2, Lat w1 w2 → φ v w1 → φ v w2)
    (h : ∀ (ν : Nat → Value) (w : World), Lat w0 w → FactsAt md ops i F ν w → ∀ K : Act → World → Prop, Hid (∀ b v w', b = (A ν).put o.dst v → φ v w' → Lat w w' → K b w') →
      if Region.wanted o (yielded ops (A ν).tmps) = true then o.wp P (A ν) w K noExit else K ((A ν).put o.dst undef) w)
    (rest : RelyL P md ops w0 E l (i + 1) ((i, φ) :: F) (fun ν => (A ν).put o.dst (ν i))) : RelyL P md ops w0 E (o :: l) i F A := by
  intro hl
  obtain ⟨ho, hl'⟩ := RelyL.tail hl
  refine .inr ⟨φ, hφ, fun ν w hL hF o' ho' K hK => ?_, ?_⟩
  · rw [ho] at ho'; cases ho'
    exact h ν w hL hF K hK
  · have : dstOf ops i = o.dst := by unfold dstOf; rw [ho]; rfl
    rw [this]; exact rest hl'

theorem skip_op {o : Oper} {ops : Array Oper} {a : Act} {X Y : Prop} (h : Region.wanted o (yielded ops a.tmps) = false) (hk : Y) : if Region.wanted o (yielded ops a.tmps) = true then X else Y := by
  rw [if_neg (by simp [h])]; exact hk
theorem take_op {o : Oper} {ops : Array Oper} {a : Act} {X Y : Prop} (h : Region.wanted o (yielded ops a.tmps) = true) (hk : X) : if Region.wanted o (yielded ops a.tmps) = true then X else Y := by
  rw [if_pos h]; exact hk

theorem RelyL.done (h : ∀ (ν : Nat → Value) (w : World), Lat w0 w → FactsEnd F ν w → E (A ν) w) : RelyL P md ops w0 E [] i F A := fun _ ν w hL hF => h ν w hL hF

theorem wp_rely {Q : Exit → Act → World → Prop} {l : List Oper} {id : Nat} {a : Act} {w : World} (hm : P.follows .mixedOrders = true) (hc : calmB .any l.toArray = true)
    (h : RelyL P .any l.toArray w (Q .normal) l 0 [] (fun _ => a)) : (Code.region id l.toArray true).wp P Q a w :=
  wp_region_rely hm hc (h (fun k hk => by simp))
theorem wp_rely_last {Q : Exit → Act → World → Prop} {l : List Oper} {id n : Nat} {a : Act} {w : World} (hm : P.follows .mixedOrders = true) (hc : calmB .any l.toArray = true) (hn : n + 1 = l.length) (hl : lastB .any l.toArray n = true)
    (h : RelyL P .any l.toArray w (fun a w => wpOp P l.toArray Q n (Q .normal) a w) (l.take n) 0 [] (fun _ => a)) : (Code.region id l.toArray true).wp P Q a w :=
  wp_region_rely_last hm hc (by simpa using hn) hl (by
    have := h (fun k hk => by
      have hk' : k < n := by have := hk; rw [List.length_take] at this; omega
      simp [hk'])
    have e : (l.take n).length = n := by rw [List.length_take]; omega
    rwa [e] at this)
end

theorem Blk.lat {w w' : World} {g : Nat} {t : TypeId} {cs : Array Value} (h : Blk w g t cs) (hl : Lat w w') : Blk w' g t cs := h.below hl
theorem Blk.row {w : World} {g : Nat} {t : TypeId} {cs : Array Value} (h : Blk w g t cs) : RowAt w g 0 cs.toList := fun j v hj => by
  rw [Nat.zero_add, h.cell]; simpa using hj

/-- A load of a whole struct out of its box. -/
theorem wp_load_blk {P : Program} {o : Oper} {a : Act} {w : World} {K : Act → World → Prop} {Q : Exit → Act → World → Prop} {ty : TypeId} {x : Operand} (ho : o.op = .load ty x)
    {b : Nat} (hx : a.eval x = .pointer (some ⟨b, 0, none⟩)) {cs : Array Value} {t : TypeId} (h : Blk w b t cs) {d : TypeDesc} {n : Nat}
    (hu : P.underlying ty = some d) (hd : (match d with | .struct _ | .array _ _ => true | _ => false) = true) (hi : (P.info? ty).map (·.size) = some n) (hn : cs.size = n)
    (hK : K (a.put o.dst (.agg cs)) w) : o.wp P a w K Q := by
  have := wp_load_at (Q := Q) ty x ho b 0 hx cs.toList d h.row hu hd (by rw [hi]; simp [hn]) (K := K) (by rw [Array.toArray_toList]; exact hK)
  exact this
end

section
set_option linter.unusedVariables false
set_option linter.unusedSimpArgs false
open Go Go.RowKit

section
variable {P : Program} {ops : Array Oper} {md : Region.Mode} {Q : Exit → Act → World → Prop}

def tailB (md : Region.Mode) (ops : Array Oper) (n : Nat) : Bool := (List.range ops.size).all fun j => decide (j < n) || lastB md ops j

theorem ready_all {listed : Array Bool} (hs : listed.size = ops.size) {n : Nat} (hm : tailB md ops n = true) (hcl : ∀ j o e, listed.getD j false = true → ops[j]? = some o → e ∈ o.after → Region.binds md e = true → listed.getD e.on false = true)
    {j : Nat} (hj : j ∈ Region.ready md ops listed) (hjn : n ≤ j) : ∀ i, i < j → listed.getD i false = true := by
  obtain ⟨hun, oj, hoj, hall⟩ := mem_ready.1 hj
  have hjs : j < ops.size := (Array.getElem?_eq_some_iff.1 hoj).1
  have hmark := lastMarks_ok (md := md) (ops := ops) (L := fun i => listed.getD i false) (n := j) (fun k o e hk hok he hb => by
    rcases hk with hk | rfl
    · exact hcl k o e hk hok he hb
    · rw [hoj] at hok; cases hok; exact hall e he hb) (List.range (j + 1)).reverse [j] (fun i hi => by simp at hi; exact .inr hi)
  intro i hi
  unfold tailB at hm
  rw [List.all_eq_true] at hm
  have := hm j (List.mem_range.2 hjs)
  simp only [Bool.or_eq_true, decide_eq_true_eq] at this
  have hl := this.resolve_left (by omega)
  unfold lastB at hl
  rw [List.all_eq_true] at hl
  have := hl i (List.mem_range.2 hi)
  rcases hmark i (by simpa using this) with h' | h'
  · exact h'
  · omega

theorem tail_any (hc : Calm md ops) {n : Nat} (hm : tailB md ops n = true) : ∀ (k j : Nat) (listed : Array Bool) (a : Act) (w : World), j + k = ops.size → n ≤ j → listed.size = ops.size →
    (∀ i, i < ops.size → listed.getD i false = decide (i < j)) → wpOps P ops Q (List.range' j k) a w → wpAny P md ops Q k listed a w := by
  intro k
  induction k with
  | zero =>
    intro j listed a w hk hn hs hl h
    refine ⟨List.eq_nil_iff_forall_not_mem.2 fun i hi => ?_, by simpa [wpOps] using h⟩
    obtain ⟨h1, o, ho, _⟩ := mem_ready.1 hi
    have his := (Array.getElem?_eq_some_iff.1 ho).1
    rw [getD_tf (by omega), hl i his] at h1
    simp at h1; omega
  | succ k ih =>
    intro j listed a w hk hn hs hl h
    have hjs : j < ops.size := by omega
    have hcl : ∀ j' o e, listed.getD j' false = true → ops[j']? = some o → e ∈ o.after → Region.binds md e = true → listed.getD e.on false = true := fun j' o e hj' ho he hb => by
      have hs' := (Array.getElem?_eq_some_iff.1 ho).1
      rw [hl j' hs'] at hj'
      have hb' := hc.back j' o e ho he hb
      rw [hl e.on (by omega)]
      simp at hj' ⊢; omega
    refine ⟨fun h' => absurd h' (ready_ne hc hs j j (Nat.le_refl _) hjs (by rw [hl j hjs]; simp)), fun i hi => ?_⟩
    have hir := mem_ready.1 hi
    obtain ⟨hun, oi, hoi, _⟩ := hir
    have his : i < ops.size := (Array.getElem?_eq_some_iff.1 hoi).1
    have hil : j ≤ i := by
      rw [getD_tf (by omega), hl i his] at hun
      simpa using hun
    have hij : i = j := by
      have := ready_all hs hm hcl hi (by omega)
      by_cases hji : j < i
      · have := this j hji
        rw [hl j hjs] at this; simp at this
      · omega
    subst hij
    rw [List.range'_succ, wpOps_cons] at h
    refine wpOp_mono (fun a' w' h' => ih (i + 1) _ a' w' (by omega) (by omega) (by simpa using hs) (fun x hx => ?_) h') h
    by_cases hxi : i = x
    · subst hxi; simp [hs, hjs]
    · rw [getD_set_ne false hxi, hl x hx]
      simp only [decide_eq_decide]; omega

theorem Run.anyTail {w0 : World} {E : Act → World → Prop} {a0 : Act} {n : Nat} {S : Nat → Spec} (hc : Calm md ops) (hW : Walked P md ops w0 E a0 n S) (hns : n ≤ ops.size)
    (hm : tailB md ops n = true) (hE : ∀ a w, E a w → wpOps P ops Q (List.range' n (ops.size - n)) a w) :
    ∀ (fuel : Nat) (listed : Array Bool) (a : Act) (w : World) (ν : Nat → Value), unl listed = fuel → Run md ops w0 a0 S n listed a w ν → (∀ i, n ≤ i → listed.getD i false = false) → wpAny P md ops Q fuel listed a w := by
  intro fuel
  have fin : ∀ (fuel : Nat) (listed : Array Bool) (a : Act) (w : World) (ν : Nat → Value), unl listed = fuel → Run md ops w0 a0 S n listed a w ν → (∀ i, n ≤ i → listed.getD i false = false) → (∀ i, i < n → listed.getD i false = true) → wpAny P md ops Q fuel listed a w := by
    intro fuel listed a w ν hu h hno hyes
    have e := h.agr.eq (actTo_agr hc.uniq S a0 ν n) (fun i hi => by
      by_cases hij : i < n
      · simp [hyes i hij, hij]
      · rw [hno i (by omega)]; simp [hij])
    have hfu : fuel = ops.size - n := by
      subst hu
      have key : ∀ (l : List Bool) (n : Nat), n ≤ l.length → (∀ i, i < n → l[i]? = some true) → (∀ i, n ≤ i → i < l.length → l[i]? = some false) → l.countP (fun b => !b) = l.length - n := by
        intro l
        induction l with
        | nil => intro n _ _ _; simp
        | cons b l ih =>
          intro n hn h1 h2
          cases n with
          | zero =>
            have hb : b = false := by have := h2 0 (Nat.le_refl _) (by simp); simpa using this
            have := ih 0 (Nat.zero_le _) (fun i hi => by omega) (fun i _ hi => by have := h2 (i + 1) (by omega) (by simp; omega); simpa using this)
            simp [hb, this]
          | succ n =>
            have hb : b = true := by have := h1 0 (by omega); simpa using this
            have := ih n (by simpa using hn) (fun i hi => by have := h1 (i + 1) (by omega); simpa using this) (fun i h3 hi => by have := h2 (i + 1) (by omega) (by simp; omega); simpa using this)
            simp [hb, this]
      have hl : listed.toList.length = ops.size := by simpa using h.size
      have get : ∀ i b, listed.getD i false = b → i < listed.size → listed.toList[i]? = some b := fun i b hb hi => by
        simp [hi] at hb
        simp [hi, hb]
      have := key listed.toList n (by omega) (fun i hi => get i true (hyes i hi) (by rw [h.size]; omega)) (fun i h1 hi => get i false (hno i h1) (by rw [h.size]; omega))
      unfold unl
      rw [this, hl]
    rw [hfu, e]
    refine tail_any hc hm (ops.size - n) n listed _ w (by omega) (Nat.le_refl _) h.size (fun i hi => ?_) (hE _ _ (hW.ends ν w h.world (fun j hj => h.facts j hj (hyes j hj))))
    by_cases hin : i < n
    · simp [hyes i hin, hin]
    · rw [hno i (by omega)]; simp [hin]
  induction fuel with
  | zero =>
    intro listed a w ν hu h hno
    exact fin 0 listed a w ν hu h hno (fun i hi => all_listed hu i (by rw [h.size]; omega))
  | succ fuel ih =>
    intro listed a w ν hu h hno
    by_cases hall : ∀ i, i < n → listed.getD i false = true
    · exact fin _ listed a w ν hu h hno hall
    · obtain ⟨i0, hi0, hf0⟩ := some_unlisted hu
      rw [h.size] at hi0
      refine ⟨fun h' => absurd h' (ready_ne hc h.size i0 i0 (Nat.le_refl _) hi0 hf0), fun j hj => ?_⟩
      obtain ⟨hun, oj, hoj, _⟩ := mem_ready.1 hj
      have hjs : j < ops.size := (Array.getElem?_eq_some_iff.1 hoj).1
      have hjl : listed.getD j false = false := by rw [← getD_tf (by rw [h.size]; exact hjs)]; exact hun
      have hjn : j < n := by
        by_cases hjn : j < n
        · exact hjn
        · exact absurd (fun i hi => ready_all h.size hm h.closed hj (by omega) i (by omega)) hall
      refine h.step hc hW hj hjn fun a' w' ν' h' => ih _ _ _ _ (unl_set hu (by rw [h.size]; exact hjs) hjl) h' (fun i hi => ?_)
      rw [getD_set_ne false (by omega)]; exact hno i hi

/-- A region whose first n operations answer alike, whatever order is picked; the others come one behind the other. -/
theorem wp_rely_tail {l : List Oper} {id : Nat} (n : Nat) {a : Act} {w : World} (hm : P.follows .mixedOrders = true) (hc : calmB .any l.toArray = true) (hn : n ≤ l.length) (hl : tailB .any l.toArray n = true)
    (h : RelyL P .any l.toArray w (fun a w => wpList P l.toArray Q (l.drop n) a w) (l.take n) 0 [] (fun _ => a)) : (Code.region id l.toArray true).wp P Q a w := by
  have h1 := h (fun k hk => by
    have hk' : k < n := by have := hk; rw [List.length_take] at this; omega
    simp [hk'])
  have e : (l.take n).length = n := by rw [List.length_take]; omega
  rw [e] at h1
  obtain ⟨S, hW⟩ := h1.start
  have hns : n ≤ l.toArray.size := by simpa using hn
  refine wp_region_any hm (Run.anyTail (calm_of hc) hW hns hl (fun a w h => ?_) _ _ _ _ _ (unl_start _) (Run.start w a S n (fun _ => undef)) (fun i _ => by
    simp only [Array.getD_eq_getD_getElem?, Array.getElem?_replicate]; split <;> rfl))
  have := wpOps_eq_wpList (P := P) (ops := l.toArray) (Q := Q) (l.drop n) n (fun j => by simp)
  rw [List.length_drop] at this
  have hsz : l.toArray.size = l.length := by simp
  rw [hsz, this]
  exact h
end
end

end Go.Proofs.Ytnelgblmogciiaa
