/- A region that draws its order of evaluation: one operation at a time is shown to answer in every later world, and then every order goes alike. -/
import Derived.OrdersHeld
import Derived.Below
import Derived.Lib.Hide
set_option linter.unusedVariables false
namespace Go.Proofs.Ytnelgblmogciiaa
open Go Go.RowKit

/-- A later world: all that stood is as it was. -/
def Lat (w w' : World) : Prop := Below w.heap.size w w'
theorem Lat.refl (w : World) : Lat w w := Below.refl _ _
theorem Lat.trans {a b c : World} (h : Lat a b) (h' : Lat b c) : Lat a c := Below.trans h (Below.mono h' (Below.size h))
theorem Lat.drew (w : World) : Lat w w.drew := Below.drew (Below.refl _ _)

def noExit : Exit → Act → World → Prop := fun _ _ _ => False

section
variable {P : Program} {ops : Array Oper} {md : Region.Mode} {Q : Exit → Act → World → Prop}

def edge (md : Region.Mode) (o : Oper) (i : Nat) : Bool := o.after.any fun e => Region.binds md e && e.on == i

/-- What an operation is shown to do: it answers with a value of which Φ is known, in a later world. -/
def OpDoes (P : Program) (ops : Array Oper) (i : Nat) (Φ : Value → World → Prop) (a : Act) (w : World) : Prop :=
  ∀ o, ops[i]? = some o → ∀ K : Act → World → Prop, Hid (∀ b v w', b = a.put o.dst v → Φ v w' → Lat w w' → K b w') →
    if Region.wanted o (yielded ops a.tmps) = true then o.wp P a w K noExit else K (a.put o.dst undef) w

def dstOf (ops : Array Oper) (i : Nat) : Option Tmp := (ops[i]?).bind (·.dst)

abbrev Facts := List (Nat × (Value → World → Prop))

/-- The walk, operation by operation in the text's order. -/
def Rely (P : Program) (md : Region.Mode) (ops : Array Oper) (w0 : World) (E : Act → World → Prop) : Nat → Nat → Facts → ((Nat → Value) → Act) → Prop
  | 0, _, F, A => ∀ ν w, Lat w0 w → (∀ p ∈ F, p.2 (ν p.1) w) → E (A ν) w
  | m + 1, i, F, A =>
    (∃ c : Value, (∀ ν w, Lat w0 w → (∀ p ∈ F, (ops[i]?.map (edge md · p.1)).getD false = true → p.2 (ν p.1) w) → OpDoes P ops i (fun v _ => v = c) (A ν) w) ∧
      Rely P md ops w0 E m (i + 1) F (fun ν => (A ν).put (dstOf ops i) c)) ∨
    (∃ φ : Value → World → Prop, (∀ v w1 w2, Lat w1 w2 → φ v w1 → φ v w2) ∧ (∀ ν w, Lat w0 w → (∀ p ∈ F, (ops[i]?.map (edge md · p.1)).getD false = true → p.2 (ν p.1) w) → OpDoes P ops i φ (A ν) w) ∧
      Rely P md ops w0 E m (i + 1) ((i, φ) :: F) (fun ν => (A ν).put (dstOf ops i) (ν i)))

/-- What is known of an operation. -/
inductive Spec where
  | val (c : Value)
  | law (φ : Value → World → Prop)
def Spec.get : Spec → Value → Value
  | .val c, _ => c
  | .law _, u => u
def Spec.fact : Spec → Value → World → Prop
  | .val _, _, _ => True
  | .law φ, u, w => φ u w
def Spec.ans : Spec → Value → World → Prop
  | .val c, v, _ => v = c
  | .law φ, v, w => φ v w
def Spec.lasts (s : Spec) : Prop := ∀ v w1 w2, Lat w1 w2 → s.fact v w1 → s.fact v w2
theorem Spec.of_ans {s : Spec} {v : Value} {w : World} (h : s.ans v w) : s.get v = v ∧ s.fact v w := by
  cases s with
  | val c => exact ⟨h.symm, trivial⟩
  | law φ => exact ⟨rfl, h⟩

/-- The frame behind the first operations. -/
def actTo (ops : Array Oper) (S : Nat → Spec) (a0 : Act) (ν : Nat → Value) : Nat → Act
  | 0 => a0
  | i + 1 => (actTo ops S a0 ν i).put (dstOf ops i) ((S i).get (ν i))

theorem actTo_congr {S S' : Nat → Spec} {a0 : Act} {ν : Nat → Value} : ∀ (n : Nat), (∀ i, i < n → S i = S' i) → actTo ops S a0 ν n = actTo ops S' a0 ν n
  | 0, _ => rfl
  | n + 1, h => by rw [actTo, actTo, actTo_congr n (fun i hi => h i (by omega)), h n (by omega)]

/-- What the walk gives. -/
structure Walked (P : Program) (md : Region.Mode) (ops : Array Oper) (w0 : World) (E : Act → World → Prop) (a0 : Act) (n : Nat) (S : Nat → Spec) : Prop where
  lasts : ∀ i, i < n → (S i).lasts
  does : ∀ i, i < n → ∀ ν w, Lat w0 w → (∀ j, j < i → (ops[i]?.map (edge md · j)).getD false = true → (S j).fact (ν j) w) → OpDoes P ops i (S i).ans (actTo ops S a0 ν i) w
  ends : ∀ ν w, Lat w0 w → (∀ j, j < n → (S j).fact (ν j) w) → E (actTo ops S a0 ν n) w

def FactsOf (F : Facts) (S : Nat → Spec) (i : Nat) : Prop := ∀ p ∈ F, p.1 < i ∧ S p.1 = .law p.2

theorem Rely.walked {w0 : World} {E : Act → World → Prop} {a0 : Act} : ∀ (m i : Nat) (F : Facts) (A : (Nat → Value) → Act) (S0 : Nat → Spec),
    Rely P md ops w0 E m i F A → (∀ ν, A ν = actTo ops S0 a0 ν i) → FactsOf F S0 i →
    ∃ S : Nat → Spec, (∀ j, j < i → S j = S0 j) ∧ (∀ j, i ≤ j → j < i + m → (S j).lasts) ∧
      (∀ j, i ≤ j → j < i + m → ∀ ν w, Lat w0 w → (∀ k, k < j → (ops[j]?.map (edge md · k)).getD false = true → (S k).fact (ν k) w) → OpDoes P ops j (S j).ans (actTo ops S a0 ν j) w) ∧
      (∀ ν w, Lat w0 w → (∀ j, j < i + m → (S j).fact (ν j) w) → E (actTo ops S a0 ν (i + m)) w) := by
  intro m
  induction m with
  | zero =>
    intro i F A S0 h hA hF
    refine ⟨S0, fun _ _ => rfl, fun j h1 h2 => by omega, fun j h1 h2 => by omega, fun ν w hw hf => ?_⟩
    have := h ν w hw (fun p hp => by have := hf p.1 (hF p hp).1; rw [(hF p hp).2] at this; exact this)
    rw [hA] at this; exact this
  | succ m ih =>
    intro i F A S0 h hA hF
    have main : ∀ (s : Spec) (F' : Facts), s.lasts →
        (∀ ν w, Lat w0 w → (∀ p ∈ F, (ops[i]?.map (edge md · p.1)).getD false = true → p.2 (ν p.1) w) → OpDoes P ops i s.ans (A ν) w) →
        Rely P md ops w0 E m (i + 1) F' (fun ν => (A ν).put (dstOf ops i) (s.get (ν i))) → (∀ p ∈ F', p ∈ F ∨ (p.1 = i ∧ s = .law p.2)) →
        ∃ S : Nat → Spec, (∀ j, j < i → S j = S0 j) ∧ (∀ j, i ≤ j → j < i + (m + 1) → (S j).lasts) ∧
          (∀ j, i ≤ j → j < i + (m + 1) → ∀ ν w, Lat w0 w → (∀ k, k < j → (ops[j]?.map (edge md · k)).getD false = true → (S k).fact (ν k) w) → OpDoes P ops j (S j).ans (actTo ops S a0 ν j) w) ∧
          (∀ ν w, Lat w0 w → (∀ j, j < i + (m + 1) → (S j).fact (ν j) w) → E (actTo ops S a0 ν (i + (m + 1))) w) := by
      intro s F' hl hd hr hF'
      have e0 : ∀ j, j < i → (fun j => if j = i then s else S0 j) j = S0 j := fun j hj => by simp; omega
      obtain ⟨S, e, l, d, en⟩ := ih (i + 1) F' _ (fun j => if j = i then s else S0 j) hr (fun ν => by
        rw [actTo, hA, actTo_congr i (fun j hj => (e0 j hj).symm)]; simp) (fun p hp => by
        rcases hF' p hp with h1 | ⟨h1, h2⟩
        · obtain ⟨h3, h4⟩ := hF p h1
          exact ⟨by omega, by simp only []; rw [if_neg (by omega)]; exact h4⟩
        · exact ⟨by omega, by simp only []; rw [if_pos h1]; exact h2⟩)
      have eS : ∀ j, j < i → S j = S0 j := fun j hj => (e j (by omega)).trans (e0 j hj)
      have eI : S i = s := (e i (by omega)).trans (by simp)
      refine ⟨S, eS, fun j h1 h2 => ?_, fun j h1 h2 => ?_, fun ν w hw hf => ?_⟩
      · by_cases hj : j = i
        · subst hj; rw [eI]; exact hl
        · exact l j (by omega) (by omega)
      · by_cases hj : j = i
        · subst hj
          intro ν w hw hf
          rw [eI, actTo_congr j eS, ← hA]
          exact hd ν w hw (fun p hp he => by
            have := hf p.1 (hF p hp).1 he
            rw [eS _ (hF p hp).1, (hF p hp).2] at this; exact this)
        · exact d j (by omega) (by omega)
      · have := en ν w hw (fun j hj => hf j (by omega))
        rw [show i + (m + 1) = i + 1 + m from by omega]; exact this
    rcases h with ⟨c, hd, hr⟩ | ⟨φ, hl, hd, hr⟩
    · exact main (.val c) F (fun _ _ _ _ _ => trivial) hd hr (fun p hp => .inl hp)
    · exact main (.law φ) ((i, φ) :: F) hl hd hr (fun p hp => by
        rcases List.mem_cons.1 hp with rfl | hp
        · exact .inr ⟨rfl, rfl⟩
        · exact .inl hp)

theorem Rely.start {w0 : World} {E : Act → World → Prop} {a0 : Act} {n : Nat} (h : Rely P md ops w0 E n 0 [] (fun _ => a0)) : ∃ S, Walked P md ops w0 E a0 n S := by
  obtain ⟨S, _, l, d, e⟩ := Rely.walked n 0 [] _ (fun _ => .val undef) h (fun _ => rfl) (fun p hp => by cases hp)
  refine ⟨S, fun i hi => l i (by omega) (by omega), fun i hi => d i (by omega) (by omega), fun ν w hw hf => ?_⟩
  have := e ν w hw (fun j hj => hf j (by omega))
  simpa using this
end
end Go.Proofs.Ytnelgblmogciiaa
