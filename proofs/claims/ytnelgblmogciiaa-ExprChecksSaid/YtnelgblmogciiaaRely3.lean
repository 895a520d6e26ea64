/- A region that draws its order of evaluation: the moves of the walk. -/
import Derived.Test.YtnelgblmogciiaaRely2
import Derived.Test.YtnelgblmogciiaaEval2
set_option linter.unusedVariables false
set_option linter.unusedSimpArgs false
namespace Go.Proofs.Ytnelgblmogciiaa
open Go Go.RowKit

section
variable {P : Program} {ops : Array Oper} {md : Region.Mode} {w0 : World} {E : Act → World → Prop} {F : Facts} {A : (Nat → Value) → Act} {m i : Nat}

def FactsAt (md : Region.Mode) (ops : Array Oper) (i : Nat) (F : Facts) (ν : Nat → Value) (w : World) : Prop := ∀ p ∈ F, (ops[i]?.map (edge md · p.1)).getD false = true → p.2 (ν p.1) w
def FactsEnd (F : Facts) (ν : Nat → Value) (w : World) : Prop := ∀ p ∈ F, p.2 (ν p.1) w

theorem FactsAt.get {ν : Nat → Value} {w : World} (hF : FactsAt md ops i F ν w) (k : Nat) {p : Nat × (Value → World → Prop)} (h : F[k]? = some p) (he : (ops[i]?.map (edge md · p.1)).getD false = true) : p.2 (ν p.1) w :=
  hF p (List.mem_of_getElem? h) he
theorem FactsEnd.get {ν : Nat → Value} {w : World} (hF : FactsEnd F ν w) (k : Nat) {p : Nat × (Value → World → Prop)} (h : F[k]? = some p) : p.2 (ν p.1) w :=
  hF p (List.mem_of_getElem? h)

/-- The walk over the operations that are left, written out. -/
def RelyL (P : Program) (md : Region.Mode) (ops : Array Oper) (w0 : World) (E : Act → World → Prop) (l : List Oper) (i : Nat) (F : Facts) (A : (Nat → Value) → Act) : Prop :=
  (∀ k, k < l.length → ops[i + k]? = l[k]?) → Rely P md ops w0 E l.length i F A

theorem RelyL.tail {o : Oper} {l : List Oper} (hl : ∀ k, k < (o :: l).length → ops[i + k]? = (o :: l)[k]?) : ops[i]? = some o ∧ ∀ k, k < l.length → ops[i + 1 + k]? = l[k]? := by
  refine ⟨hl 0 (by simp), fun k hk => ?_⟩
  have := hl (k + 1) (by simpa using hk)
  rw [show i + 1 + k = i + (k + 1) from by omega, this]
  rfl

/-- An operation whose value is known. -/
theorem RelyL.val {o : Oper} {l : List Oper} (c : Value)
    (h : ∀ (ν : Nat → Value) (w : World), Lat w0 w → FactsAt md ops i F ν w → ∀ K : Act → World → Prop, Hid (∀ b w', b = (A ν).put o.dst c → Lat w w' → K b w') →
      if Region.wanted o (yielded ops (A ν).tmps) = true then o.wp P (A ν) w K noExit else K ((A ν).put o.dst undef) w)
    (rest : RelyL P md ops w0 E l (i + 1) F (fun ν => (A ν).put o.dst c)) : RelyL P md ops w0 E (o :: l) i F A := by
  intro hl
  obtain ⟨ho, hl'⟩ := RelyL.tail hl
  refine .inl ⟨c, fun ν w hL hF o' ho' K hK => ?_, ?_⟩
  · rw [ho] at ho'; cases ho'
    exact h ν w hL hF K (fun b w' e l => hK b c w' e rfl l)
  · have : dstOf ops i = o.dst := by unfold dstOf; rw [ho]; rfl
    rw [this]; exact rest hl'

/-- An operation of whose value a law is known that lasts. -/
theorem RelyL.law {o : Oper} {l : List Oper} (φ : Value → World → Prop) (hφ : ∀ v w1 w2, Lat w1 w2 → φ v w1 → φ v w2)
    (h : ∀ (ν : Nat → Value) (w : World), Lat w0 w → FactsAt md ops i F ν w → ∀ K : Act → World → Prop, Hid (∀ b v w', b = (A ν).put o.dst v → φ v w' → Lat w w' → K b w') →
      if Region.wanted o (yielded ops (A ν).tmps) = true then o.wp P (A ν) w K noExit else K ((A ν).put o.dst undef) w)
    (rest : RelyL P md ops w0 E l (i + 1) ((i, φ) :: F) (fun ν => (A ν).put o.dst (ν i))) : RelyL P md ops w0 E (o :: l) i F A := by
  intro hl
  obtain ⟨ho, hl'⟩ := RelyL.tail hl
  refine .inr ⟨φ, hφ, fun ν w hL hF o' ho' K hK => ?_, ?_⟩
  · rw [ho] at ho'; cases ho'
    exact h ν w hL hF K hK
  · have : dstOf ops i = o.dst := by unfold dstOf; rw [ho]; rfl
    rw [this]; exact rest hl'

theorem skip_op {o : Oper} {ops : Array Oper} {a : Act} {X Y : Prop} (h : Region.wanted o (yielded ops a.tmps) = false) (hk : Y) : if Region.wanted o (yielded ops a.tmps) = true then X else Y := by
  rw [if_neg (by simp [h])]; exact hk
theorem take_op {o : Oper} {ops : Array Oper} {a : Act} {X Y : Prop} (h : Region.wanted o (yielded ops a.tmps) = true) (hk : X) : if Region.wanted o (yielded ops a.tmps) = true then X else Y := by
  rw [if_pos h]; exact hk

theorem RelyL.done (h : ∀ (ν : Nat → Value) (w : World), Lat w0 w → FactsEnd F ν w → E (A ν) w) : RelyL P md ops w0 E [] i F A := fun _ ν w hL hF => h ν w hL hF

theorem wp_rely {Q : Exit → Act → World → Prop} {l : List Oper} {id : Nat} {a : Act} {w : World} (hm : P.follows .mixedOrders = true) (hc : calmB .any l.toArray = true)
    (h : RelyL P .any l.toArray w (Q .normal) l 0 [] (fun _ => a)) : (Code.region id l.toArray true).wp P Q a w :=
  wp_region_rely hm hc (h (fun k hk => by simp))
theorem wp_rely_last {Q : Exit → Act → World → Prop} {l : List Oper} {id n : Nat} {a : Act} {w : World} (hm : P.follows .mixedOrders = true) (hc : calmB .any l.toArray = true) (hn : n + 1 = l.length) (hl : lastB .any l.toArray n = true)
    (h : RelyL P .any l.toArray w (fun a w => wpOp P l.toArray Q n (Q .normal) a w) (l.take n) 0 [] (fun _ => a)) : (Code.region id l.toArray true).wp P Q a w :=
  wp_region_rely_last hm hc (by simpa using hn) hl (by
    have := h (fun k hk => by
      have hk' : k < n := by have := hk; rw [List.length_take] at this; omega
      simp [hk'])
    have e : (l.take n).length = n := by rw [List.length_take]; omega
    rwa [e] at this)
end

theorem Blk.lat {w w' : World} {g : Nat} {t : TypeId} {cs : Array Value} (h : Blk w g t cs) (hl : Lat w w') : Blk w' g t cs := h.below hl
theorem Blk.row {w : World} {g : Nat} {t : TypeId} {cs : Array Value} (h : Blk w g t cs) : RowAt w g 0 cs.toList := fun j v hj => by
  rw [Nat.zero_add, h.cell]; simpa using hj

/-- A load of a whole struct out of its box. -/
theorem wp_load_blk {P : Program} {o : Oper} {a : Act} {w : World} {K : Act → World → Prop} {Q : Exit → Act → World → Prop} {ty : TypeId} {x : Operand} (ho : o.op = .load ty x)
    {b : Nat} (hx : a.eval x = .pointer (some ⟨b, 0, none⟩)) {cs : Array Value} {t : TypeId} (h : Blk w b t cs) {d : TypeDesc} {n : Nat}
    (hu : P.underlying ty = some d) (hd : (match d with | .struct _ | .array _ _ => true | _ => false) = true) (hi : (P.info? ty).map (·.size) = some n) (hn : cs.size = n)
    (hK : K (a.put o.dst (.agg cs)) w) : o.wp P a w K Q := by
  have := wp_load_at (Q := Q) ty x ho b 0 hx cs.toList d h.row hu hd (by rw [hi]; simp [hn]) (K := K) (by rw [Array.toArray_toList]; exact hK)
  exact this
end Go.Proofs.Ytnelgblmogciiaa
