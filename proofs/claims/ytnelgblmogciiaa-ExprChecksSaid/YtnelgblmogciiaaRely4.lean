/- A region that draws its order of evaluation, whose last operations wait for all others, one behind the other. -/
import Derived.Test.YtnelgblmogciiaaRely3
set_option linter.unusedVariables false
set_option linter.unusedSimpArgs false
namespace Go.Proofs.Ytnelgblmogciiaa
open Go Go.RowKit

section
variable {P : Program} {ops : Array Oper} {md : Region.Mode} {Q : Exit → Act → World → Prop}

def tailB (md : Region.Mode) (ops : Array Oper) (n : Nat) : Bool := (List.range ops.size).all fun j => decide (j < n) || lastB md ops j

theorem ready_all {listed : Array Bool} (hs : listed.size = ops.size) {n : Nat} (hm : tailB md ops n = true) (hcl : ∀ j o e, listed.getD j false = true → ops[j]? = some o → e ∈ o.after → Region.binds md e = true → listed.getD e.on false = true)
    {j : Nat} (hj : j ∈ Region.ready md ops listed) (hjn : n ≤ j) : ∀ i, i < j → listed.getD i false = true := by
  obtain ⟨hun, oj, hoj, hall⟩ := mem_ready.1 hj
  have hjs : j < ops.size := (Array.getElem?_eq_some_iff.1 hoj).1
  have hmark := lastMarks_ok (md := md) (ops := ops) (L := fun i => listed.getD i false) (n := j) (fun k o e hk hok he hb => by
    rcases hk with hk | rfl
    · exact hcl k o e hk hok he hb
    · rw [hoj] at hok; cases hok; exact hall e he hb) (List.range (j + 1)).reverse [j] (fun i hi => by simp at hi; exact .inr hi)
  intro i hi
  unfold tailB at hm
  rw [List.all_eq_true] at hm
  have := hm j (List.mem_range.2 hjs)
  simp only [Bool.or_eq_true, decide_eq_true_eq] at this
  have hl := this.resolve_left (by omega)
  unfold lastB at hl
  rw [List.all_eq_true] at hl
  have := hl i (List.mem_range.2 hi)
  rcases hmark i (by simpa using this) with h' | h'
  · exact h'
  · omega

theorem tail_any (hc : Calm md ops) {n : Nat} (hm : tailB md ops n = true) : ∀ (k j : Nat) (listed : Array Bool) (a : Act) (w : World), j + k = ops.size → n ≤ j → listed.size = ops.size →
    (∀ i, i < ops.size → listed.getD i false = decide (i < j)) → wpOps P ops Q (List.range' j k) a w → wpAny P md ops Q k listed a w := by
  intro k
  induction k with
  | zero =>
    intro j listed a w hk hn hs hl h
    refine ⟨List.eq_nil_iff_forall_not_mem.2 fun i hi => ?_, by simpa [wpOps] using h⟩
    obtain ⟨h1, o, ho, _⟩ := mem_ready.1 hi
    have his := (Array.getElem?_eq_some_iff.1 ho).1
    rw [getD_tf (by omega), hl i his] at h1
    simp at h1; omega
  | succ k ih =>
    intro j listed a w hk hn hs hl h
    have hjs : j < ops.size := by omega
    have hcl : ∀ j' o e, listed.getD j' false = true → ops[j']? = some o → e ∈ o.after → Region.binds md e = true → listed.getD e.on false = true := fun j' o e hj' ho he hb => by
      have hs' := (Array.getElem?_eq_some_iff.1 ho).1
      rw [hl j' hs'] at hj'
      have hb' := hc.back j' o e ho he hb
      rw [hl e.on (by omega)]
      simp at hj' ⊢; omega
    refine ⟨fun h' => absurd h' (ready_ne hc hs j j (Nat.le_refl _) hjs (by rw [hl j hjs]; simp)), fun i hi => ?_⟩
    have hir := mem_ready.1 hi
    obtain ⟨hun, oi, hoi, _⟩ := hir
    have his : i < ops.size := (Array.getElem?_eq_some_iff.1 hoi).1
    have hil : j ≤ i := by
      rw [getD_tf (by omega), hl i his] at hun
      simpa using hun
    have hij : i = j := by
      have := ready_all hs hm hcl hi (by omega)
      by_cases hji : j < i
      · have := this j hji
        rw [hl j hjs] at this; simp at this
      · omega
    subst hij
    rw [List.range'_succ, wpOps_cons] at h
    refine wpOp_mono (fun a' w' h' => ih (i + 1) _ a' w' (by omega) (by omega) (by simpa using hs) (fun x hx => ?_) h') h
    by_cases hxi : i = x
    · subst hxi; simp [hs, hjs]
    · rw [getD_set_ne false hxi, hl x hx]
      simp only [decide_eq_decide]; omega

theorem Run.anyTail {w0 : World} {E : Act → World → Prop} {a0 : Act} {n : Nat} {S : Nat → Spec} (hc : Calm md ops) (hW : Walked P md ops w0 E a0 n S) (hns : n ≤ ops.size)
    (hm : tailB md ops n = true) (hE : ∀ a w, E a w → wpOps P ops Q (List.range' n (ops.size - n)) a w) :
    ∀ (fuel : Nat) (listed : Array Bool) (a : Act) (w : World) (ν : Nat → Value), unl listed = fuel → Run md ops w0 a0 S n listed a w ν → (∀ i, n ≤ i → listed.getD i false = false) → wpAny P md ops Q fuel listed a w := by
  intro fuel
  have fin : ∀ (fuel : Nat) (listed : Array Bool) (a : Act) (w : World) (ν : Nat → Value), unl listed = fuel → Run md ops w0 a0 S n listed a w ν → (∀ i, n ≤ i → listed.getD i false = false) → (∀ i, i < n → listed.getD i false = true) → wpAny P md ops Q fuel listed a w := by
    intro fuel listed a w ν hu h hno hyes
    have e := h.agr.eq (actTo_agr hc.uniq S a0 ν n) (fun i hi => by
      by_cases hij : i < n
      · simp [hyes i hij, hij]
      · rw [hno i (by omega)]; simp [hij])
    have hfu : fuel = ops.size - n := by
      subst hu
      have key : ∀ (l : List Bool) (n : Nat), n ≤ l.length → (∀ i, i < n → l[i]? = some true) → (∀ i, n ≤ i → i < l.length → l[i]? = some false) → l.countP (fun b => !b) = l.length - n := by
        intro l
        induction l with
        | nil => intro n _ _ _; simp
        | cons b l ih =>
          intro n hn h1 h2
          cases n with
          | zero =>
            have hb : b = false := by have := h2 0 (Nat.le_refl _) (by simp); simpa using this
            have := ih 0 (Nat.zero_le _) (fun i hi => by omega) (fun i _ hi => by have := h2 (i + 1) (by omega) (by simp; omega); simpa using this)
            simp [hb, this]
          | succ n =>
            have hb : b = true := by have := h1 0 (by omega); simpa using this
            have := ih n (by simpa using hn) (fun i hi => by have := h1 (i + 1) (by omega); simpa using this) (fun i h3 hi => by have := h2 (i + 1) (by omega) (by simp; omega); simpa using this)
            simp [hb, this]
      have hl : listed.toList.length = ops.size := by simpa using h.size
      have get : ∀ i b, listed.getD i false = b → i < listed.size → listed.toList[i]? = some b := fun i b hb hi => by
        simp [hi] at hb
        simp [hi, hb]
      have := key listed.toList n (by omega) (fun i hi => get i true (hyes i hi) (by rw [h.size]; omega)) (fun i h1 hi => get i false (hno i h1) (by rw [h.size]; omega))
      unfold unl
      rw [this, hl]
    rw [hfu, e]
    refine tail_any hc hm (ops.size - n) n listed _ w (by omega) (Nat.le_refl _) h.size (fun i hi => ?_) (hE _ _ (hW.ends ν w h.world (fun j hj => h.facts j hj (hyes j hj))))
    by_cases hin : i < n
    · simp [hyes i hin, hin]
    · rw [hno i (by omega)]; simp [hin]
  induction fuel with
  | zero =>
    intro listed a w ν hu h hno
    exact fin 0 listed a w ν hu h hno (fun i hi => all_listed hu i (by rw [h.size]; omega))
  | succ fuel ih =>
    intro listed a w ν hu h hno
    by_cases hall : ∀ i, i < n → listed.getD i false = true
    · exact fin _ listed a w ν hu h hno hall
    · obtain ⟨i0, hi0, hf0⟩ := some_unlisted hu
      rw [h.size] at hi0
      refine ⟨fun h' => absurd h' (ready_ne hc h.size i0 i0 (Nat.le_refl _) hi0 hf0), fun j hj => ?_⟩
      obtain ⟨hun, oj, hoj, _⟩ := mem_ready.1 hj
      have hjs : j < ops.size := (Array.getElem?_eq_some_iff.1 hoj).1
      have hjl : listed.getD j false = false := by rw [← getD_tf (by rw [h.size]; exact hjs)]; exact hun
      have hjn : j < n := by
        by_cases hjn : j < n
        · exact hjn
        · exact absurd (fun i hi => ready_all h.size hm h.closed hj (by omega) i (by omega)) hall
      refine h.step hc hW hj hjn fun a' w' ν' h' => ih _ _ _ _ (unl_set hu (by rw [h.size]; exact hjs) hjl) h' (fun i hi => ?_)
      rw [getD_set_ne false (by omega)]; exact hno i hi

/-- A region whose first n operations answer alike, whatever order is picked; the others come one behind the other. -/
theorem wp_rely_tail {l : List Oper} {id : Nat} (n : Nat) {a : Act} {w : World} (hm : P.follows .mixedOrders = true) (hc : calmB .any l.toArray = true) (hn : n ≤ l.length) (hl : tailB .any l.toArray n = true)
    (h : RelyL P .any l.toArray w (fun a w => wpList P l.toArray Q (l.drop n) a w) (l.take n) 0 [] (fun _ => a)) : (Code.region id l.toArray true).wp P Q a w := by
  have h1 := h (fun k hk => by
    have hk' : k < n := by have := hk; rw [List.length_take] at this; omega
    simp [hk'])
  have e : (l.take n).length = n := by rw [List.length_take]; omega
  rw [e] at h1
  obtain ⟨S, hW⟩ := h1.start
  have hns : n ≤ l.toArray.size := by simpa using hn
  refine wp_region_any hm (Run.anyTail (calm_of hc) hW hns hl (fun a w h => ?_) _ _ _ _ _ (unl_start _) (Run.start w a S n (fun _ => undef)) (fun i _ => by
    simp only [Array.getD_eq_getD_getElem?, Array.getElem?_replicate]; split <;> rfl))
  have := wpOps_eq_wpList (P := P) (ops := l.toArray) (Q := Q) (l.drop n) n (fun j => by simp)
  rw [List.length_drop] at this
  have hsz : l.toArray.size = l.length := by simp
  rw [hsz, this]
  exact h
end
end Go.Proofs.Ytnelgblmogciiaa
