/- Hold: plain: the limit of a tick, valid timers, timers by name. Hold: plain: which rules are watched, in which order. -/
import Derived.Test.YtafodibbcfoclaaGreatHCmp
import Derived.Test.YtafodibbcfoclaaGreatGPlain
namespace Go.Proofs.YtafodibbcfoclaaGreat
section
set_option linter.unusedSimpArgs false
set_option linter.unusedVariables false
def MT : Int := 1099511627776
def mx (n : Int) : Int := if 0 > n then 0 else n
def lim (n : Int) : Int := if MT < mx n then MT else mx n
theorem lim_ge (n : Int) : 0 ≤ lim n := by unfold lim mx MT; split <;> split <;> omega
theorem lim_le (n : Int) : lim n ≤ MT := by unfold lim mx MT; split <;> split <;> omega
theorem lim_id {n : Int} (h0 : 0 ≤ n) (h1 : n ≤ MT) : lim n = n := by unfold lim mx; rw [if_neg (by omega), if_neg (by omega)]
def pOk (p : Option ByteArray) (s : ByteArray) : Bool := match p with
  | none => true
  | some q => ltB q s
/-- Timers in order, from one name on. -/
def okF : Option ByteArray → List LTim → Bool
  | _, [] => true
  | p, t :: r => (decide (0 ≤ t.since) && decide (t.since ≤ MT) && pOk p t.rule) && okF (some t.rule) r
theorem okF_cons (p : Option ByteArray) (t : LTim) (r : List LTim) : okF p (t :: r) = ((decide (0 ≤ t.since) && decide (t.since ≤ MT) && pOk p t.rule) && okF (some t.rule) r) := by
  cases p <;> rfl
def okT (l : List LTim) : Bool := decide (l.length ≤ 40) && okF none l
def validP (l : List LTim) : List LTim := if okT l then l else []
def prevT (l : List LTim) (j : Nat) : Option ByteArray := if j = 0 then none else (l[j - 1]?).map LTim.rule
theorem okF_step (l : List LTim) (j : Nat) (h : j < l.length) : okF (prevT l j) (l.drop j) = ((decide (0 ≤ l[j].since) && decide (l[j].since ≤ MT) && pOk (prevT l j) l[j].rule) && okF (prevT l (j + 1)) (l.drop (j + 1))) := by
  rw [List.drop_eq_getElem_cons h, okF_cons]
  congr 2
  unfold prevT
  rw [if_neg (by omega), Nat.add_sub_cancel, List.getElem?_eq_getElem h]
  rfl
theorem validP_len (l : List LTim) : (validP l).length ≤ 40 := by
  unfold validP
  split
  · rename_i h
    unfold okT at h
    simp at h
    exact h.1
  · simp
theorem okF_facts : ∀ (l : List LTim) (p : Option ByteArray), okF p l = true → (∀ t ∈ l, 0 ≤ t.since ∧ t.since ≤ MT) ∧ l.Pairwise (fun a b => ltB a.rule b.rule = true) ∧ (∀ q, p = some q → ∀ t ∈ l, ltB q t.rule = true)
  | [], _, _ => ⟨fun t h => (by simp at h), List.Pairwise.nil, fun q _ t h => (by simp at h)⟩
  | t :: r, p, h => by
    rw [okF_cons] at h
    simp only [Bool.and_eq_true, decide_eq_true_eq] at h
    obtain ⟨⟨⟨h1, h2⟩, h3⟩, h4⟩ := h
    obtain ⟨i1, i2, i3⟩ := okF_facts r (some t.rule) h4
    refine ⟨fun x hx => ?_, List.pairwise_cons.2 ⟨fun x hx => i3 _ rfl x hx, i2⟩, fun q hq x hx => ?_⟩
    · rcases List.mem_cons.1 hx with e | hx
      · subst e; exact ⟨h1, h2⟩
      · exact i1 x hx
    · subst hq
      rcases List.mem_cons.1 hx with e | hx
      · subst e; exact h3
      · exact sto_ltB.trans _ _ _ h3 (i3 _ rfl x hx)
/-- What valid timers are. -/
structure TimOk (l : List LTim) : Prop where
  len : l.length ≤ 40
  rng : ∀ t ∈ l, 0 ≤ t.since ∧ t.since ≤ MT
  asc : l.Pairwise (fun a b => ltB a.rule b.rule = true)
theorem validP_ok (l : List LTim) : TimOk (validP l) := by
  refine ⟨validP_len l, ?_, ?_⟩
  · unfold validP
    split
    · rename_i h
      unfold okT at h
      rw [Bool.and_eq_true] at h
      exact (okF_facts l none h.2).1
    · intro t h; simp at h
  · unfold validP
    split
    · rename_i h
      unfold okT at h
      rw [Bool.and_eq_true] at h
      exact (okF_facts l none h.2).2.1
    · exact List.Pairwise.nil
theorem validP_mem {l : List LTim} {t : LTim} (h : t ∈ validP l) : t ∈ l := by
  unfold validP at h
  split at h
  · exact h
  · simp at h
/-- The timer of a name. -/
def isN (s : ByteArray) (t : LTim) : Bool := decide (t.rule = s)
def findT (l : List LTim) (s : ByteArray) : Option LTim := l.find? (isN s)
def mapT (l : List LTim) (s : ByteArray) : Option LTim := l.foldl (fun acc t => if s = t.rule then some t else acc) none
theorem mapT_take (l : List LTim) (j : Nat) (h : j < l.length) (s : ByteArray) : mapT (l.take (j + 1)) s = if s = l[j].rule then some l[j] else mapT (l.take j) s := by
  unfold mapT
  rw [List.take_succ_eq_append_getElem h, List.foldl_append]
  rfl
theorem mapT_find {l : List LTim} (h : l.Pairwise (fun a b => ltB a.rule b.rule = true)) (s : ByteArray) : mapT l s = findT l s := by
  have key : ∀ (l : List LTim) (acc : Option LTim), l.Pairwise (fun a b => ltB a.rule b.rule = true) → l.foldl (fun acc t => if s = t.rule then some t else acc) acc = (match l.find? (isN s) with | some t => some t | none => acc) := by
    intro l
    induction l with
    | nil => intro acc _; rfl
    | cons t r ih =>
      intro acc hp
      rw [List.pairwise_cons] at hp
      rw [List.foldl_cons, ih _ hp.2, List.find?_cons]
      unfold isN
      by_cases he : t.rule = s
      · rw [decide_eq_true he, if_pos he.symm]
        have hn : r.find? (fun x => decide (x.rule = s)) = none := by
          rw [List.find?_eq_none]
          intro x hx hh
          have h1 := hp.1 x hx
          rw [of_decide_eq_true hh, he, sto_ltB.irrefl] at h1
          cases h1
        rw [show (fun t : LTim => decide (t.rule = s)) = (fun x => decide (x.rule = s)) from rfl, hn]
      · rw [decide_eq_false he, if_neg (fun e => he e.symm)]
  unfold mapT findT
  rw [key l none h]
  cases l.find? (isN s) <;> rfl
theorem findT_some {l : List LTim} {s : ByteArray} {t : LTim} (h : findT l s = some t) : t ∈ l ∧ t.rule = s := by
  unfold findT at h
  have h2 : isN s t = true := List.find?_some h
  exact ⟨List.mem_of_find?_eq_some h, of_decide_eq_true h2⟩
end
end Go.Proofs.YtafodibbcfoclaaGreat

namespace Go.Proofs.YtafodibbcfoclaaGreat
section
set_option linter.unusedSimpArgs false
set_option linter.unusedVariables false
abbrev RP := RlR × LRule
/-- The time of a hold rule. -/
def isG (t : TrR) : Bool := decide (t.kind = 6)
def trg (on : List TrR) : Option Int := (on.find? isG).map (fun t => lim t.n)
theorem trg_drop (on : List TrR) (j : Nat) (h : j < on.length) : trg (on.drop j) = if on[j].kind = 6 then some (lim on[j].n) else trg (on.drop (j + 1)) := by
  unfold trg
  rw [List.drop_eq_getElem_cons h, List.find?_cons]
  unfold isG
  by_cases e : on[j].kind = 6
  · rw [decide_eq_true e, if_pos e]; rfl
  · rw [decide_eq_false e, if_neg e]
def hasN (l : List ByteArray) (s : ByteArray) : Bool := l.any (fun x => decide (x = s))
theorem hasN_iff {l : List ByteArray} {s : ByteArray} : hasN l s = true ↔ s ∈ l := by
  unfold hasN
  rw [List.any_eq_true]
  exact ⟨fun ⟨x, h1, h2⟩ => by rw [← of_decide_eq_true h2]; exact h1, fun h => ⟨s, h, decide_eq_true rfl⟩⟩
def opH (p : RP) : List HP := ((trg p.2.on).map (fun t => (p, t))).toList
theorem opH_mem {p : RP} {x : HP} (h : x ∈ opH p) : x.1 = p ∧ trg p.2.on = some x.2 := by
  unfold opH at h
  cases ht : trg p.2.on with
  | none => rw [ht] at h; simp at h
  | some t => rw [ht] at h; simp at h; rw [h]; exact ⟨rfl, rfl⟩
theorem opH_len (p : RP) : (opH p).length ≤ 1 := by
  unfold opH
  cases trg p.2.on <;> simp
/-- The hold rules, each name's first rule alone. -/
def candF : List ByteArray → List RP → List HP
  | _, [] => []
  | seen, p :: r => (if hasN seen p.1.name then [] else opH p) ++ candF (p.1.name :: seen) r
theorem candF_snoc (p : RP) : ∀ (l : List RP) (seen : List ByteArray), candF seen (l ++ [p]) = candF seen l ++ (if hasN seen p.1.name || hasN (l.map (fun q => q.1.name)) p.1.name then [] else opH p)
  | [], seen => by
    have e : (hasN seen p.1.name || hasN ([].map (fun q : RP => q.1.name)) p.1.name) = hasN seen p.1.name := by simp [hasN]
    rw [e]
    simp [candF]
  | q :: r, seen => by
    rw [List.cons_append, candF, candF_snoc p r, candF, List.append_assoc]
    congr 3
    unfold hasN
    simp only [List.any_cons, List.map_cons]
    cases decide (q.1.name = p.1.name) <;> cases seen.any (fun x => decide (x = p.1.name)) <;> rfl
theorem candF_take (ps : List RP) (j : Nat) (h : j < ps.length) : candF [] (ps.take (j + 1)) = candF [] (ps.take j) ++ (if hasN ((ps.take j).map (fun q => q.1.name)) ps[j].1.name then [] else opH ps[j]) := by
  rw [List.take_succ_eq_append_getElem h, candF_snoc]
  rfl
theorem candF_len : ∀ (l : List RP) (seen : List ByteArray), (candF seen l).length ≤ l.length
  | [], _ => Nat.le_refl _
  | p :: r, seen => by
    have := candF_len r (p.1.name :: seen)
    have h1 := opH_len p
    rw [candF, List.length_append, List.length_cons]
    split
    · simp; omega
    · omega
theorem candF_mem : ∀ (l : List RP) (seen : List ByteArray) (x : HP), x ∈ candF seen l → x.1 ∈ l ∧ trg x.1.2.on = some x.2 ∧ x.1.1.name ∉ seen
  | [], _, x, h => by simp [candF] at h
  | p :: r, seen, x, h => by
    rw [candF, List.mem_append] at h
    rcases h with h | h
    · split at h
      · simp at h
      · rename_i hs
        obtain ⟨h1, h2⟩ := opH_mem h
        rw [h1]
        exact ⟨by simp, h2, fun e => hs (hasN_iff.2 e)⟩
    · obtain ⟨h1, h2, h3⟩ := candF_mem r _ x h
      exact ⟨List.mem_cons_of_mem _ h1, h2, fun e => h3 (List.mem_cons_of_mem _ e)⟩
theorem candF_names : ∀ (l : List RP) (seen : List ByteArray), (candF seen l).Pairwise (fun a b => a.1.1.name ≠ b.1.1.name)
  | [], _ => List.Pairwise.nil
  | p :: r, seen => by
    rw [candF, List.pairwise_append]
    refine ⟨?_, candF_names r _, fun a ha b hb e => ?_⟩
    · split
      · exact List.Pairwise.nil
      · unfold opH
        cases trg p.2.on <;> simp
    · split at ha
      · simp at ha
      · have hpa := (opH_mem ha).1
        have h3 := (candF_mem r _ b hb).2.2
        rw [← e, hpa] at h3
        exact h3 (by simp)
theorem pw_inj {α β : Type} {f : α → β} {l : List α} (h : l.Pairwise (fun a b => f a ≠ f b)) : ∀ a ∈ l, ∀ b ∈ l, f a = f b → a = b := by
  induction l with
  | nil => intro a ha; simp at ha
  | cons x r ih =>
    rw [List.pairwise_cons] at h
    intro a ha b hb e
    rcases List.mem_cons.1 ha with e1 | ha'
    · rcases List.mem_cons.1 hb with e2 | hb'
      · rw [e1, e2]
      · exact absurd (by rw [← e1]; exact e) (h.1 b hb')
    · rcases List.mem_cons.1 hb with e2 | hb'
      · exact absurd (by rw [← e2]; exact e.symm) (h.1 a ha')
      · exact ih h.2 a ha' b hb' e
/-- In the order of their names. -/
def sortedH (l : List HP) : List HP := Go.Proofs.YtafodibbcfoclaaGreat.stab ltH l
theorem sortedH_is {l d : List HP} (hn : l.Pairwise (fun a b => a.1.1.name ≠ b.1.1.name)) (hp : d.Perm l) (hs : d.Pairwise (fun a b => ltH b a = false)) : d = sortedH l := by
  refine sorted_eq (lt := ltH) _ _ (hp.trans (stab_perm ltH l).symm) hs (stab_sorted swo_ltH l) fun a ha b hb e1 e2 => ?_
  refine pw_inj (f := fun x : HP => x.1.1.name) hn a (hp.mem_iff.1 ha) b (hp.mem_iff.1 hb) ?_
  by_cases h : a.1.1.name = b.1.1.name
  · exact h
  · have := sto_ltB.tri _ _ e1 h
    unfold ltH at e2
    rw [e2] at this; cases this
def holdsP (ps : List RP) : List HP := (sortedH (candF [] ps)).take 40
theorem holdsP_mem {ps : List RP} {x : HP} (h : x ∈ holdsP ps) : x.1 ∈ ps ∧ trg x.1.2.on = some x.2 := by
  have h1 := (stab_perm ltH (candF [] ps)).mem_iff.1 (List.mem_of_mem_take h)
  obtain ⟨h2, h3, _⟩ := candF_mem ps [] x h1
  exact ⟨h2, h3⟩
theorem holdsP_names (ps : List RP) : (holdsP ps).Pairwise (fun a b => a.1.1.name ≠ b.1.1.name) := by
  refine List.Pairwise.sublist (List.take_sublist _ _) ?_
  exact ((stab_perm ltH (candF [] ps)).pairwise_iff (fun h e => h e.symm)).2 (candF_names ps [])
theorem trg_range {on : List TrR} {t : Int} (h : trg on = some t) : 0 ≤ t ∧ t ≤ MT := by
  unfold trg at h
  cases hf : on.find? isG with
  | none => rw [hf] at h; cases h
  | some x => rw [hf] at h; cases h; exact ⟨lim_ge _, lim_le _⟩
theorem holdsP_len (ps : List RP) : (holdsP ps).length ≤ 40 := by
  unfold holdsP; rw [List.length_take]; omega
end
end Go.Proofs.YtafodibbcfoclaaGreat
