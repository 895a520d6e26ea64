/- Plain laws: the negation of 'a and b'; what is known stays known. -/
import Derived.Test.YtnelgblmogciiaaOrder0
import Derived.Test.YtnelgblmogciiaaAwake1
set_option linter.unusedSimpArgs false
set_option linter.unusedVariables false
namespace Go.Proofs.Ytnelgblmogciiaa
open Go.RowKit

def notE (x : EV) : EV := if x.ok = false ∨ x.k ≠ 1 then unknownE else truthE (decide (x.n = 0))
theorem morgan_val (x y : EV) : notE (junE 0 [x, y] false) = junE 1 [notE x, notE y] false := by
  obtain ⟨xk, xn, xs, xok⟩ := x
  obtain ⟨yk, yn, ys, yok⟩ := y
  by_cases h1 : xk = 1 <;> by_cases h2 : yk = 1 <;> by_cases h3 : xn = 0 <;> by_cases h4 : yn = 0 <;> cases xok <;> cases yok <;> simp [junE, notE, truthE, unknownE, bit, h1, h2, h3, h4]

theorem findS_not (V : LView) (a : LExpr) : findS V (.mk (bareH 6) [a]) = notE (findS V a) := by
  simp only [findS, findL, nodeE, bareH, notE]; rfl
theorem findS_and (V : LView) (a b : LExpr) : findS V (.mk (bareH 7) [a, b]) = junE 0 [findS V a, findS V b] false := by
  simp only [findS, findL, nodeE, bareH]; rfl
theorem findS_or (V : LView) (a b : LExpr) : findS V (.mk (bareH 8) [a, b]) = junE 1 [findS V a, findS V b] false := by
  simp only [findS, findL, nodeE, bareH]; rfl
theorem bare6 : nodeCheck (bareH 6) 1 = 0 := by kernel_rfl
theorem bare7 : nodeCheck (bareH 7) 2 = 0 := by kernel_rfl
theorem bare8 : nodeCheck (bareH 8) 2 = 0 := by kernel_rfl

theorem morgan (V : LView) (a b : LExpr) (ha : checkE a = 0) (hb : checkE b = 0) (da : depthE a ≤ 20) (db : depthE b ≤ 20) (hs : sizeE a + sizeE b ≤ 150) :
    evalE V (.mk (bareH 6) [.mk (bareH 7) [a, b]]) = evalE V (.mk (bareH 8) [.mk (bareH 6) [a], .mk (bareH 6) [b]]) := by
  have oa := (checkE_iff a).1 ha
  have ob := (checkE_iff b).1 hb
  have c1 : checkE (.mk (bareH 6) [.mk (bareH 7) [a, b]]) = 0 := by
    rw [checkE_iff]
    simp only [okE, depthE, depthL, sizeE, sizeL, List.length_cons, List.length_nil, List.mem_cons, List.not_mem_nil, or_false, forall_eq_or_imp, forall_eq]
    exact ⟨⟨bare6, bare7, oa.1, ob.1⟩, by omega, by omega⟩
  have c2 : checkE (.mk (bareH 8) [.mk (bareH 6) [a], .mk (bareH 6) [b]]) = 0 := by
    rw [checkE_iff]
    simp only [okE, depthE, depthL, sizeE, sizeL, List.length_cons, List.length_nil, List.mem_cons, List.not_mem_nil, or_false, forall_eq_or_imp, forall_eq]
    exact ⟨⟨bare8, ⟨bare6, oa.1⟩, bare6, ob.1⟩, by omega, by omega⟩
  rw [evalE, evalE, if_pos c1, if_pos c2, findS_not, findS_and, findS_or, findS_not, findS_not]
  exact morgan_val _ _

/-- What is known stays. -/
def leE (x y : EV) : Prop := x.ok = true → y = x
theorem junE_true (d : Int) (xs : List EV) (h : (junE d xs true).ok = true) : junE d xs true = truthE (decide (d = 1)) := by
  induction xs with
  | nil => simp [junE, unknownE] at h
  | cons x xs ih =>
    simp only [junE] at h ⊢
    by_cases h1 : x.ok = false ∨ x.k ≠ 1
    · rw [if_pos h1] at h ⊢; exact ih h
    · rw [if_neg h1] at h ⊢
      by_cases h2 : x.n = d
      · rw [if_pos h2]
      · rw [if_neg h2] at h ⊢; exact ih h
theorem junE_more (d : Int) : ∀ (xs ys : List EV) (op op' : Bool), xs.length = ys.length → (∀ i, leE (xs.getD i unknownE) (ys.getD i unknownE)) → (op' = true → op = true) → (junE d xs op).ok = true → junE d ys op' = junE d xs op := by
  intro xs
  induction xs with
  | nil =>
    intro ys op op' hl hle ho h
    have : ys = [] := by cases ys with | nil => rfl | cons y ys => simp at hl
    subst this
    cases op with
    | true => simp [junE, unknownE] at h
    | false =>
      have : op' = false := by cases op' with | true => exact absurd (ho rfl) (by simp) | false => rfl
      rw [this]
  | cons x xs ih =>
    intro ys op op' hl hle ho h
    cases ys with
    | nil => simp at hl
    | cons y ys =>
      have hl' : xs.length = ys.length := by simpa using hl
      have hle0 : leE x y := by simpa using hle 0
      have hle' : ∀ i, leE (xs.getD i unknownE) (ys.getD i unknownE) := fun i => by simpa using hle (i + 1)
      simp only [junE] at h ⊢
      by_cases h1 : x.ok = false ∨ x.k ≠ 1
      · rw [if_pos h1] at h ⊢
        by_cases hx : x.ok = true
        · have e := hle0 hx
          subst e
          rw [if_pos h1]
          exact ih ys true true hl' hle' (fun h => h) h
        · by_cases h2 : y.ok = false ∨ y.k ≠ 1
          · rw [if_pos h2]; exact ih ys true true hl' hle' (fun h => h) h
          · rw [if_neg h2]
            by_cases h3 : y.n = d
            · rw [if_pos h3]; exact (junE_true d xs h).symm
            · rw [if_neg h3]; exact ih ys true op' hl' hle' (fun _ => rfl) h
      · have hx : x.ok = true := by
          cases hh : x.ok with
          | true => rfl
          | false => exact absurd (Or.inl hh) h1
        have e := hle0 hx
        subst e
        rw [if_neg h1] at h ⊢
        rw [if_neg h1]
        by_cases h3 : y.n = d
        · rw [if_pos h3, if_pos h3]
        · rw [if_neg h3] at h ⊢
          rw [if_neg h3]
          exact ih ys op op' hl' hle' ho h
theorem attrE_more (l m : List LItem) (d : Int) (cl a : ByteArray) (h : (attrE l d cl a).ok = true) : attrE (l ++ m) d cl a = attrE l d cl a := by
  induction l with
  | nil => simp [attrE, unknownE] at h
  | cons x l ih =>
    simp only [List.cons_append, attrE] at h ⊢
    by_cases h1 : x.dev = d ∧ x.cl = cl ∧ x.at_ = a
    · rw [if_pos h1, if_pos h1]
    · rw [if_neg h1] at h ⊢
      rw [if_neg h1]; exact ih h

def moreV (V : LView) (m : List LItem) : LView := ⟨V.items ++ m, V.mode, V.minute, V.members⟩

theorem nodeE_more (V : LView) (m : List LItem) (h : Hd) (xs ys : List EV) (hl : xs.length = ys.length) (hle : ∀ i, leE (xs.getD i unknownE) (ys.getD i unknownE)) (hok : (nodeE V h xs).ok = true) : nodeE (moreV V m) h ys = nodeE V h xs := by
  have h0 := hle 0
  have h1 := hle 1
  have h2 := hle 2
  have hj0 := junE_more 0 xs ys false false hl hle (fun h => h)
  have hj1 := junE_more 1 xs ys false false hl hle (fun h => h)
  have ha := attrE_more V.items m h.dev h.cl h.at_
  unfold leE at h0 h1 h2
  unfold nodeE at hok ⊢
  simp only [moreV]
  generalize xs.getD 0 unknownE = x0 at *
  generalize xs.getD 1 unknownE = x1 at *
  generalize xs.getD 2 unknownE = x2 at *
  generalize ys.getD 0 unknownE = y0 at *
  generalize ys.getD 1 unknownE = y1 at *
  generalize ys.getD 2 unknownE = y2 at *
  by_cases k1 : h.kind = 1
  · simp only [if_pos k1]; try rfl
  simp only [if_neg k1] at hok ⊢
  by_cases k2 : h.kind = 2
  · simp only [if_pos k2] at hok ⊢; exact ha hok
  simp only [if_neg k2] at hok ⊢
  by_cases k3 : h.kind = 3
  · simp only [if_pos k3]; try rfl
  simp only [if_neg k3] at hok ⊢
  by_cases k4 : h.kind = 4
  · simp only [if_pos k4]; try rfl
  simp only [if_neg k4] at hok ⊢
  by_cases k5 : h.kind = 5
  · simp only [if_pos k5]; try rfl
  simp only [if_neg k5] at hok ⊢
  by_cases k15 : h.kind = 15
  · simp only [if_pos k15]; try rfl
  simp only [if_neg k15] at hok ⊢
  by_cases k6 : h.kind = 6
  · simp only [if_pos k6] at hok ⊢
    by_cases hc : x0.ok = false ∨ x0.k ≠ 1
    · rw [if_pos hc] at hok; simp [unknownE] at hok
    · have e : y0 = x0 := h0 (by cases hh : x0.ok with | true => rfl | false => exact absurd (Or.inl hh) hc)
      rw [e]
  simp only [if_neg k6] at hok ⊢
  by_cases k7 : h.kind = 7
  · simp only [if_pos k7] at hok ⊢; exact hj0 hok
  simp only [if_neg k7] at hok ⊢
  by_cases k8 : h.kind = 8
  · simp only [if_pos k8] at hok ⊢; exact hj1 hok
  simp only [if_neg k8] at hok ⊢
  by_cases k14 : h.kind = 14
  · simp only [if_pos k14] at hok ⊢
    by_cases hc : x0.ok = false ∨ x0.k ≠ 1
    · rw [if_pos hc] at hok; simp [unknownE] at hok
    · have e : y0 = x0 := h0 (by cases hh : x0.ok with | true => rfl | false => exact absurd (Or.inl hh) hc)
      rw [e]
      rw [if_neg hc] at hok ⊢
      rw [if_neg hc]
      by_cases hn : x0.n = 1
      · rw [if_pos hn] at hok ⊢; rw [if_pos hn]; exact h1 hok
      · rw [if_neg hn] at hok ⊢; rw [if_neg hn]; exact h2 hok
  simp only [if_neg k14] at hok ⊢
  by_cases hc : x0.ok = false ∨ x1.ok = false
  · rw [if_pos hc] at hok; simp [unknownE] at hok
  · have e0 : y0 = x0 := h0 (by cases hh : x0.ok with | true => rfl | false => exact absurd (Or.inl hh) hc)
    have e1 : y1 = x1 := h1 (by cases hh : x1.ok with | true => rfl | false => exact absurd (Or.inr hh) hc)
    rw [e0, e1]

theorem findS_more (V : LView) (m : List LItem) (e : LExpr) : leE (findS V e) (findS (moreV V m) e) := by
  induction e using LExpr.ind with | _ hd ks ih => ?_
  intro hok
  simp only [findS] at hok ⊢
  refine nodeE_more V m hd _ _ (by rw [findL_len, findL_len]) (fun i => ?_) hok
  by_cases hi : i < ks.length
  · have e1 : (findL V ks).getD i unknownE = findS V ks[i] := by rw [List.getD_eq_getElem?_getD, List.getElem?_eq_getElem (by rw [findL_len]; exact hi)]; exact findL_get V ks i hi
    have e2 : (findL (moreV V m) ks).getD i unknownE = findS (moreV V m) ks[i] := by rw [List.getD_eq_getElem?_getD, List.getElem?_eq_getElem (by rw [findL_len]; exact hi)]; exact findL_get _ ks i hi
    rw [e1, e2]; exact ih i hi
  · have e1 : (findL V ks).getD i unknownE = unknownE := by rw [List.getD_eq_getElem?_getD, List.getElem?_eq_none (by rw [findL_len]; omega)]; rfl
    rw [e1]; intro h; simp [unknownE] at h

theorem evalE_more (V : LView) (m : List LItem) (e : LExpr) (h : (evalE V e).ok = true) : evalE (moreV V m) e = evalE V e := by
  unfold evalE at h ⊢
  by_cases h0 : checkE e = 0
  · rw [if_pos h0] at h ⊢; rw [if_pos h0]; exact findS_more V m e h
  · rw [if_neg h0] at h; simp [unknownE] at h

end Go.Proofs.Ytnelgblmogciiaa
