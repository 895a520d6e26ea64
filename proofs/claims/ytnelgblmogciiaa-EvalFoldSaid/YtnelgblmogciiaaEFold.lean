/- EvalFold: the plain law, that folding keeps the value. -/
import Derived.Test.YtnelgblmogciiaaPlain
import Derived.Test.YtnelgblmogciiaaFold5
set_option linter.unusedSimpArgs false
set_option linter.unusedVariables false
namespace Go.Proofs.Ytnelgblmogciiaa
open Go.RowKit

theorem junE_any (d : Int) : ∀ (xs : List EV) (op : Bool), (∃ x ∈ xs, x.ok = true ∧ x.k = 1 ∧ x.n = d) → junE d xs op = truthE (decide (d = 1)) := by
  intro xs
  induction xs with
  | nil => rintro op ⟨x, hx, _⟩; cases hx
  | cons y xs ih =>
    rintro op ⟨x, hx, h1, h2, h3⟩
    simp only [junE]
    by_cases hy : y.ok = false ∨ y.k ≠ 1
    · rw [if_pos hy]
      rcases List.mem_cons.1 hx with rfl | hx
      · rcases hy with hy | hy
        · rw [h1] at hy; cases hy
        · exact absurd h2 hy
      · exact ih _ ⟨x, hx, h1, h2, h3⟩
    · rw [if_neg hy]
      by_cases hn : y.n = d
      · rw [if_pos hn]
      · rw [if_neg hn]
        rcases List.mem_cons.1 hx with rfl | hx
        · exact absurd h3 hn
        · exact ih _ ⟨x, hx, h1, h2, h3⟩
theorem junE_all (d d' : Int) (hd : d' ≠ d) : ∀ (xs : List EV), (∀ x ∈ xs, x.ok = true ∧ x.k = 1 ∧ x.n = d') → junE d xs false = truthE (decide (d = 0)) := by
  intro xs
  induction xs with
  | nil => intro _; rfl
  | cons y xs ih =>
    intro h
    obtain ⟨h1, h2, h3⟩ := h y List.mem_cons_self
    simp only [junE]
    rw [if_neg (by rw [h1, h2]; simp), if_neg (by rw [h3]; exact hd)]
    exact ih (fun x hx => h x (List.mem_cons_of_mem _ hx))

theorem findS_lit (V : LView) (h : Hd) (ks : List LExpr) (hk : h.kind = 1) : findS V (.mk h ks) = ⟨h.vk, h.vn, h.vs, true⟩ := by simp only [findS, nodeE, if_pos hk]
theorem isLit_iff {h : Hd} {n : Int} : isLit h n = true ↔ h.kind = 1 ∧ h.vk = 1 ∧ h.vn = n := by simp [isLit]
theorem findS_isLit (V : LView) (k : LExpr) {d : Int} (h : isLit k.hd d = true) : (findS V k).ok = true ∧ (findS V k).k = 1 ∧ (findS V k).n = d := by
  obtain ⟨h0, ks⟩ := k
  change isLit h0 d = true at h
  obtain ⟨h1, h2, h3⟩ := isLit_iff.1 h
  rw [findS_lit V h0 ks h1]
  exact ⟨rfl, h2, h3⟩
theorem findS_litB (V : LView) (b : Bool) : findS V (.mk (litB b) []) = truthE b := by
  rw [findS_lit V _ _ (by cases b <;> rfl)]; cases b <;> rfl
theorem findS_numH (V : LView) (n : Int) : findS V (.mk (numH n) []) = ⟨2, n, noStr, true⟩ := findS_lit V _ _ rfl
theorem lit0_check (b : Bool) : nodeCheck (litB b) 0 = 0 := by cases b <;> kernel_rfl
theorem numH_check (n : Int) (h : -1099511627776 ≤ n ∧ n ≤ 1099511627776) : nodeCheck (numH n) 0 = 0 := by
  have h1 : kidsOk (1 : Int) ((0 : Nat) : Int) := .inr (.inr (.inr (.inr ⟨by omega, rfl⟩)))
  have h2 : valCheck 2 n noStr = 0 := by
    have : valOk 2 n := .inr (.inr (.inl ⟨rfl, h⟩))
    unfold valCheck
    rw [if_neg (by decide), if_neg (fun h' => h' this)]
    rfl
  unfold nodeCheck
  have e1 : (numH n).kind = 1 := rfl
  have e2 : (numH n).spareB = true := by kernel_rfl
  have e3 : (numH n).rangesB = true := by kernel_rfl
  have e4 : valCheck (numH n).vk (numH n).vn (numH n).vs = 0 := h2
  rw [e1, e2, e3, e4, if_neg (by decide), if_neg (by simpa using h1)]
  simp [numH]
theorem satI_range (n : Int) : -1099511627776 ≤ satI n ∧ satI n ≤ 1099511627776 := by unfold satI; repeat' split <;> omega

theorem pick_range (p q : Prop) [Decidable p] [Decidable q] (a b c : Int) : -1099511627776 ≤ (if p then satI a else if q then satI b else satI c) ∧ (if p then satI a else if q then satI b else satI c) ≤ 1099511627776 := by
  by_cases h1 : p
  · rw [if_pos h1]; exact satI_range a
  · rw [if_neg h1]
    by_cases h2 : q
    · rw [if_pos h2]; exact satI_range b
    · rw [if_neg h2]; exact satI_range c
theorem pick_num (p q : Prop) [Decidable p] [Decidable q] (a b c : Int) : (⟨2, if p then a else if q then b else c, noStr, true⟩ : EV) = if p then ⟨2, a, noStr, true⟩ else if q then ⟨2, b, noStr, true⟩ else ⟨2, c, noStr, true⟩ := by
  by_cases h1 : p
  · simp only [if_pos h1]
  · simp only [if_neg h1]
    by_cases h2 : q
    · simp only [if_pos h2]
    · simp only [if_neg h2]
/-- The fold of a node keeps its value, its being well made, and makes it no bigger. -/
def GoodF (V : LView) (e e' : LExpr) : Prop := findS V e' = findS V e ∧ okE e' ∧ sizeE e' ≤ sizeE e ∧ depthE e' ≤ depthE e
theorem sizeE_pos (e : LExpr) : 1 ≤ sizeE e := by cases e; simp [sizeE]
theorem depthE_pos (e : LExpr) : 1 ≤ depthE e := by cases e; simp [depthE]
theorem sizeL_mem : ∀ {ks : List LExpr} {k : LExpr}, k ∈ ks → sizeE k ≤ sizeL ks ∧ depthE k ≤ depthL ks
  | [], k, h => by cases h
  | x :: ks, k, h => by
    simp only [sizeL, depthL]
    rcases List.mem_cons.1 h with rfl | h
    · omega
    · have := sizeL_mem h; omega
theorem good_leaf (V : LView) (e : LExpr) (h : Hd) (hc : nodeCheck h 0 = 0) (hv : findS V (.mk h []) = findS V e) : GoodF V e (.mk h []) :=
  ⟨hv, by rw [okE]; exact ⟨hc, fun k hk => by cases hk⟩, by have := sizeE_pos e; simp only [sizeE, sizeL]; omega, by have := depthE_pos e; simp only [depthE, depthL]; omega⟩
theorem good_kid (V : LView) (h : Hd) (ks : List LExpr) (k : LExpr) (hk : k ∈ ks) (ho : ∀ k ∈ ks, okE k) (hv : findS V k = findS V (.mk h ks)) : GoodF V (.mk h ks) k :=
  ⟨hv, ho k hk, by have := (sizeL_mem hk).1; simp only [sizeE]; omega, by have := (sizeL_mem hk).2; simp only [depthE]; omega⟩
theorem getL (V : LView) (ks : List LExpr) (i : Nat) (hi : i < ks.length) : (findL V ks).getD i unknownE = findS V (kid ks i) := by
  rw [List.getD_eq_getElem?_getD, List.getElem?_eq_getElem (by rw [findL_len]; exact hi)]
  rw [kid, List.getD_eq_getElem?_getD, List.getElem?_eq_getElem hi]
  exact findL_get V ks i hi
theorem kid_mem {ks : List LExpr} {i : Nat} (hi : i < ks.length) : kid ks i ∈ ks := by
  rw [kid, List.getD_eq_getElem?_getD, List.getElem?_eq_getElem hi]; exact List.getElem_mem hi
theorem findL_mem (V : LView) : ∀ {ks : List LExpr} {x : EV}, x ∈ findL V ks → ∃ k ∈ ks, x = findS V k
  | [], x, h => by simp [findL] at h
  | k :: ks, x, h => by
    simp only [findL] at h
    rcases List.mem_cons.1 h with rfl | h
    · exact ⟨k, List.mem_cons_self, rfl⟩
    · obtain ⟨k', h1, h2⟩ := findL_mem V h; exact ⟨k', List.mem_cons_of_mem _ h1, h2⟩
theorem mem_findL (V : LView) : ∀ {ks : List LExpr} {k : LExpr}, k ∈ ks → findS V k ∈ findL V ks
  | [], k, h => by cases h
  | x :: ks, k, h => by
    simp only [findL]
    rcases List.mem_cons.1 h with rfl | h
    · exact List.mem_cons_self
    · exact List.mem_cons_of_mem _ (mem_findL V h)

theorem good_jun (V : LView) (d : Int) (hd : d = 0 ∨ d = 1) (h : Hd) (ks : List LExpr) (hk : h.kind = 7 + d) (hself : GoodF V (.mk h ks) (.mk h ks)) : GoodF V (.mk h ks) (junF d (.mk h ks)) := by
  have hv : findS V (.mk h ks) = junE d (findL V ks) false := by
    simp only [findS, nodeE]
    rcases hd with rfl | rfl <;> simp [hk]
  rw [junF_eq]
  by_cases h1 : ks.any (fun k => isLit k.hd d) = true
  · rw [if_pos h1]
    refine good_leaf V _ _ (lit0_check _) ?_
    obtain ⟨k, hk1, hk2⟩ := List.any_eq_true.1 h1
    rw [findS_litB, hv, junE_any d _ _ ⟨_, mem_findL V hk1, findS_isLit V k hk2⟩]
    rcases hd with rfl | rfl <;> rfl
  · rw [if_neg h1]
    by_cases h2 : ks.all (fun k => isLit k.hd (1 - d)) = true
    · rw [if_pos h2]
      refine good_leaf V _ _ (lit0_check _) ?_
      rw [findS_litB, hv, junE_all d (1 - d) (by omega) _ (fun x hx => by
        obtain ⟨k, hk1, rfl⟩ := findL_mem V hx
        exact findS_isLit V k (List.all_eq_true.1 h2 k hk1))]
      rcases hd with rfl | rfl <;> rfl
    · rw [if_neg h2]; exact hself

theorem kids_two {k : Int} (hk : 9 ≤ k ∧ k ≤ 13) {n : Nat} (h : kidsOk k n) : n = 2 := by
  unfold kidsOk at h; grind
theorem kids_one {n : Nat} (h : kidsOk 6 n) : n = 1 := by
  unfold kidsOk at h; grind
theorem kids_three {n : Nat} (h : kidsOk 14 n) : n = 3 := by
  unfold kidsOk at h; grind

theorem good_node (V : LView) (h : Hd) (ks : List LExpr) (hc : nodeCheck h ks.length = 0) (ho : ∀ k ∈ ks, okE k) : GoodF V (.mk h ks) (foldN (.mk h ks)) := by
  have hself : GoodF V (.mk h ks) (.mk h ks) := ⟨rfl, by rw [okE]; exact ⟨hc, ho⟩, Nat.le_refl _, Nat.le_refl _⟩
  have hko := kidsOf hc
  rw [foldN_eq]
  by_cases k6 : h.kind = 6
  · rw [if_pos k6]
    rw [k6] at hko
    have hl := kids_one hko
    have hv : findS V (.mk h ks) = notE (findS V (kid ks 0)) := by
      simp only [findS, nodeE, k6, notE]
      rw [getL V ks 0 (by omega)]; rfl
    by_cases hlit : (isLit (kid ks 0).hd 0 || isLit (kid ks 0).hd 1) = true
    · rw [if_pos hlit]
      refine good_leaf V _ _ (lit0_check _) ?_
      rw [findS_litB, hv]
      rcases Bool.eq_false_or_eq_true (isLit (kid ks 0).hd 0) with h0 | h0
      · rw [h0]
        obtain ⟨a, b, c⟩ := findS_isLit V _ h0
        unfold notE
        rw [a, b, c]; rfl
      · rw [h0] at hlit ⊢
        obtain ⟨a, b, c⟩ := findS_isLit V (kid ks 0) (d := 1) (by simpa using hlit)
        unfold notE
        rw [a, b, c]; rfl
    · rw [if_neg hlit]; exact hself
  rw [if_neg k6]
  by_cases k7 : h.kind = 7
  · rw [if_pos k7]; exact good_jun V 0 (.inl rfl) h ks (by omega) hself
  rw [if_neg k7]
  by_cases k8 : h.kind = 8
  · rw [if_pos k8]; exact good_jun V 1 (.inr rfl) h ks (by omega) hself
  rw [if_neg k8]
  by_cases k9 : 9 ≤ h.kind ∧ h.kind ≤ 13
  · rw [if_pos k9]
    have hl := kids_two k9 hko
    obtain ⟨k0, k1, rfl⟩ := len2 hl
    have e0 : kid [k0, k1] 0 = k0 := rfl
    have e1 : kid [k0, k1] 1 = k1 := rfl
    rw [e0, e1]
    have hv : ∀ (x0 x1 : EV), findS V k0 = x0 → findS V k1 = x1 → x0.ok = true → x1.ok = true → findS V (.mk h [k0, k1]) = opE h.kind x0.k x0.n x0.s x1.k x1.n x1.s := by
      rintro x0 x1 rfl rfl o0 o1
      simp only [findS, findL, nodeE]
      rw [if_neg (by omega), if_neg (by omega), if_neg (by omega), if_neg (by omega), if_neg (by omega), if_neg (by omega), if_neg (by omega), if_neg (by omega), if_neg (by omega), if_neg (by omega)]
      simp [o0, o1]
    obtain ⟨h0, kk0⟩ := k0
    obtain ⟨h1, kk1⟩ := k1
    rw [binF_eq]
    change GoodF V (.mk h [.mk h0 kk0, .mk h1 kk1]) (if h.kind = 9 then (if h0.kind = 1 ∧ h1.kind = 1 then .mk (litB (eqV h0 h1)) [] else .mk h [.mk h0 kk0, .mk h1 kk1])
      else if isNum h0 = false ∨ isNum h1 = false then .mk h [.mk h0 kk0, .mk h1 kk1]
      else if h.kind = 10 then .mk (litB (decide (h0.vn < h1.vn))) []
      else .mk (numH (if h.kind = 11 then satI (h0.vn + h1.vn) else if h.kind = 12 then satI (h0.vn - h1.vn) else satI (h0.vn * h1.vn))) [])
    by_cases q9 : h.kind = 9
    · rw [if_pos q9]
      by_cases hl2 : h0.kind = 1 ∧ h1.kind = 1
      · rw [if_pos hl2]
        refine good_leaf V _ _ (lit0_check _) ?_
        rw [findS_litB, hv _ _ (findS_lit V _ _ hl2.1) (findS_lit V _ _ hl2.2) rfl rfl, opE, if_pos q9]; rfl
      · rw [if_neg hl2]; exact hself
    rw [if_neg q9]
    by_cases hn : isNum h0 = false ∨ isNum h1 = false
    · rw [if_pos hn]; exact hself
    rw [if_neg hn]
    have n0 : h0.kind = 1 ∧ h0.vk = 2 := by
      cases hh : isNum h0 with
      | false => exact absurd (.inl hh) hn
      | true => simpa [isNum] using hh
    have n1 : h1.kind = 1 ∧ h1.vk = 2 := by
      cases hh : isNum h1 with
      | false => exact absurd (.inr hh) hn
      | true => simpa [isNum] using hh
    have hv2 := hv _ _ (findS_lit V h0 kk0 n0.1) (findS_lit V h1 kk1 n1.1) rfl rfl
    simp only [opE, if_neg q9, n0.2, n1.2] at hv2
    rw [if_neg (by decide)] at hv2
    by_cases q10 : h.kind = 10
    · rw [if_pos q10] at hv2 ⊢
      refine good_leaf V _ _ (lit0_check _) ?_
      rw [findS_litB, hv2]; try rfl
    · rw [if_neg q10] at hv2 ⊢
      refine good_leaf V _ _ (numH_check _ (pick_range _ _ _ _ _)) ?_
      rw [findS_numH, hv2]
      exact pick_num _ _ _ _ _
  rw [if_neg k9]
  by_cases k14 : h.kind = 14
  · rw [if_pos k14]
    rw [k14] at hko
    have hl := kids_three hko
    have hv : findS V (.mk h ks) = (if (findS V (kid ks 0)).ok = false ∨ (findS V (kid ks 0)).k ≠ 1 then unknownE else if (findS V (kid ks 0)).n = 1 then findS V (kid ks 1) else findS V (kid ks 2)) := by
      simp only [findS, nodeE, k14]
      rw [getL V ks 0 (by omega), getL V ks 1 (by omega), getL V ks 2 (by omega)]; rfl
    by_cases l1 : isLit (kid ks 0).hd 1 = true
    · rw [if_pos l1]
      refine good_kid V h ks _ (kid_mem (by omega)) ho ?_
      obtain ⟨a, b, c⟩ := findS_isLit V _ l1
      rw [hv, a, b, c]; rfl
    · rw [if_neg l1]
      by_cases l0 : isLit (kid ks 0).hd 0 = true
      · rw [if_pos l0]
        refine good_kid V h ks _ (kid_mem (by omega)) ho ?_
        obtain ⟨a, b, c⟩ := findS_isLit V _ l0
        rw [hv, a, b, c]; rfl
      · rw [if_neg l0]; exact hself
  rw [if_neg k14]; exact hself

theorem good_reb (V : LView) (e : LExpr) : okE e → GoodF V e (rebE foldN e) := by
  induction e using LExpr.ind with | _ h ks ih => ?_
  intro hok
  rw [okE] at hok
  have hL : ∀ l : List LExpr, (∀ k ∈ l, GoodF V k (rebE foldN k)) → findL V (l.map (rebE foldN)) = findL V l ∧ sizeL (l.map (rebE foldN)) ≤ sizeL l ∧ depthL (l.map (rebE foldN)) ≤ depthL l := by
    intro l
    induction l with
    | nil => intro _; exact ⟨rfl, Nat.le_refl _, Nat.le_refl _⟩
    | cons k l ihl =>
      intro hg
      obtain ⟨g1, g2, g3, g4⟩ := hg k List.mem_cons_self
      obtain ⟨i1, i2, i3⟩ := ihl (fun k hk => hg k (List.mem_cons_of_mem _ hk))
      simp only [List.map_cons, findL, sizeL, depthL]
      exact ⟨by rw [g1, i1], by omega, by omega⟩
  have hg : ∀ k ∈ ks, GoodF V k (rebE foldN k) := fun k hk => by
    have := hok.2 k hk
    obtain ⟨i, hi, rfl⟩ := List.getElem_of_mem hk
    exact ih i hi this
  obtain ⟨l1, l2, l3⟩ := hL ks hg
  rw [rebE, rebL_eq]
  obtain ⟨n1, n2, n3, n4⟩ := good_node V h (ks.map (rebE foldN)) (by rw [List.length_map]; exact hok.1) (fun k hk => by obtain ⟨k', hk', rfl⟩ := List.mem_map.1 hk; exact (hg k' hk').2.1)
  refine ⟨n1.trans ?_, n2, Nat.le_trans n3 ?_, Nat.le_trans n4 ?_⟩
  · simp only [findS, l1]
  · simp only [sizeE]; omega
  · simp only [depthE]; omega

theorem evalE_fold (V : LView) (e : LExpr) : evalE V (foldE e) = evalE V e := by
  unfold foldE
  by_cases h0 : checkE e = 0
  · rw [if_pos h0]
    obtain ⟨h1, h2, h3⟩ := (checkE_iff e).1 h0
    obtain ⟨g1, g2, g3, g4⟩ := good_reb V e h1
    rw [evalE, evalE, if_pos h0, if_pos ((checkE_iff _).2 ⟨g2, by omega, by omega⟩), g1]
  · rw [if_neg h0]

end Go.Proofs.Ytnelgblmogciiaa
