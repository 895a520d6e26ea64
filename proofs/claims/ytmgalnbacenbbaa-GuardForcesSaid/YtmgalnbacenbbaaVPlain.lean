/- Resolve: plain data and the orders; all that is asked of them. -/
import Derived.Test.YtmgalnbacenbbaaRelyD
set_option linter.unusedSimpArgs false
set_option linter.unusedVariables false
namespace Go.Proofs.Ytmgalnbacenbbaa
open Go.RowKit

/-- A strict total order. -/
structure STO {α : Type} (lt : α → α → Bool) : Prop where
  irrefl : ∀ a, lt a a = false
  trans : ∀ a b c, lt a b = true → lt b c = true → lt a c = true
  tri : ∀ a b, lt a b = false → a ≠ b → lt b a = true
theorem STO.asym {α : Type} {lt : α → α → Bool} (h : STO lt) {a b : α} (hab : lt a b = true) : lt b a = false := by
  rcases Bool.eq_false_or_eq_true (lt b a) with h' | h'
  · have := h.trans _ _ _ hab h'
    rw [h.irrefl] at this
    cases this
  · exact h'
theorem STO.ne {α : Type} {lt : α → α → Bool} (h : STO lt) {a b : α} (hab : lt a b = true) : a ≠ b := fun e => by
  subst e; rw [h.irrefl] at hab; cases hab
/-- One order ahead of another one. -/
def lexP {α β : Type} [DecidableEq α] (l1 : α → α → Bool) (l2 : β → β → Bool) (a b : α × β) : Bool := if a.1 ≠ b.1 then l1 a.1 b.1 else l2 a.2 b.2
theorem STO.lex {α β : Type} [DecidableEq α] {l1 : α → α → Bool} {l2 : β → β → Bool} (h1 : STO l1) (h2 : STO l2) : STO (lexP l1 l2) where
  irrefl a := by simp [lexP, h2.irrefl]
  trans a b c hab hbc := by
    obtain ⟨a1, a2⟩ := a
    obtain ⟨b1, b2⟩ := b
    obtain ⟨c1, c2⟩ := c
    simp only [lexP] at *
    by_cases e1 : a1 = b1
    · by_cases e2 : b1 = c1
      · subst e1 e2
        simp only [ne_eq, not_true_eq_false, if_false] at *
        exact h2.trans _ _ _ hab hbc
      · subst e1
        rw [if_pos e2] at hbc ⊢
        exact hbc
    · rw [if_pos e1] at hab
      by_cases e2 : b1 = c1
      · subst e2
        rw [if_pos e1]; exact hab
      · rw [if_pos e2] at hbc
        have := h1.trans _ _ _ hab hbc
        rw [if_pos (h1.ne this)]; exact this
  tri a b hab hne := by
    obtain ⟨a1, a2⟩ := a
    obtain ⟨b1, b2⟩ := b
    simp only [lexP] at *
    by_cases e1 : a1 = b1
    · subst e1
      simp only [ne_eq, not_true_eq_false, if_false] at *
      exact h2.tri _ _ hab (fun e => hne (by rw [e]))
    · rw [if_pos e1] at hab
      rw [if_pos (fun e => e1 e.symm)]
      exact h1.tri _ _ hab e1
theorem STO.by {α β : Type} {lt : β → β → Bool} (h : STO lt) (f : α → β) (hf : ∀ a b, f a = f b → a = b) : STO (fun a b => lt (f a) (f b)) where
  irrefl a := h.irrefl _
  trans a b c := h.trans _ _ _
  tri a b hab hne := h.tri _ _ hab (fun e => hne (hf _ _ e))
theorem STO.flip {α : Type} {lt : α → α → Bool} (h : STO lt) : STO (fun a b => lt b a) where
  irrefl a := h.irrefl _
  trans a b c hab hbc := h.trans _ _ _ hbc hab
  tri a b hab hne := h.tri _ _ hab (fun e => hne e.symm)
def ltI (a b : Int) : Bool := decide (a < b)
def gtI (a b : Int) : Bool := decide (b < a)
theorem sto_ltI : STO ltI where
  irrefl a := by simp [ltI]
  trans a b c := by simp only [ltI, decide_eq_true_eq]; omega
  tri a b := by simp only [ltI, decide_eq_true_eq, decide_eq_false_iff_not]; omega
theorem sto_gtI : STO gtI := sto_ltI.flip
theorem bl_eq : ∀ (x y : List UInt8), Op.bytesLess x y = decide (x < y)
  | [], [] => by simp [Op.bytesLess]
  | _ :: _, [] => by simp [Op.bytesLess]
  | [], _ :: _ => by simp [Op.bytesLess]
  | a :: x, b :: y => by
    rw [Op.bytesLess, bl_eq x y]
    simp only [List.cons_lt_cons_iff]
    by_cases h1 : a < b <;> by_cases h2 : a = b <;> by_cases h3 : x < y <;> simp [h1, h2, h3]
def ltB (a b : ByteArray) : Bool := Op.bytesLess a.toList b.toList
theorem sto_ltB : STO ltB where
  irrefl a := by rw [ltB, bl_eq]; simp [List.lt_irrefl]
  trans a b c h1 h2 := by
    rw [ltB, bl_eq, decide_eq_true_eq] at *
    exact List.lt_trans h1 h2
  tri a b h1 h2 := by
    rw [ltB, bl_eq, decide_eq_false_iff_not] at h1
    rw [ltB, bl_eq, decide_eq_true_eq]
    rcases List.le_total a.toList b.toList with h | h
    · exact absurd ((toList_inj _ _).1 (List.le_antisymm h (List.not_lt.1 h1))) h2
    · exact List.not_le.1 fun h' => h2 ((toList_inj _ _).1 (List.le_antisymm h' h))

structure LKey where
  dev : Int
  cl : ByteArray
  at_ : ByteArray
deriving DecidableEq
structure LVal where
  k : Int
  n : Int
  s : ByteArray
deriving DecidableEq
structure LW where
  key : LKey
  val : LVal
  ck : Int
  cn : ByteArray
  cp : Int
  ord : Int
deriving DecidableEq
def kC (k : LKey) : List Value := [.int .i64 k.dev, .string k.cl, .string k.at_]
def vC (v : LVal) : List Value := [.int .i64 v.k, .int .i64 v.n, .string v.s]
def wC (x : LW) : List Value := [.int .i64 x.key.dev, .string x.key.cl, .string x.key.at_, .int .i64 x.val.k, .int .i64 x.val.n, .string x.val.s, .int .i64 x.ck, .string x.cn, .int .i64 x.cp, .int .i64 x.ord]

/-- The order of keys, of values, of precedence. -/
def kless (a b : LKey) : Bool := if a.dev ≠ b.dev then ltI a.dev b.dev else if a.cl ≠ b.cl then ltB a.cl b.cl else ltB a.at_ b.at_
def vless (a b : LVal) : Bool := if a.k ≠ b.k then ltI a.k b.k else if a.n ≠ b.n then ltI a.n b.n else ltB a.s b.s
def bef (a b : LW) : Bool :=
  if a.ck ≠ b.ck then gtI a.ck b.ck
  else if a.cp ≠ b.cp then gtI a.cp b.cp
  else if a.cn ≠ b.cn then ltB a.cn b.cn
  else if a.ord ≠ b.ord then gtI a.ord b.ord
  else if a.val ≠ b.val then vless a.val b.val
  else kless a.key b.key
theorem sto_kless : STO kless :=
  (sto_ltI.lex (sto_ltB.lex sto_ltB)).by (fun k : LKey => (k.dev, k.cl, k.at_)) (fun a b h => by
    obtain ⟨a1, a2, a3⟩ := a; obtain ⟨b1, b2, b3⟩ := b
    simp only [Prod.mk.injEq] at h; obtain ⟨rfl, rfl, rfl⟩ := h; rfl)
theorem sto_vless : STO vless :=
  (sto_ltI.lex (sto_ltI.lex sto_ltB)).by (fun k : LVal => (k.k, k.n, k.s)) (fun a b h => by
    obtain ⟨a1, a2, a3⟩ := a; obtain ⟨b1, b2, b3⟩ := b
    simp only [Prod.mk.injEq] at h; obtain ⟨rfl, rfl, rfl⟩ := h; rfl)
theorem sto_bef : STO bef :=
  (sto_gtI.lex (sto_gtI.lex (sto_ltB.lex (sto_gtI.lex (sto_vless.lex sto_kless))))).by (fun x : LW => (x.ck, x.cp, x.cn, x.ord, x.val, x.key)) (fun a b h => by
    obtain ⟨a1, a2, a3, a4, a5, a6⟩ := a; obtain ⟨b1, b2, b3, b4, b5, b6⟩ := b
    simp only [Prod.mk.injEq] at h; obtain ⟨rfl, rfl, rfl, rfl, rfl, rfl⟩ := h; rfl)
/-- The order of Decide: by keys, then by precedence. -/
def wless (a b : LW) : Bool := if a.key ≠ b.key then kless a.key b.key else bef a b
theorem sto_wless : STO wless := (sto_kless.lex sto_bef).by (fun x : LW => (x.key, x)) (fun a b h => (Prod.mk.inj h).2)

/-- A comparison's result. -/
def cmpI {α : Type} (lt : α → α → Bool) (a b : α) : Int := if lt a b then -1 else if lt b a then 1 else 0
theorem cmpI_zero {α : Type} {lt : α → α → Bool} (h : STO lt) (a b : α) : cmpI lt a b = 0 ↔ a = b := by
  unfold cmpI
  constructor
  · intro h0
    by_cases e : a = b
    · exact e
    · rcases Bool.eq_false_or_eq_true (lt a b) with h1 | h1
      · rw [if_pos h1] at h0; cases h0
      · rw [h1, h.tri _ _ h1 e] at h0; cases h0
  · rintro rfl; rw [h.irrefl]; rfl
theorem cmpI_neg {α : Type} {lt : α → α → Bool} (a b : α) : cmpI lt a b < 0 ↔ lt a b = true := by
  unfold cmpI
  split
  · rename_i h; simp [h]
  · rename_i h; split <;> simp [h]
theorem cmpI_lex {α β : Type} [DecidableEq α] {l1 : α → α → Bool} {l2 : β → β → Bool} (h1 : STO l1) (a b : α × β) : cmpI (lexP l1 l2) a b = if cmpI l1 a.1 b.1 ≠ 0 then cmpI l1 a.1 b.1 else cmpI l2 a.2 b.2 := by
  by_cases e : a.1 = b.1
  · rw [if_neg (by rw [ne_eq, Classical.not_not, cmpI_zero h1]; exact e)]
    unfold cmpI lexP
    simp [e]
  · rw [if_pos (by rw [ne_eq, cmpI_zero h1]; exact e)]
    have e' : ¬ b.1 = a.1 := fun h => e h.symm
    unfold cmpI lexP
    simp [e, e']
def rankI (a b : LW) : Int := cmpI bef a b
theorem rank_chain (a b : LW) : rankI a b =
    if cmpI gtI a.ck b.ck ≠ 0 then cmpI gtI a.ck b.ck else if cmpI gtI a.cp b.cp ≠ 0 then cmpI gtI a.cp b.cp else if cmpI ltB a.cn b.cn ≠ 0 then cmpI ltB a.cn b.cn
    else if cmpI gtI a.ord b.ord ≠ 0 then cmpI gtI a.ord b.ord else if cmpI vless a.val b.val ≠ 0 then cmpI vless a.val b.val else cmpI kless a.key b.key := by
  have h : rankI a b = cmpI (lexP gtI (lexP gtI (lexP ltB (lexP gtI (lexP vless kless))))) (a.ck, a.cp, a.cn, a.ord, a.val, a.key) (b.ck, b.cp, b.cn, b.ord, b.val, b.key) := rfl
  rw [h, cmpI_lex sto_gtI, cmpI_lex sto_gtI, cmpI_lex sto_ltB, cmpI_lex sto_gtI, cmpI_lex sto_vless]
def ordI (a b : LW) : Int := cmpI wless a b
theorem ord_chain (a b : LW) : ordI a b = if cmpI kless a.key b.key ≠ 0 then cmpI kless a.key b.key else rankI a b := by
  have h : ordI a b = cmpI (lexP kless bef) (a.key, a) (b.key, b) := rfl
  rw [h, cmpI_lex sto_kless]; rfl

/-- Two lists in strict order with the same members are equal. -/
theorem sorted_ext {α : Type} {lt : α → α → Bool} (h : STO lt) : ∀ (l m : List α), l.Pairwise (fun a b => lt a b = true) → m.Pairwise (fun a b => lt a b = true) → (∀ x, x ∈ l ↔ x ∈ m) → l = m
  | [], [], _, _, _ => rfl
  | [], b :: m, _, _, he => absurd ((he b).2 (by simp)) (by simp)
  | a :: l, [], _, _, he => absurd ((he a).1 (by simp)) (by simp)
  | a :: l, b :: m, hl, hm, he => by
    obtain ⟨hl1, hl2⟩ := List.pairwise_cons.1 hl
    obtain ⟨hm1, hm2⟩ := List.pairwise_cons.1 hm
    have hab : a = b := by
      rcases List.mem_cons.1 ((he a).1 (by simp)) with e | e
      · exact e
      · rcases List.mem_cons.1 ((he b).2 (by simp)) with e' | e'
        · exact e'.symm
        · have h1 := hm1 _ e
          have h2 := hl1 _ e'
          rw [h.asym h1] at h2; cases h2
    subst hab
    rw [sorted_ext h l m hl2 hm2 (fun x => ⟨fun hx => by
      rcases List.mem_cons.1 ((he x).1 (by simp [hx])) with e | e
      · subst e; have := hl1 _ hx; rw [h.irrefl] at this; cases this
      · exact e, fun hx => by
      rcases List.mem_cons.1 ((he x).2 (by simp [hx])) with e | e
      · subst e; have := hm1 _ hx; rw [h.irrefl] at this; cases this
      · exact e⟩)]

/-- A decision. -/
structure LD where
  key : LKey
  win : LW
  los : List LW
  err : Int
deriving DecidableEq
def LD.all (d : LD) : List LW := d.win :: d.los
/-- The decisions about the writes of which S holds. -/
structure Good (S : LW → Prop) (ds : List LD) : Prop where
  keys : ds.Pairwise (fun a b => kless a.key b.key = true)
  err : ∀ d ∈ ds, d.err = 0
  ord : ∀ d ∈ ds, d.all.Pairwise (fun a b => bef a b = true)
  key : ∀ d ∈ ds, ∀ x ∈ d.all, x.key = d.key
  sound : ∀ d ∈ ds, ∀ x ∈ d.all, S x
  full : ∀ x, S x → ∃ d ∈ ds, x ∈ d.all
theorem Good.of_key {S : LW → Prop} {ds : List LD} (h : Good S ds) {d d' : LD} (hd : d ∈ ds) (hd' : d' ∈ ds) (he : d.key = d'.key) : d = d' := by
  obtain ⟨i, hi, rfl⟩ := List.getElem_of_mem hd
  obtain ⟨j, hj, rfl⟩ := List.getElem_of_mem hd'
  rcases Nat.lt_trichotomy i j with hij | hij | hij
  · have := List.pairwise_iff_getElem.1 h.keys i j hi hj hij
    rw [he, sto_kless.irrefl] at this; cases this
  · subst hij; rfl
  · have := List.pairwise_iff_getElem.1 h.keys j i hj hi hij
    rw [he, sto_kless.irrefl] at this; cases this
theorem Good.mem {S : LW → Prop} {ds : List LD} (h : Good S ds) {d : LD} (hd : d ∈ ds) (x : LW) : x ∈ d.all ↔ S x ∧ x.key = d.key := by
  constructor
  · exact fun hx => ⟨h.sound d hd x hx, h.key d hd x hx⟩
  · rintro ⟨hs, hk⟩
    obtain ⟨d', hd', hx⟩ := h.full x hs
    rw [h.of_key hd hd' (by rw [← hk, h.key d' hd' x hx])]
    exact hx
theorem Good.unique {S : LW → Prop} {ds ds' : List LD} (h : Good S ds) (h' : Good S ds') : ds = ds' := by
  have hk : ds.map LD.key = ds'.map LD.key := by
    refine sorted_ext sto_kless _ _ (List.pairwise_map.2 h.keys) (List.pairwise_map.2 h'.keys) (fun k => ?_)
    simp only [List.mem_map]
    constructor
    · rintro ⟨d, hd, rfl⟩
      have hw : d.win ∈ d.all := by simp [LD.all]
      obtain ⟨d', hd', hx⟩ := h'.full d.win (h.sound d hd _ hw)
      exact ⟨d', hd', by rw [← h'.key d' hd' _ hx, h.key d hd _ hw]⟩
    · rintro ⟨d, hd, rfl⟩
      have hw : d.win ∈ d.all := by simp [LD.all]
      obtain ⟨d', hd', hx⟩ := h.full d.win (h'.sound d hd _ hw)
      exact ⟨d', hd', by rw [← h.key d' hd' _ hx, h'.key d hd _ hw]⟩
  have hl : ds.length = ds'.length := by have := congrArg List.length hk; simpa using this
  refine List.ext_getElem hl (fun i h1 h2 => ?_)
  have hki : ds[i].key = ds'[i].key := by
    have e1 : (ds.map LD.key)[i]'(by simpa using h1) = (ds'.map LD.key)[i]'(by simpa using h2) := by simp only [hk]
    simpa using e1
  have hm1 := List.getElem_mem h1
  have hm2 := List.getElem_mem h2
  have hall : ds[i].all = ds'[i].all := sorted_ext sto_bef _ _ (h.ord _ hm1) (h'.ord _ hm2) (fun x => by rw [h.mem hm1, h'.mem hm2, hki])
  have he1 := h.err _ hm1
  have he2 := h'.err _ hm2
  revert hki hall he1 he2
  generalize ds[i] = d
  generalize ds'[i] = d'
  obtain ⟨a1, a2, a3, a4⟩ := d
  obtain ⟨b1, b2, b3, b4⟩ := d'
  rintro rfl hall rfl rfl
  simp only [LD.all, List.cons.injEq] at hall
  obtain ⟨rfl, rfl⟩ := hall
  rfl
end Go.Proofs.Ytmgalnbacenbbaa
