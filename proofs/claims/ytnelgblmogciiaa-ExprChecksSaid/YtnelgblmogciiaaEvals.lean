/- Views and the small functions of the evaluation. Is somebody at home; the value of an attribute; operations on two values. Operations on two values. -/
import Derived.Test.YtnelgblmogciiaaWalks
namespace Go.Proofs.Ytnelgblmogciiaa
section
set_option linter.unusedSimpArgs false
set_option linter.unusedVariables false
open Go.RowKit

/-- A slice of flat rows. -/
def IsRows (B : Nat) (w : World) (size : Nat) (rows : List (List Value)) (A : Option Addr) : Prop :=
  0 < rows.length → ∃ b off, A = some ⟨b, off, none⟩ ∧ b < B ∧ ∀ (i : Nat) (hi : i < rows.length), RowAt w b (off + i * size) rows[i]
theorem IsRows.carry {B : Nat} {w w' : World} {size : Nat} {rows : List (List Value)} {A : Option Addr} (h : IsRows B w size rows A) (hb : Below B w w') : IsRows B w' size rows A := fun h0 => by
  obtain ⟨b, off, hA, hB, hr⟩ := h h0
  exact ⟨b, off, hA, hB, fun i hi => (hr i hi).below hb hB⟩
theorem IsRows.mono {B B' : Nat} {w : World} {size : Nat} {rows : List (List Value)} {A : Option Addr} (h : IsRows B w size rows A) (hB : B ≤ B') : IsRows B' w size rows A := fun h0 => by
  obtain ⟨b, off, hA, hb, hr⟩ := h h0
  exact ⟨b, off, hA, by omega, hr⟩

structure LItem where
  dev : Int
  cl : ByteArray
  at_ : ByteArray
  vk : Int
  vn : Int
  vs : ByteArray
  ver : Int
def LItem.cells (x : LItem) : List Value := [.int .i64 x.dev, .string x.cl, .string x.at_, .int .i64 x.vk, .int .i64 x.vn, .string x.vs, .int .i64 x.ver]
structure LMember where
  name : ByteArray
  role : Int
  sa : Option Addr
  sl : Nat
  sc : Nat
  ra : Option Addr
  rl : Nat
  rc : Nat
  home : Bool
def LMember.cells (m : LMember) : List Value := [.string m.name, .int .i64 m.role, .slice m.sa m.sl m.sc, .slice m.ra m.rl m.rc, .bool m.home]
structure LView where
  items : List LItem
  mode : ByteArray
  minute : Int
  members : List LMember
/-- The cells of a view read as a view. -/
def IsView (B : Nat) (w : World) (V : LView) (cs : List Value) : Prop :=
  ∃ IA ic MA mc, cs = [.slice IA V.items.length ic, .string V.mode, .int .i64 V.minute, .slice MA V.members.length mc] ∧ IsRows B w 7 (V.items.map LItem.cells) IA ∧ IsRows B w 5 (V.members.map LMember.cells) MA ∧
    I64 V.minute ∧ V.items.length ≤ 140737488351232 ∧ V.members.length ≤ 140737488351232
theorem IsView.carry {B : Nat} {w w' : World} {V : LView} {cs : List Value} (h : IsView B w V cs) (hb : Below B w w') : IsView B w' V cs := by
  obtain ⟨IA, ic, MA, mc, e, h1, h2, h3⟩ := h
  exact ⟨IA, ic, MA, mc, e, h1.carry hb, h2.carry hb, h3⟩
theorem IsView.mono {B B' : Nat} {w : World} {V : LView} {cs : List Value} (h : IsView B w V cs) (hB : B ≤ B') : IsView B' w V cs := by
  obtain ⟨IA, ic, MA, mc, e, h1, h2, h3⟩ := h
  exact ⟨IA, ic, MA, mc, e, h1.mono hB, h2.mono hB, h3⟩

/-- A value, and whether it is known. -/
structure EV where
  k : Int
  n : Int
  s : ByteArray
  ok : Bool
abbrev EV.val (x : EV) : Value := .agg #[.int .i64 x.k, .int .i64 x.n, .string x.s]
abbrev EV.res (x : EV) : Value := .tuple #[.agg #[.int .i64 x.k, .int .i64 x.n, .string x.s], .bool x.ok]
def noStr : ByteArray := { data := #[] }
def bit (b : Bool) : Int := if b then 1 else 0
def truthE (b : Bool) : EV := ⟨1, bit b, noStr, true⟩
def unknownE : EV := ⟨0, 0, noStr, false⟩

set_option maxHeartbeats 400000 in
theorem truth_any (b : Bool) (w : World) : Calls Try.prog 69 #[.bool b] w fun r w' => r = .returned (.tuple #[.agg #[.int .i64 1, .int .i64 (bit b), .string noStr], .bool true]) ∧ Below w.heap.size w w' := by
  cases b
  all_goals
    go_enter Try.func69, Try.ntmps69
    go_wp2_with fail
    exact bodyPost_ret (v := .tuple #[.agg #[.int .i64 1, .int .i64 (bit _), .string noStr], .bool true]) (by simp [results, Try.results69, go_sem, bit, noStr]; try rfl) rfl ⟨rfl, by repeat (first | exact Below.refl _ _ | refine Below.al ?_ _)⟩

set_option maxHeartbeats 400000 in
theorem unknown_any (w : World) : Calls Try.prog 43 #[] w fun r w' => r = .returned (.tuple #[.agg #[.int .i64 0, .int .i64 0, .string noStr], .bool false]) ∧ Below w.heap.size w w' := by
  go_enter Try.func43, Try.ntmps43
  go_wp2_with fail
  exact bodyPost_ret (v := .tuple #[.agg #[.int .i64 0, .int .i64 0, .string noStr], .bool false]) (by simp [results, Try.results43, go_sem, noStr]; try rfl) rfl ⟨rfl, by repeat (first | exact Below.refl _ _ | refine Below.al ?_ _)⟩

/-- Is a minute of the day from one up to another one? -/
def duringP (t f u : Int) : Prop := if f < u then f ≤ t ∧ t < u else f = u ∨ f ≤ t ∨ t < u
instance (t f u : Int) : Decidable (duringP t f u) := by unfold duringP; infer_instance

set_option maxHeartbeats 400000 in
theorem during_any (t f u : Int) (w : World) : Calls Try.prog 70 #[.int .i64 t, .int .i64 f, .int .i64 u] w fun r w' => r = .returned (.bool (decide (duringP t f u))) ∧ w = w' := by
  go_enter Try.func70, Try.ntmps70
  go_wp2_with fail
  all_goals go_ret
  all_goals (refine ⟨ret_bool ?_, rfl⟩; refine bool_is ?_; go_tidy; unfold duringP; grind)
end

section
set_option linter.unusedSimpArgs false
set_option linter.unusedVariables false
open Go.RowKit

/-- Is a member with a role at home? -/
def homeB (l : List LMember) (role : Int) : Bool := l.any fun m => m.home && (decide (role = 0) || decide (m.role = role))
theorem homeB_drop {l : List LMember} {k : Nat} (hk : k < l.length) (role : Int) : homeB (l.drop k) role = ((l[k].home && (decide (role = 0) || decide (l[k].role = role))) || homeB (l.drop (k + 1)) role) := by
  rw [List.drop_eq_getElem_cons hk]; rfl

set_option maxHeartbeats 1000000 in
theorem home_any (l : List LMember) (A : Option Addr) (c : Nat) (role : Int) (B : Nat) (w : World) (hB : B ≤ w.heap.size) (hr : IsRows B w 5 (l.map LMember.cells) A) (hl : l.length ≤ 140737488351232) :
    Calls Try.prog 73 #[.slice A l.length c, .int .i64 role] w fun r w' => r = .returned (.bool (homeB l role)) ∧ Below w.heap.size w w' := by
  go_enter Try.func73, Try.ntmps73
  go_wp2_with fail
  go_loopw [6, 9] (fun _ i wr => ∃ k : Nat, k ≤ l.length ∧ i = .int .i64 k ∧ Hid (homeB l role = homeB (l.drop k) role) ∧ Below w.heap.size w wr) (fun _ i _ => l.length - (intOf i).toNat)
  case atStart => exact ⟨0, Nat.zero_le _, rfl, rfl, Below.refl _ _⟩
  case round =>
    obtain ⟨k, hkl, rfl, HH, hbw⟩ := hrel
    by_cases hlk : k < l.length
    · obtain ⟨b, off, rfl, hbB, hrow⟩ := hr (by simp; omega)
      have hr1 := (hrow k (by simpa using hlk)).below hbw (Nat.lt_of_lt_of_le hbB hB)
      have hst := Lib.hid (HH.out.trans (homeB_drop hlk role))
      simp only [List.getElem_map] at hr1
      clear HH hrow hr
      generalize l[k] = m at *
      obtain ⟨mn, mr, sa, sl, sc, ra, rl, rc, mh⟩ := m
      simp only [LMember.cells] at hr1
      cases mh
      all_goals
        go_wp2_with (with_reducible refine wpList_load_at rfl 94 _ rfl b (off + k * 5) rfl _ _ hr1 Try.underlying94 rfl (by kernel_rfl) ?_)
      all_goals first
        | (go_roundw
           (case rel => exact ⟨k + 1, by omega, by go_num, Lib.hid (by have := hst.out; grind), hbw.al _⟩)
           (case measure => (simp [intOf]; omega)))
        | (go_ret; exact ⟨ret_bool (by have := hst.out; grind), hbw.al _⟩)
        | (refine ⟨⟨k + 1, by omega, by go_num, Lib.hid (by have := hst.out; grind), hbw.al _⟩, by simp [intOf]; omega⟩)
    · go_wp2_with fail
      go_ret
      exact ⟨ret_bool (by rw [HH.out, List.drop_of_length_le (by omega)]; rfl), hbw⟩

/-- A block known whole. -/
def Blk (w : World) (g : Nat) (t : TypeId) (cs : Array Value) : Prop := w.heap[g]? = some (.cells cs t (0, 0))
theorem Blk.lt {w : World} {g : Nat} {t : TypeId} {cs : Array Value} (h : Blk w g t cs) : g < w.heap.size := (Array.getElem?_eq_some_iff.1 h).1
theorem Blk.cell {w : World} {g : Nat} {t : TypeId} {cs : Array Value} (h : Blk w g t cs) (i : Nat) : w.cell? ⟨g, i, none⟩ = cs[i]? := cell_of_row _ _ _ _ _ _ h
theorem Blk.free {w : World} {g : Nat} {t : TypeId} {cs : Array Value} (h : Blk w g t cs) (i : Nat) : w.frozen? ⟨g, i, none⟩ = false := frozen_of_row _ _ _ _ _ h
theorem Blk.alloc {w : World} {g : Nat} {t : TypeId} {cs : Array Value} (h : Blk w g t cs) (o : Obj) : Blk (w.alloc o) g t cs := (Below.heap_alloc w o g h.lt).trans h
theorem Blk.below {w w' : World} {g : Nat} {t : TypeId} {cs : Array Value} (h : Blk w g t cs) (hb : Below w.heap.size w w') : Blk w' g t cs := (hb.block g h.lt).trans h
theorem Blk.set {w : World} {g : Nat} {t : TypeId} {cs : Array Value} (h : Blk w g t cs) (i : Nat) (u : Value) : Blk (w.setCell ⟨g, i, none⟩ u) g t (cs.setIfInBounds i u) := heap_setCell_same w g i _ t u h
theorem Blk.far {w : World} {g g' : Nat} {t : TypeId} {cs : Array Value} (h : Blk w g t cs) (hb : g ≠ g') (i : Nat) (u : Value) : Blk (w.setCell ⟨g', i, none⟩ u) g t cs := (heap_setCell_other w ⟨g', i, none⟩ g u hb).trans h
theorem Blk.new (w : World) (t : TypeId) (cs : Array Value) : Blk (w.alloc (.cells cs t)) w.heap.size t cs := heap_alloc_new w _
theorem Blk.at1 (w : World) (o : Obj) (t : TypeId) (cs : Array Value) : Blk ((w.alloc o).alloc (.cells cs t)) (w.heap.size + 1) t cs := by
  have h := heap_alloc_new (w.alloc o) (.cells cs t); rwa [World.size_alloc] at h
theorem Blk.at2 (w : World) (o1 o2 : Obj) (t : TypeId) (cs : Array Value) : Blk (((w.alloc o1).alloc o2).alloc (.cells cs t)) (w.heap.size + 1 + 1) t cs := by
  have h := heap_alloc_new ((w.alloc o1).alloc o2) (.cells cs t); rwa [World.size_alloc, World.size_alloc] at h
theorem Blk.at3 (w : World) (o1 o2 o3 : Obj) (t : TypeId) (cs : Array Value) : Blk ((((w.alloc o1).alloc o2).alloc o3).alloc (.cells cs t)) (w.heap.size + 1 + 1 + 1) t cs := by
  have h := heap_alloc_new (((w.alloc o1).alloc o2).alloc o3) (.cells cs t); rwa [World.size_alloc, World.size_alloc, World.size_alloc] at h

/-- The value of an attribute. -/
def itemE (x : LItem) : EV := if x.vk = 0 ∨ valCheck x.vk x.vn x.vs ≠ 0 then unknownE else ⟨x.vk, x.vn, x.vs, true⟩
def attrE : List LItem → Int → ByteArray → ByteArray → EV
  | [], _, _, _ => unknownE
  | x :: l, d, cl, a => if x.dev = d ∧ x.cl = cl ∧ x.at_ = a then itemE x else attrE l d cl a

set_option maxHeartbeats 1000000 in
theorem attribute_any (V : LView) (vc : List Value) (d : Int) (cl at_ : ByteArray) (B : Nat) (w : World) (hB : B ≤ w.heap.size) (hv : IsView B w V vc) :
    Calls Try.prog 68 #[.agg vc.toArray, .agg #[.int .i64 d, .string cl, .string at_]] w fun r w' => r = .returned (attrE V.items d cl at_).res ∧ Below w.heap.size w w' := by
  obtain ⟨IA, ic, MA, mc, rfl, hI, _, _, hil, _⟩ := hv
  obtain ⟨l, vm, vt, ms⟩ := V
  dsimp only at hI hil ⊢
  go_enter Try.func68, Try.ntmps68
  go_wp2_with fail
  go_loopw [7, 11] (fun _ i wr => ∃ k : Nat, k ≤ l.length ∧ i = .int .i64 k ∧ Hid (attrE l d cl at_ = attrE (l.drop k) d cl at_) ∧ Below w.heap.size w wr ∧
      Blk wr (w.heap.size + 1) 29 #[.int .i64 d, .string cl, .string at_] ∧ Blk wr (w.heap.size + 1 + 1) 27 #[.int .i64 0, .int .i64 0, .string noStr]) (fun _ i _ => l.length - (intOf i).toNat)
  case atStart => exact ⟨0, Nat.zero_le _, rfl, rfl, ((Below.refl _ _).al _).al _ |>.al _, (Blk.at1 _ _ _ _).alloc _, Blk.at2 _ _ _ _ _⟩
  case round =>
    obtain ⟨k, hkl, rfl, HH, hbw, kK, kR⟩ := hrel
    have hsz := hbw.size
    have lt1 := kK.lt
    have lt2 := kR.lt
    by_cases hlk : k < l.length
    · obtain ⟨b, off, rfl, hbB, hrow⟩ := hI (by simp; omega)
      have hr1 := (hrow k (by simpa using hlk)).below hbw (Nat.lt_of_lt_of_le hbB hB)
      have hst := HH.out
      rw [List.drop_eq_getElem_cons hlk] at hst
      simp only [attrE] at hst
      have HST := Lib.hid hst
      simp only [List.getElem_map] at hr1
      clear HH hrow hI hst
      generalize l[k] = m at *
      obtain ⟨md, mcl, mat, mvk, mvn, mvs, mver⟩ := m
      simp only [LItem.cells] at hr1
      have cK := kK.cell
      have cR := kR.cell
      have fR := kR.free
      go_wp2_with (first | (with_reducible refine wpList_load_at rfl 90 _ rfl b (off + k * 7) rfl _ _ hr1 Try.underlying90 rfl (by kernel_rfl) ?_))
      · -- the value is none
        have HST2 := HST.out
        rw [if_pos ⟨‹md = d›, (toList_inj _ _).1 ‹_›, (toList_inj _ _).1 ‹_›⟩, itemE, if_pos (.inl ‹_›)] at HST2
        refine (unknown_any _).mono ?_
        rintro r w2 ⟨rfl, hb2⟩
        have kR2 := (kR.alloc _).below hb2
        have cR2 := kR2.cell
        have fR2 := kR2.free
        have hB2 := (hbw.al _).th hb2
        have HS2 := Lib.hid HST2
        clear HST2 HST cK cR fR kR kK hr1 hb2
        go_wp2_with fail
        exact bodyPost_ret (v := .tuple #[.agg #[.int .i64 0, .int .i64 0, .string noStr], .bool false]) (by simp [results, Try.results68, go_sem, cR2]) rfl ⟨by rw [HS2.out]; try rfl, ((hB2.st (by simp; omega) _).st (by simp; omega) _).st (by simp; omega) _⟩
      · have HST2 := HST.out
        rw [if_pos ⟨‹md = d›, (toList_inj _ _).1 ‹_›, (toList_inj _ _).1 ‹_›⟩] at HST2
        refine (valCheck_any _ _ _ _).mono ?_
        rintro r w2 ⟨rfl, hb2⟩
        have kR2 := (kR.alloc _).below hb2
        have cX2 := ((Blk.new wr 90 _).below hb2).cell
        have cR2 := kR2.cell
        have fR2 := kR2.free
        have hB2 := (hbw.al _).th hb2
        have hs2 := hb2.size
        simp only [World.size_alloc] at hs2
        have hvk : ¬ mvk = 0 := ‹_›
        clear HST cK cR fR kR kK hr1 hb2
        cases hc0 : (valCheck mvk mvn mvs != 0) with
        | true =>
          rw [itemE, if_pos (.inr (by simpa using hc0))] at HST2
          have HS2 := Lib.hid HST2
          clear HST2
          go_wp2_with fail
          refine (unknown_any _).mono ?_
          rintro r w3 ⟨rfl, hb3⟩
          have kR3 := kR2.below hb3
          have cR3 := kR3.cell
          have fR3 := kR3.free
          have hB3 := hB2.th hb3
          clear cR2 fR2 cX2
          go_wp2_with fail
          exact bodyPost_ret (v := .tuple #[.agg #[.int .i64 0, .int .i64 0, .string noStr], .bool false]) (by simp [results, Try.results68, go_sem, cR3]) rfl ⟨by rw [HS2.out]; try rfl, ((hB3.st (by simp; omega) _).st (by simp; omega) _).st (by simp; omega) _⟩
        | false =>
          rw [itemE, if_neg (by simp [hvk]; simpa using hc0)] at HST2
          have HS2 := Lib.hid HST2
          clear HST2
          go_wp2_with fail
          exact bodyPost_ret (v := EV.res ⟨mvk, mvn, mvs, true⟩) (by simp [results, Try.results68, go_sem, cR2]) rfl ⟨by rw [HS2.out]; try rfl, ((hB2.st (by simp; omega) _).st (by simp; omega) _).st (by simp; omega) _⟩
      all_goals
        refine ⟨⟨k + 1, by omega, by go_num, Lib.hid ?_, hbw.al _, kK.alloc _, kR.alloc _⟩, by simp [intOf]; omega⟩
        rw [HST.out]
        refine if_neg ?_
        simp only [toList_inj] at *
        grind
    · have cR := kR.cell
      have fR := kR.free
      go_wp2_with fail
      refine (unknown_any _).mono ?_
      rintro r w2 ⟨rfl, hb2⟩
      have kR2 := kR.below hb2
      have cR2 := kR2.cell
      have fR2 := kR2.free
      have hB2 := hbw.th hb2
      have HST2 := HH.out
      rw [List.drop_of_length_le (by omega)] at HST2
      have HS2 := Lib.hid HST2
      clear HST2 HH cR fR kR kK hb2
      go_wp2_with fail
      exact bodyPost_ret (v := .tuple #[.agg #[.int .i64 0, .int .i64 0, .string noStr], .bool false]) (by simp [results, Try.results68, go_sem, cR2]) rfl ⟨by rw [HS2.out]; try rfl, ((hB2.st (by simp; omega) _).st (by simp; omega) _).st (by simp; omega) _⟩
end

section
set_option linter.unusedSimpArgs false
set_option linter.unusedVariables false
open Go.RowKit

/-- An operation on two values. -/
def opE (kind : Int) (k1 n1 : Int) (s1 : ByteArray) (k2 n2 : Int) (s2 : ByteArray) : EV :=
  if kind = 9 then truthE (decide (k1 = k2 ∧ n1 = n2 ∧ s1 = s2))
  else if k1 ≠ 2 ∨ k2 ≠ 2 then unknownE
  else if kind = 10 then truthE (decide (n1 < n2))
  else if kind = 11 then ⟨2, satI (n1 + n2), noStr, true⟩
  else if kind = 12 then ⟨2, satI (n1 - n2), noStr, true⟩
  else ⟨2, satI (n1 * n2), noStr, true⟩

theorem fin_res {x y : EV} (h : y = x) : Ending.returned x.res = .returned y.res := by rw [h]
theorem or_ne_of {k1 k2 : Int} {b : Bool} (h : ((k1 != 2) || (k2 != 2)) = b) : (k1 ≠ 2 ∨ k2 ≠ 2) ↔ b = true := by subst h; simp

set_option maxHeartbeats 1000000 in
theorem operation_any (kind k1 n1 : Int) (s1 : ByteArray) (k2 n2 : Int) (s2 : ByteArray) (w : World) (h1 : I64 n1) (h2 : I64 n2) :
    Calls Try.prog 76 #[.int .i64 kind, .agg #[.int .i64 k1, .int .i64 n1, .string s1], .agg #[.int .i64 k2, .int .i64 n2, .string s2]] w fun r w' => r = .returned (opE kind k1 n1 s1 k2 n2 s2).res ∧ Below w.heap.size w w' := by
  go_enter Try.func76, Try.ntmps76
  go_wp2_with (first | (go_at_call 96; refine (add_any _ _ _ h1 h2).mono ?_; rintro r w2 ⟨rfl, rfl⟩) | (go_at_call 97; refine (sub_any _ _ _ h1 h2).mono ?_; rintro r w2 ⟨rfl, rfl⟩) | (go_at_call 98; refine (mul_any _ _ _ h1 h2).mono ?_; rintro r w2 ⟨rfl, rfl⟩))
  all_goals try exact bodyPost_ret (v := .tuple #[.agg #[.int .i64 2, .int .i64 _, .string noStr], .bool true]) (by simp [results, Try.results76, go_sem, noStr]; try rfl) rfl ⟨by simp only [opE]; grind, by (repeat (first | exact Below.refl _ _ | refine Below.al ?_ _ | refine Below.st ?_ (by simp; omega) _)); done⟩
  all_goals try (refine (unknown_any _).mono ?_; rintro r w2 ⟨rfl, hb2⟩)
  all_goals try (refine (truth_any _ _).mono ?_; rintro r w2 ⟨rfl, hb2⟩)
  all_goals first
    | (have hR := ((Blk.at2 w _ _ _ _).alloc _).below hb2
       have cR := hR.cell
       have fR := hR.free)
    | (have hR := ((Blk.at2 w _ _ _ _)).below hb2
       have cR := hR.cell
       have fR := hR.free)
    | skip
  all_goals go_wp2_with fail
  all_goals
    refine bodyPost_ret (v := ?_) ?_ rfl ?_
    rotate_left
    · simp [results, Try.results76, go_sem, cR]; exact rfl
    refine ⟨?_, ?_⟩
    rotate_left
    · have hs := hR.lt
      (repeat (first | exact Below.refl _ _ | refine Below.al ?_ _ | refine Below.st ?_ (by simp; omega) _ | refine Below.th ?_ (by assumption))); done
    · first
        | (refine fin_res (x := truthE true) ?_; unfold opE; go_tidy; (try simp only [toList_inj] at *); grind)
        | (refine fin_res (x := truthE false) ?_; unfold opE; go_tidy; (try simp only [toList_inj] at *); grind)
        | (refine fin_res (x := truthE (decide (n1 < n2))) ?_; unfold opE; go_tidy; grind)
        | (refine fin_res (x := unknownE) ?_; unfold opE; go_tidy; grind)
end

end Go.Proofs.Ytnelgblmogciiaa
