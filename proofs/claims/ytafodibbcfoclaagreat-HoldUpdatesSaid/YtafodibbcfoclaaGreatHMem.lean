/- Hold: timers, rules and triggers in memory. -/
import Derived.Test.YtafodibbcfoclaaGreatGMem
import Derived.Test.YtafodibbcfoclaaGreatEvGround
set_option linter.unusedSimpArgs false
set_option linter.unusedVariables false
namespace Go.Proofs.YtafodibbcfoclaaGreat
open Go.RowKit

/-- A timer. -/
structure LTim where
  rule : ByteArray
  since : Int
  fired : Bool
deriving DecidableEq
def tC (x : LTim) : List Value := [.string x.rule, .int .i64 x.since, .bool x.fired]
/-- A trigger's cells. -/
structure TrR where
  kind : Int
  k1 : Int
  k2 : ByteArray
  k3 : ByteArray
  e1 : Int
  e2 : ByteArray
  e3 : ByteArray
  name : ByteArray
  n : Int
  m : Int
def gC (x : TrR) : List Value := [.int .i64 x.kind, .int .i64 x.k1, .string x.k2, .string x.k3, .int .i64 x.e1, .string x.e2, .string x.e3, .string x.name, .int .i64 x.n, .int .i64 x.m]
/-- A rule's cells. -/
structure RlR where
  name : ByteArray
  prio : Int
  oA : Option Addr
  on : Nat
  oc : Nat
  hd : Ev.Hd
  kA : Option Addr
  kn : Nat
  kc : Nat
  dA : Option Addr
  dn : Nat
  dc : Nat
def RlR.ex (x : RlR) : List Value := x.hd.cells (.slice x.kA x.kn x.kc)
def rC (x : RlR) : List Value := [.string x.name, .int .i64 x.prio, .slice x.oA x.on x.oc, .int .i64 x.hd.kind, .int .i64 x.hd.n, .int .i64 x.hd.m, .string x.hd.name, .int .i64 x.hd.vk, .int .i64 x.hd.vn, .string x.hd.vs, .int .i64 x.hd.dev, .string x.hd.cl, .string x.hd.at_, .slice x.kA x.kn x.kc, .slice x.dA x.dn x.dc]
/-- A rule, as far as the package looks. -/
structure LRule where
  name : ByteArray
  on : List TrR
  ife : Ev.LExpr
/-- A watched rule's cells. -/
def hC (x : RlR × Int) : List Value := rC x.1 ++ [.int .i64 x.2]
theorem infoET : (Tryz.prog.info? 50).map (fun i => (i.zero, i.size, i.bytes)) = some (some (.agg #[.string { data := #[] }, .int .i64 0, .bool false]), 3, 32) := by kernel_rfl
/-- Timers. -/
noncomputable def ET : Elt LTim where
  e := 50
  t := 22
  n := 3
  bytes := 32
  f := tC
  i := (info_parts infoET).choose
  z := _
  ht := Tryz.underlying22
  hi := (info_parts infoET).choose_spec.1
  hz := (info_parts infoET).choose_spec.2.1
  hs := (info_parts infoET).choose_spec.2.2.1
  hb := (info_parts infoET).choose_spec.2.2.2
  hzs := rfl
  hn := by decide
  len := fun x => rfl
  one := fun x u hu => by
    simp only [tC, List.cons_append, List.nil_append, List.mem_cons, List.not_mem_nil, or_false] at hu
    rcases hu with rfl | rfl | rfl <;> rfl
theorem infoEG : (Tryz.prog.info? 73).map (fun i => (i.zero, i.size, i.bytes)) = some (some (.agg #[.int .i64 0, .int .i64 0, .string { data := #[] }, .string { data := #[] }, .int .i64 0, .string { data := #[] }, .string { data := #[] }, .string { data := #[] }, .int .i64 0, .int .i64 0]), 10, 120) := by kernel_rfl
/-- Triggers. -/
noncomputable def EG : Elt TrR where
  e := 73
  t := 34
  n := 10
  bytes := 120
  f := gC
  i := (info_parts infoEG).choose
  z := _
  ht := Tryz.underlying34
  hi := (info_parts infoEG).choose_spec.1
  hz := (info_parts infoEG).choose_spec.2.1
  hs := (info_parts infoEG).choose_spec.2.2.1
  hb := (info_parts infoEG).choose_spec.2.2.2
  hzs := rfl
  hn := by decide
  len := fun x => rfl
  one := fun x u hu => by
    simp only [gC, List.cons_append, List.nil_append, List.mem_cons, List.not_mem_nil, or_false] at hu
    rcases hu with rfl | rfl | rfl | rfl | rfl | rfl | rfl | rfl | rfl | rfl <;> rfl
theorem infoER : (Tryz.prog.info? 44).map (fun i => (i.zero, i.size, i.bytes)) = some (some (.agg #[.string { data := #[] }, .int .i64 0, .slice none 0 0, .int .i64 0, .int .i64 0, .int .i64 0, .string { data := #[] }, .int .i64 0, .int .i64 0, .string { data := #[] }, .int .i64 0, .string { data := #[] }, .string { data := #[] }, .slice none 0 0, .slice none 0 0]), 15, 208) := by kernel_rfl
/-- Rules. -/
noncomputable def ER : Elt RlR where
  e := 44
  t := 23
  n := 15
  bytes := 208
  f := rC
  i := (info_parts infoER).choose
  z := _
  ht := Tryz.underlying23
  hi := (info_parts infoER).choose_spec.1
  hz := (info_parts infoER).choose_spec.2.1
  hs := (info_parts infoER).choose_spec.2.2.1
  hb := (info_parts infoER).choose_spec.2.2.2
  hzs := rfl
  hn := by decide
  len := fun x => rfl
  one := fun x u hu => by
    simp only [rC, List.cons_append, List.nil_append, List.mem_cons, List.not_mem_nil, or_false] at hu
    rcases hu with rfl | rfl | rfl | rfl | rfl | rfl | rfl | rfl | rfl | rfl | rfl | rfl | rfl | rfl | rfl <;> rfl
theorem infoEH : (Tryz.prog.info? 61).map (fun i => (i.zero, i.size, i.bytes)) = some (some (.agg #[.string { data := #[] }, .int .i64 0, .slice none 0 0, .int .i64 0, .int .i64 0, .int .i64 0, .string { data := #[] }, .int .i64 0, .int .i64 0, .string { data := #[] }, .int .i64 0, .string { data := #[] }, .string { data := #[] }, .slice none 0 0, .slice none 0 0, .int .i64 0]), 16, 216) := by kernel_rfl
/-- Watched rules. -/
noncomputable def EH : Elt (RlR × Int) where
  e := 61
  t := 58
  n := 16
  bytes := 216
  f := hC
  i := (info_parts infoEH).choose
  z := _
  ht := Tryz.underlying58
  hi := (info_parts infoEH).choose_spec.1
  hz := (info_parts infoEH).choose_spec.2.1
  hs := (info_parts infoEH).choose_spec.2.2.1
  hb := (info_parts infoEH).choose_spec.2.2.2
  hzs := rfl
  hn := by decide
  len := fun x => rfl
  one := fun x u hu => by
    simp only [hC, rC, List.cons_append, List.nil_append, List.mem_cons, List.not_mem_nil, or_false] at hu
    rcases hu with rfl | rfl | rfl | rfl | rfl | rfl | rfl | rfl | rfl | rfl | rfl | rfl | rfl | rfl | rfl | rfl <;> rfl
theorem infoEA : (Tryz.prog.info? 68).map (fun i => (i.zero, i.size, i.bytes)) = some (some (.agg #[.int .i64 0, .int .i64 0]), 2, 16) := by kernel_rfl
/-- The reference's hold rules. -/
noncomputable def EA : Elt (Nat × Int) where
  e := 68
  t := 65
  n := 2
  bytes := 16
  f := (fun x => [.int .i64 (x.1 : Int), .int .i64 x.2])
  i := (info_parts infoEA).choose
  z := _
  ht := Tryz.underlying65
  hi := (info_parts infoEA).choose_spec.1
  hz := (info_parts infoEA).choose_spec.2.1
  hs := (info_parts infoEA).choose_spec.2.2.1
  hb := (info_parts infoEA).choose_spec.2.2.2
  hzs := rfl
  hn := by decide
  len := fun x => rfl
  one := fun x u hu => by
    simp only [List.mem_cons, List.not_mem_nil, or_false] at hu
    rcases hu with rfl | rfl <;> rfl
theorem infoES : (Tryz.prog.info? 9).map (fun i => (i.zero, i.size, i.bytes)) = some (some (.string { data := #[] }), 1, 16) := by kernel_rfl
/-- Names. -/
noncomputable def ES : Elt ByteArray where
  e := 9
  t := 51
  n := 1
  bytes := 16
  f := (fun s => [.string s])
  i := (info_parts infoES).choose
  z := _
  ht := Tryz.underlying51
  hi := (info_parts infoES).choose_spec.1
  hz := (info_parts infoES).choose_spec.2.1
  hs := (info_parts infoES).choose_spec.2.2.1
  hb := (info_parts infoES).choose_spec.2.2.2
  hzs := rfl
  hn := by decide
  len := fun x => rfl
  one := fun x u hu => by
    rw [List.mem_singleton.1 hu]; rfl
/-- What a rule's cells say. -/
structure RlR.Says (w : World) (r : RlR) (l : LRule) : Prop where
  name : r.name = l.name
  small : l.name.size ≤ maxLen
  on : EG.Rd w l.on (.slice r.oA r.on r.oc)
  ife : Ev.IsExpr w.heap.size w l.ife r.ex
theorem RlR.Says.lat {w w' : World} {r : RlR} {l : LRule} (h : r.Says w l) (hl : Lat w w') : r.Says w' l := ⟨h.name, h.small, h.on.lat hl, (h.ife.carry hl).mono hl.size⟩
/-- Rules to be read. -/
def RdR (w : World) (ps : List (RlR × LRule)) (v : Value) : Prop := ER.Rd w (ps.map Prod.fst) v ∧ ∀ p ∈ ps, p.1.Says w p.2
theorem RdR.lat {w w' : World} {ps : List (RlR × LRule)} {v : Value} (h : RdR w ps v) (hl : Lat w w') : RdR w' ps v := ⟨h.1.lat hl, fun p hp => (h.2 p hp).lat hl⟩
theorem RdR.slice {w : World} {ps : List (RlR × LRule)} {v : Value} (h : RdR w ps v) : ∃ A c, v = .slice A ps.length c := by
  obtain ⟨A, c, hv, _⟩ := h.1
  exact ⟨A, c, by rw [hv, List.length_map]⟩
theorem RdR.row {w : World} {ps : List (RlR × LRule)} {A : Option Addr} {n c : Nat} (h : RdR w ps (.slice A n c)) (j : Nat) (hj : j < ps.length) : ∃ b off, A = some ⟨b, off, none⟩ ∧ b < w.heap.size ∧ RowAt w b (off + j * 15) (rC ps[j].1) ∧ ps[j].1.Says w ps[j].2 := by
  obtain ⟨b, off, hA, hb, hr⟩ := h.1.row j (by simpa using hj)
  refine ⟨b, off, hA, hb, ?_, h.2 _ (List.getElem_mem hj)⟩
  rw [List.getElem_map] at hr
  exact hr
/-- Timers to be read. -/
def RdT (w : World) (l : List LTim) (v : Value) : Prop := ET.Rd w l v ∧ ∀ t ∈ l, t.rule.size ≤ maxLen
theorem RdT.lat {w w' : World} {l : List LTim} {v : Value} (h : RdT w l v) (hl : Lat w w') : RdT w' l v := ⟨h.1.lat hl, h.2⟩
theorem Says.on_len {w : World} {r : RlR} {l : LRule} (h : r.Says w l) : r.on = l.on.length := by
  obtain ⟨A, c, hv, _⟩ := h.on
  injection hv
end Go.Proofs.YtafodibbcfoclaaGreat
