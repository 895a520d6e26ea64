/- Guard: items and locks, in memory and as plain data. -/
import Derived.Test.YtmgalnbacenbbaaGEq
set_option linter.unusedSimpArgs false
set_option linter.unusedVariables false
namespace Go.Proofs.Ytmgalnbacenbbaa
open Go.RowKit

/-- An item. -/
structure LItem where
  key : LKey
  val : LVal
  ver : Int
  deriving DecidableEq
def iC (x : LItem) : List Value := kC x.key ++ vC x.val ++ [.int .i64 x.ver]
/-- The cells of a condition, whatever it says. -/
structure WhR where
  k : Int
  n : Int
  m : Int
  name : ByteArray
  val : LVal
  key : LKey
  A : Option Addr
  len : Nat
  cap : Nat
def whC (x : WhR) : List Value := [.int .i64 x.k, .int .i64 x.n, .int .i64 x.m, .string x.name] ++ vC x.val ++ kC x.key ++ [.slice x.A x.len x.cap]
/-- A lock's cells. -/
structure LkR where
  name : ByteArray
  rank : Int
  wh : WhR
  latch : Bool
  FA : Option Addr
  Fn : Nat
  Fc : Nat
  GA : Option Addr
  Gn : Nat
  Gc : Nat
def lkC (x : LkR) : List Value := [.string x.name, .int .i64 x.rank] ++ whC x.wh ++ [.bool x.latch, .slice x.FA x.Fn x.Fc, .slice x.GA x.Gn x.Gc]
/-- A lock, as far as the guard looks. -/
structure LLock where
  name : ByteArray
  rank : Int
  force : List LItem
  forbid : List LItem
theorem infoItem : (Try.prog.info? 49).map (fun i => (i.zero, i.size, i.bytes)) = some (some (.agg #[.int .i64 0, .string { data := #[] }, .string { data := #[] }, .int .i64 0, .int .i64 0, .string { data := #[] }, .int .i64 0]), 7, 80) := by kernel_rfl
theorem infoKey : (Try.prog.info? 33).map (fun i => (i.zero, i.size, i.bytes)) = some (some (.agg #[.int .i64 0, .string { data := #[] }, .string { data := #[] }]), 3, 40) := by kernel_rfl
theorem infoStr : (Try.prog.info? 9).map (fun i => (i.zero, i.size, i.bytes)) = some (some (.string { data := #[] }), 1, 16) := by kernel_rfl
theorem infoLock : (Try.prog.info? 47).map (fun i => (i.zero, i.size, i.bytes)) = some (some (.agg #[.string { data := #[] }, .int .i64 0, .int .i64 0, .int .i64 0, .int .i64 0, .string { data := #[] }, .int .i64 0, .int .i64 0, .string { data := #[] }, .int .i64 0, .string { data := #[] }, .string { data := #[] }, .slice none 0 0, .bool false, .slice none 0 0, .slice none 0 0]), 16, 216) := by kernel_rfl
theorem infoWr : (Try.prog.info? 58).map (fun i => (i.zero, i.size, i.bytes)) = some (some (.agg #[.int .i64 0, .string { data := #[] }, .string { data := #[] }, .int .i64 0, .int .i64 0, .string { data := #[] }, .int .i64 0, .string { data := #[] }, .int .i64 0, .int .i64 0]), 10, 112) := by kernel_rfl
/-- Items. -/
noncomputable def EI : Elt LItem where
  e := 49
  t := 45
  n := 7
  bytes := 80
  f := iC
  i := (info_parts infoItem).choose
  z := _
  ht := Try.underlying45
  hi := (info_parts infoItem).choose_spec.1
  hz := (info_parts infoItem).choose_spec.2.1
  hs := (info_parts infoItem).choose_spec.2.2.1
  hb := (info_parts infoItem).choose_spec.2.2.2
  hzs := rfl
  hn := by decide
  len := fun x => rfl
  one := fun x u hu => by
    simp only [iC, kC, vC, List.cons_append, List.nil_append, List.mem_cons, List.not_mem_nil, or_false] at hu
    rcases hu with rfl | rfl | rfl | rfl | rfl | rfl | rfl <;> rfl
/-- Keys. -/
noncomputable def EK : Elt LKey where
  e := 33
  t := 30
  n := 3
  bytes := 40
  f := kC
  i := (info_parts infoKey).choose
  z := _
  ht := Try.underlying30
  hi := (info_parts infoKey).choose_spec.1
  hz := (info_parts infoKey).choose_spec.2.1
  hs := (info_parts infoKey).choose_spec.2.2.1
  hb := (info_parts infoKey).choose_spec.2.2.2
  hzs := rfl
  hn := by decide
  len := fun x => rfl
  one := fun x u hu => by
    simp only [kC, List.mem_cons, List.not_mem_nil, or_false] at hu
    rcases hu with rfl | rfl | rfl <;> rfl
/-- Names. -/
noncomputable def ES : Elt ByteArray where
  e := 9
  t := 23
  n := 1
  bytes := 16
  f := fun s => [.string s]
  i := (info_parts infoStr).choose
  z := _
  ht := Try.underlying23
  hi := (info_parts infoStr).choose_spec.1
  hz := (info_parts infoStr).choose_spec.2.1
  hs := (info_parts infoStr).choose_spec.2.2.1
  hb := (info_parts infoStr).choose_spec.2.2.2
  hzs := rfl
  hn := by decide
  len := fun x => rfl
  one := fun x u hu => by rw [List.mem_singleton.1 hu]; rfl
/-- Writes. -/
noncomputable def EW : Elt LW where
  e := 58
  t := 27
  n := 10
  bytes := 112
  f := wC
  i := (info_parts infoWr).choose
  z := _
  ht := Try.underlying27
  hi := (info_parts infoWr).choose_spec.1
  hz := (info_parts infoWr).choose_spec.2.1
  hs := (info_parts infoWr).choose_spec.2.2.1
  hb := (info_parts infoWr).choose_spec.2.2.2
  hzs := rfl
  hn := by decide
  len := fun x => rfl
  one := fun x u hu => by
    simp only [wC, kC, vC, List.cons_append, List.nil_append, List.mem_cons, List.not_mem_nil, or_false] at hu
    rcases hu with rfl | rfl | rfl | rfl | rfl | rfl | rfl | rfl | rfl | rfl <;> rfl
/-- Locks. -/
noncomputable def EL : Elt LkR where
  e := 47
  t := 22
  n := 16
  bytes := 216
  f := lkC
  i := (info_parts infoLock).choose
  z := _
  ht := Try.underlying22
  hi := (info_parts infoLock).choose_spec.1
  hz := (info_parts infoLock).choose_spec.2.1
  hs := (info_parts infoLock).choose_spec.2.2.1
  hb := (info_parts infoLock).choose_spec.2.2.2
  hzs := rfl
  hn := by decide
  len := fun x => rfl
  one := fun x u hu => by
    simp only [lkC, whC, kC, vC, List.cons_append, List.nil_append, List.mem_cons, List.not_mem_nil, or_false] at hu
    rcases hu with rfl | rfl | rfl | rfl | rfl | rfl | rfl | rfl | rfl | rfl | rfl | rfl | rfl | rfl | rfl | rfl <;> rfl
/-- What a lock's cells say. -/
structure LkR.Says (w : World) (r : LkR) (l : LLock) : Prop where
  name : r.name = l.name
  rank : r.rank = l.rank
  force : EI.Rd w l.force (.slice r.FA r.Fn r.Fc)
  forbid : EI.Rd w l.forbid (.slice r.GA r.Gn r.Gc)
theorem LkR.Says.lat {w w' : World} {r : LkR} {l : LLock} (h : r.Says w l) (hl : Lat w w') : r.Says w' l := ⟨h.name, h.rank, h.force.lat hl, h.forbid.lat hl⟩
/-- Locks with what they say: to be read; the call's own. -/
def RdL (w : World) (ps : List (LkR × LLock)) (v : Value) : Prop := EL.Rd w (ps.map Prod.fst) v ∧ ∀ p ∈ ps, p.1.Says w p.2
def OwnL (w : World) (base : Nat) (ps : List (LkR × LLock)) (v : Value) : Prop := EL.Own w base (ps.map Prod.fst) v ∧ ∀ p ∈ ps, p.1.Says w p.2
theorem RdL.lat {w w' : World} {ps : List (LkR × LLock)} {v : Value} (h : RdL w ps v) (hl : Lat w w') : RdL w' ps v := ⟨h.1.lat hl, fun p hp => (h.2 p hp).lat hl⟩
theorem OwnL.lat {w w' : World} {base : Nat} {ps : List (LkR × LLock)} {v : Value} (h : OwnL w base ps v) (hl : Lat w w') : OwnL w' base ps v := ⟨h.1.lat hl, fun p hp => (h.2 p hp).lat hl⟩
theorem OwnL.rd {w : World} {base : Nat} {ps : List (LkR × LLock)} {v : Value} (h : OwnL w base ps v) : RdL w ps v := ⟨h.1.rd, h.2⟩
theorem RdL.slice {w : World} {ps : List (LkR × LLock)} {v : Value} (h : RdL w ps v) : ∃ A c, v = .slice A ps.length c := by
  obtain ⟨A, c, hv, _⟩ := h.1
  exact ⟨A, c, by rw [hv, List.length_map]⟩
theorem Says.fn {w : World} {r : LkR} {l : LLock} (h : r.Says w l) : r.Fn = l.force.length := by
  obtain ⟨A, c, hv, _⟩ := h.force
  injection hv
theorem Says.gn {w : World} {r : LkR} {l : LLock} (h : r.Says w l) : r.Gn = l.forbid.length := by
  obtain ⟨A, c, hv, _⟩ := h.forbid
  injection hv
/-- A lock of the list: where it lies, what it says. -/
theorem RdL.row {w : World} {ps : List (LkR × LLock)} {A : Option Addr} {n c : Nat} (h : RdL w ps (.slice A n c)) (j : Nat) (hj : j < ps.length) : ∃ b off, A = some ⟨b, off, none⟩ ∧ b < w.heap.size ∧ RowAt w b (off + j * 16) (lkC ps[j].1) ∧ ps[j].1.Says w ps[j].2 := by
  obtain ⟨b, off, hA, hb, hr⟩ := h.1.row j (by simpa using hj)
  refine ⟨b, off, hA, hb, ?_, h.2 _ (List.getElem_mem hj)⟩
  rw [List.getElem_map] at hr
  exact hr
end Go.Proofs.Ytmgalnbacenbbaa
