/- Resolve: Explain. -/
import Derived.Test.YtgjoojailghilaaDoorVText
set_option linter.unusedSimpArgs false
set_option linter.unusedVariables false
namespace Go.Proofs.YtgjoojailghilaaDoor
open Go.RowKit

theorem builderAt_carry {T e : TypeId} {B b : Nat} {p : Value} {bs : List Value} {w w' : World} (h : Lib.BuilderAt T e B b p bs w) (hl : Lat w w') : Lib.BuilderAt T e B b p bs w' := by
  obtain ⟨hB, v, hb, hown, hne⟩ := h
  have hlt : b < w.heap.size := (Array.getElem?_eq_some_iff.1 hb).1
  refine ⟨hB, v, (hl.block b hlt).trans hb, ?_, hne⟩
  obtain ⟨h1, h2 | ⟨g, cap, cur, hv, hbg, hg, h3⟩⟩ := hown
  · exact ⟨h1, .inl h2⟩
  · exact ⟨h1, .inr ⟨g, cap, cur, hv, hbg, (hl.block g (Array.getElem?_eq_some_iff.1 hg).1).trans hg, h3⟩⟩
theorem isBuilder_carry {T e : TypeId} {B b : Nat} {bs : List Value} {w w' : World} (h : Lib.IsBuilder T e B b bs w) (hl : Lat w w') : Lib.IsBuilder T e B b bs w' :=
  h.elim (fun h => .inl (builderAt_carry h hl)) (fun h => .inr (builderAt_carry h hl))
/-- The text of a decision, in bytes. -/
def headS (it : ByteArray) (k : LKey) (t : ByteArray) : ByteArray := it ++ ⟨#[46]⟩ ++ k.cl ++ ⟨#[46]⟩ ++ k.at_ ++ ⟨#[32, 61, 32]⟩ ++ t
def overS (t : ByteArray) : ByteArray := ⟨#[32, 111, 118, 101, 114, 32]⟩ ++ t
def overL (T : LW → ByteArray) (l : List LW) : List UInt8 := (l.map fun x => (overS (T x)).data.toList).flatten
theorem overL_take (T : LW → ByteArray) (l : List LW) (j : Nat) (h : j < l.length) : overL T (l.take (j + 1)) = overL T (l.take j) ++ (overS (T l[j])).data.toList := by
  rw [List.take_succ_eq_append_getElem h, overL, overL, List.map_append, List.flatten_append]
  simp
def preL (e : Int) : List UInt8 := if e = 0 then [] else [98, 108, 111, 99, 107, 101, 100, 58, 32]
def explL (T : LW → ByteArray) (it : ByteArray) (d : LD) : List UInt8 := preL d.err ++ (headS it d.key (T d.win)).data.toList ++ overL T d.los
theorem write_bytes (B b : Nat) (l : List UInt8) (s : ByteArray) (w : World) (h : Lib.IsBuilder 65 5 B b (Lib.byteCells l) w) (hlen : l.length + s.size ≤ 140737488355328) (hBw : B ≤ w.heap.size) :
    Calls Tryd.prog 41 #[.pointer (some ⟨b, 0, none⟩), .string s] w fun e w' => (∃ u, e = .returned u) ∧ Lib.IsBuilder 65 5 B b (Lib.byteCells (l ++ s.data.toList)) w' ∧ Below B w w' := by
  refine (writeString_any B b _ s w h (by rw [Lib.byteCells_length]; exact hlen) hBw).mono ?_
  rintro e w' ⟨rfl, h1, h2⟩
  refine ⟨⟨_, rfl⟩, .inr ?_, h2⟩
  rw [Lib.byteCells_append, ← Lib.strCells_eq]
  exact h1
set_option maxRecDepth 100000 in
set_option maxHeartbeats 8000000 in
theorem explain_any (d : LD) (A : Option Addr) (c : Nat) (T : LW → ByteArray) (it : ByteArray) (w : World) (hlos : EW.Rd w d.los (.slice A d.los.length c)) (hlen : d.los.length ≤ 1000)
    (hit : it.size ≤ 1000000000) (hcl : d.key.cl.size ≤ 1000000000) (hat : d.key.at_.size ≤ 1000000000) (hT : ∀ x ∈ d.win :: d.los, (T x).size ≤ 1000000000)
    (HI : ∀ w', Lat w w' → Calls Tryd.prog 42 #[.int .i64 d.key.dev] w' fun r w'' => r = .returned (.string it) ∧ Lat w' w'')
    (HTX : ∀ x ∈ d.win :: d.los, ∀ w', Lat w w' → Calls Tryd.prog 43 #[.agg (wC x).toArray] w' fun r w'' => r = .returned (.string (T x)) ∧ Lat w' w'') :
    Calls Tryd.prog 24 #[.agg (kC d.key ++ wC d.win ++ [Value.slice A d.los.length c, Value.int .i64 d.err]).toArray] w fun r w' => r = .returned (.string ⟨(explL T it d).toArray⟩) ∧ Lat w w' := by
  obtain ⟨⟨k1, k2, k3⟩, X, los, e⟩ := d
  have hTw := hT X (by simp)
  have HW0 := Lib.hid (HTX X (by simp))
  have HL0 := Lib.hid (fun (j : Nat) (hj : j < los.length) => And.intro (hT los[j] (by simp)) (HTX los[j] (by simp)))
  have HI0 := Lib.hid HI
  have HS : Hid (explL T it ⟨⟨k1, k2, k3⟩, X, los, e⟩ = preL e ++ (it ++ ⟨#[46]⟩ ++ k2 ++ ⟨#[46]⟩ ++ k3 ++ ⟨#[32, 61, 32]⟩ ++ T X).data.toList ++ overL T los) := Lib.hid rfl
  generalize explL T it ⟨⟨k1, k2, k3⟩, X, los, e⟩ = R at *
  generalize hTX : T X = tx at *
  clear HI HTX hT hTX
  obtain ⟨⟨x1, x2, x3⟩, ⟨x4, x5, x6⟩, x7, x8, x9, x10⟩ := X
  dsimp only at *
  simp only [wC, kC, vC, List.cons_append, List.nil_append] at HW0 ⊢
  have hbox := Blk.alloc (Blk.new w 44 #[.int .i64 k1, .string k2, .string k3, .int .i64 x1, .string x2, .string x3, .int .i64 x4, .int .i64 x5, .string x6, .int .i64 x7, .string x8, .int .i64 x9, .int .i64 x10, .slice A los.length c, .int .i64 e]) (.cells #[.pointer none, .slice none 0 0] 65)
  have hnb : Lib.IsBuilder 65 5 (w.heap.size + 1) (w.heap.size + 1) (Lib.byteCells []) ((w.alloc (.cells #[.int .i64 k1, .string k2, .string k3, .int .i64 x1, .string x2, .string x3, .int .i64 x4, .int .i64 x5, .string x6, .int .i64 x7, .string x8, .int .i64 x9, .int .i64 x10, .slice A los.length c, .int .i64 e] 44)).alloc (.cells #[.pointer none, .slice none 0 0] 65)) :=
    .inl ⟨Nat.le_refl _, .slice none 0 0, Blk.at1 w (.cells #[.int .i64 k1, .string k2, .string k3, .int .i64 x1, .string x2, .string x3, .int .i64 x4, .int .i64 x5, .string x6, .int .i64 x7, .string x8, .int .i64 x9, .int .i64 x10, .slice A los.length c, .int .i64 e] 44) 65 #[.pointer none, .slice none 0 0], ⟨rfl, .inl ⟨rfl, rfl⟩⟩, by simp [Value.ownBlock]⟩
  have hLW1 : Lat w ((w.alloc (.cells #[.int .i64 k1, .string k2, .string k3, .int .i64 x1, .string x2, .string x3, .int .i64 x4, .int .i64 x5, .string x6, .int .i64 x7, .string x8, .int .i64 x9, .int .i64 x10, .slice A los.length c, .int .i64 e] 44)).alloc (.cells #[.pointer none, .slice none 0 0] 65)) := (Lat.al _ _).trans (Lat.al _ _)
  have hBw1 : w.heap.size + 1 ≤ (((w.alloc (.cells #[.int .i64 k1, .string k2, .string k3, .int .i64 x1, .string x2, .string x3, .int .i64 x4, .int .i64 x5, .string x6, .int .i64 x7, .string x8, .int .i64 x9, .int .i64 x10, .slice A los.length c, .int .i64 e] 44)).alloc (.cells #[.pointer none, .slice none 0 0] 65)).heap.size) := by rw [World.size_alloc, World.size_alloc]; omega
  have hwB : w.heap.size ≤ w.heap.size + 1 := by omega
  have cx0 := hbox.cell
  go_enter Tryd.func24, Tryd.ntmps24
  by_cases he : e = 0
  · subst he
    go_wp2_with fail
    clear cx0
    generalize hw1 : ((w.alloc (.cells #[.int .i64 k1, .string k2, .string k3, .int .i64 x1, .string x2, .string x3, .int .i64 x4, .int .i64 x5, .string x6, .int .i64 x7, .string x8, .int .i64 x9, .int .i64 x10, .slice A los.length c, .int .i64 0] 44)).alloc (.cells #[.pointer none, .slice none 0 0] 65)) = w1 at *
    clear hw1
    generalize hgg : w.heap.size = g at *
    obtain ⟨w2, hw2⟩ : ∃ w2, w2 = w1 := ⟨_, rfl⟩
    rw [← hw2]
    have hbu : Lib.IsBuilder 65 5 (g + 1) (g + 1) (Lib.byteCells []) w2 := by rw [hw2]; exact hnb
    have hB2 : Below (g + 1) w1 w2 := by rw [hw2]; exact Below.refl _ _
    have hgw2 : g + 1 ≤ w2.heap.size := by rw [hw2]; exact hBw1
    clear hw2 hnb hBw1
    have hx2 : Blk w2 g 44 (#[.int .i64 k1, .string k2, .string k3, .int .i64 x1, .string x2, .string x3, .int .i64 x4, .int .i64 x5, .string x6, .int .i64 x7, .string x8, .int .i64 x9, .int .i64 x10, .slice A los.length c, .int .i64 0]) := (hB2.block g (by omega)).trans hbox
    have hrW : RowAt w2 g 3 [.int .i64 x1, .string x2, .string x3, .int .i64 x4, .int .i64 x5, .string x6, .int .i64 x7, .string x8, .int .i64 x9, .int .i64 x10] := row_of_blk (l := (#[.int .i64 k1, .string k2, .string k3, .int .i64 x1, .string x2, .string x3, .int .i64 x4, .int .i64 x5, .string x6, .int .i64 x7, .string x8, .int .i64 x9, .int .i64 x10, .slice A los.length c, .int .i64 0]).toList) hx2 3 _ (fun i v hi => by
      match i, hi with
      | 0, hi => exact hi
      | 1, hi => exact hi
      | 2, hi => exact hi
      | 3, hi => exact hi
      | 4, hi => exact hi
      | 5, hi => exact hi
      | 6, hi => exact hi
      | 7, hi => exact hi
      | 8, hi => exact hi
      | 9, hi => exact hi
      | i + 10, hi => simp at hi)
    have hLW2 : Lat w w2 := Below.trans hLW1 (hB2.mono (by omega))
    have hgl := hx2.lt
    have HI := fun w' (h : Lat w2 w') => Lib.hid (HI0.out w' (hLW2.trans h))
    have HTW := fun w' (h : Lat w2 w') => Lib.hid (HW0.out w' (hLW2.trans h))
    have z1 : ¬ (9223372036854775807 < it.size + 1) := by omega
    have z2 : ¬ (9223372036854775807 < it.size + 1 + k2.size) := by omega
    have z3 : ¬ (9223372036854775807 < it.size + 1 + k2.size + 1) := by omega
    have z4 : ¬ (9223372036854775807 < it.size + 1 + k2.size + 1 + k3.size) := by omega
    have z5 : ¬ (9223372036854775807 < it.size + 1 + k2.size + 1 + k3.size + 3) := by omega
    have z6 : ¬ (9223372036854775807 < it.size + 1 + k2.size + 1 + k3.size + 3 + tx.size) := by omega
    refine wp_rely_last (n := 19) (by kernel_rfl) (by kernel_rfl) rfl (by kernel_rfl) ?_
    simp only [List.take_succ_cons, List.take_zero]
    apply RelyL.val
    · intro ν w' hL hF K hK'
      have cx := (hx2.lat hL).cell
      go_simp
      exact hK'.out _ _ rfl (Lat.refl _)
    simp only [Act.put, List.setIfInBounds_toArray, List.set_cons_zero, List.set_cons_succ, Nat.reduceAdd]
    apply RelyL.val
    · intro ν w' hL hF K hK'
      have cx := (hx2.lat hL).cell
      go_simp
      exact hK'.out _ _ rfl (Lat.refl _)
    simp only [Act.put, List.setIfInBounds_toArray, List.set_cons_zero, List.set_cons_succ, Nat.reduceAdd]
    apply RelyL.val
    · intro ν w' hL hF K hK'
      have cx := (hx2.lat hL).cell
      go_simp
      exact hK'.out _ _ rfl (Lat.refl _)
    simp only [Act.put, List.setIfInBounds_toArray, List.set_cons_zero, List.set_cons_succ, Nat.reduceAdd]
    apply RelyL.val
    · intro ν w' hL hF K hK'
      have H := HI w' hL
      go_simp
      go_at_call 42
      refine H.out.mono ?_
      rintro r w'' ⟨rfl, hbp⟩
      exact hK'.out _ _ rfl hbp
    simp only [Act.put, List.setIfInBounds_toArray, List.set_cons_zero, List.set_cons_succ, Nat.reduceAdd]
    apply RelyL.val
    · intro ν w' hL hF K hK'
      have cx := (hx2.lat hL).cell
      go_simp
      exact hK'.out _ _ rfl (Lat.refl _)
    simp only [Act.put, List.setIfInBounds_toArray, List.set_cons_zero, List.set_cons_succ, Nat.reduceAdd]
    apply RelyL.val
    · intro ν w' hL hF K hK'
      have cx := (hx2.lat hL).cell
      go_simp
      exact hK'.out _ _ rfl (Lat.refl _)
    simp only [Act.put, List.setIfInBounds_toArray, List.set_cons_zero, List.set_cons_succ, Nat.reduceAdd]
    apply RelyL.val
    · intro ν w' hL hF K hK'
      have cx := (hx2.lat hL).cell
      go_simp
      exact hK'.out _ _ rfl (Lat.refl _)
    simp only [Act.put, List.setIfInBounds_toArray, List.set_cons_zero, List.set_cons_succ, Nat.reduceAdd]
    apply RelyL.val
    · intro ν w' hL hF K hK'
      have cx := (hx2.lat hL).cell
      go_simp
      exact hK'.out _ _ rfl (Lat.refl _)
    simp only [Act.put, List.setIfInBounds_toArray, List.set_cons_zero, List.set_cons_succ, Nat.reduceAdd]
    apply RelyL.val
    · intro ν w' hL hF K hK'
      have cx := (hx2.lat hL).cell
      go_simp
      exact hK'.out _ _ rfl (Lat.refl _)
    simp only [Act.put, List.setIfInBounds_toArray, List.set_cons_zero, List.set_cons_succ, Nat.reduceAdd]
    apply RelyL.val
    · intro ν w' hL hF K hK'
      have cx := (hx2.lat hL).cell
      go_simp
      exact hK'.out _ _ rfl (Lat.refl _)
    simp only [Act.put, List.setIfInBounds_toArray, List.set_cons_zero, List.set_cons_succ, Nat.reduceAdd]
    apply RelyL.val
    · intro ν w' hL hF K hK'
      have cx := (hx2.lat hL).cell
      go_simp
      exact hK'.out _ _ rfl (Lat.refl _)
    simp only [Act.put, List.setIfInBounds_toArray, List.set_cons_zero, List.set_cons_succ, Nat.reduceAdd]
    apply RelyL.val
    · intro ν w' hL hF K hK'
      have cx := (hx2.lat hL).cell
      go_simp
      exact hK'.out _ _ rfl (Lat.refl _)
    simp only [Act.put, List.setIfInBounds_toArray, List.set_cons_zero, List.set_cons_succ, Nat.reduceAdd]
    apply RelyL.val
    · intro ν w' hL hF K hK'
      have cx := (hx2.lat hL).cell
      go_simp
      exact hK'.out _ _ rfl (Lat.refl _)
    simp only [Act.put, List.setIfInBounds_toArray, List.set_cons_zero, List.set_cons_succ, Nat.reduceAdd]
    apply RelyL.val
    · intro ν w' hL hF K hK'
      have cx := (hx2.lat hL).cell
      go_simp
      exact hK'.out _ _ rfl (Lat.refl _)
    simp only [Act.put, List.setIfInBounds_toArray, List.set_cons_zero, List.set_cons_succ, Nat.reduceAdd]
    apply RelyL.val
    · intro ν w' hL hF K hK'
      have cx := (hx2.lat hL).cell
      go_simp
      exact hK'.out _ _ rfl (Lat.refl _)
    simp only [Act.put, List.setIfInBounds_toArray, List.set_cons_zero, List.set_cons_succ, Nat.reduceAdd]
    apply RelyL.val
    · intro ν w' hL hF K hK'
      have cx := (hx2.lat hL).cell
      go_simp
      exact hK'.out _ _ rfl (Lat.refl _)
    simp only [Act.put, List.setIfInBounds_toArray, List.set_cons_zero, List.set_cons_succ, Nat.reduceAdd]
    apply RelyL.val
    · intro ν w' hL hF K hK'
      refine take_op rfl ?_
      refine wp_load_at 29 _ rfl g (3) rfl _ _ (hrW.below hL hgl) Tryd.underlying29 rfl (by kernel_rfl) ?_
      exact hK'.out _ _ rfl (Lat.refl _)
    simp only [Act.put, List.setIfInBounds_toArray, List.set_cons_zero, List.set_cons_succ, Nat.reduceAdd]
    apply RelyL.val
    · intro ν w' hL hF K hK'
      have H := HTW w' hL
      go_simp
      go_at_call 43
      refine H.out.mono ?_
      rintro r w'' ⟨rfl, hbp⟩
      exact hK'.out _ _ rfl hbp
    simp only [Act.put, List.setIfInBounds_toArray, List.set_cons_zero, List.set_cons_succ, Nat.reduceAdd]
    apply RelyL.val
    · intro ν w' hL hF K hK'
      have cx := (hx2.lat hL).cell
      go_simp
      exact hK'.out _ _ rfl (Lat.refl _)
    simp only [Act.put, List.setIfInBounds_toArray, List.set_cons_zero, List.set_cons_succ, Nat.reduceAdd]
    refine RelyL.done fun ν w3 hL hF => ?_
    clear hF HI HTW z1 z2 z3 z4 z5 z6
    have hbu3 := isBuilder_carry hbu hL
    have hB3 : Below (g + 1) w1 w3 := Below.trans hB2 (Below.mono hL hgw2)
    have hgw3 : g + 1 ≤ w3.heap.size := Nat.le_trans hgw2 hL.size
    have hds : (it ++ (⟨#[46]⟩ : ByteArray) ++ k2 ++ (⟨#[46]⟩ : ByteArray) ++ k3 ++ (⟨#[32, 61, 32]⟩ : ByteArray) ++ tx).size = it.size + 1 + k2.size + 1 + k3.size + 3 + tx.size := by rw [ByteArray.size_append, ByteArray.size_append, ByteArray.size_append, ByteArray.size_append, ByteArray.size_append, ByteArray.size_append]; rfl
    have HWS := Lib.hid (write_bytes (g + 1) (g + 1) [] (it ++ (⟨#[46]⟩ : ByteArray) ++ k2 ++ (⟨#[46]⟩ : ByteArray) ++ k3 ++ (⟨#[32, 61, 32]⟩ : ByteArray) ++ tx) w3 hbu3 (by rw [hds]; simp only [List.length_nil, List.length_cons]; omega) hgw3)
    refine wpOp_step rfl (fun K hK => ?_)
    refine take_op rfl ?_
    go_simp
    go_at_call 41
    refine HWS.out.mono ?_
    rintro r w4 ⟨⟨u29, rfl⟩, hbu4, hB4'⟩
    refine hK _ _ ?_
    have hB4 : Below (g + 1) w1 w4 := Below.trans hB3 hB4'
    have hgw4 : g + 1 ≤ w4.heap.size := Nat.le_trans hgw3 hB4'.size
    have hl4 : ([] ++ (it ++ (⟨#[46]⟩ : ByteArray) ++ k2 ++ (⟨#[46]⟩ : ByteArray) ++ k3 ++ (⟨#[32, 61, 32]⟩ : ByteArray) ++ tx).data.toList).length ≤ 5000000000 := by
      have : (it ++ (⟨#[46]⟩ : ByteArray) ++ k2 ++ (⟨#[46]⟩ : ByteArray) ++ k3 ++ (⟨#[32, 61, 32]⟩ : ByteArray) ++ tx).data.toList.length = _ := hds
      rw [List.length_append, this]
      simp only [List.length_nil, List.length_cons]
      omega
    have hRR : R = ([] ++ (it ++ (⟨#[46]⟩ : ByteArray) ++ k2 ++ (⟨#[46]⟩ : ByteArray) ++ k3 ++ (⟨#[32, 61, 32]⟩ : ByteArray) ++ tx).data.toList) ++ overL T los := HS.out.trans (by (rfl))
    clear HWS hbu3 hB3 hgw3 hB4' hds hbu hB2 hgw2 hLW2 hgl hrW hx2 HS
    generalize ([] ++ (it ++ (⟨#[46]⟩ : ByteArray) ++ k2 ++ (⟨#[46]⟩ : ByteArray) ++ k3 ++ (⟨#[32, 61, 32]⟩ : ByteArray) ++ tx).data.toList) = L at *
    have HRR := Lib.hid hRR
    clear hRR
    have hbox4 : Blk w4 g 44 (#[.int .i64 k1, .string k2, .string k3, .int .i64 x1, .string x2, .string x3, .int .i64 x4, .int .i64 x5, .string x6, .int .i64 x7, .string x8, .int .i64 x9, .int .i64 x10, .slice A los.length c, .int .i64 0]) := (hB4.block g (by omega)).trans hbox
    have cx4 := hbox4.cell
    go_wp2_with fail
    go_loopw [33] (fun i wr => ∃ j : Nat, j ≤ los.length ∧ i = .int .i64 j ∧ Lib.IsBuilder 65 5 (g + 1) (g + 1) (Lib.byteCells (L ++ overL T (los.take j))) wr ∧ Below (g + 1) w1 wr ∧ g + 1 ≤ wr.heap.size ∧ (overL T (los.take j)).length ≤ j * 1000000006) (fun i _ => los.length - (intOf i).toNat)
    case atStart => exact ⟨0, Nat.zero_le _, rfl, by simpa [overL] using hbu4, hB4, hgw4, by simp [overL]⟩
    case round =>
      clear hbu4 hB4 hgw4 cx4 hbox4
      obtain ⟨j, hjl, rfl, hbur, hBr, hgr, hlr⟩ := hrel
      have hLWr : Lat w wr := Below.trans hLW1 (hBr.mono (by omega))
      by_cases hlt : j < los.length
      · obtain ⟨b, off, hA, hb1, hr1'⟩ := (hlos.lat hLWr).row j hlt
        subst hA
        have hr1 : RowAt wr b (off + j * 10) (wC los[j]) := hr1'
        obtain ⟨hts, htx⟩ := HL0.out j hlt
        have htk := overL_take T los j hlt
        clear hr1' HL0 hbox
        generalize hY : los[j] = Y at *
        generalize T Y = ty at *
        obtain ⟨⟨y1, y2, y3⟩, ⟨y4, y5, y6⟩, y7, y8, y9, y10⟩ := Y
        simp only [wC, kC, vC, List.cons_append, List.nil_append] at hr1 htx
        have hL5 : Lat wr (wr.alloc (.cells #[.int .i64 y1, .string y2, .string y3, .int .i64 y4, .int .i64 y5, .string y6, .int .i64 y7, .string y8, .int .i64 y9, .int .i64 y10] 29)) := Lat.al _ _
        have hrY : RowAt (wr.alloc (.cells #[.int .i64 y1, .string y2, .string y3, .int .i64 y4, .int .i64 y5, .string y6, .int .i64 y7, .string y8, .int .i64 y9, .int .i64 y10] 29)) wr.heap.size 0 [.int .i64 y1, .string y2, .string y3, .int .i64 y4, .int .i64 y5, .string y6, .int .i64 y7, .string y8, .int .i64 y9, .int .i64 y10] := (Blk.new wr 29 #[.int .i64 y1, .string y2, .string y3, .int .i64 y4, .int .i64 y5, .string y6, .int .i64 y7, .string y8, .int .i64 y9, .int .i64 y10]).row
        have HTY := Lib.hid (htx _ (hLWr.trans hL5))
        have hbu5 := isBuilder_carry hbur hL5
        have hB5 : Below (g + 1) w1 (wr.alloc (.cells #[.int .i64 y1, .string y2, .string y3, .int .i64 y4, .int .i64 y5, .string y6, .int .i64 y7, .string y8, .int .i64 y9, .int .i64 y10] 29)) := Below.trans hBr (Below.mono hL5 hgr)
        have hgw5 : g + 1 ≤ (wr.alloc (.cells #[.int .i64 y1, .string y2, .string y3, .int .i64 y4, .int .i64 y5, .string y6, .int .i64 y7, .string y8, .int .i64 y9, .int .i64 y10] 29)).heap.size := Nat.le_trans hgr hL5.size
        have z1 : ¬ (9223372036854775807 < 6 + ty.size) := by omega
        have HZ := Lib.hid z1
        clear hbur hBr hgr hY htx hL5
        go_wp2_with (first | (with_reducible refine wpList_load_at rfl 29 _ rfl b (off + j * 10) rfl _ _ hr1 Tryd.underlying29 rfl (by kernel_rfl) ?_) | (with_reducible refine wpList_load_at rfl 29 _ rfl wr.heap.size 0 rfl _ _ hrY Tryd.underlying29 rfl (by kernel_rfl) ?_))
        refine HTY.out.mono ?_
        rintro r w6 ⟨rfl, hl6⟩
        have hbu6 := isBuilder_carry hbu5 hl6
        have hB6 : Below (g + 1) w1 w6 := Below.trans hB5 (Below.mono hl6 hgw5)
        have hgw6 : g + 1 ≤ w6.heap.size := Nat.le_trans hgw5 hl6.size
        have hov : ((⟨#[32, 111, 118, 101, 114, 32]⟩ : ByteArray) ++ ty).size = 6 + ty.size := by rw [ByteArray.size_append]; rfl
        have hov' : (overS ty).data.toList.length = 6 + ty.size := hov
        have HWS2 := Lib.hid (write_bytes (g + 1) (g + 1) (L ++ overL T (los.take j)) ((⟨#[32, 111, 118, 101, 114, 32]⟩ : ByteArray) ++ ty) w6 hbu6 (by rw [hov, List.length_append]; omega) hgw6)
        have hlr2 : (overL T (los.take (j + 1))).length ≤ (j + 1) * 1000000006 := by rw [htk, List.length_append, hov']; omega
        have HLR2 := Lib.hid hlr2
        clear hbu5 hB5 hgw5 hl6 hbu6 HTY hrY hlr2 hlr hov hov'
        go_wp2_with fail
        refine HWS2.out.mono ?_
        rintro r w7 ⟨⟨uw, rfl⟩, hbu7, hB7'⟩
        have hB7 := Below.trans hB6 hB7'
        have hgw7 : g + 1 ≤ w7.heap.size := Nat.le_trans hgw6 hB7'.size
        clear HWS2 hB6 hB7' hgw6
        go_wp2_with fail
        go_roundw
        case rel => exact ⟨j + 1, by omega, by go_num, by rw [htk, ← List.append_assoc]; exact hbu7, hB7, hgw7, HLR2.out⟩
        case measure => simp [intOf]; omega
      · have hj : j = los.length := by omega
        subst hj
        rw [List.take_length] at hbur
        have HST := Lib.hid (Builder_String_any (g + 1) (g + 1) (L ++ overL T los) wr hbur hgr)
        rw [← HRR.out] at HST
        clear hbur HL0 HRR hlr
        go_wp2_with fail
        refine HST.out.mono ?_
        rintro r w8 ⟨rfl, hB8⟩
        go_wp2_with fail
        go_ret
        exact ⟨rfl, Below.trans hLWr (hB8.mono (by omega))⟩
  · have q5 : (e != 0) = true := bne_iff_ne.2 he
    have HPRE : Hid (preL e = [98, 108, 111, 99, 107, 101, 100, 58, 32]) := Lib.hid (by rw [preL, if_neg he])
    have HB := Lib.hid (write_bytes (w.heap.size + 1) (w.heap.size + 1) [] (⟨#[98, 108, 111, 99, 107, 101, 100, 58, 32]⟩ : ByteArray) ((w.alloc (.cells #[.int .i64 k1, .string k2, .string k3, .int .i64 x1, .string x2, .string x3, .int .i64 x4, .int .i64 x5, .string x6, .int .i64 x7, .string x8, .int .i64 x9, .int .i64 x10, .slice A los.length c, .int .i64 e] 44)).alloc (.cells #[.pointer none, .slice none 0 0] 65)) hnb (by decide) hBw1)
    go_wp2_with fail
    refine HB.out.mono ?_
    rintro r w2 ⟨⟨u9, rfl⟩, hbu0, hB20⟩
    clear cx0 HB hnb
    generalize hw1 : ((w.alloc (.cells #[.int .i64 k1, .string k2, .string k3, .int .i64 x1, .string x2, .string x3, .int .i64 x4, .int .i64 x5, .string x6, .int .i64 x7, .string x8, .int .i64 x9, .int .i64 x10, .slice A los.length c, .int .i64 e] 44)).alloc (.cells #[.pointer none, .slice none 0 0] 65)) = w1 at *
    clear hw1
    generalize hgg : w.heap.size = g at *
    have hbu : Lib.IsBuilder 65 5 (g + 1) (g + 1) (Lib.byteCells [98, 108, 111, 99, 107, 101, 100, 58, 32]) w2 := hbu0
    have hB2 : Below (g + 1) w1 w2 := hB20
    have hgw2 : g + 1 ≤ w2.heap.size := Nat.le_trans hBw1 hB2.size
    clear hbu0 hB20 hBw1 he q5
    go_wp2_with fail
    have hx2 : Blk w2 g 44 (#[.int .i64 k1, .string k2, .string k3, .int .i64 x1, .string x2, .string x3, .int .i64 x4, .int .i64 x5, .string x6, .int .i64 x7, .string x8, .int .i64 x9, .int .i64 x10, .slice A los.length c, .int .i64 e]) := (hB2.block g (by omega)).trans hbox
    have hrW : RowAt w2 g 3 [.int .i64 x1, .string x2, .string x3, .int .i64 x4, .int .i64 x5, .string x6, .int .i64 x7, .string x8, .int .i64 x9, .int .i64 x10] := row_of_blk (l := (#[.int .i64 k1, .string k2, .string k3, .int .i64 x1, .string x2, .string x3, .int .i64 x4, .int .i64 x5, .string x6, .int .i64 x7, .string x8, .int .i64 x9, .int .i64 x10, .slice A los.length c, .int .i64 e]).toList) hx2 3 _ (fun i v hi => by
      match i, hi with
      | 0, hi => exact hi
      | 1, hi => exact hi
      | 2, hi => exact hi
      | 3, hi => exact hi
      | 4, hi => exact hi
      | 5, hi => exact hi
      | 6, hi => exact hi
      | 7, hi => exact hi
      | 8, hi => exact hi
      | 9, hi => exact hi
      | i + 10, hi => simp at hi)
    have hLW2 : Lat w w2 := Below.trans hLW1 (hB2.mono (by omega))
    have hgl := hx2.lt
    have HI := fun w' (h : Lat w2 w') => Lib.hid (HI0.out w' (hLW2.trans h))
    have HTW := fun w' (h : Lat w2 w') => Lib.hid (HW0.out w' (hLW2.trans h))
    have z1 : ¬ (9223372036854775807 < it.size + 1) := by omega
    have z2 : ¬ (9223372036854775807 < it.size + 1 + k2.size) := by omega
    have z3 : ¬ (9223372036854775807 < it.size + 1 + k2.size + 1) := by omega
    have z4 : ¬ (9223372036854775807 < it.size + 1 + k2.size + 1 + k3.size) := by omega
    have z5 : ¬ (9223372036854775807 < it.size + 1 + k2.size + 1 + k3.size + 3) := by omega
    have z6 : ¬ (9223372036854775807 < it.size + 1 + k2.size + 1 + k3.size + 3 + tx.size) := by omega
    refine wp_rely_last (n := 19) (by kernel_rfl) (by kernel_rfl) rfl (by kernel_rfl) ?_
    simp only [List.take_succ_cons, List.take_zero]
    apply RelyL.val
    · intro ν w' hL hF K hK'
      have cx := (hx2.lat hL).cell
      go_simp
      exact hK'.out _ _ rfl (Lat.refl _)
    simp only [Act.put, List.setIfInBounds_toArray, List.set_cons_zero, List.set_cons_succ, Nat.reduceAdd]
    apply RelyL.val
    · intro ν w' hL hF K hK'
      have cx := (hx2.lat hL).cell
      go_simp
      exact hK'.out _ _ rfl (Lat.refl _)
    simp only [Act.put, List.setIfInBounds_toArray, List.set_cons_zero, List.set_cons_succ, Nat.reduceAdd]
    apply RelyL.val
    · intro ν w' hL hF K hK'
      have cx := (hx2.lat hL).cell
      go_simp
      exact hK'.out _ _ rfl (Lat.refl _)
    simp only [Act.put, List.setIfInBounds_toArray, List.set_cons_zero, List.set_cons_succ, Nat.reduceAdd]
    apply RelyL.val
    · intro ν w' hL hF K hK'
      have H := HI w' hL
      go_simp
      go_at_call 42
      refine H.out.mono ?_
      rintro r w'' ⟨rfl, hbp⟩
      exact hK'.out _ _ rfl hbp
    simp only [Act.put, List.setIfInBounds_toArray, List.set_cons_zero, List.set_cons_succ, Nat.reduceAdd]
    apply RelyL.val
    · intro ν w' hL hF K hK'
      have cx := (hx2.lat hL).cell
      go_simp
      exact hK'.out _ _ rfl (Lat.refl _)
    simp only [Act.put, List.setIfInBounds_toArray, List.set_cons_zero, List.set_cons_succ, Nat.reduceAdd]
    apply RelyL.val
    · intro ν w' hL hF K hK'
      have cx := (hx2.lat hL).cell
      go_simp
      exact hK'.out _ _ rfl (Lat.refl _)
    simp only [Act.put, List.setIfInBounds_toArray, List.set_cons_zero, List.set_cons_succ, Nat.reduceAdd]
    apply RelyL.val
    · intro ν w' hL hF K hK'
      have cx := (hx2.lat hL).cell
      go_simp
      exact hK'.out _ _ rfl (Lat.refl _)
    simp only [Act.put, List.setIfInBounds_toArray, List.set_cons_zero, List.set_cons_succ, Nat.reduceAdd]
    apply RelyL.val
    · intro ν w' hL hF K hK'
      have cx := (hx2.lat hL).cell
      go_simp
      exact hK'.out _ _ rfl (Lat.refl _)
    simp only [Act.put, List.setIfInBounds_toArray, List.set_cons_zero, List.set_cons_succ, Nat.reduceAdd]
    apply RelyL.val
    · intro ν w' hL hF K hK'
      have cx := (hx2.lat hL).cell
      go_simp
      exact hK'.out _ _ rfl (Lat.refl _)
    simp only [Act.put, List.setIfInBounds_toArray, List.set_cons_zero, List.set_cons_succ, Nat.reduceAdd]
    apply RelyL.val
    · intro ν w' hL hF K hK'
      have cx := (hx2.lat hL).cell
      go_simp
      exact hK'.out _ _ rfl (Lat.refl _)
    simp only [Act.put, List.setIfInBounds_toArray, List.set_cons_zero, List.set_cons_succ, Nat.reduceAdd]
    apply RelyL.val
    · intro ν w' hL hF K hK'
      have cx := (hx2.lat hL).cell
      go_simp
      exact hK'.out _ _ rfl (Lat.refl _)
    simp only [Act.put, List.setIfInBounds_toArray, List.set_cons_zero, List.set_cons_succ, Nat.reduceAdd]
    apply RelyL.val
    · intro ν w' hL hF K hK'
      have cx := (hx2.lat hL).cell
      go_simp
      exact hK'.out _ _ rfl (Lat.refl _)
    simp only [Act.put, List.setIfInBounds_toArray, List.set_cons_zero, List.set_cons_succ, Nat.reduceAdd]
    apply RelyL.val
    · intro ν w' hL hF K hK'
      have cx := (hx2.lat hL).cell
      go_simp
      exact hK'.out _ _ rfl (Lat.refl _)
    simp only [Act.put, List.setIfInBounds_toArray, List.set_cons_zero, List.set_cons_succ, Nat.reduceAdd]
    apply RelyL.val
    · intro ν w' hL hF K hK'
      have cx := (hx2.lat hL).cell
      go_simp
      exact hK'.out _ _ rfl (Lat.refl _)
    simp only [Act.put, List.setIfInBounds_toArray, List.set_cons_zero, List.set_cons_succ, Nat.reduceAdd]
    apply RelyL.val
    · intro ν w' hL hF K hK'
      have cx := (hx2.lat hL).cell
      go_simp
      exact hK'.out _ _ rfl (Lat.refl _)
    simp only [Act.put, List.setIfInBounds_toArray, List.set_cons_zero, List.set_cons_succ, Nat.reduceAdd]
    apply RelyL.val
    · intro ν w' hL hF K hK'
      have cx := (hx2.lat hL).cell
      go_simp
      exact hK'.out _ _ rfl (Lat.refl _)
    simp only [Act.put, List.setIfInBounds_toArray, List.set_cons_zero, List.set_cons_succ, Nat.reduceAdd]
    apply RelyL.val
    · intro ν w' hL hF K hK'
      refine take_op rfl ?_
      refine wp_load_at 29 _ rfl g (3) rfl _ _ (hrW.below hL hgl) Tryd.underlying29 rfl (by kernel_rfl) ?_
      exact hK'.out _ _ rfl (Lat.refl _)
    simp only [Act.put, List.setIfInBounds_toArray, List.set_cons_zero, List.set_cons_succ, Nat.reduceAdd]
    apply RelyL.val
    · intro ν w' hL hF K hK'
      have H := HTW w' hL
      go_simp
      go_at_call 43
      refine H.out.mono ?_
      rintro r w'' ⟨rfl, hbp⟩
      exact hK'.out _ _ rfl hbp
    simp only [Act.put, List.setIfInBounds_toArray, List.set_cons_zero, List.set_cons_succ, Nat.reduceAdd]
    apply RelyL.val
    · intro ν w' hL hF K hK'
      have cx := (hx2.lat hL).cell
      go_simp
      exact hK'.out _ _ rfl (Lat.refl _)
    simp only [Act.put, List.setIfInBounds_toArray, List.set_cons_zero, List.set_cons_succ, Nat.reduceAdd]
    refine RelyL.done fun ν w3 hL hF => ?_
    clear hF HI HTW z1 z2 z3 z4 z5 z6
    have hbu3 := isBuilder_carry hbu hL
    have hB3 : Below (g + 1) w1 w3 := Below.trans hB2 (Below.mono hL hgw2)
    have hgw3 : g + 1 ≤ w3.heap.size := Nat.le_trans hgw2 hL.size
    have hds : (it ++ (⟨#[46]⟩ : ByteArray) ++ k2 ++ (⟨#[46]⟩ : ByteArray) ++ k3 ++ (⟨#[32, 61, 32]⟩ : ByteArray) ++ tx).size = it.size + 1 + k2.size + 1 + k3.size + 3 + tx.size := by rw [ByteArray.size_append, ByteArray.size_append, ByteArray.size_append, ByteArray.size_append, ByteArray.size_append, ByteArray.size_append]; rfl
    have HWS := Lib.hid (write_bytes (g + 1) (g + 1) [98, 108, 111, 99, 107, 101, 100, 58, 32] (it ++ (⟨#[46]⟩ : ByteArray) ++ k2 ++ (⟨#[46]⟩ : ByteArray) ++ k3 ++ (⟨#[32, 61, 32]⟩ : ByteArray) ++ tx) w3 hbu3 (by rw [hds]; simp only [List.length_nil, List.length_cons]; omega) hgw3)
    refine wpOp_step rfl (fun K hK => ?_)
    refine take_op rfl ?_
    go_simp
    go_at_call 41
    refine HWS.out.mono ?_
    rintro r w4 ⟨⟨u29, rfl⟩, hbu4, hB4'⟩
    refine hK _ _ ?_
    have hB4 : Below (g + 1) w1 w4 := Below.trans hB3 hB4'
    have hgw4 : g + 1 ≤ w4.heap.size := Nat.le_trans hgw3 hB4'.size
    have hl4 : ([98, 108, 111, 99, 107, 101, 100, 58, 32] ++ (it ++ (⟨#[46]⟩ : ByteArray) ++ k2 ++ (⟨#[46]⟩ : ByteArray) ++ k3 ++ (⟨#[32, 61, 32]⟩ : ByteArray) ++ tx).data.toList).length ≤ 5000000000 := by
      have : (it ++ (⟨#[46]⟩ : ByteArray) ++ k2 ++ (⟨#[46]⟩ : ByteArray) ++ k3 ++ (⟨#[32, 61, 32]⟩ : ByteArray) ++ tx).data.toList.length = _ := hds
      rw [List.length_append, this]
      simp only [List.length_nil, List.length_cons]
      omega
    have hRR : R = ([98, 108, 111, 99, 107, 101, 100, 58, 32] ++ (it ++ (⟨#[46]⟩ : ByteArray) ++ k2 ++ (⟨#[46]⟩ : ByteArray) ++ k3 ++ (⟨#[32, 61, 32]⟩ : ByteArray) ++ tx).data.toList) ++ overL T los := HS.out.trans (by (rw [HPRE.out]))
    clear HWS hbu3 hB3 hgw3 hB4' hds hbu hB2 hgw2 hLW2 hgl hrW hx2 HS
    generalize ([98, 108, 111, 99, 107, 101, 100, 58, 32] ++ (it ++ (⟨#[46]⟩ : ByteArray) ++ k2 ++ (⟨#[46]⟩ : ByteArray) ++ k3 ++ (⟨#[32, 61, 32]⟩ : ByteArray) ++ tx).data.toList) = L at *
    have HRR := Lib.hid hRR
    clear hRR
    have hbox4 : Blk w4 g 44 (#[.int .i64 k1, .string k2, .string k3, .int .i64 x1, .string x2, .string x3, .int .i64 x4, .int .i64 x5, .string x6, .int .i64 x7, .string x8, .int .i64 x9, .int .i64 x10, .slice A los.length c, .int .i64 e]) := (hB4.block g (by omega)).trans hbox
    have cx4 := hbox4.cell
    go_wp2_with fail
    go_loopw [33] (fun i wr => ∃ j : Nat, j ≤ los.length ∧ i = .int .i64 j ∧ Lib.IsBuilder 65 5 (g + 1) (g + 1) (Lib.byteCells (L ++ overL T (los.take j))) wr ∧ Below (g + 1) w1 wr ∧ g + 1 ≤ wr.heap.size ∧ (overL T (los.take j)).length ≤ j * 1000000006) (fun i _ => los.length - (intOf i).toNat)
    case atStart => exact ⟨0, Nat.zero_le _, rfl, by simpa [overL] using hbu4, hB4, hgw4, by simp [overL]⟩
    case round =>
      clear hbu4 hB4 hgw4 cx4 hbox4
      obtain ⟨j, hjl, rfl, hbur, hBr, hgr, hlr⟩ := hrel
      have hLWr : Lat w wr := Below.trans hLW1 (hBr.mono (by omega))
      by_cases hlt : j < los.length
      · obtain ⟨b, off, hA, hb1, hr1'⟩ := (hlos.lat hLWr).row j hlt
        subst hA
        have hr1 : RowAt wr b (off + j * 10) (wC los[j]) := hr1'
        obtain ⟨hts, htx⟩ := HL0.out j hlt
        have htk := overL_take T los j hlt
        clear hr1' HL0 hbox
        generalize hY : los[j] = Y at *
        generalize T Y = ty at *
        obtain ⟨⟨y1, y2, y3⟩, ⟨y4, y5, y6⟩, y7, y8, y9, y10⟩ := Y
        simp only [wC, kC, vC, List.cons_append, List.nil_append] at hr1 htx
        have hL5 : Lat wr (wr.alloc (.cells #[.int .i64 y1, .string y2, .string y3, .int .i64 y4, .int .i64 y5, .string y6, .int .i64 y7, .string y8, .int .i64 y9, .int .i64 y10] 29)) := Lat.al _ _
        have hrY : RowAt (wr.alloc (.cells #[.int .i64 y1, .string y2, .string y3, .int .i64 y4, .int .i64 y5, .string y6, .int .i64 y7, .string y8, .int .i64 y9, .int .i64 y10] 29)) wr.heap.size 0 [.int .i64 y1, .string y2, .string y3, .int .i64 y4, .int .i64 y5, .string y6, .int .i64 y7, .string y8, .int .i64 y9, .int .i64 y10] := (Blk.new wr 29 #[.int .i64 y1, .string y2, .string y3, .int .i64 y4, .int .i64 y5, .string y6, .int .i64 y7, .string y8, .int .i64 y9, .int .i64 y10]).row
        have HTY := Lib.hid (htx _ (hLWr.trans hL5))
        have hbu5 := isBuilder_carry hbur hL5
        have hB5 : Below (g + 1) w1 (wr.alloc (.cells #[.int .i64 y1, .string y2, .string y3, .int .i64 y4, .int .i64 y5, .string y6, .int .i64 y7, .string y8, .int .i64 y9, .int .i64 y10] 29)) := Below.trans hBr (Below.mono hL5 hgr)
        have hgw5 : g + 1 ≤ (wr.alloc (.cells #[.int .i64 y1, .string y2, .string y3, .int .i64 y4, .int .i64 y5, .string y6, .int .i64 y7, .string y8, .int .i64 y9, .int .i64 y10] 29)).heap.size := Nat.le_trans hgr hL5.size
        have z1 : ¬ (9223372036854775807 < 6 + ty.size) := by omega
        have HZ := Lib.hid z1
        clear hbur hBr hgr hY htx hL5
        go_wp2_with (first | (with_reducible refine wpList_load_at rfl 29 _ rfl b (off + j * 10) rfl _ _ hr1 Tryd.underlying29 rfl (by kernel_rfl) ?_) | (with_reducible refine wpList_load_at rfl 29 _ rfl wr.heap.size 0 rfl _ _ hrY Tryd.underlying29 rfl (by kernel_rfl) ?_))
        refine HTY.out.mono ?_
        rintro r w6 ⟨rfl, hl6⟩
        have hbu6 := isBuilder_carry hbu5 hl6
        have hB6 : Below (g + 1) w1 w6 := Below.trans hB5 (Below.mono hl6 hgw5)
        have hgw6 : g + 1 ≤ w6.heap.size := Nat.le_trans hgw5 hl6.size
        have hov : ((⟨#[32, 111, 118, 101, 114, 32]⟩ : ByteArray) ++ ty).size = 6 + ty.size := by rw [ByteArray.size_append]; rfl
        have hov' : (overS ty).data.toList.length = 6 + ty.size := hov
        have HWS2 := Lib.hid (write_bytes (g + 1) (g + 1) (L ++ overL T (los.take j)) ((⟨#[32, 111, 118, 101, 114, 32]⟩ : ByteArray) ++ ty) w6 hbu6 (by rw [hov, List.length_append]; omega) hgw6)
        have hlr2 : (overL T (los.take (j + 1))).length ≤ (j + 1) * 1000000006 := by rw [htk, List.length_append, hov']; omega
        have HLR2 := Lib.hid hlr2
        clear hbu5 hB5 hgw5 hl6 hbu6 HTY hrY hlr2 hlr hov hov'
        go_wp2_with fail
        refine HWS2.out.mono ?_
        rintro r w7 ⟨⟨uw, rfl⟩, hbu7, hB7'⟩
        have hB7 := Below.trans hB6 hB7'
        have hgw7 : g + 1 ≤ w7.heap.size := Nat.le_trans hgw6 hB7'.size
        clear HWS2 hB6 hB7' hgw6
        go_wp2_with fail
        go_roundw
        case rel => exact ⟨j + 1, by omega, by go_num, by rw [htk, ← List.append_assoc]; exact hbu7, hB7, hgw7, HLR2.out⟩
        case measure => simp [intOf]; omega
      · have hj : j = los.length := by omega
        subst hj
        rw [List.take_length] at hbur
        have HST := Lib.hid (Builder_String_any (g + 1) (g + 1) (L ++ overL T los) wr hbur hgr)
        rw [← HRR.out] at HST
        clear hbur HL0 HRR hlr
        go_wp2_with fail
        refine HST.out.mono ?_
        rintro r w8 ⟨rfl, hB8⟩
        go_wp2_with fail
        go_ret
        exact ⟨rfl, Below.trans hLWr (hB8.mono (by omega))⟩
end Go.Proofs.YtgjoojailghilaaDoor
