/- EvalOrder: the walk. -/
import Derived.Test.YtnelgblmogciiaaSame
import Derived.Test.YtnelgblmogciiaaSmall
import Derived.Test.YtnelgblmogciiaaAwake2
import Derived.Test.YtnelgblmogciiaaOrder0
set_option linter.unusedSimpArgs false
set_option linter.unusedVariables false
namespace Go.Proofs.Ytnelgblmogciiaa
open Go.RowKit

def ord5 : List Int := [7, 8, 9, 11, 13]
theorem ord5_kind (k : Nat) (hk : k < 5) : ∃ kd : Int, (#[.int .i64 7, .int .i64 8, .int .i64 9, .int .i64 11, .int .i64 13] : Array Value)[k]? = some (.int .i64 kd) ∧ (kd = 7 ∨ kd = 8 ∨ kd = 9 ∨ kd = 11 ∨ kd = 13) := by
  match k, hk with
  | 0, _ => exact ⟨7, rfl, by omega⟩
  | 1, _ => exact ⟨8, rfl, by omega⟩
  | 2, _ => exact ⟨9, rfl, by omega⟩
  | 3, _ => exact ⟨11, rfl, by omega⟩
  | 4, _ => exact ⟨13, rfl, by omega⟩

set_option maxHeartbeats 1000000 in
theorem same_swap (V : LView) (vc : List Value) (a b : LExpr) (ca cb : List Value) (B : Nat) (w : World) (hB : B ≤ w.heap.size) (hv : IsView B w V vc) (ha : IsExpr B w a ca) (hb : IsExpr B w b cb) (kd : Int) (hk : kd = 7 ∨ kd = 8 ∨ kd = 9 ∨ kd = 11 ∨ kd = 13)
    (g1 g2 n1 n2 : Nat) (hg1 : Blk w g1 32 (ca ++ cb).toArray) (hg2 : Blk w g2 32 (cb ++ ca).toArray) :
    Calls Try.prog 27 #[.agg vc.toArray, .agg ((bareH kd).cells (.slice (some ⟨g1, 0, none⟩) 2 n1)).toArray, .agg ((bareH kd).cells (.slice (some ⟨g2, 0, none⟩) 2 n2)).toArray] w fun r w' => r = .returned (.bool true) ∧ Below w.heap.size w w' := by
  have hkd : I64 kd := by unfold I64; omega
  have h := same_any V (.mk (bareH kd) [a, b]) (.mk (bareH kd) [b, a]) vc _ _ w.heap.size w (Nat.le_refl _) (hv.mono hB) (pair_is (bareH_ok hkd) n1 hg1 hg1.lt (ha.mono hB) (hb.mono hB)) (pair_is (bareH_ok hkd) n2 hg2 hg2.lt (hb.mono hB) (ha.mono hB))
  rw [evalE_swap V (bareH kd) a b (by simpa [bareH] using hk), sameB_self] at h
  exact h

set_option maxRecDepth 100000 in
set_option maxHeartbeats 8000000 in
theorem evalOrder_any (V : LView) (a b : LExpr) (vc csa csb : List Value) (B : Nat) (w : World) (hB : B ≤ w.heap.size) (hv : IsView B w V vc) (hea : IsExpr B w a csa) (heb : IsExpr B w b csb) :
    Calls Try.prog 6 #[.agg vc.toArray, .agg csa.toArray, .agg csb.toArray] w fun r w' => r = .returned (.bool true) ∧ Below w.heap.size w w' := by
  have HS1 := fun W (hb' : Below B w W) (hl : B ≤ W.heap.size) => Lib.hid (small_any V a vc csa B W hl (hv.carry hb') (hea.carry hb'))
  have HS2 := fun W (hb' : Below B w W) (hl : B ≤ W.heap.size) => Lib.hid (small_any V b vc csb B W hl (hv.carry hb') (heb.carry hb'))
  have HW := fun W (hb' : Below B w W) (hl : B ≤ W.heap.size) kd hk g1 g2 n1 n2 => fun hg1 hg2 => Lib.hid (same_swap V vc a b csa csb B W hl (hv.carry hb') (hea.carry hb') (heb.carry hb') kd hk g1 g2 n1 n2 hg1 hg2)
  obtain ⟨ha, ka, Aa, ca, qa, rfl, _⟩ := hea.form
  obtain ⟨hb, kb, Ab, cb, qb, rfl, _⟩ := heb.form
  obtain ⟨IA, ic, MA, mc, rfl, _⟩ := hv
  clear qa qb hea heb
  have hbw0 : Below w.heap.size w (((w.alloc (.cells #[.slice IA V.items.length ic, .string V.mode, .int .i64 V.minute, .slice MA V.members.length mc] 25)).alloc (.cells #[.int .i64 ha.kind, .int .i64 ha.n, .int .i64 ha.m, .string ha.name, .int .i64 ha.vk, .int .i64 ha.vn, .string ha.vs, .int .i64 ha.dev, .string ha.cl, .string ha.at_, .slice Aa ka.length ca] 32)).alloc (.cells #[.int .i64 hb.kind, .int .i64 hb.n, .int .i64 hb.m, .string hb.name, .int .i64 hb.vk, .int .i64 hb.vn, .string hb.vs, .int .i64 hb.dev, .string hb.cl, .string hb.at_, .slice Ab kb.length cb] 32)) := (((Below.refl _ _).al _).al _).al _
  have hv0 : Blk (((w.alloc (.cells #[.slice IA V.items.length ic, .string V.mode, .int .i64 V.minute, .slice MA V.members.length mc] 25)).alloc (.cells #[.int .i64 ha.kind, .int .i64 ha.n, .int .i64 ha.m, .string ha.name, .int .i64 ha.vk, .int .i64 ha.vn, .string ha.vs, .int .i64 ha.dev, .string ha.cl, .string ha.at_, .slice Aa ka.length ca] 32)).alloc (.cells #[.int .i64 hb.kind, .int .i64 hb.n, .int .i64 hb.m, .string hb.name, .int .i64 hb.vk, .int .i64 hb.vn, .string hb.vs, .int .i64 hb.dev, .string hb.cl, .string hb.at_, .slice Ab kb.length cb] 32)) w.heap.size 25 #[.slice IA V.items.length ic, .string V.mode, .int .i64 V.minute, .slice MA V.members.length mc] := ((Blk.new _ _ _).alloc _).alloc _
  have ha0 : Blk (((w.alloc (.cells #[.slice IA V.items.length ic, .string V.mode, .int .i64 V.minute, .slice MA V.members.length mc] 25)).alloc (.cells #[.int .i64 ha.kind, .int .i64 ha.n, .int .i64 ha.m, .string ha.name, .int .i64 ha.vk, .int .i64 ha.vn, .string ha.vs, .int .i64 ha.dev, .string ha.cl, .string ha.at_, .slice Aa ka.length ca] 32)).alloc (.cells #[.int .i64 hb.kind, .int .i64 hb.n, .int .i64 hb.m, .string hb.name, .int .i64 hb.vk, .int .i64 hb.vn, .string hb.vs, .int .i64 hb.dev, .string hb.cl, .string hb.at_, .slice Ab kb.length cb] 32)) (w.heap.size + 1) 32 #[.int .i64 ha.kind, .int .i64 ha.n, .int .i64 ha.m, .string ha.name, .int .i64 ha.vk, .int .i64 ha.vn, .string ha.vs, .int .i64 ha.dev, .string ha.cl, .string ha.at_, .slice Aa ka.length ca] := (Blk.at1 _ _ _ _).alloc _
  have hb0 : Blk (((w.alloc (.cells #[.slice IA V.items.length ic, .string V.mode, .int .i64 V.minute, .slice MA V.members.length mc] 25)).alloc (.cells #[.int .i64 ha.kind, .int .i64 ha.n, .int .i64 ha.m, .string ha.name, .int .i64 ha.vk, .int .i64 ha.vn, .string ha.vs, .int .i64 ha.dev, .string ha.cl, .string ha.at_, .slice Aa ka.length ca] 32)).alloc (.cells #[.int .i64 hb.kind, .int .i64 hb.n, .int .i64 hb.m, .string hb.name, .int .i64 hb.vk, .int .i64 hb.vn, .string hb.vs, .int .i64 hb.dev, .string hb.cl, .string hb.at_, .slice Ab kb.length cb] 32)) (w.heap.size + 1 + 1) 32 #[.int .i64 hb.kind, .int .i64 hb.n, .int .i64 hb.m, .string hb.name, .int .i64 hb.vk, .int .i64 hb.vn, .string hb.vs, .int .i64 hb.dev, .string hb.cl, .string hb.at_, .slice Ab kb.length cb] := Blk.at2 _ _ _ _ _
  have hl0 : w.heap.size + 3 = (((w.alloc (.cells #[.slice IA V.items.length ic, .string V.mode, .int .i64 V.minute, .slice MA V.members.length mc] 25)).alloc (.cells #[.int .i64 ha.kind, .int .i64 ha.n, .int .i64 ha.m, .string ha.name, .int .i64 ha.vk, .int .i64 ha.vn, .string ha.vs, .int .i64 ha.dev, .string ha.cl, .string ha.at_, .slice Aa ka.length ca] 32)).alloc (.cells #[.int .i64 hb.kind, .int .i64 hb.n, .int .i64 hb.m, .string hb.name, .int .i64 hb.vk, .int .i64 hb.vn, .string hb.vs, .int .i64 hb.dev, .string hb.cl, .string hb.at_, .slice Ab kb.length cb] 32)).heap.size := by simp
  unfold Hd.cells at HS1 HS2 ⊢
  go_enter Try.func6, Try.ntmps6
  go_upto_region 1 with fail
  generalize (((w.alloc (.cells #[.slice IA V.items.length ic, .string V.mode, .int .i64 V.minute, .slice MA V.members.length mc] 25)).alloc (.cells #[.int .i64 ha.kind, .int .i64 ha.n, .int .i64 ha.m, .string ha.name, .int .i64 ha.vk, .int .i64 ha.vn, .string ha.vs, .int .i64 ha.dev, .string ha.cl, .string ha.at_, .slice Aa ka.length ca] 32)).alloc (.cells #[.int .i64 hb.kind, .int .i64 hb.n, .int .i64 hb.m, .string hb.name, .int .i64 hb.vk, .int .i64 hb.vn, .string hb.vs, .int .i64 hb.dev, .string hb.cl, .string hb.at_, .slice Ab kb.length cb] 32)) = W0 at *
  have cv := hv0.cell
  have ca' := ha0.cell
  have cb' := hb0.cell
  go_wp2_with fail
  refine (HS1 _ (hbw0.mono hB) (by omega)).out.mono ?_
  rintro r w1 ⟨v, rfl, hb1⟩
  have hbw1 := hbw0.th hb1
  have hv1 := hv0.below hb1
  have ha1 := ha0.below hb1
  have hb1' := hb0.below hb1
  have hs1 := hb1.size
  clear HS1 cv ca' cb' hv0 ha0 hb0
  cases v with
  | false =>
    go_wp2_with fail
    refine (awake_any _).mono ?_
    rintro r w2 ⟨rfl, hb2⟩
    go_wp2_with fail
    go_ret
    exact ⟨rfl, hbw1.th hb2⟩
  | true =>
    have cv := hv1.cell
    have cb' := hb1'.cell
    go_wp2_with fail
    refine (HS2 _ (hbw1.mono hB) (by omega)).out.mono ?_
    rintro r w2 ⟨v, rfl, hb2⟩
    have hbw2 := hbw1.th hb2
    have hv2 := hv1.below hb2
    have ha2 := ha1.below hb2
    have hb2' := hb1'.below hb2
    have hs2 := hb2.size
    clear HS2 cv cb' hv1 ha1 hb1'
    cases v with
    | false =>
      go_wp2_with fail
      refine (awake_any _).mono ?_
      rintro r w3 ⟨rfl, hb3⟩
      go_wp2_with fail
      go_ret
      exact ⟨rfl, hbw2.th hb3⟩
    | true =>
      go_wp2_with fail
      have hg3 := Blk.new w2 44 #[.int .i64 7, .int .i64 8, .int .i64 9, .int .i64 11, .int .i64 13]
      have hv3 := hv2.alloc (.cells #[.int .i64 7, .int .i64 8, .int .i64 9, .int .i64 11, .int .i64 13] 44)
      have ha3 := ha2.alloc (.cells #[.int .i64 7, .int .i64 8, .int .i64 9, .int .i64 11, .int .i64 13] 44)
      have hb3' := hb2'.alloc (.cells #[.int .i64 7, .int .i64 8, .int .i64 9, .int .i64 11, .int .i64 13] 44)
      have hbw3 := hbw2.al (.cells #[.int .i64 7, .int .i64 8, .int .i64 9, .int .i64 11, .int .i64 13] 44)
      generalize w2.alloc (.cells #[.int .i64 7, .int .i64 8, .int .i64 9, .int .i64 11, .int .i64 13] 44) = W3 at *
      generalize w2.heap.size = g at *
      clear hv2 ha2 hb2' hs2 hs1
      go_loopw [8] (fun i wr => ∃ k : Nat, k ≤ 5 ∧ i = .int .i64 k ∧ Below W3.heap.size W3 wr) (fun i _ => 5 - (intOf i).toNat)
      case atStart => exact ⟨0, Nat.zero_le _, rfl, Below.refl _ _⟩
      case round =>
        obtain ⟨k, hk5, rfl, hbk⟩ := hrel
        have hbwr := hbw3.th hbk
        by_cases hlk : k < 5
        · have hvr := hv3.below hbk
          have har := ha3.below hbk
          have hbr := hb3'.below hbk
          have hgr := hg3.below hbk
          obtain ⟨kd, hkc, hkd⟩ := ord5_kind k hlk
          have hvw : ∀ W, FB wr.heap.size wr W → Blk W w.heap.size 25 #[.slice IA V.items.length ic, .string V.mode, .int .i64 V.minute, .slice MA V.members.length mc] := fun W h => (h.1.block _ hvr.lt).trans hvr
          have haw : ∀ W, FB wr.heap.size wr W → Blk W (w.heap.size + 1) 32 #[.int .i64 ha.kind, .int .i64 ha.n, .int .i64 ha.m, .string ha.name, .int .i64 ha.vk, .int .i64 ha.vn, .string ha.vs, .int .i64 ha.dev, .string ha.cl, .string ha.at_, .slice Aa ka.length ca] := fun W h => (h.1.block _ har.lt).trans har
          have hbw : ∀ W, FB wr.heap.size wr W → Blk W (w.heap.size + 1 + 1) 32 #[.int .i64 hb.kind, .int .i64 hb.n, .int .i64 hb.m, .string hb.name, .int .i64 hb.vk, .int .i64 hb.vn, .string hb.vs, .int .i64 hb.dev, .string hb.cl, .string hb.at_, .slice Ab kb.length cb] := fun W h => (h.1.block _ hbr.lt).trans hbr
          have hgw : ∀ W, FB wr.heap.size wr W → W.cell? ⟨g, k, none⟩ = some (.int .i64 kd) := fun W h => (h.1.cell (p := ⟨g, k, none⟩) hgr.lt).trans ((hgr.cell k).trans hkc)
          have HW2 := fun W (h : FB wr.heap.size wr W) => HW W ((hbwr.mono hB).trans (h.1.mono (Nat.le_trans hB hbwr.size))) (Nat.le_trans (Nat.le_trans hB hbwr.size) h.2) kd hkd
          have own_all : ∀ w', FB wr.heap.size wr w' → (fun w' => w'.cell? ⟨w.heap.size, 0, none⟩ = some (.slice IA V.items.length ic) ∧ w'.cell? ⟨w.heap.size, 1, none⟩ = some (.string V.mode) ∧ w'.cell? ⟨w.heap.size, 2, none⟩ = some (.int .i64 V.minute) ∧ w'.cell? ⟨w.heap.size, 3, none⟩ = some (.slice MA V.members.length mc) ∧ w'.cell? ⟨w.heap.size + 1, 0, none⟩ = some (.int .i64 ha.kind) ∧ w'.cell? ⟨w.heap.size + 1, 1, none⟩ = some (.int .i64 ha.n) ∧ w'.cell? ⟨w.heap.size + 1, 2, none⟩ = some (.int .i64 ha.m) ∧ w'.cell? ⟨w.heap.size + 1, 3, none⟩ = some (.string ha.name) ∧ w'.cell? ⟨w.heap.size + 1, 4, none⟩ = some (.int .i64 ha.vk) ∧ w'.cell? ⟨w.heap.size + 1, 5, none⟩ = some (.int .i64 ha.vn) ∧ w'.cell? ⟨w.heap.size + 1, 6, none⟩ = some (.string ha.vs) ∧ w'.cell? ⟨w.heap.size + 1, 7, none⟩ = some (.int .i64 ha.dev) ∧ w'.cell? ⟨w.heap.size + 1, 8, none⟩ = some (.string ha.cl) ∧ w'.cell? ⟨w.heap.size + 1, 9, none⟩ = some (.string ha.at_) ∧ w'.cell? ⟨w.heap.size + 1, 10, none⟩ = some (.slice Aa ka.length ca) ∧ w'.cell? ⟨w.heap.size + 1 + 1, 0, none⟩ = some (.int .i64 hb.kind) ∧ w'.cell? ⟨w.heap.size + 1 + 1, 1, none⟩ = some (.int .i64 hb.n) ∧ w'.cell? ⟨w.heap.size + 1 + 1, 2, none⟩ = some (.int .i64 hb.m) ∧ w'.cell? ⟨w.heap.size + 1 + 1, 3, none⟩ = some (.string hb.name) ∧ w'.cell? ⟨w.heap.size + 1 + 1, 4, none⟩ = some (.int .i64 hb.vk) ∧ w'.cell? ⟨w.heap.size + 1 + 1, 5, none⟩ = some (.int .i64 hb.vn) ∧ w'.cell? ⟨w.heap.size + 1 + 1, 6, none⟩ = some (.string hb.vs) ∧ w'.cell? ⟨w.heap.size + 1 + 1, 7, none⟩ = some (.int .i64 hb.dev) ∧ w'.cell? ⟨w.heap.size + 1 + 1, 8, none⟩ = some (.string hb.cl) ∧ w'.cell? ⟨w.heap.size + 1 + 1, 9, none⟩ = some (.string hb.at_) ∧ w'.cell? ⟨w.heap.size + 1 + 1, 10, none⟩ = some (.slice Ab kb.length cb) ∧ w'.cell? ⟨g, k, none⟩ = some (.int .i64 kd) ∧ FB wr.heap.size wr w') w' := fun w' hO => ⟨(hvw w' hO).cell 0, (hvw w' hO).cell 1, (hvw w' hO).cell 2, (hvw w' hO).cell 3, (haw w' hO).cell 0, (haw w' hO).cell 1, (haw w' hO).cell 2, (haw w' hO).cell 3, (haw w' hO).cell 4, (haw w' hO).cell 5, (haw w' hO).cell 6, (haw w' hO).cell 7, (haw w' hO).cell 8, (haw w' hO).cell 9, (haw w' hO).cell 10, (hbw w' hO).cell 0, (hbw w' hO).cell 1, (hbw w' hO).cell 2, (hbw w' hO).cell 3, (hbw w' hO).cell 4, (hbw w' hO).cell 5, (hbw w' hO).cell 6, (hbw w' hO).cell 7, (hbw w' hO).cell 8, (hbw w' hO).cell 9, (hbw w' hO).cell 10, hgw w' hO, hO⟩
          have hO0 : FB wr.heap.size wr wr := ⟨Below.refl _ _, Nat.le_refl _⟩
          have hRE : ∀ W, FB wr.heap.size wr W → Below W3.heap.size W3 W := fun W h => hbk.trans (h.1.mono hbk.size)
          clear HW hv3 ha3 hb3' hg3 hvr har hbr hgr hvw haw hbw hgw
          go_upto_region 7 with fail
          go_region_held3 (fun w' => w'.cell? ⟨w.heap.size, 0, none⟩ = some (.slice IA V.items.length ic) ∧ w'.cell? ⟨w.heap.size, 1, none⟩ = some (.string V.mode) ∧ w'.cell? ⟨w.heap.size, 2, none⟩ = some (.int .i64 V.minute) ∧ w'.cell? ⟨w.heap.size, 3, none⟩ = some (.slice MA V.members.length mc) ∧ w'.cell? ⟨w.heap.size + 1, 0, none⟩ = some (.int .i64 ha.kind) ∧ w'.cell? ⟨w.heap.size + 1, 1, none⟩ = some (.int .i64 ha.n) ∧ w'.cell? ⟨w.heap.size + 1, 2, none⟩ = some (.int .i64 ha.m) ∧ w'.cell? ⟨w.heap.size + 1, 3, none⟩ = some (.string ha.name) ∧ w'.cell? ⟨w.heap.size + 1, 4, none⟩ = some (.int .i64 ha.vk) ∧ w'.cell? ⟨w.heap.size + 1, 5, none⟩ = some (.int .i64 ha.vn) ∧ w'.cell? ⟨w.heap.size + 1, 6, none⟩ = some (.string ha.vs) ∧ w'.cell? ⟨w.heap.size + 1, 7, none⟩ = some (.int .i64 ha.dev) ∧ w'.cell? ⟨w.heap.size + 1, 8, none⟩ = some (.string ha.cl) ∧ w'.cell? ⟨w.heap.size + 1, 9, none⟩ = some (.string ha.at_) ∧ w'.cell? ⟨w.heap.size + 1, 10, none⟩ = some (.slice Aa ka.length ca) ∧ w'.cell? ⟨w.heap.size + 1 + 1, 0, none⟩ = some (.int .i64 hb.kind) ∧ w'.cell? ⟨w.heap.size + 1 + 1, 1, none⟩ = some (.int .i64 hb.n) ∧ w'.cell? ⟨w.heap.size + 1 + 1, 2, none⟩ = some (.int .i64 hb.m) ∧ w'.cell? ⟨w.heap.size + 1 + 1, 3, none⟩ = some (.string hb.name) ∧ w'.cell? ⟨w.heap.size + 1 + 1, 4, none⟩ = some (.int .i64 hb.vk) ∧ w'.cell? ⟨w.heap.size + 1 + 1, 5, none⟩ = some (.int .i64 hb.vn) ∧ w'.cell? ⟨w.heap.size + 1 + 1, 6, none⟩ = some (.string hb.vs) ∧ w'.cell? ⟨w.heap.size + 1 + 1, 7, none⟩ = some (.int .i64 hb.dev) ∧ w'.cell? ⟨w.heap.size + 1 + 1, 8, none⟩ = some (.string hb.cl) ∧ w'.cell? ⟨w.heap.size + 1 + 1, 9, none⟩ = some (.string hb.at_) ∧ w'.cell? ⟨w.heap.size + 1 + 1, 10, none⟩ = some (.slice Ab kb.length cb) ∧ w'.cell? ⟨g, k, none⟩ = some (.int .i64 kd) ∧ FB wr.heap.size wr w')
            (exact own_all _ (by ((repeat (first | assumption | refine FB.dr ?_ | refine FB.al ?_ _ | refine FB.th ?_ (by assumption) | refine FB.far ?_ (by omega) _ _)); done)))
            (first | (go_at_call 26; refine (lnode_any _ _ _ _ _).mono ?_; rintro r p2 ⟨rfl, hbp2⟩; simp only [Hd.cells, bareH, noStr]) | (go_at_call 27; refine (HW2 _ (by ((repeat (first | assumption | refine FB.dr ?_ | refine FB.al ?_ _ | refine FB.th ?_ (by assumption) | refine FB.far ?_ (by omega) _ _)); done)) _ _ _ _ (by ((repeat (first | assumption | exact Blk.new _ _ _ | exact Blk.nx _ _ (by simp) | refine Blk.alloc ?_ _ | refine Blk.below ?_ (by assumption))); done)) (by ((repeat (first | assumption | exact Blk.new _ _ _ | exact Blk.nx _ _ (by simp) | refine Blk.alloc ?_ _ | refine Blk.below ?_ (by assumption))); done))).out.mono ?_; rintro r p3 ⟨rfl, hbp3⟩))
          all_goals
            clear own_all HW2
            have hF : FB wr.heap.size wr p3 := by ((repeat (first | assumption | refine FB.dr ?_ | refine FB.al ?_ _ | refine FB.th ?_ (by assumption) | refine FB.far ?_ (by omega) _ _)); done)
            have hF2 := hRE _ hF
            clear hRE
            go_wp2_with fail
            refine ⟨⟨k + 1, by omega, by go_num, hF2⟩, by simp [intOf]; omega⟩
        · go_wp2_with fail
          refine (awake_any _).mono ?_
          rintro r w3 ⟨rfl, hb3⟩
          go_wp2_with fail
          go_ret
          exact ⟨rfl, hbwr.th hb3⟩

end Go.Proofs.Ytnelgblmogciiaa
