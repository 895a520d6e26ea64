/- Is an input small? Are two expressions of the same value? -/
import Derived.Test.YtnelgblmogciiaaEval2
set_option linter.unusedSimpArgs false
set_option linter.unusedVariables false
namespace Go.Proofs.Ytnelgblmogciiaa
open Go.RowKit

/-- An answer that is some integer, some bool. -/
def SomeInt (w : World) (r : Ending) (w' : World) : Prop := ∃ n : Int, r = .returned (.int .i64 n) ∧ Below w.heap.size w w'
def SomeBool (w : World) (r : Ending) (w' : World) : Prop := ∃ b : Bool, r = .returned (.bool b) ∧ Below w.heap.size w w'

set_option maxRecDepth 100000 in
set_option maxHeartbeats 1000000 in
theorem nodes_any (e : LExpr) : ∀ (cs : List Value) (B : Nat) (m : Int) (w : World), B ≤ w.heap.size → IsExpr B w e cs →
    Calls Try.prog 23 #[.agg cs.toArray, .int .i64 m] w (SomeInt w) := by
  induction e using LExpr.ind with | _ hd ks ih => ?_
  intro cs B m w hB he
  cases he with
  | mk _ _ A c b off cs ok hlen hA hsz hrow hk =>
  go_enter Try.func23, Try.ntmps23
  unfold Hd.cells
  go_wp2_with fail
  go_loopw [5, 6] (fun n i wr => ∃ (k : Nat) (q : Int), k ≤ ks.length ∧ i = .int .i64 k ∧ n = .int .i64 q ∧ Below w.heap.size w wr ∧ w.heap.size < wr.heap.size ∧ wr.cell? ⟨w.heap.size, 10, none⟩ = some (.slice A ks.length c)) (fun _ i _ => ks.length - (intOf i).toNat)
  case atStart => exact ⟨0, 1, Nat.zero_le _, rfl, rfl, (Below.refl _ _).al _, by simp, by simp [World.cell?_alloc_new]⟩
  case round =>
    obtain ⟨k, q, hkl, rfl, rfl, hbw, hsz2, hc⟩ := hrel
    by_cases hlk : k < ks.length
    · by_cases hqm : q ≤ m
      · obtain ⟨rfl, hbB⟩ := hA (by omega)
        have hr := (hrow k hlk).below hbw (Nat.lt_of_lt_of_le hbB hB)
        have HI := fun m => Lib.hid (ih k hlk (cs k) B m wr (by omega) ((hk k hlk).carry (hbw.mono hB)))
        clear ih hA hrow hk
        go_wp2_with (first | (with_reducible refine wpList_load_at rfl 32 _ rfl b (off + k * 11) rfl (cs k) _ hr Try.underlying32 rfl (by rw [hsz]; kernel_rfl) ?_))
        refine (HI _).out.mono ?_
        rintro r w3 ⟨v, rfl, hb3⟩
        have hc3 := (hb3.cell (p := ⟨w.heap.size, 10, none⟩) hsz2).trans hc
        have hs3 := Nat.lt_of_lt_of_le hsz2 hb3.size
        clear HI
        go_wp2_with fail
        refine ⟨⟨k + 1, _, by omega, by go_num, rfl, hbw.th hb3, hs3, hc3⟩, by simp [intOf]; omega⟩
      · go_wp2_with fail
        go_ret
        exact ⟨_, rfl, hbw⟩
    · go_wp2_with fail
      go_ret
      exact ⟨_, rfl, hbw⟩

set_option maxRecDepth 100000 in
set_option maxHeartbeats 1000000 in
theorem small_any (V : LView) (e : LExpr) (vc cs : List Value) (B : Nat) (w : World) (hB : B ≤ w.heap.size) (hv : IsView B w V vc) (he : IsExpr B w e cs) :
    Calls Try.prog 17 #[.agg vc.toArray, .agg cs.toArray] w (SomeBool w) := by
  have HC := fun o1 o2 m => Lib.hid (nodes_any e cs B m ((w.alloc o1).alloc o2) (by simp; omega) (he.carry (((Below.refl B w).alloc hB o1).alloc (by simp; omega) o2)))
  obtain ⟨hd, ks, A, c, rfl, rfl, hlen⟩ := he.form
  obtain ⟨IA, ic, MA, mc, rfl, _⟩ := hv
  clear he
  unfold Hd.cells at HC ⊢
  by_cases h1 : V.items.length ≤ 80
  · by_cases h2 : V.members.length ≤ 30
    · go_enter Try.func17, Try.ntmps17
      go_wp2_with fail
      refine (HC _ _ _).out.mono ?_
      rintro r w2 ⟨v, rfl, hb2⟩
      clear HC
      go_wp2_with fail
      go_ret
      exact ⟨_, rfl, (((Below.refl _ _).al _).al _).th hb2⟩
    · go_enter Try.func17, Try.ntmps17
      go_wp2_with fail
      go_ret
      exact ⟨_, rfl, ((Below.refl _ _).al _).al _⟩
  · go_enter Try.func17, Try.ntmps17
    go_wp2_with fail
    go_ret
    exact ⟨_, rfl, ((Below.refl _ _).al _).al _⟩

end Go.Proofs.Ytnelgblmogciiaa
