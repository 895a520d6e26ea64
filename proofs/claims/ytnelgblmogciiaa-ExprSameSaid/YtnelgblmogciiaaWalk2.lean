/- The walk over the nodes of an expression: its entry. -/
import Derived.Test.YtnelgblmogciiaaWalk
import Derived.Laws.EntriesVeiled
set_option linter.unusedSimpArgs false
set_option linter.unusedVariables false
namespace Go.Proofs.Ytnelgblmogciiaa
open Go.RowKit

theorem alloc3_at1 (w : World) (o1 o2 o3 : Obj) : (((w.alloc o1).alloc o2).alloc o3).heap[w.heap.size + 1]? = some o2 := by
  rw [Below.heap_alloc _ _ _ (by simp)]
  have h := heap_alloc_new (w.alloc o1) o2
  rwa [World.size_alloc] at h
theorem alloc3_at2 (w : World) (o1 o2 o3 : Obj) : (((w.alloc o1).alloc o2).alloc o3).heap[w.heap.size + 1 + 1]? = some o3 := by
  have h := heap_alloc_new ((w.alloc o1).alloc o2) o3
  rwa [World.size_alloc, World.size_alloc] at h

set_option maxHeartbeats 1000000 in
theorem walk_any {σ : Type} (vis : LExpr → Int → σ → σ × Bool) (R : σ → World → Prop) (B g : Nat) (caps : Array Value)
    (hcall : ∀ (args : Array Value) (w : World), (callFunc g args).run Try.prog w = .ok (.enter g args) w)
    (hRa : ∀ s w o, R s w → R s (w.alloc o))
    (hv : ∀ e cs lv w s, B ≤ w.heap.size → IsExpr B w e cs → R s w → Calls Try.prog g (#[.agg cs.toArray, .int .i64 lv] ++ caps) w fun r w' => r = .returned (.bool (vis e lv s).2) ∧ R (vis e lv s).1 w' ∧ Fr B w w')
    (e : LExpr) (cs : List Value) (w : World) (s : σ) (hB : B ≤ w.heap.size) (he : IsExpr B w e cs) (hR : R s w) :
      Calls Try.prog 48 #[.agg cs.toArray, .func (.func g) #[] caps] w fun r w' =>
        r = .returned (.bool (walkS vis e 1 s).2) ∧ R (walkS vis e 1 s).1 w' ∧ Fr B w w' := by
  obtain ⟨hd, ks, A, c, rfl, rfl, hlen⟩ := he.form
  have HI : ∀ o1 o2 bv bs, (((w.alloc o1).alloc o2).alloc (.cells #[.func (.func 85) #[] #[.pointer (some ⟨bv, 0, none⟩), .pointer (some ⟨bs, 0, none⟩)]] 61)).heap[bv]? = _ → _ → Calls Try.prog 85 _ _ _ := fun o1 o2 bv bs =>
    step_any vis R B g caps hcall hRa hv bv bs (.mk hd ks) (hd.cells (.slice A ks.length c)) 1
      (((w.alloc o1).alloc o2).alloc (.cells #[.func (.func 85) #[] #[.pointer (some ⟨bv, 0, none⟩), .pointer (some ⟨bs, 0, none⟩)]] 61)) s (by simp; omega)
      (he.carry (((Below.refl B w).alloc hB _).alloc (by simp; omega) _ |>.alloc (by simp; omega) _)) (hRa _ _ _ (hRa _ _ _ (hRa _ _ _ hR)))
  have FA : ∀ o1 o2 o3, Fr B w (((w.alloc o1).alloc o2).alloc o3) := fun o1 o2 o3 => (((Fr.refl B w).alloc hB _).alloc (by simp; omega) _).alloc (by simp; omega) _
  have HJ := Lib.hid HI
  clear HI hv hRa hR he
  go_enter Try.func48, Try.ntmps48
  unfold Hd.cells
  go_wp2_with fail
  refine (HJ.out _ _ (w.heap.size + 1) (w.heap.size + 1 + 1) ?_ ?_).mono ?_
  · exact alloc3_at1 _ _ _ _
  · exact alloc3_at2 _ _ _ _
  rintro r w1 ⟨rfl, hR1, F1⟩
  have F01 := (FA _ _ _).trans F1
  clear HJ FA F1
  go_wp2_with fail
  go_ret
  exact ⟨rfl, hR1, F01⟩

end Go.Proofs.Ytnelgblmogciiaa
