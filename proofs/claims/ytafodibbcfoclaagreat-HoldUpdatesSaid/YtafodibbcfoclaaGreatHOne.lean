/- Hold: the package at one constant rule. -/
import Derived.Test.YtafodibbcfoclaaGreatHFlags
import Derived.Test.YtafodibbcfoclaaGreatHNext
import Derived.Test.YtafodibbcfoclaaGreatHMark
import Derived.Test.YtafodibbcfoclaaGreatHSame
set_option linter.unusedSimpArgs false
set_option linter.unusedVariables false
namespace Go.Proofs.YtafodibbcfoclaaGreat
open Go.RowKit

theorem rdR_one {w : World} {nm : ByteArray} {tm : Int} {b : Bool} {g gb : Nat} (hn : nm.size ≤ maxLen) (hg : Blk w g 73 (gC (trR tm)).toArray) (hb : Blk w gb 44 (rC (ruR nm g b)).toArray) : RdR w [(ruR nm g b, ruL nm tm b)] (.slice (some ⟨gb, 0, none⟩) 1 1) :=
  ⟨Elt.Rd.blk (E := ER) (ys := [ruR nm g b]) (by simp only [List.map_cons, List.map_nil, List.flatten_cons, List.flatten_nil, List.append_nil]; exact hb) 1, fun p hp => by rw [List.mem_singleton] at hp; subst hp; exact ruSays hn hg⟩
theorem v0_is (B : Nat) (w : World) : Ev.IsView B w V0 [.slice none 0 0, .string noStr, .int .i64 0, .slice none 0 0] := ⟨none, 0, none, 0, rfl, fun h => by simp [V0] at h, fun h => by simp [V0] at h, by unfold Ev.I64; decide, by decide, by decide⟩
def oneH (nm : ByteArray) (g : Nat) (tm : Int) (b : Bool) : HP := ((ruR nm g b, ruL nm tm b), lim tm)
def updO (nm : ByteArray) (b : Bool) (vs : List LTim) (now : Int) : List LTim := if b then [(findT vs nm).getD ⟨nm, lim now, false⟩] else []
def dueO (nm : ByteArray) (tm : Int) (vs : List LTim) (now : Int) : List ByteArray := if (findT vs nm).isSome && !(tmOf vs nm).fired && decide (lim tm ≤ lim now - (tmOf vs nm).since) then [(tmOf vs nm).rule] else []
def nextO (nm : ByteArray) (tm : Int) (vs : List LTim) : Int × Bool := if (findT vs nm).isSome && !(tmOf vs nm).fired then ((tmOf vs nm).since + lim tm, true) else (0, false)
theorem upd_is (nm : ByteArray) (g : Nat) (tm : Int) (b : Bool) (vs : List LTim) (now : Int) : updP V0 (holdsP [(ruR nm g b, ruL nm tm b)]) vs now = updO nm b vs now := by
  rw [holds_one, upd_one]; rfl
theorem due_is (nm : ByteArray) (g : Nat) (tm : Int) (b : Bool) (vs : List LTim) (now : Int) : dueP (holdsP [(ruR nm g b, ruL nm tm b)]) vs now = dueO nm tm vs now := by
  rw [holds_one]
  unfold dueP dueO due1
  rw [List.flatMap_cons, List.flatMap_nil, List.append_nil]
  rfl
theorem next_is (nm : ByteArray) (g : Nat) (tm : Int) (b : Bool) (vs : List LTim) : nextP (holdsP [(ruR nm g b, ruL nm tm b)]) vs = nextO nm tm vs := by
  rw [holds_one]
  unfold nextP nextO
  rw [List.foldl_cons, List.foldl_nil]
  unfold nx
  simp only [Bool.not_false, Bool.true_or, if_true]
  rfl
section
variable (nm : ByteArray) (tm : Int) (b : Bool) (g gb : Nat) (tl : List LTim) (A : Option Addr) (k c : Nat) (w : World)
theorem one_upd (now : Int) (hn : nm.size ≤ maxLen) (hk : k = tl.length) (hx : RdT w tl (.slice A k c)) (hg : Blk w g 73 (gC (trR tm)).toArray) (hb : Blk w gb 44 (rC (ruR nm g b)).toArray) :
    Calls Tryz.prog 8 #[.slice A k c, .slice (some ⟨gb, 0, none⟩) 1 1, .agg #[.slice none 0 0, .string { data := #[] }, .int .i64 0, .slice none 0 0], .int .i64 now] w fun r w' => (∃ A' c', r = .returned (.slice A' (updO nm b (validP tl) now).length c') ∧ RdT w' (updO nm b (validP tl) now) (.slice A' (updO nm b (validP tl) now).length c')) ∧ Lat w w' := by
  subst hk
  have h := update_any tl A c [(ruR nm g b, ruL nm tm b)] (some ⟨gb, 0, none⟩) 1 V0 [.slice none 0 0, .string noStr, .int .i64 0, .slice none 0 0] now w hx (rdR_one hn hg hb) (v0_is _ _) (by simp) (fun p hp => by rw [List.mem_singleton] at hp; subst hp; simp [ruL])
  rw [upd_is] at h
  refine Calls.mono h fun r w' hr => ?_
  obtain ⟨⟨v, rfl, hrd⟩, hl⟩ := hr
  obtain ⟨A', c', rfl, h1⟩ := id hrd
  refine ⟨⟨A', c', rfl, hrd, fun t ht => ?_⟩, hl⟩
  unfold updO at ht
  split at ht
  · rw [List.mem_singleton] at ht
    subst ht
    cases hf : findT (validP tl) nm with
    | none => exact hn
    | some x => exact hx.2 x (validP_mem (findT_some hf).1)
  · simp at ht
theorem one_due (now : Int) (hn : nm.size ≤ maxLen) (hk : k = tl.length) (hx : RdT w tl (.slice A k c)) (hg : Blk w g 73 (gC (trR tm)).toArray) (hb : Blk w gb 44 (rC (ruR nm g b)).toArray) :
    Calls Tryz.prog 13 #[.slice A k c, .slice (some ⟨gb, 0, none⟩) 1 1, .int .i64 now] w fun r w' => (∃ A' c', r = .returned (.slice A' (dueO nm tm (validP tl) now).length c') ∧ ES.Rd w' (dueO nm tm (validP tl) now) (.slice A' (dueO nm tm (validP tl) now).length c')) ∧ Lat w w' := by
  subst hk
  have h := due_any tl A c [(ruR nm g b, ruL nm tm b)] (some ⟨gb, 0, none⟩) 1 now w hx (rdR_one hn hg hb) (by simp) (fun p hp => by rw [List.mem_singleton] at hp; subst hp; simp [ruL])
  rw [due_is] at h
  refine Calls.mono h fun r w' hr => ?_
  obtain ⟨⟨v, rfl, hrd⟩, hl⟩ := hr
  obtain ⟨A', c', rfl, h1⟩ := id hrd
  exact ⟨⟨A', c', rfl, hrd⟩, hl⟩
theorem one_next (hn : nm.size ≤ maxLen) (hk : k = tl.length) (hx : RdT w tl (.slice A k c)) (hg : Blk w g 73 (gC (trR tm)).toArray) (hb : Blk w gb 44 (rC (ruR nm g b)).toArray) :
    Calls Tryz.prog 12 #[.slice A k c, .slice (some ⟨gb, 0, none⟩) 1 1] w fun r w' => r = .returned (.tuple #[.int .i64 (nextO nm tm (validP tl)).1, .bool (nextO nm tm (validP tl)).2]) ∧ Lat w w' := by
  subst hk
  have h := next_any tl A c [(ruR nm g b, ruL nm tm b)] (some ⟨gb, 0, none⟩) 1 w hx (rdR_one hn hg hb) (by simp) (fun p hp => by rw [List.mem_singleton] at hp; subst hp; simp [ruL])
  rw [next_is] at h
  exact h
theorem one_mark (names : List ByteArray) (B : Option Addr) (q m : Nat) (hq : q = names.length) (hk : k = tl.length) (hx : RdT w tl (.slice A k c)) (hy : ES.Rd w names (.slice B q m)) (hl : names.length ≤ 1000000) :
    Calls Tryz.prog 15 #[.slice A k c, .slice B q m] w fun r w' => (∃ A' c', r = .returned (.slice A' (markP tl names).length c') ∧ RdT w' (markP tl names) (.slice A' (markP tl names).length c')) ∧ Lat w w' := by
  subst hk hq
  refine (mark_any tl A c names B m w hx.1 hy hl).mono fun r w' hr => ?_
  obtain ⟨⟨v, rfl, hrd⟩, hl⟩ := hr
  obtain ⟨A', c', rfl, h1⟩ := id hrd
  refine ⟨⟨A', c', rfl, hrd, fun t ht => ?_⟩, hl⟩
  unfold markP at ht
  obtain ⟨x, hxm, rfl⟩ := List.mem_map.1 ht
  have := hx.2 x (validP_mem hxm)
  unfold mk1
  split
  · exact this
  · exact this
end
end Go.Proofs.YtafodibbcfoclaaGreat
