/-
  NARROWER THAN 'FOR EVERY INPUT', by the rows' own cells (each row's printed sentence says how): HoldAsks: loops · HoldOrder: loops · HoldNext: loops.
  DERIVED. THE GIVEN ROWS OF THIS SEAT. 5 by the template 'for every input the law returns true; each argument reads behind the call as it read before'; 0 by the template 'total and deterministic' (their statements: YtafodibbcfoclaaTotals.lean).
  GIVEN WITH THE SEED: the statements are not yours to turn. If you find one false, say at which input.
  Laid BY PROGRAM, IN A SANDBOX (cutbox-rows.mjs): the forced cells as the released guide's own fill.sh prints them over the translation 0ecb50b7944c90d1… (all of the seat's roots in one cut). By AI agents, Wed Nov 11 2026. No macro, syntax, notation, axiom, sorry.
-/
import Derived.Test.YtafodibbcfoclaaChecked
import GoSem.Claim
import GoSem.ClaimJoined
import GoSem.ClaimMapViews
import Derived.JoinedTies
import Derived.KernelRfl
namespace Go.Proofs.Ytafodibbcfoclaa
/- THE CELL 'sum', in the pinned program and in every row, IS THE sha256 OF THE DUMP (.gsa) THAT YtafodibbcfoclaaProg.lean LOADS. Nothing in Lean hashes anything: it is a label: what it is worth is what the hold of that sum in a sandbox is worth. -/
noncomputable def Try.pinned : Pinned := { name := "ytafodibbcfoclaa", sum := "0ecb50b7944c90d112b8e1784cfd9d54ca8f5349ec0a8c3d224c19ce8f7155b3", checked := Try.checked }
namespace Rows
def none {H : Type} : Left H := { results := [], args := [] }

/-- 'homehublaw33.HoldAsks': WHATEVER THE INPUT: true; the input reads as it did. -/
def holdAsksSpec : ChangeSpec := { name := "holdAsks", fn := fun _ => fun
  | [d1, d2, d3] => { results := [.lit (.bool true)], args := [d1, d2, d3] }
  | _ => none }
def holdAsksRow : OpenClaim := { program := "ytafodibbcfoclaa", sum := "0ecb50b7944c90d112b8e1784cfd9d54ca8f5349ec0a8c3d224c19ce8f7155b3", func := "homehub/homehublaw33.HoldAsks", spec := "holdAsks", inPlace := ["internal/bytealg.abigen_runtime_cmpstring"], unfollowed := true, recurses := true, loops := true, apart := false }
def HoldAsksSaid : Prop := holdAsksRow.holds Try.pinned (OpenSpec.ofChange holdAsksSpec)

/-- ITS FALSE NEIGHBOUR: 'it returns false'. Refute it at one input. -/
def holdAsksWrong : ChangeSpec := { name := "holdAsks", fn := fun _ => fun
  | [d1, d2, d3] => { results := [.lit (.bool false)], args := [d1, d2, d3] }
  | _ => none }
def HoldAsksWrongFalsely : Prop := holdAsksRow.holds Try.pinned (OpenSpec.ofChange holdAsksWrong)

/-- 'homehublaw33.HoldMarks': WHATEVER THE INPUT: true; the input reads as it did. -/
def holdMarksSpec : ChangeSpec := { name := "holdMarks", fn := fun _ => fun
  | [d1, d2] => { results := [.lit (.bool true)], args := [d1, d2] }
  | _ => none }
def holdMarksRow : OpenClaim := { program := "ytafodibbcfoclaa", sum := "0ecb50b7944c90d112b8e1784cfd9d54ca8f5349ec0a8c3d224c19ce8f7155b3", func := "homehub/homehublaw33.HoldMarks", spec := "holdMarks", inPlace := ["internal/bytealg.abigen_runtime_cmpstring"], unfollowed := true, recurses := true, apart := false }
def HoldMarksSaid : Prop := holdMarksRow.holds Try.pinned (OpenSpec.ofChange holdMarksSpec)

/-- ITS FALSE NEIGHBOUR: 'it returns false'. Refute it at one input. -/
def holdMarksWrong : ChangeSpec := { name := "holdMarks", fn := fun _ => fun
  | [d1, d2] => { results := [.lit (.bool false)], args := [d1, d2] }
  | _ => none }
def HoldMarksWrongFalsely : Prop := holdMarksRow.holds Try.pinned (OpenSpec.ofChange holdMarksWrong)

/-- 'homehublaw33.HoldOrder': WHATEVER THE INPUT: true; the input reads as it did. -/
def holdOrderSpec : ChangeSpec := { name := "holdOrder", fn := fun _ => fun
  | [d1, d2, d3, d4] => { results := [.lit (.bool true)], args := [d1, d2, d3, d4] }
  | _ => none }
def holdOrderRow : OpenClaim := { program := "ytafodibbcfoclaa", sum := "0ecb50b7944c90d112b8e1784cfd9d54ca8f5349ec0a8c3d224c19ce8f7155b3", func := "homehub/homehublaw33.HoldOrder", spec := "holdOrder", inPlace := ["internal/bytealg.abigen_runtime_cmpstring"], unfollowed := true, recurses := true, loops := true, apart := false }
def HoldOrderSaid : Prop := holdOrderRow.holds Try.pinned (OpenSpec.ofChange holdOrderSpec)

/-- ITS FALSE NEIGHBOUR: 'it returns false'. Refute it at one input. -/
def holdOrderWrong : ChangeSpec := { name := "holdOrder", fn := fun _ => fun
  | [d1, d2, d3, d4] => { results := [.lit (.bool false)], args := [d1, d2, d3, d4] }
  | _ => none }
def HoldOrderWrongFalsely : Prop := holdOrderRow.holds Try.pinned (OpenSpec.ofChange holdOrderWrong)

/-- 'homehublaw33.HoldRuns': WHATEVER THE INPUT: true; the input reads as it did. -/
def holdRunsSpec : ChangeSpec := { name := "holdRuns", fn := fun _ => fun
  | [d1, d2, d3] => { results := [.lit (.bool true)], args := [d1, d2, d3] }
  | _ => none }
def holdRunsRow : OpenClaim := { program := "ytafodibbcfoclaa", sum := "0ecb50b7944c90d112b8e1784cfd9d54ca8f5349ec0a8c3d224c19ce8f7155b3", func := "homehub/homehublaw33.HoldRuns", spec := "holdRuns", inPlace := ["internal/bytealg.abigen_runtime_cmpstring"], unfollowed := true, recurses := true, apart := false }
def HoldRunsSaid : Prop := holdRunsRow.holds Try.pinned (OpenSpec.ofChange holdRunsSpec)

/-- ITS FALSE NEIGHBOUR: 'it returns false'. Refute it at one input. -/
def holdRunsWrong : ChangeSpec := { name := "holdRuns", fn := fun _ => fun
  | [d1, d2, d3] => { results := [.lit (.bool false)], args := [d1, d2, d3] }
  | _ => none }
def HoldRunsWrongFalsely : Prop := holdRunsRow.holds Try.pinned (OpenSpec.ofChange holdRunsWrong)

/-- 'homehublaw33.HoldNext': WHATEVER THE INPUT: true; the input reads as it did. -/
def holdNextSpec : ChangeSpec := { name := "holdNext", fn := fun _ => fun
  | [d1, d2, d3] => { results := [.lit (.bool true)], args := [d1, d2, d3] }
  | _ => none }
def holdNextRow : OpenClaim := { program := "ytafodibbcfoclaa", sum := "0ecb50b7944c90d112b8e1784cfd9d54ca8f5349ec0a8c3d224c19ce8f7155b3", func := "homehub/homehublaw33.HoldNext", spec := "holdNext", inPlace := ["internal/bytealg.abigen_runtime_cmpstring"], unfollowed := true, recurses := true, loops := true, apart := false }
def HoldNextSaid : Prop := holdNextRow.holds Try.pinned (OpenSpec.ofChange holdNextSpec)

/-- ITS FALSE NEIGHBOUR: 'it returns false'. Refute it at one input. -/
def holdNextWrong : ChangeSpec := { name := "holdNext", fn := fun _ => fun
  | [d1, d2, d3] => { results := [.lit (.bool false)], args := [d1, d2, d3] }
  | _ => none }
def HoldNextWrongFalsely : Prop := holdNextRow.holds Try.pinned (OpenSpec.ofChange holdNextWrong)

/- THE SECOND FORM. 'bulk': how many values and letters a reading holds, each counted each time it is reached (what is shared counts as often as it is met; a slice's spare places count too). A statement '..UptoSaid' is the law's where the arguments, and the package variables that the reading takes, are together of bulk at most 1048576: NARROWER than '..Said'. Prove '..Said' where nothing that the law and all that it calls make is longer than what came in: it says more and counts as full. Else prove '..UptoSaid'. A law counts once. -/
mutual
def uptoBulk {H : Type} : DataW H → Nat
  | .lit (.string bytes) => bytes.length + 1
  | .lit _ => 1
  | .nil => 1
  | .ptr d => uptoBulk d + 1
  | .slice elems spare => uptoBulkAll elems + uptoBulkAll spare + 1
  | .agg parts => uptoBulkAll parts + 1
  | .iface _ d => uptoBulk d + 1
  | .map entries => uptoBulkEntries entries + 1
  | .held _ => 1
def uptoBulkAll {H : Type} : List (DataW H) → Nat
  | [] => 0
  | d :: r => uptoBulk d + uptoBulkAll r
def uptoBulkEntries {H : Type} : List (Lit × DataW H) → Nat
  | [] => 0
  | x :: r => uptoBulkEntry x + uptoBulkEntries r
def uptoBulkEntry {H : Type} : Lit × DataW H → Nat
  | (.string bytes, d) => bytes.length + uptoBulk d + 1
  | (_, d) => uptoBulk d + 1
 end
def uptoSmall : (H : Type) → List (DataW H) → Bool := fun _ ds => decide (uptoBulkAll ds ≤ 1048576)
def OpenSpec.upto (s : _root_.Go.ChangeSpec) : _root_.Go.OpenSpec := { _root_.Go.OpenSpec.ofChange s with cond := some uptoSmall }

/-- 'homehublaw33.HoldAsks', WHERE WHAT IT READS IS OF BULK AT MOST 1048576: true; the input reads as it did. -/
def holdAsksUptoRow : OpenClaim := { program := "ytafodibbcfoclaa", sum := "0ecb50b7944c90d112b8e1784cfd9d54ca8f5349ec0a8c3d224c19ce8f7155b3", func := "homehub/homehublaw33.HoldAsks", spec := "holdAsks", inPlace := ["internal/bytealg.abigen_runtime_cmpstring"], unfollowed := true, recurses := true, loops := true, apart := false, narrowed := true }
def HoldAsksUptoSaid : Prop := holdAsksUptoRow.holds Try.pinned (OpenSpec.upto holdAsksSpec)

/-- 'homehublaw33.HoldMarks', WHERE WHAT IT READS IS OF BULK AT MOST 1048576: true; the input reads as it did. -/
def holdMarksUptoRow : OpenClaim := { program := "ytafodibbcfoclaa", sum := "0ecb50b7944c90d112b8e1784cfd9d54ca8f5349ec0a8c3d224c19ce8f7155b3", func := "homehub/homehublaw33.HoldMarks", spec := "holdMarks", inPlace := ["internal/bytealg.abigen_runtime_cmpstring"], unfollowed := true, recurses := true, apart := false, narrowed := true }
def HoldMarksUptoSaid : Prop := holdMarksUptoRow.holds Try.pinned (OpenSpec.upto holdMarksSpec)

/-- 'homehublaw33.HoldOrder', WHERE WHAT IT READS IS OF BULK AT MOST 1048576: true; the input reads as it did. -/
def holdOrderUptoRow : OpenClaim := { program := "ytafodibbcfoclaa", sum := "0ecb50b7944c90d112b8e1784cfd9d54ca8f5349ec0a8c3d224c19ce8f7155b3", func := "homehub/homehublaw33.HoldOrder", spec := "holdOrder", inPlace := ["internal/bytealg.abigen_runtime_cmpstring"], unfollowed := true, recurses := true, loops := true, apart := false, narrowed := true }
def HoldOrderUptoSaid : Prop := holdOrderUptoRow.holds Try.pinned (OpenSpec.upto holdOrderSpec)

/-- 'homehublaw33.HoldRuns', WHERE WHAT IT READS IS OF BULK AT MOST 1048576: true; the input reads as it did. -/
def holdRunsUptoRow : OpenClaim := { program := "ytafodibbcfoclaa", sum := "0ecb50b7944c90d112b8e1784cfd9d54ca8f5349ec0a8c3d224c19ce8f7155b3", func := "homehub/homehublaw33.HoldRuns", spec := "holdRuns", inPlace := ["internal/bytealg.abigen_runtime_cmpstring"], unfollowed := true, recurses := true, apart := false, narrowed := true }
def HoldRunsUptoSaid : Prop := holdRunsUptoRow.holds Try.pinned (OpenSpec.upto holdRunsSpec)

/-- 'homehublaw33.HoldNext', WHERE WHAT IT READS IS OF BULK AT MOST 1048576: true; the input reads as it did. -/
def holdNextUptoRow : OpenClaim := { program := "ytafodibbcfoclaa", sum := "0ecb50b7944c90d112b8e1784cfd9d54ca8f5349ec0a8c3d224c19ce8f7155b3", func := "homehub/homehublaw33.HoldNext", spec := "holdNext", inPlace := ["internal/bytealg.abigen_runtime_cmpstring"], unfollowed := true, recurses := true, loops := true, apart := false, narrowed := true }
def HoldNextUptoSaid : Prop := holdNextUptoRow.holds Try.pinned (OpenSpec.upto holdNextSpec)

end Rows
end Go.Proofs.Ytafodibbcfoclaa
