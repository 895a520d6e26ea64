/-
  NARROWER THAN 'FOR EVERY INPUT', by the rows' own cells (each row's printed sentence says how): EvalValues: loops · EvalMorgan: loops · EvalMore: loops · EvalOrder: loops · ExprChecks: loops · ExprReads: loops · ExprFolds: loops · ExprFewer: loops · EvalFold: loops · ExprRenames: loops · ExprSame: loops · ExprSmaller: loops · ExprRestored: loops.
  DERIVED. THE GIVEN ROWS OF THIS SEAT. 14 by the template 'for every input the law returns true; each argument reads behind the call as it read before'; 0 by the template 'total and deterministic' (their statements: YtnelgblmogciiaaTotals.lean).
  GIVEN WITH THE SEED: the statements are not yours to turn. If you find one false, say at which input.
  Laid BY PROGRAM, IN A SANDBOX (cutbox-rows.mjs): the forced cells as the released guide's own fill.sh prints them over the translation a8ff8521c1489e11… (all of the seat's roots in one cut). By AI agents, Wed Nov 11 2026. No macro, syntax, notation, axiom, sorry.
-/
import Derived.Test.YtnelgblmogciiaaChecked
import GoSem.Claim
import GoSem.ClaimJoined
import GoSem.ClaimMapViews
import Derived.JoinedTies
import Derived.KernelRfl
namespace Go.Proofs.Ytnelgblmogciiaa
/- THE CELL 'sum', in the pinned program and in every row, IS THE sha256 OF THE DUMP (.gsa) THAT YtnelgblmogciiaaProg.lean LOADS. Nothing in Lean hashes anything: it is a label: what it is worth is what the hold of that sum in a sandbox is worth. -/
noncomputable def Try.pinned : Pinned := { name := "ytnelgblmogciiaa", sum := "a8ff8521c1489e11d1e07bbb165cce8100e4086851d8dddc61ef1db0f3c8d74e", checked := Try.checked }
namespace Rows
def none {H : Type} : Left H := { results := [], args := [] }

/-- 'homehublaw32.EvalValues': WHATEVER THE INPUT: true; the input reads as it did. -/
def evalValuesSpec : ChangeSpec := { name := "evalValues", fn := fun _ => fun
  | [d1, d2] => { results := [.lit (.bool true)], args := [d1, d2] }
  | _ => none }
def evalValuesRow : OpenClaim := { program := "ytnelgblmogciiaa", sum := "a8ff8521c1489e11d1e07bbb165cce8100e4086851d8dddc61ef1db0f3c8d74e", func := "homehub/homehublaw32.EvalValues", spec := "evalValues", unfollowed := true, recurses := true, loops := true, apart := false }
def EvalValuesSaid : Prop := evalValuesRow.holds Try.pinned (OpenSpec.ofChange evalValuesSpec)

/-- ITS FALSE NEIGHBOUR: 'it returns false'. Refute it at one input. -/
def evalValuesWrong : ChangeSpec := { name := "evalValues", fn := fun _ => fun
  | [d1, d2] => { results := [.lit (.bool false)], args := [d1, d2] }
  | _ => none }
def EvalValuesWrongFalsely : Prop := evalValuesRow.holds Try.pinned (OpenSpec.ofChange evalValuesWrong)

/-- 'homehublaw32.EvalMorgan': WHATEVER THE INPUT: true; the input reads as it did. -/
def evalMorganSpec : ChangeSpec := { name := "evalMorgan", fn := fun _ => fun
  | [d1, d2, d3] => { results := [.lit (.bool true)], args := [d1, d2, d3] }
  | _ => none }
def evalMorganRow : OpenClaim := { program := "ytnelgblmogciiaa", sum := "a8ff8521c1489e11d1e07bbb165cce8100e4086851d8dddc61ef1db0f3c8d74e", func := "homehub/homehublaw32.EvalMorgan", spec := "evalMorgan", unfollowed := true, recurses := true, loops := true, apart := false }
def EvalMorganSaid : Prop := evalMorganRow.holds Try.pinned (OpenSpec.ofChange evalMorganSpec)

/-- ITS FALSE NEIGHBOUR: 'it returns false'. Refute it at one input. -/
def evalMorganWrong : ChangeSpec := { name := "evalMorgan", fn := fun _ => fun
  | [d1, d2, d3] => { results := [.lit (.bool false)], args := [d1, d2, d3] }
  | _ => none }
def EvalMorganWrongFalsely : Prop := evalMorganRow.holds Try.pinned (OpenSpec.ofChange evalMorganWrong)

/-- 'homehublaw32.EvalMore': WHATEVER THE INPUT: true; the input reads as it did. -/
def evalMoreSpec : ChangeSpec := { name := "evalMore", fn := fun _ => fun
  | [d1, d2, d3] => { results := [.lit (.bool true)], args := [d1, d2, d3] }
  | _ => none }
def evalMoreRow : OpenClaim := { program := "ytnelgblmogciiaa", sum := "a8ff8521c1489e11d1e07bbb165cce8100e4086851d8dddc61ef1db0f3c8d74e", func := "homehub/homehublaw32.EvalMore", spec := "evalMore", unfollowed := true, recurses := true, loops := true, apart := false }
def EvalMoreSaid : Prop := evalMoreRow.holds Try.pinned (OpenSpec.ofChange evalMoreSpec)

/-- ITS FALSE NEIGHBOUR: 'it returns false'. Refute it at one input. -/
def evalMoreWrong : ChangeSpec := { name := "evalMore", fn := fun _ => fun
  | [d1, d2, d3] => { results := [.lit (.bool false)], args := [d1, d2, d3] }
  | _ => none }
def EvalMoreWrongFalsely : Prop := evalMoreRow.holds Try.pinned (OpenSpec.ofChange evalMoreWrong)

/-- 'homehublaw32.EvalOrder': WHATEVER THE INPUT: true; the input reads as it did. -/
def evalOrderSpec : ChangeSpec := { name := "evalOrder", fn := fun _ => fun
  | [d1, d2, d3] => { results := [.lit (.bool true)], args := [d1, d2, d3] }
  | _ => none }
def evalOrderRow : OpenClaim := { program := "ytnelgblmogciiaa", sum := "a8ff8521c1489e11d1e07bbb165cce8100e4086851d8dddc61ef1db0f3c8d74e", func := "homehub/homehublaw32.EvalOrder", spec := "evalOrder", unfollowed := true, recurses := true, loops := true, apart := false }
def EvalOrderSaid : Prop := evalOrderRow.holds Try.pinned (OpenSpec.ofChange evalOrderSpec)

/-- ITS FALSE NEIGHBOUR: 'it returns false'. Refute it at one input. -/
def evalOrderWrong : ChangeSpec := { name := "evalOrder", fn := fun _ => fun
  | [d1, d2, d3] => { results := [.lit (.bool false)], args := [d1, d2, d3] }
  | _ => none }
def EvalOrderWrongFalsely : Prop := evalOrderRow.holds Try.pinned (OpenSpec.ofChange evalOrderWrong)

/-- 'homehublaw32.EvalTimes': WHATEVER THE INPUT: true; the input reads as it did. -/
def evalTimesSpec : ChangeSpec := { name := "evalTimes", fn := fun _ => fun
  | [d1, d2, d3] => { results := [.lit (.bool true)], args := [d1, d2, d3] }
  | _ => none }
def evalTimesRow : OpenClaim := { program := "ytnelgblmogciiaa", sum := "a8ff8521c1489e11d1e07bbb165cce8100e4086851d8dddc61ef1db0f3c8d74e", func := "homehub/homehublaw32.EvalTimes", spec := "evalTimes", unfollowed := true, recurses := true, apart := false }
def EvalTimesSaid : Prop := evalTimesRow.holds Try.pinned (OpenSpec.ofChange evalTimesSpec)

/-- ITS FALSE NEIGHBOUR: 'it returns false'. Refute it at one input. -/
def evalTimesWrong : ChangeSpec := { name := "evalTimes", fn := fun _ => fun
  | [d1, d2, d3] => { results := [.lit (.bool false)], args := [d1, d2, d3] }
  | _ => none }
def EvalTimesWrongFalsely : Prop := evalTimesRow.holds Try.pinned (OpenSpec.ofChange evalTimesWrong)

/-- 'homehublaw28.ExprChecks': WHATEVER THE INPUT: true; the input reads as it did. -/
def exprChecksSpec : ChangeSpec := { name := "exprChecks", fn := fun _ => fun
  | [d] => { results := [.lit (.bool true)], args := [d] }
  | _ => none }
def exprChecksRow : OpenClaim := { program := "ytnelgblmogciiaa", sum := "a8ff8521c1489e11d1e07bbb165cce8100e4086851d8dddc61ef1db0f3c8d74e", func := "homehub/homehublaw28.ExprChecks", spec := "exprChecks", inPlace := ["slices.overlaps[homehub/api.Key]"], unfollowed := true, recurses := true, loops := true, apart := false }
def ExprChecksSaid : Prop := exprChecksRow.holds Try.pinned (OpenSpec.ofChange exprChecksSpec)

/-- ITS FALSE NEIGHBOUR: 'it returns false'. Refute it at one input. -/
def exprChecksWrong : ChangeSpec := { name := "exprChecks", fn := fun _ => fun
  | [d] => { results := [.lit (.bool false)], args := [d] }
  | _ => none }
def ExprChecksWrongFalsely : Prop := exprChecksRow.holds Try.pinned (OpenSpec.ofChange exprChecksWrong)

/-- 'homehublaw28.ExprReads': WHATEVER THE INPUT: true; the input reads as it did. -/
def exprReadsSpec : ChangeSpec := { name := "exprReads", fn := fun _ => fun
  | [d] => { results := [.lit (.bool true)], args := [d] }
  | _ => none }
def exprReadsRow : OpenClaim := { program := "ytnelgblmogciiaa", sum := "a8ff8521c1489e11d1e07bbb165cce8100e4086851d8dddc61ef1db0f3c8d74e", func := "homehub/homehublaw28.ExprReads", spec := "exprReads", inPlace := ["slices.overlaps[homehub/api.Key]"], unfollowed := true, recurses := true, loops := true, apart := false }
def ExprReadsSaid : Prop := exprReadsRow.holds Try.pinned (OpenSpec.ofChange exprReadsSpec)

/-- ITS FALSE NEIGHBOUR: 'it returns false'. Refute it at one input. -/
def exprReadsWrong : ChangeSpec := { name := "exprReads", fn := fun _ => fun
  | [d] => { results := [.lit (.bool false)], args := [d] }
  | _ => none }
def ExprReadsWrongFalsely : Prop := exprReadsRow.holds Try.pinned (OpenSpec.ofChange exprReadsWrong)

/-- 'homehublaw28.ExprFolds': WHATEVER THE INPUT: true; the input reads as it did. -/
def exprFoldsSpec : ChangeSpec := { name := "exprFolds", fn := fun _ => fun
  | [d] => { results := [.lit (.bool true)], args := [d] }
  | _ => none }
def exprFoldsRow : OpenClaim := { program := "ytnelgblmogciiaa", sum := "a8ff8521c1489e11d1e07bbb165cce8100e4086851d8dddc61ef1db0f3c8d74e", func := "homehub/homehublaw28.ExprFolds", spec := "exprFolds", inPlace := ["slices.overlaps[homehub/api.Key]"], unfollowed := true, recurses := true, loops := true, apart := false }
def ExprFoldsSaid : Prop := exprFoldsRow.holds Try.pinned (OpenSpec.ofChange exprFoldsSpec)

/-- ITS FALSE NEIGHBOUR: 'it returns false'. Refute it at one input. -/
def exprFoldsWrong : ChangeSpec := { name := "exprFolds", fn := fun _ => fun
  | [d] => { results := [.lit (.bool false)], args := [d] }
  | _ => none }
def ExprFoldsWrongFalsely : Prop := exprFoldsRow.holds Try.pinned (OpenSpec.ofChange exprFoldsWrong)

/-- 'homehublaw28.ExprFewer': WHATEVER THE INPUT: true; the input reads as it did. -/
def exprFewerSpec : ChangeSpec := { name := "exprFewer", fn := fun _ => fun
  | [d] => { results := [.lit (.bool true)], args := [d] }
  | _ => none }
def exprFewerRow : OpenClaim := { program := "ytnelgblmogciiaa", sum := "a8ff8521c1489e11d1e07bbb165cce8100e4086851d8dddc61ef1db0f3c8d74e", func := "homehub/homehublaw28.ExprFewer", spec := "exprFewer", inPlace := ["slices.overlaps[homehub/api.Key]"], unfollowed := true, recurses := true, loops := true, apart := false }
def ExprFewerSaid : Prop := exprFewerRow.holds Try.pinned (OpenSpec.ofChange exprFewerSpec)

/-- ITS FALSE NEIGHBOUR: 'it returns false'. Refute it at one input. -/
def exprFewerWrong : ChangeSpec := { name := "exprFewer", fn := fun _ => fun
  | [d] => { results := [.lit (.bool false)], args := [d] }
  | _ => none }
def ExprFewerWrongFalsely : Prop := exprFewerRow.holds Try.pinned (OpenSpec.ofChange exprFewerWrong)

/-- 'homehublaw32.EvalFold': WHATEVER THE INPUT: true; the input reads as it did. -/
def evalFoldSpec : ChangeSpec := { name := "evalFold", fn := fun _ => fun
  | [d1, d2] => { results := [.lit (.bool true)], args := [d1, d2] }
  | _ => none }
def evalFoldRow : OpenClaim := { program := "ytnelgblmogciiaa", sum := "a8ff8521c1489e11d1e07bbb165cce8100e4086851d8dddc61ef1db0f3c8d74e", func := "homehub/homehublaw32.EvalFold", spec := "evalFold", unfollowed := true, recurses := true, loops := true, apart := false }
def EvalFoldSaid : Prop := evalFoldRow.holds Try.pinned (OpenSpec.ofChange evalFoldSpec)

/-- ITS FALSE NEIGHBOUR: 'it returns false'. Refute it at one input. -/
def evalFoldWrong : ChangeSpec := { name := "evalFold", fn := fun _ => fun
  | [d1, d2] => { results := [.lit (.bool false)], args := [d1, d2] }
  | _ => none }
def EvalFoldWrongFalsely : Prop := evalFoldRow.holds Try.pinned (OpenSpec.ofChange evalFoldWrong)

/-- 'homehublaw28.ExprRenames': WHATEVER THE INPUT: true; the input reads as it did. -/
def exprRenamesSpec : ChangeSpec := { name := "exprRenames", fn := fun _ => fun
  | [d1, d2, d3] => { results := [.lit (.bool true)], args := [d1, d2, d3] }
  | _ => none }
def exprRenamesRow : OpenClaim := { program := "ytnelgblmogciiaa", sum := "a8ff8521c1489e11d1e07bbb165cce8100e4086851d8dddc61ef1db0f3c8d74e", func := "homehub/homehublaw28.ExprRenames", spec := "exprRenames", inPlace := ["slices.overlaps[homehub/api.Key]"], unfollowed := true, recurses := true, loops := true, apart := false }
def ExprRenamesSaid : Prop := exprRenamesRow.holds Try.pinned (OpenSpec.ofChange exprRenamesSpec)

/-- ITS FALSE NEIGHBOUR: 'it returns false'. Refute it at one input. -/
def exprRenamesWrong : ChangeSpec := { name := "exprRenames", fn := fun _ => fun
  | [d1, d2, d3] => { results := [.lit (.bool false)], args := [d1, d2, d3] }
  | _ => none }
def ExprRenamesWrongFalsely : Prop := exprRenamesRow.holds Try.pinned (OpenSpec.ofChange exprRenamesWrong)

/-- 'homehublaw28.ExprSame': WHATEVER THE INPUT: true; the input reads as it did. -/
def exprSameSpec : ChangeSpec := { name := "exprSame", fn := fun _ => fun
  | [d1, d2] => { results := [.lit (.bool true)], args := [d1, d2] }
  | _ => none }
def exprSameRow : OpenClaim := { program := "ytnelgblmogciiaa", sum := "a8ff8521c1489e11d1e07bbb165cce8100e4086851d8dddc61ef1db0f3c8d74e", func := "homehub/homehublaw28.ExprSame", spec := "exprSame", inPlace := ["slices.overlaps[homehub/api.Key]"], unfollowed := true, recurses := true, loops := true, apart := false }
def ExprSameSaid : Prop := exprSameRow.holds Try.pinned (OpenSpec.ofChange exprSameSpec)

/-- ITS FALSE NEIGHBOUR: 'it returns false'. Refute it at one input. -/
def exprSameWrong : ChangeSpec := { name := "exprSame", fn := fun _ => fun
  | [d1, d2] => { results := [.lit (.bool false)], args := [d1, d2] }
  | _ => none }
def ExprSameWrongFalsely : Prop := exprSameRow.holds Try.pinned (OpenSpec.ofChange exprSameWrong)

/-- 'homehublaw28.ExprSmaller': WHATEVER THE INPUT: true; the input reads as it did. -/
def exprSmallerSpec : ChangeSpec := { name := "exprSmaller", fn := fun _ => fun
  | [d] => { results := [.lit (.bool true)], args := [d] }
  | _ => none }
def exprSmallerRow : OpenClaim := { program := "ytnelgblmogciiaa", sum := "a8ff8521c1489e11d1e07bbb165cce8100e4086851d8dddc61ef1db0f3c8d74e", func := "homehub/homehublaw28.ExprSmaller", spec := "exprSmaller", inPlace := ["slices.overlaps[homehub/api.Key]"], unfollowed := true, recurses := true, loops := true, apart := false }
def ExprSmallerSaid : Prop := exprSmallerRow.holds Try.pinned (OpenSpec.ofChange exprSmallerSpec)

/-- ITS FALSE NEIGHBOUR: 'it returns false'. Refute it at one input. -/
def exprSmallerWrong : ChangeSpec := { name := "exprSmaller", fn := fun _ => fun
  | [d] => { results := [.lit (.bool false)], args := [d] }
  | _ => none }
def ExprSmallerWrongFalsely : Prop := exprSmallerRow.holds Try.pinned (OpenSpec.ofChange exprSmallerWrong)

/-- 'homehublaw28.ExprRestored': WHATEVER THE INPUT: true; the input reads as it did. -/
def exprRestoredSpec : ChangeSpec := { name := "exprRestored", fn := fun _ => fun
  | [d1, d2, d3] => { results := [.lit (.bool true)], args := [d1, d2, d3] }
  | _ => none }
def exprRestoredRow : OpenClaim := { program := "ytnelgblmogciiaa", sum := "a8ff8521c1489e11d1e07bbb165cce8100e4086851d8dddc61ef1db0f3c8d74e", func := "homehub/homehublaw28.ExprRestored", spec := "exprRestored", inPlace := ["slices.overlaps[homehub/api.Key]"], unfollowed := true, recurses := true, loops := true, apart := false }
def ExprRestoredSaid : Prop := exprRestoredRow.holds Try.pinned (OpenSpec.ofChange exprRestoredSpec)

/-- ITS FALSE NEIGHBOUR: 'it returns false'. Refute it at one input. -/
def exprRestoredWrong : ChangeSpec := { name := "exprRestored", fn := fun _ => fun
  | [d1, d2, d3] => { results := [.lit (.bool false)], args := [d1, d2, d3] }
  | _ => none }
def ExprRestoredWrongFalsely : Prop := exprRestoredRow.holds Try.pinned (OpenSpec.ofChange exprRestoredWrong)

/- THE SECOND FORM. 'bulk': how many values and letters a reading holds, each counted each time it is reached (what is shared counts as often as it is met; a slice's spare places count too). A statement '..UptoSaid' is the law's where the arguments, and the package variables that the reading takes, are together of bulk at most 1048576: NARROWER than '..Said'. Prove '..Said' where nothing that the law and all that it calls make is longer than what came in: it says more and counts as full. Else prove '..UptoSaid'. A law counts once. -/
mutual
def uptoBulk {H : Type} : DataW H → Nat
  | .lit (.string bytes) => bytes.length + 1
  | .lit _ => 1
  | .nil => 1
  | .ptr d => uptoBulk d + 1
  | .slice elems spare => uptoBulkAll elems + uptoBulkAll spare + 1
  | .agg parts => uptoBulkAll parts + 1
  | .iface _ d => uptoBulk d + 1
  | .map entries => uptoBulkEntries entries + 1
  | .held _ => 1
def uptoBulkAll {H : Type} : List (DataW H) → Nat
  | [] => 0
  | d :: r => uptoBulk d + uptoBulkAll r
def uptoBulkEntries {H : Type} : List (Lit × DataW H) → Nat
  | [] => 0
  | x :: r => uptoBulkEntry x + uptoBulkEntries r
def uptoBulkEntry {H : Type} : Lit × DataW H → Nat
  | (.string bytes, d) => bytes.length + uptoBulk d + 1
  | (_, d) => uptoBulk d + 1
 end
def uptoSmall : (H : Type) → List (DataW H) → Bool := fun _ ds => decide (uptoBulkAll ds ≤ 1048576)
def OpenSpec.upto (s : _root_.Go.ChangeSpec) : _root_.Go.OpenSpec := { _root_.Go.OpenSpec.ofChange s with cond := some uptoSmall }

/-- 'homehublaw32.EvalValues', WHERE WHAT IT READS IS OF BULK AT MOST 1048576: true; the input reads as it did. -/
def evalValuesUptoRow : OpenClaim := { program := "ytnelgblmogciiaa", sum := "a8ff8521c1489e11d1e07bbb165cce8100e4086851d8dddc61ef1db0f3c8d74e", func := "homehub/homehublaw32.EvalValues", spec := "evalValues", unfollowed := true, recurses := true, loops := true, apart := false, narrowed := true }
def EvalValuesUptoSaid : Prop := evalValuesUptoRow.holds Try.pinned (OpenSpec.upto evalValuesSpec)

/-- 'homehublaw32.EvalMorgan', WHERE WHAT IT READS IS OF BULK AT MOST 1048576: true; the input reads as it did. -/
def evalMorganUptoRow : OpenClaim := { program := "ytnelgblmogciiaa", sum := "a8ff8521c1489e11d1e07bbb165cce8100e4086851d8dddc61ef1db0f3c8d74e", func := "homehub/homehublaw32.EvalMorgan", spec := "evalMorgan", unfollowed := true, recurses := true, loops := true, apart := false, narrowed := true }
def EvalMorganUptoSaid : Prop := evalMorganUptoRow.holds Try.pinned (OpenSpec.upto evalMorganSpec)

/-- 'homehublaw32.EvalMore', WHERE WHAT IT READS IS OF BULK AT MOST 1048576: true; the input reads as it did. -/
def evalMoreUptoRow : OpenClaim := { program := "ytnelgblmogciiaa", sum := "a8ff8521c1489e11d1e07bbb165cce8100e4086851d8dddc61ef1db0f3c8d74e", func := "homehub/homehublaw32.EvalMore", spec := "evalMore", unfollowed := true, recurses := true, loops := true, apart := false, narrowed := true }
def EvalMoreUptoSaid : Prop := evalMoreUptoRow.holds Try.pinned (OpenSpec.upto evalMoreSpec)

/-- 'homehublaw32.EvalOrder', WHERE WHAT IT READS IS OF BULK AT MOST 1048576: true; the input reads as it did. -/
def evalOrderUptoRow : OpenClaim := { program := "ytnelgblmogciiaa", sum := "a8ff8521c1489e11d1e07bbb165cce8100e4086851d8dddc61ef1db0f3c8d74e", func := "homehub/homehublaw32.EvalOrder", spec := "evalOrder", unfollowed := true, recurses := true, loops := true, apart := false, narrowed := true }
def EvalOrderUptoSaid : Prop := evalOrderUptoRow.holds Try.pinned (OpenSpec.upto evalOrderSpec)

/-- 'homehublaw32.EvalTimes', WHERE WHAT IT READS IS OF BULK AT MOST 1048576: true; the input reads as it did. -/
def evalTimesUptoRow : OpenClaim := { program := "ytnelgblmogciiaa", sum := "a8ff8521c1489e11d1e07bbb165cce8100e4086851d8dddc61ef1db0f3c8d74e", func := "homehub/homehublaw32.EvalTimes", spec := "evalTimes", unfollowed := true, recurses := true, apart := false, narrowed := true }
def EvalTimesUptoSaid : Prop := evalTimesUptoRow.holds Try.pinned (OpenSpec.upto evalTimesSpec)

/-- 'homehublaw28.ExprChecks', WHERE WHAT IT READS IS OF BULK AT MOST 1048576: true; the input reads as it did. -/
def exprChecksUptoRow : OpenClaim := { program := "ytnelgblmogciiaa", sum := "a8ff8521c1489e11d1e07bbb165cce8100e4086851d8dddc61ef1db0f3c8d74e", func := "homehub/homehublaw28.ExprChecks", spec := "exprChecks", inPlace := ["slices.overlaps[homehub/api.Key]"], unfollowed := true, recurses := true, loops := true, apart := false, narrowed := true }
def ExprChecksUptoSaid : Prop := exprChecksUptoRow.holds Try.pinned (OpenSpec.upto exprChecksSpec)

/-- 'homehublaw28.ExprReads', WHERE WHAT IT READS IS OF BULK AT MOST 1048576: true; the input reads as it did. -/
def exprReadsUptoRow : OpenClaim := { program := "ytnelgblmogciiaa", sum := "a8ff8521c1489e11d1e07bbb165cce8100e4086851d8dddc61ef1db0f3c8d74e", func := "homehub/homehublaw28.ExprReads", spec := "exprReads", inPlace := ["slices.overlaps[homehub/api.Key]"], unfollowed := true, recurses := true, loops := true, apart := false, narrowed := true }
def ExprReadsUptoSaid : Prop := exprReadsUptoRow.holds Try.pinned (OpenSpec.upto exprReadsSpec)

/-- 'homehublaw28.ExprFolds', WHERE WHAT IT READS IS OF BULK AT MOST 1048576: true; the input reads as it did. -/
def exprFoldsUptoRow : OpenClaim := { program := "ytnelgblmogciiaa", sum := "a8ff8521c1489e11d1e07bbb165cce8100e4086851d8dddc61ef1db0f3c8d74e", func := "homehub/homehublaw28.ExprFolds", spec := "exprFolds", inPlace := ["slices.overlaps[homehub/api.Key]"], unfollowed := true, recurses := true, loops := true, apart := false, narrowed := true }
def ExprFoldsUptoSaid : Prop := exprFoldsUptoRow.holds Try.pinned (OpenSpec.upto exprFoldsSpec)

/-- 'homehublaw28.ExprFewer', WHERE WHAT IT READS IS OF BULK AT MOST 1048576: true; the input reads as it did. -/
def exprFewerUptoRow : OpenClaim := { program := "ytnelgblmogciiaa", sum := "a8ff8521c1489e11d1e07bbb165cce8100e4086851d8dddc61ef1db0f3c8d74e", func := "homehub/homehublaw28.ExprFewer", spec := "exprFewer", inPlace := ["slices.overlaps[homehub/api.Key]"], unfollowed := true, recurses := true, loops := true, apart := false, narrowed := true }
def ExprFewerUptoSaid : Prop := exprFewerUptoRow.holds Try.pinned (OpenSpec.upto exprFewerSpec)

/-- 'homehublaw32.EvalFold', WHERE WHAT IT READS IS OF BULK AT MOST 1048576: true; the input reads as it did. -/
def evalFoldUptoRow : OpenClaim := { program := "ytnelgblmogciiaa", sum := "a8ff8521c1489e11d1e07bbb165cce8100e4086851d8dddc61ef1db0f3c8d74e", func := "homehub/homehublaw32.EvalFold", spec := "evalFold", unfollowed := true, recurses := true, loops := true, apart := false, narrowed := true }
def EvalFoldUptoSaid : Prop := evalFoldUptoRow.holds Try.pinned (OpenSpec.upto evalFoldSpec)

/-- 'homehublaw28.ExprRenames', WHERE WHAT IT READS IS OF BULK AT MOST 1048576: true; the input reads as it did. -/
def exprRenamesUptoRow : OpenClaim := { program := "ytnelgblmogciiaa", sum := "a8ff8521c1489e11d1e07bbb165cce8100e4086851d8dddc61ef1db0f3c8d74e", func := "homehub/homehublaw28.ExprRenames", spec := "exprRenames", inPlace := ["slices.overlaps[homehub/api.Key]"], unfollowed := true, recurses := true, loops := true, apart := false, narrowed := true }
def ExprRenamesUptoSaid : Prop := exprRenamesUptoRow.holds Try.pinned (OpenSpec.upto exprRenamesSpec)

/-- 'homehublaw28.ExprSame', WHERE WHAT IT READS IS OF BULK AT MOST 1048576: true; the input reads as it did. -/
def exprSameUptoRow : OpenClaim := { program := "ytnelgblmogciiaa", sum := "a8ff8521c1489e11d1e07bbb165cce8100e4086851d8dddc61ef1db0f3c8d74e", func := "homehub/homehublaw28.ExprSame", spec := "exprSame", inPlace := ["slices.overlaps[homehub/api.Key]"], unfollowed := true, recurses := true, loops := true, apart := false, narrowed := true }
def ExprSameUptoSaid : Prop := exprSameUptoRow.holds Try.pinned (OpenSpec.upto exprSameSpec)

/-- 'homehublaw28.ExprSmaller', WHERE WHAT IT READS IS OF BULK AT MOST 1048576: true; the input reads as it did. -/
def exprSmallerUptoRow : OpenClaim := { program := "ytnelgblmogciiaa", sum := "a8ff8521c1489e11d1e07bbb165cce8100e4086851d8dddc61ef1db0f3c8d74e", func := "homehub/homehublaw28.ExprSmaller", spec := "exprSmaller", inPlace := ["slices.overlaps[homehub/api.Key]"], unfollowed := true, recurses := true, loops := true, apart := false, narrowed := true }
def ExprSmallerUptoSaid : Prop := exprSmallerUptoRow.holds Try.pinned (OpenSpec.upto exprSmallerSpec)

/-- 'homehublaw28.ExprRestored', WHERE WHAT IT READS IS OF BULK AT MOST 1048576: true; the input reads as it did. -/
def exprRestoredUptoRow : OpenClaim := { program := "ytnelgblmogciiaa", sum := "a8ff8521c1489e11d1e07bbb165cce8100e4086851d8dddc61ef1db0f3c8d74e", func := "homehub/homehublaw28.ExprRestored", spec := "exprRestored", inPlace := ["slices.overlaps[homehub/api.Key]"], unfollowed := true, recurses := true, loops := true, apart := false, narrowed := true }
def ExprRestoredUptoSaid : Prop := exprRestoredUptoRow.holds Try.pinned (OpenSpec.upto exprRestoredSpec)

end Rows
end Go.Proofs.Ytnelgblmogciiaa
