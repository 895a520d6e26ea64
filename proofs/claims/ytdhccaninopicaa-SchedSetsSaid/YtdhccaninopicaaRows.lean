/-
  No cell of these rows narrows 'for every input' (looked for: loops, veiled, ifaces, maps, wideKeys, modest, calm, conditions, laid).
  DERIVED. THE GIVEN ROWS OF THIS SEAT. 9 by the template 'for every input the law returns true; each argument reads behind the call as it read before'; 0 by the template 'total and deterministic' (their statements: YtdhccaninopicaaTotals.lean).
  GIVEN WITH THE SEED: the statements are not yours to turn. If you find one false, say at which input.
  Laid BY PROGRAM, IN A SANDBOX (cutbox-rows.mjs): the forced cells as the released guide's own fill.sh prints them over the translation f9fbe1ab4d4eb918… (all of the seat's roots in one cut). By AI agents, Wed Nov 11 2026. No macro, syntax, notation, axiom, sorry.
-/
import Derived.Test.YtdhccaninopicaaChecked
import GoSem.Claim
import GoSem.ClaimJoined
import GoSem.ClaimMapViews
import Derived.JoinedTies
import Derived.KernelRfl
namespace Go.Proofs.Ytdhccaninopicaa
/- THE CELL 'sum', in the pinned program and in every row, IS THE sha256 OF THE DUMP (.gsa) THAT YtdhccaninopicaaProg.lean LOADS. Nothing in Lean hashes anything: it is a label: what it is worth is what the hold of that sum in a sandbox is worth. -/
noncomputable def Try.pinned : Pinned := { name := "ytdhccaninopicaa", sum := "f9fbe1ab4d4eb91862aee6fb3117fb7f5dd7fb4308c29869049ed3b0a2c61ccb", checked := Try.checked }
namespace Rows
def none {H : Type} : Left H := { results := [], args := [] }

/-- 'homehublaw06.SchedNorms': WHATEVER THE INPUT: true; the input reads as it did. -/
def schedNormsSpec : ChangeSpec := { name := "schedNorms", fn := fun _ => fun
  | [d] => { results := [.lit (.bool true)], args := [d] }
  | _ => none }
def schedNormsRow : OpenClaim := { program := "ytdhccaninopicaa", sum := "f9fbe1ab4d4eb91862aee6fb3117fb7f5dd7fb4308c29869049ed3b0a2c61ccb", func := "homehub/homehublaw06.SchedNorms", spec := "schedNorms", unfollowed := true, recurses := true, apart := false }
def SchedNormsSaid : Prop := schedNormsRow.holds Try.pinned (OpenSpec.ofChange schedNormsSpec)

/-- ITS FALSE NEIGHBOUR: 'it returns false'. Refute it at one input. -/
def schedNormsWrong : ChangeSpec := { name := "schedNorms", fn := fun _ => fun
  | [d] => { results := [.lit (.bool false)], args := [d] }
  | _ => none }
def SchedNormsWrongFalsely : Prop := schedNormsRow.holds Try.pinned (OpenSpec.ofChange schedNormsWrong)

/-- 'homehublaw06.SchedAsks': WHATEVER THE INPUT: true; the input reads as it did. -/
def schedAsksSpec : ChangeSpec := { name := "schedAsks", fn := fun _ => fun
  | [d1, d2] => { results := [.lit (.bool true)], args := [d1, d2] }
  | _ => none }
def schedAsksRow : OpenClaim := { program := "ytdhccaninopicaa", sum := "f9fbe1ab4d4eb91862aee6fb3117fb7f5dd7fb4308c29869049ed3b0a2c61ccb", func := "homehub/homehublaw06.SchedAsks", spec := "schedAsks", unfollowed := true, recurses := true, apart := false }
def SchedAsksSaid : Prop := schedAsksRow.holds Try.pinned (OpenSpec.ofChange schedAsksSpec)

/-- ITS FALSE NEIGHBOUR: 'it returns false'. Refute it at one input. -/
def schedAsksWrong : ChangeSpec := { name := "schedAsks", fn := fun _ => fun
  | [d1, d2] => { results := [.lit (.bool false)], args := [d1, d2] }
  | _ => none }
def SchedAsksWrongFalsely : Prop := schedAsksRow.holds Try.pinned (OpenSpec.ofChange schedAsksWrong)

/-- 'homehublaw06.SchedCombines': WHATEVER THE INPUT: true; the input reads as it did. -/
def schedCombinesSpec : ChangeSpec := { name := "schedCombines", fn := fun _ => fun
  | [d1, d2] => { results := [.lit (.bool true)], args := [d1, d2] }
  | _ => none }
def schedCombinesRow : OpenClaim := { program := "ytdhccaninopicaa", sum := "f9fbe1ab4d4eb91862aee6fb3117fb7f5dd7fb4308c29869049ed3b0a2c61ccb", func := "homehub/homehublaw06.SchedCombines", spec := "schedCombines", unfollowed := true, recurses := true, apart := false }
def SchedCombinesSaid : Prop := schedCombinesRow.holds Try.pinned (OpenSpec.ofChange schedCombinesSpec)

/-- ITS FALSE NEIGHBOUR: 'it returns false'. Refute it at one input. -/
def schedCombinesWrong : ChangeSpec := { name := "schedCombines", fn := fun _ => fun
  | [d1, d2] => { results := [.lit (.bool false)], args := [d1, d2] }
  | _ => none }
def SchedCombinesWrongFalsely : Prop := schedCombinesRow.holds Try.pinned (OpenSpec.ofChange schedCombinesWrong)

/-- 'homehublaw06.SchedDays': WHATEVER THE INPUT: true; the input reads as it did. -/
def schedDaysSpec : ChangeSpec := { name := "schedDays", fn := fun _ => fun
  | [d1, d2, d3] => { results := [.lit (.bool true)], args := [d1, d2, d3] }
  | _ => none }
def schedDaysRow : OpenClaim := { program := "ytdhccaninopicaa", sum := "f9fbe1ab4d4eb91862aee6fb3117fb7f5dd7fb4308c29869049ed3b0a2c61ccb", func := "homehub/homehublaw06.SchedDays", spec := "schedDays", unfollowed := true, recurses := true, apart := false }
def SchedDaysSaid : Prop := schedDaysRow.holds Try.pinned (OpenSpec.ofChange schedDaysSpec)

/-- ITS FALSE NEIGHBOUR: 'it returns false'. Refute it at one input. -/
def schedDaysWrong : ChangeSpec := { name := "schedDays", fn := fun _ => fun
  | [d1, d2, d3] => { results := [.lit (.bool false)], args := [d1, d2, d3] }
  | _ => none }
def SchedDaysWrongFalsely : Prop := schedDaysRow.holds Try.pinned (OpenSpec.ofChange schedDaysWrong)

/-- 'homehublaw06.SchedSets': WHATEVER THE INPUT: true; the input reads as it did. -/
def schedSetsSpec : ChangeSpec := { name := "schedSets", fn := fun _ => fun
  | [d1, d2, d3] => { results := [.lit (.bool true)], args := [d1, d2, d3] }
  | _ => none }
def schedSetsRow : OpenClaim := { program := "ytdhccaninopicaa", sum := "f9fbe1ab4d4eb91862aee6fb3117fb7f5dd7fb4308c29869049ed3b0a2c61ccb", func := "homehub/homehublaw06.SchedSets", spec := "schedSets", unfollowed := true, recurses := true, apart := false }
def SchedSetsSaid : Prop := schedSetsRow.holds Try.pinned (OpenSpec.ofChange schedSetsSpec)

/-- ITS FALSE NEIGHBOUR: 'it returns false'. Refute it at one input. -/
def schedSetsWrong : ChangeSpec := { name := "schedSets", fn := fun _ => fun
  | [d1, d2, d3] => { results := [.lit (.bool false)], args := [d1, d2, d3] }
  | _ => none }
def SchedSetsWrongFalsely : Prop := schedSetsRow.holds Try.pinned (OpenSpec.ofChange schedSetsWrong)

/-- 'homehublaw06.SchedLengths': WHATEVER THE INPUT: true; the input reads as it did. -/
def schedLengthsSpec : ChangeSpec := { name := "schedLengths", fn := fun _ => fun
  | [d1, d2] => { results := [.lit (.bool true)], args := [d1, d2] }
  | _ => none }
def schedLengthsRow : OpenClaim := { program := "ytdhccaninopicaa", sum := "f9fbe1ab4d4eb91862aee6fb3117fb7f5dd7fb4308c29869049ed3b0a2c61ccb", func := "homehub/homehublaw06.SchedLengths", spec := "schedLengths", unfollowed := true, recurses := true, apart := false }
def SchedLengthsSaid : Prop := schedLengthsRow.holds Try.pinned (OpenSpec.ofChange schedLengthsSpec)

/-- ITS FALSE NEIGHBOUR: 'it returns false'. Refute it at one input. -/
def schedLengthsWrong : ChangeSpec := { name := "schedLengths", fn := fun _ => fun
  | [d1, d2] => { results := [.lit (.bool false)], args := [d1, d2] }
  | _ => none }
def SchedLengthsWrongFalsely : Prop := schedLengthsRow.holds Try.pinned (OpenSpec.ofChange schedLengthsWrong)

/-- 'homehublaw06.SchedNormal': WHATEVER THE INPUT: true; the input reads as it did. -/
def schedNormalSpec : ChangeSpec := { name := "schedNormal", fn := fun _ => fun
  | [d] => { results := [.lit (.bool true)], args := [d] }
  | _ => none }
def schedNormalRow : OpenClaim := { program := "ytdhccaninopicaa", sum := "f9fbe1ab4d4eb91862aee6fb3117fb7f5dd7fb4308c29869049ed3b0a2c61ccb", func := "homehub/homehublaw06.SchedNormal", spec := "schedNormal", unfollowed := true, recurses := true, apart := false }
def SchedNormalSaid : Prop := schedNormalRow.holds Try.pinned (OpenSpec.ofChange schedNormalSpec)

/-- ITS FALSE NEIGHBOUR: 'it returns false'. Refute it at one input. -/
def schedNormalWrong : ChangeSpec := { name := "schedNormal", fn := fun _ => fun
  | [d] => { results := [.lit (.bool false)], args := [d] }
  | _ => none }
def SchedNormalWrongFalsely : Prop := schedNormalRow.holds Try.pinned (OpenSpec.ofChange schedNormalWrong)

/-- 'homehublaw06.SchedChanges': WHATEVER THE INPUT: true; the input reads as it did. -/
def schedChangesSpec : ChangeSpec := { name := "schedChanges", fn := fun _ => fun
  | [d1, d2] => { results := [.lit (.bool true)], args := [d1, d2] }
  | _ => none }
def schedChangesRow : OpenClaim := { program := "ytdhccaninopicaa", sum := "f9fbe1ab4d4eb91862aee6fb3117fb7f5dd7fb4308c29869049ed3b0a2c61ccb", func := "homehub/homehublaw06.SchedChanges", spec := "schedChanges", unfollowed := true, recurses := true, apart := false }
def SchedChangesSaid : Prop := schedChangesRow.holds Try.pinned (OpenSpec.ofChange schedChangesSpec)

/-- ITS FALSE NEIGHBOUR: 'it returns false'. Refute it at one input. -/
def schedChangesWrong : ChangeSpec := { name := "schedChanges", fn := fun _ => fun
  | [d1, d2] => { results := [.lit (.bool false)], args := [d1, d2] }
  | _ => none }
def SchedChangesWrongFalsely : Prop := schedChangesRow.holds Try.pinned (OpenSpec.ofChange schedChangesWrong)

/-- 'homehublaw06.SchedChecks': WHATEVER THE INPUT: true; the input reads as it did. -/
def schedChecksSpec : ChangeSpec := { name := "schedChecks", fn := fun _ => fun
  | [d] => { results := [.lit (.bool true)], args := [d] }
  | _ => none }
def schedChecksRow : OpenClaim := { program := "ytdhccaninopicaa", sum := "f9fbe1ab4d4eb91862aee6fb3117fb7f5dd7fb4308c29869049ed3b0a2c61ccb", func := "homehub/homehublaw06.SchedChecks", spec := "schedChecks", unfollowed := true, recurses := true, apart := false }
def SchedChecksSaid : Prop := schedChecksRow.holds Try.pinned (OpenSpec.ofChange schedChecksSpec)

/-- ITS FALSE NEIGHBOUR: 'it returns false'. Refute it at one input. -/
def schedChecksWrong : ChangeSpec := { name := "schedChecks", fn := fun _ => fun
  | [d] => { results := [.lit (.bool false)], args := [d] }
  | _ => none }
def SchedChecksWrongFalsely : Prop := schedChecksRow.holds Try.pinned (OpenSpec.ofChange schedChecksWrong)

/- THE SECOND FORM. 'bulk': how many values and letters a reading holds, each counted each time it is reached (what is shared counts as often as it is met; a slice's spare places count too). A statement '..UptoSaid' is the law's where the arguments, and the package variables that the reading takes, are together of bulk at most 1048576: NARROWER than '..Said'. Prove '..Said' where nothing that the law and all that it calls make is longer than what came in: it says more and counts as full. Else prove '..UptoSaid'. A law counts once. -/
mutual
def uptoBulk {H : Type} : DataW H → Nat
  | .lit (.string bytes) => bytes.length + 1
  | .lit _ => 1
  | .nil => 1
  | .ptr d => uptoBulk d + 1
  | .slice elems spare => uptoBulkAll elems + uptoBulkAll spare + 1
  | .agg parts => uptoBulkAll parts + 1
  | .iface _ d => uptoBulk d + 1
  | .map entries => uptoBulkEntries entries + 1
  | .held _ => 1
def uptoBulkAll {H : Type} : List (DataW H) → Nat
  | [] => 0
  | d :: r => uptoBulk d + uptoBulkAll r
def uptoBulkEntries {H : Type} : List (Lit × DataW H) → Nat
  | [] => 0
  | x :: r => uptoBulkEntry x + uptoBulkEntries r
def uptoBulkEntry {H : Type} : Lit × DataW H → Nat
  | (.string bytes, d) => bytes.length + uptoBulk d + 1
  | (_, d) => uptoBulk d + 1
 end
def uptoSmall : (H : Type) → List (DataW H) → Bool := fun _ ds => decide (uptoBulkAll ds ≤ 1048576)
def OpenSpec.upto (s : _root_.Go.ChangeSpec) : _root_.Go.OpenSpec := { _root_.Go.OpenSpec.ofChange s with cond := some uptoSmall }

/-- 'homehublaw06.SchedNorms', WHERE WHAT IT READS IS OF BULK AT MOST 1048576: true; the input reads as it did. -/
def schedNormsUptoRow : OpenClaim := { program := "ytdhccaninopicaa", sum := "f9fbe1ab4d4eb91862aee6fb3117fb7f5dd7fb4308c29869049ed3b0a2c61ccb", func := "homehub/homehublaw06.SchedNorms", spec := "schedNorms", unfollowed := true, recurses := true, apart := false, narrowed := true }
def SchedNormsUptoSaid : Prop := schedNormsUptoRow.holds Try.pinned (OpenSpec.upto schedNormsSpec)

/-- 'homehublaw06.SchedAsks', WHERE WHAT IT READS IS OF BULK AT MOST 1048576: true; the input reads as it did. -/
def schedAsksUptoRow : OpenClaim := { program := "ytdhccaninopicaa", sum := "f9fbe1ab4d4eb91862aee6fb3117fb7f5dd7fb4308c29869049ed3b0a2c61ccb", func := "homehub/homehublaw06.SchedAsks", spec := "schedAsks", unfollowed := true, recurses := true, apart := false, narrowed := true }
def SchedAsksUptoSaid : Prop := schedAsksUptoRow.holds Try.pinned (OpenSpec.upto schedAsksSpec)

/-- 'homehublaw06.SchedCombines', WHERE WHAT IT READS IS OF BULK AT MOST 1048576: true; the input reads as it did. -/
def schedCombinesUptoRow : OpenClaim := { program := "ytdhccaninopicaa", sum := "f9fbe1ab4d4eb91862aee6fb3117fb7f5dd7fb4308c29869049ed3b0a2c61ccb", func := "homehub/homehublaw06.SchedCombines", spec := "schedCombines", unfollowed := true, recurses := true, apart := false, narrowed := true }
def SchedCombinesUptoSaid : Prop := schedCombinesUptoRow.holds Try.pinned (OpenSpec.upto schedCombinesSpec)

/-- 'homehublaw06.SchedDays', WHERE WHAT IT READS IS OF BULK AT MOST 1048576: true; the input reads as it did. -/
def schedDaysUptoRow : OpenClaim := { program := "ytdhccaninopicaa", sum := "f9fbe1ab4d4eb91862aee6fb3117fb7f5dd7fb4308c29869049ed3b0a2c61ccb", func := "homehub/homehublaw06.SchedDays", spec := "schedDays", unfollowed := true, recurses := true, apart := false, narrowed := true }
def SchedDaysUptoSaid : Prop := schedDaysUptoRow.holds Try.pinned (OpenSpec.upto schedDaysSpec)

/-- 'homehublaw06.SchedSets', WHERE WHAT IT READS IS OF BULK AT MOST 1048576: true; the input reads as it did. -/
def schedSetsUptoRow : OpenClaim := { program := "ytdhccaninopicaa", sum := "f9fbe1ab4d4eb91862aee6fb3117fb7f5dd7fb4308c29869049ed3b0a2c61ccb", func := "homehub/homehublaw06.SchedSets", spec := "schedSets", unfollowed := true, recurses := true, apart := false, narrowed := true }
def SchedSetsUptoSaid : Prop := schedSetsUptoRow.holds Try.pinned (OpenSpec.upto schedSetsSpec)

/-- 'homehublaw06.SchedLengths', WHERE WHAT IT READS IS OF BULK AT MOST 1048576: true; the input reads as it did. -/
def schedLengthsUptoRow : OpenClaim := { program := "ytdhccaninopicaa", sum := "f9fbe1ab4d4eb91862aee6fb3117fb7f5dd7fb4308c29869049ed3b0a2c61ccb", func := "homehub/homehublaw06.SchedLengths", spec := "schedLengths", unfollowed := true, recurses := true, apart := false, narrowed := true }
def SchedLengthsUptoSaid : Prop := schedLengthsUptoRow.holds Try.pinned (OpenSpec.upto schedLengthsSpec)

/-- 'homehublaw06.SchedNormal', WHERE WHAT IT READS IS OF BULK AT MOST 1048576: true; the input reads as it did. -/
def schedNormalUptoRow : OpenClaim := { program := "ytdhccaninopicaa", sum := "f9fbe1ab4d4eb91862aee6fb3117fb7f5dd7fb4308c29869049ed3b0a2c61ccb", func := "homehub/homehublaw06.SchedNormal", spec := "schedNormal", unfollowed := true, recurses := true, apart := false, narrowed := true }
def SchedNormalUptoSaid : Prop := schedNormalUptoRow.holds Try.pinned (OpenSpec.upto schedNormalSpec)

/-- 'homehublaw06.SchedChanges', WHERE WHAT IT READS IS OF BULK AT MOST 1048576: true; the input reads as it did. -/
def schedChangesUptoRow : OpenClaim := { program := "ytdhccaninopicaa", sum := "f9fbe1ab4d4eb91862aee6fb3117fb7f5dd7fb4308c29869049ed3b0a2c61ccb", func := "homehub/homehublaw06.SchedChanges", spec := "schedChanges", unfollowed := true, recurses := true, apart := false, narrowed := true }
def SchedChangesUptoSaid : Prop := schedChangesUptoRow.holds Try.pinned (OpenSpec.upto schedChangesSpec)

/-- 'homehublaw06.SchedChecks', WHERE WHAT IT READS IS OF BULK AT MOST 1048576: true; the input reads as it did. -/
def schedChecksUptoRow : OpenClaim := { program := "ytdhccaninopicaa", sum := "f9fbe1ab4d4eb91862aee6fb3117fb7f5dd7fb4308c29869049ed3b0a2c61ccb", func := "homehub/homehublaw06.SchedChecks", spec := "schedChecks", unfollowed := true, recurses := true, apart := false, narrowed := true }
def SchedChecksUptoSaid : Prop := schedChecksUptoRow.holds Try.pinned (OpenSpec.upto schedChecksSpec)

end Rows
end Go.Proofs.Ytdhccaninopicaa
