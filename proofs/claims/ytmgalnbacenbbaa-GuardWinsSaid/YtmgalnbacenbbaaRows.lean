/-
  NARROWER THAN 'FOR EVERY INPUT', by the rows' own cells (each row's printed sentence says how): GuardForces: loops · GuardBlocks: loops · GuardOrder: loops · GuardStronger: loops · GuardSafe: loops · GuardWins: loops.
  DERIVED. THE GIVEN ROWS OF THIS SEAT. 6 by the template 'for every input the law returns true; each argument reads behind the call as it read before'; 0 by the template 'total and deterministic' (their statements: YtmgalnbacenbbaaTotals.lean).
  GIVEN WITH THE SEED: the statements are not yours to turn. If you find one false, say at which input.
  Laid BY PROGRAM, IN A SANDBOX (cutbox-rows.mjs): the forced cells as the released guide's own fill.sh prints them over the translation 2cdaa6e7c774d44f… (all of the seat's roots in one cut). By AI agents, Wed Nov 11 2026. No macro, syntax, notation, axiom, sorry.
-/
import Derived.Test.YtmgalnbacenbbaaChecked
import GoSem.Claim
import GoSem.ClaimJoined
import GoSem.ClaimMapViews
import Derived.JoinedTies
import Derived.KernelRfl
namespace Go.Proofs.Ytmgalnbacenbbaa
/- THE CELL 'sum', in the pinned program and in every row, IS THE sha256 OF THE DUMP (.gsa) THAT YtmgalnbacenbbaaProg.lean LOADS. Nothing in Lean hashes anything: it is a label: what it is worth is what the hold of that sum in a sandbox is worth. -/
noncomputable def Try.pinned : Pinned := { name := "ytmgalnbacenbbaa", sum := "2cdaa6e7c774d44fa177624e8090fac56ed66a47fb3fc9988498a1693c2d5a36", checked := Try.checked }
namespace Rows
def none {H : Type} : Left H := { results := [], args := [] }

/-- 'homehublaw46.GuardForces': WHATEVER THE INPUT: true; the input reads as it did. -/
def guardForcesSpec : ChangeSpec := { name := "guardForces", fn := fun _ => fun
  | [d1, d2] => { results := [.lit (.bool true)], args := [d1, d2] }
  | _ => none }
def guardForcesRow : OpenClaim := { program := "ytmgalnbacenbbaa", sum := "2cdaa6e7c774d44fa177624e8090fac56ed66a47fb3fc9988498a1693c2d5a36", func := "homehub/homehublaw46.GuardForces", spec := "guardForces", inPlace := ["internal/bytealg.abigen_runtime_cmpstring"], unfollowed := true, recurses := true, loops := true, apart := false }
def GuardForcesSaid : Prop := guardForcesRow.holds Try.pinned (OpenSpec.ofChange guardForcesSpec)

/-- ITS FALSE NEIGHBOUR: 'it returns false'. Refute it at one input. -/
def guardForcesWrong : ChangeSpec := { name := "guardForces", fn := fun _ => fun
  | [d1, d2] => { results := [.lit (.bool false)], args := [d1, d2] }
  | _ => none }
def GuardForcesWrongFalsely : Prop := guardForcesRow.holds Try.pinned (OpenSpec.ofChange guardForcesWrong)

/-- 'homehublaw46.GuardBlocks': WHATEVER THE INPUT: true; the input reads as it did. -/
def guardBlocksSpec : ChangeSpec := { name := "guardBlocks", fn := fun _ => fun
  | [d] => { results := [.lit (.bool true)], args := [d] }
  | _ => none }
def guardBlocksRow : OpenClaim := { program := "ytmgalnbacenbbaa", sum := "2cdaa6e7c774d44fa177624e8090fac56ed66a47fb3fc9988498a1693c2d5a36", func := "homehub/homehublaw46.GuardBlocks", spec := "guardBlocks", inPlace := ["internal/bytealg.abigen_runtime_cmpstring"], unfollowed := true, recurses := true, loops := true, apart := false }
def GuardBlocksSaid : Prop := guardBlocksRow.holds Try.pinned (OpenSpec.ofChange guardBlocksSpec)

/-- ITS FALSE NEIGHBOUR: 'it returns false'. Refute it at one input. -/
def guardBlocksWrong : ChangeSpec := { name := "guardBlocks", fn := fun _ => fun
  | [d] => { results := [.lit (.bool false)], args := [d] }
  | _ => none }
def GuardBlocksWrongFalsely : Prop := guardBlocksRow.holds Try.pinned (OpenSpec.ofChange guardBlocksWrong)

/-- 'homehublaw46.GuardOrder': WHATEVER THE INPUT: true; the input reads as it did. -/
def guardOrderSpec : ChangeSpec := { name := "guardOrder", fn := fun _ => fun
  | [d] => { results := [.lit (.bool true)], args := [d] }
  | _ => none }
def guardOrderRow : OpenClaim := { program := "ytmgalnbacenbbaa", sum := "2cdaa6e7c774d44fa177624e8090fac56ed66a47fb3fc9988498a1693c2d5a36", func := "homehub/homehublaw46.GuardOrder", spec := "guardOrder", inPlace := ["internal/bytealg.abigen_runtime_cmpstring"], unfollowed := true, recurses := true, loops := true, apart := false }
def GuardOrderSaid : Prop := guardOrderRow.holds Try.pinned (OpenSpec.ofChange guardOrderSpec)

/-- ITS FALSE NEIGHBOUR: 'it returns false'. Refute it at one input. -/
def guardOrderWrong : ChangeSpec := { name := "guardOrder", fn := fun _ => fun
  | [d] => { results := [.lit (.bool false)], args := [d] }
  | _ => none }
def GuardOrderWrongFalsely : Prop := guardOrderRow.holds Try.pinned (OpenSpec.ofChange guardOrderWrong)

/-- 'homehublaw46.GuardStronger': WHATEVER THE INPUT: true; the input reads as it did. -/
def guardStrongerSpec : ChangeSpec := { name := "guardStronger", fn := fun _ => fun
  | [d] => { results := [.lit (.bool true)], args := [d] }
  | _ => none }
def guardStrongerRow : OpenClaim := { program := "ytmgalnbacenbbaa", sum := "2cdaa6e7c774d44fa177624e8090fac56ed66a47fb3fc9988498a1693c2d5a36", func := "homehub/homehublaw46.GuardStronger", spec := "guardStronger", inPlace := ["internal/bytealg.abigen_runtime_cmpstring"], unfollowed := true, recurses := true, loops := true, apart := false }
def GuardStrongerSaid : Prop := guardStrongerRow.holds Try.pinned (OpenSpec.ofChange guardStrongerSpec)

/-- ITS FALSE NEIGHBOUR: 'it returns false'. Refute it at one input. -/
def guardStrongerWrong : ChangeSpec := { name := "guardStronger", fn := fun _ => fun
  | [d] => { results := [.lit (.bool false)], args := [d] }
  | _ => none }
def GuardStrongerWrongFalsely : Prop := guardStrongerRow.holds Try.pinned (OpenSpec.ofChange guardStrongerWrong)

/-- 'homehublaw46.GuardSafe': WHATEVER THE INPUT: true; the input reads as it did. -/
def guardSafeSpec : ChangeSpec := { name := "guardSafe", fn := fun _ => fun
  | [d1, d2, d3] => { results := [.lit (.bool true)], args := [d1, d2, d3] }
  | _ => none }
def guardSafeRow : OpenClaim := { program := "ytmgalnbacenbbaa", sum := "2cdaa6e7c774d44fa177624e8090fac56ed66a47fb3fc9988498a1693c2d5a36", func := "homehub/homehublaw46.GuardSafe", spec := "guardSafe", inPlace := ["internal/bytealg.abigen_runtime_cmpstring"], unfollowed := true, recurses := true, loops := true, apart := false }
def GuardSafeSaid : Prop := guardSafeRow.holds Try.pinned (OpenSpec.ofChange guardSafeSpec)

/-- ITS FALSE NEIGHBOUR: 'it returns false'. Refute it at one input. -/
def guardSafeWrong : ChangeSpec := { name := "guardSafe", fn := fun _ => fun
  | [d1, d2, d3] => { results := [.lit (.bool false)], args := [d1, d2, d3] }
  | _ => none }
def GuardSafeWrongFalsely : Prop := guardSafeRow.holds Try.pinned (OpenSpec.ofChange guardSafeWrong)

/-- 'homehublaw46.GuardWins': WHATEVER THE INPUT: true; the input reads as it did. -/
def guardWinsSpec : ChangeSpec := { name := "guardWins", fn := fun _ => fun
  | [d1, d2, d3] => { results := [.lit (.bool true)], args := [d1, d2, d3] }
  | _ => none }
def guardWinsRow : OpenClaim := { program := "ytmgalnbacenbbaa", sum := "2cdaa6e7c774d44fa177624e8090fac56ed66a47fb3fc9988498a1693c2d5a36", func := "homehub/homehublaw46.GuardWins", spec := "guardWins", inPlace := ["internal/bytealg.abigen_runtime_cmpstring"], unfollowed := true, recurses := true, loops := true, apart := false }
def GuardWinsSaid : Prop := guardWinsRow.holds Try.pinned (OpenSpec.ofChange guardWinsSpec)

/-- ITS FALSE NEIGHBOUR: 'it returns false'. Refute it at one input. -/
def guardWinsWrong : ChangeSpec := { name := "guardWins", fn := fun _ => fun
  | [d1, d2, d3] => { results := [.lit (.bool false)], args := [d1, d2, d3] }
  | _ => none }
def GuardWinsWrongFalsely : Prop := guardWinsRow.holds Try.pinned (OpenSpec.ofChange guardWinsWrong)

/- THE SECOND FORM. 'bulk': how many values and letters a reading holds, each counted each time it is reached (what is shared counts as often as it is met; a slice's spare places count too). A statement '..UptoSaid' is the law's where the arguments, and the package variables that the reading takes, are together of bulk at most 1048576: NARROWER than '..Said'. Prove '..Said' where nothing that the law and all that it calls make is longer than what came in: it says more and counts as full. Else prove '..UptoSaid'. A law counts once. -/
mutual
def uptoBulk {H : Type} : DataW H → Nat
  | .lit (.string bytes) => bytes.length + 1
  | .lit _ => 1
  | .nil => 1
  | .ptr d => uptoBulk d + 1
  | .slice elems spare => uptoBulkAll elems + uptoBulkAll spare + 1
  | .agg parts => uptoBulkAll parts + 1
  | .iface _ d => uptoBulk d + 1
  | .map entries => uptoBulkEntries entries + 1
  | .held _ => 1
def uptoBulkAll {H : Type} : List (DataW H) → Nat
  | [] => 0
  | d :: r => uptoBulk d + uptoBulkAll r
def uptoBulkEntries {H : Type} : List (Lit × DataW H) → Nat
  | [] => 0
  | x :: r => uptoBulkEntry x + uptoBulkEntries r
def uptoBulkEntry {H : Type} : Lit × DataW H → Nat
  | (.string bytes, d) => bytes.length + uptoBulk d + 1
  | (_, d) => uptoBulk d + 1
 end
def uptoSmall : (H : Type) → List (DataW H) → Bool := fun _ ds => decide (uptoBulkAll ds ≤ 1048576)
def OpenSpec.upto (s : _root_.Go.ChangeSpec) : _root_.Go.OpenSpec := { _root_.Go.OpenSpec.ofChange s with cond := some uptoSmall }

/-- 'homehublaw46.GuardForces', WHERE WHAT IT READS IS OF BULK AT MOST 1048576: true; the input reads as it did. -/
def guardForcesUptoRow : OpenClaim := { program := "ytmgalnbacenbbaa", sum := "2cdaa6e7c774d44fa177624e8090fac56ed66a47fb3fc9988498a1693c2d5a36", func := "homehub/homehublaw46.GuardForces", spec := "guardForces", inPlace := ["internal/bytealg.abigen_runtime_cmpstring"], unfollowed := true, recurses := true, loops := true, apart := false, narrowed := true }
def GuardForcesUptoSaid : Prop := guardForcesUptoRow.holds Try.pinned (OpenSpec.upto guardForcesSpec)

/-- 'homehublaw46.GuardBlocks', WHERE WHAT IT READS IS OF BULK AT MOST 1048576: true; the input reads as it did. -/
def guardBlocksUptoRow : OpenClaim := { program := "ytmgalnbacenbbaa", sum := "2cdaa6e7c774d44fa177624e8090fac56ed66a47fb3fc9988498a1693c2d5a36", func := "homehub/homehublaw46.GuardBlocks", spec := "guardBlocks", inPlace := ["internal/bytealg.abigen_runtime_cmpstring"], unfollowed := true, recurses := true, loops := true, apart := false, narrowed := true }
def GuardBlocksUptoSaid : Prop := guardBlocksUptoRow.holds Try.pinned (OpenSpec.upto guardBlocksSpec)

/-- 'homehublaw46.GuardOrder', WHERE WHAT IT READS IS OF BULK AT MOST 1048576: true; the input reads as it did. -/
def guardOrderUptoRow : OpenClaim := { program := "ytmgalnbacenbbaa", sum := "2cdaa6e7c774d44fa177624e8090fac56ed66a47fb3fc9988498a1693c2d5a36", func := "homehub/homehublaw46.GuardOrder", spec := "guardOrder", inPlace := ["internal/bytealg.abigen_runtime_cmpstring"], unfollowed := true, recurses := true, loops := true, apart := false, narrowed := true }
def GuardOrderUptoSaid : Prop := guardOrderUptoRow.holds Try.pinned (OpenSpec.upto guardOrderSpec)

/-- 'homehublaw46.GuardStronger', WHERE WHAT IT READS IS OF BULK AT MOST 1048576: true; the input reads as it did. -/
def guardStrongerUptoRow : OpenClaim := { program := "ytmgalnbacenbbaa", sum := "2cdaa6e7c774d44fa177624e8090fac56ed66a47fb3fc9988498a1693c2d5a36", func := "homehub/homehublaw46.GuardStronger", spec := "guardStronger", inPlace := ["internal/bytealg.abigen_runtime_cmpstring"], unfollowed := true, recurses := true, loops := true, apart := false, narrowed := true }
def GuardStrongerUptoSaid : Prop := guardStrongerUptoRow.holds Try.pinned (OpenSpec.upto guardStrongerSpec)

/-- 'homehublaw46.GuardSafe', WHERE WHAT IT READS IS OF BULK AT MOST 1048576: true; the input reads as it did. -/
def guardSafeUptoRow : OpenClaim := { program := "ytmgalnbacenbbaa", sum := "2cdaa6e7c774d44fa177624e8090fac56ed66a47fb3fc9988498a1693c2d5a36", func := "homehub/homehublaw46.GuardSafe", spec := "guardSafe", inPlace := ["internal/bytealg.abigen_runtime_cmpstring"], unfollowed := true, recurses := true, loops := true, apart := false, narrowed := true }
def GuardSafeUptoSaid : Prop := guardSafeUptoRow.holds Try.pinned (OpenSpec.upto guardSafeSpec)

/-- 'homehublaw46.GuardWins', WHERE WHAT IT READS IS OF BULK AT MOST 1048576: true; the input reads as it did. -/
def guardWinsUptoRow : OpenClaim := { program := "ytmgalnbacenbbaa", sum := "2cdaa6e7c774d44fa177624e8090fac56ed66a47fb3fc9988498a1693c2d5a36", func := "homehub/homehublaw46.GuardWins", spec := "guardWins", inPlace := ["internal/bytealg.abigen_runtime_cmpstring"], unfollowed := true, recurses := true, loops := true, apart := false, narrowed := true }
def GuardWinsUptoSaid : Prop := guardWinsUptoRow.holds Try.pinned (OpenSpec.upto guardWinsSpec)

end Rows
end Go.Proofs.Ytmgalnbacenbbaa
