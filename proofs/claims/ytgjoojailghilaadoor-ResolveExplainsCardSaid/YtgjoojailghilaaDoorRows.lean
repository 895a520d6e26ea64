/-
  NARROWER THAN 'FOR EVERY INPUT', by the rows' own cells (each row's printed sentence says how): ResolveBefore: laid · ResolveDecides: laid · ResolveMerges: laid · ResolveExplains: laid · ResolveTotal: laid · ResolveOrder: laid · ResolveLosers: laid.
  DERIVED. THE GIVEN ROWS OF THIS SEAT. 7 by the template 'for every input the law returns true; each argument reads behind the call as it read before'; 0 by the template 'total and deterministic' (their statements: YtgjoojailghilaaDoorTotals.lean).
  GIVEN WITH THE SEED: the statements are not yours to turn. If you find one false, say at which input.
  Laid BY PROGRAM, IN A SANDBOX (cutbox-rows.mjs): the forced cells as the released guide's own fill.sh prints them over the translation 66b2d5f2f4fcdbdb… (all of the seat's roots in one cut). By AI agents, Wed Nov 11 2026. No macro, syntax, notation, axiom, sorry.
-/
import Derived.Test.YtgjoojailghilaaDoorChecked
import GoSem.Claim
import GoSem.ClaimJoined
import GoSem.ClaimMapViews
import Derived.JoinedTies
import Derived.KernelRfl
namespace Go.Proofs.YtgjoojailghilaaDoor
/- THE CELL 'sum', in the pinned program and in every row, IS THE sha256 OF THE DUMP (.gsa) THAT YtgjoojailghilaaDoorProg.lean LOADS. Nothing in Lean hashes anything: it is a label: what it is worth is what the hold of that sum in a sandbox is worth. -/
noncomputable def Tryd.pinned : Pinned := { name := "ytgjoojailghilaadoor", sum := "66b2d5f2f4fcdbdb4a2b6c92bddd644c8a444560ba80d6a154cad8fc961197c0", checked := Tryd.checked }
namespace Rows
def none {H : Type} : Left H := { results := [], args := [] }

/- WHAT THE LISTED PACKAGE-LEVEL VARIABLES READ AS WHEN THE CALL BEGINS. Each datum BY PROGRAM (the guide's laid-datum.mjs) off the statement by which the dump's own 'gosem.cut.vars' lays the variable. In a bare row this is a premise. The card (YtgjoojailghilaaDoorCards.lean) ties it to the program's text. -/
def laid_math_bits_deBruijn32tab {H : Type} : DataW H := .agg [.lit (.int .u8 0), .lit (.int .u8 1), .lit (.int .u8 28), .lit (.int .u8 2), .lit (.int .u8 29), .lit (.int .u8 14), .lit (.int .u8 24), .lit (.int .u8 3), .lit (.int .u8 30), .lit (.int .u8 22), .lit (.int .u8 20), .lit (.int .u8 15), .lit (.int .u8 25), .lit (.int .u8 17), .lit (.int .u8 4), .lit (.int .u8 8), .lit (.int .u8 31), .lit (.int .u8 27), .lit (.int .u8 13), .lit (.int .u8 23), .lit (.int .u8 21), .lit (.int .u8 19), .lit (.int .u8 16), .lit (.int .u8 7), .lit (.int .u8 26), .lit (.int .u8 12), .lit (.int .u8 18), .lit (.int .u8 6), .lit (.int .u8 11), .lit (.int .u8 5), .lit (.int .u8 10), .lit (.int .u8 9)]
def laid_math_bits_deBruijn64tab {H : Type} : DataW H := .agg [.lit (.int .u8 0), .lit (.int .u8 1), .lit (.int .u8 56), .lit (.int .u8 2), .lit (.int .u8 57), .lit (.int .u8 49), .lit (.int .u8 28), .lit (.int .u8 3), .lit (.int .u8 61), .lit (.int .u8 58), .lit (.int .u8 42), .lit (.int .u8 50), .lit (.int .u8 38), .lit (.int .u8 29), .lit (.int .u8 17), .lit (.int .u8 4), .lit (.int .u8 62), .lit (.int .u8 47), .lit (.int .u8 59), .lit (.int .u8 36), .lit (.int .u8 45), .lit (.int .u8 43), .lit (.int .u8 51), .lit (.int .u8 22), .lit (.int .u8 53), .lit (.int .u8 39), .lit (.int .u8 33), .lit (.int .u8 30), .lit (.int .u8 24), .lit (.int .u8 18), .lit (.int .u8 12), .lit (.int .u8 5), .lit (.int .u8 63), .lit (.int .u8 55), .lit (.int .u8 48), .lit (.int .u8 27), .lit (.int .u8 60), .lit (.int .u8 41), .lit (.int .u8 37), .lit (.int .u8 16), .lit (.int .u8 46), .lit (.int .u8 35), .lit (.int .u8 44), .lit (.int .u8 21), .lit (.int .u8 52), .lit (.int .u8 32), .lit (.int .u8 23), .lit (.int .u8 11), .lit (.int .u8 54), .lit (.int .u8 26), .lit (.int .u8 40), .lit (.int .u8 15), .lit (.int .u8 34), .lit (.int .u8 20), .lit (.int .u8 31), .lit (.int .u8 10), .lit (.int .u8 25), .lit (.int .u8 14), .lit (.int .u8 19), .lit (.int .u8 9), .lit (.int .u8 13), .lit (.int .u8 8), .lit (.int .u8 7), .lit (.int .u8 6)]
def laid_internal_strconv_uint64pow10 {H : Type} : DataW H := .agg [.lit (.int .u64 1), .lit (.int .u64 10), .lit (.int .u64 100), .lit (.int .u64 1000), .lit (.int .u64 10000), .lit (.int .u64 100000), .lit (.int .u64 1000000), .lit (.int .u64 10000000), .lit (.int .u64 100000000), .lit (.int .u64 1000000000), .lit (.int .u64 10000000000), .lit (.int .u64 100000000000), .lit (.int .u64 1000000000000), .lit (.int .u64 10000000000000), .lit (.int .u64 100000000000000), .lit (.int .u64 1000000000000000), .lit (.int .u64 10000000000000000), .lit (.int .u64 100000000000000000), .lit (.int .u64 1000000000000000000), .lit (.int .u64 10000000000000000000)]

/-- 'homehublaw35.ResolveBefore': WHATEVER THE INPUT: true; the input reads as it did. -/
def resolveBeforeSpec : ChangeSpec := { name := "resolveBefore", fn := fun _ => fun
  | [d1, d2] => { results := [.lit (.bool true)], args := [d1, d2] }
  | _ => none }
def resolveBeforeRow : OpenClaim := { program := "ytgjoojailghilaadoor", sum := "66b2d5f2f4fcdbdb4a2b6c92bddd644c8a444560ba80d6a154cad8fc961197c0", func := "homehub/homehublaw35.ResolveBefore", spec := "resolveBefore", inPlace := ["internal/abi.NoEscape"], unfollowed := true, recurses := true, named := ["internal/strconv.uint64pow10", "math/bits.deBruijn32tab", "math/bits.deBruijn64tab"], apart := false, laid := [("math/bits.deBruijn32tab", laid_math_bits_deBruijn32tab), ("math/bits.deBruijn64tab", laid_math_bits_deBruijn64tab), ("internal/strconv.uint64pow10", laid_internal_strconv_uint64pow10)] }
def ResolveBeforeSaid : Prop := resolveBeforeRow.holds Tryd.pinned (OpenSpec.ofChange resolveBeforeSpec)

/-- ITS FALSE NEIGHBOUR: 'it returns false'. Refute it at one input. -/
def resolveBeforeWrong : ChangeSpec := { name := "resolveBefore", fn := fun _ => fun
  | [d1, d2] => { results := [.lit (.bool false)], args := [d1, d2] }
  | _ => none }
def ResolveBeforeWrongFalsely : Prop := resolveBeforeRow.holds Tryd.pinned (OpenSpec.ofChange resolveBeforeWrong)

/-- 'homehublaw35.ResolveDecides': WHATEVER THE INPUT: true; the input reads as it did. -/
def resolveDecidesSpec : ChangeSpec := { name := "resolveDecides", fn := fun _ => fun
  | [d] => { results := [.lit (.bool true)], args := [d] }
  | _ => none }
def resolveDecidesRow : OpenClaim := { program := "ytgjoojailghilaadoor", sum := "66b2d5f2f4fcdbdb4a2b6c92bddd644c8a444560ba80d6a154cad8fc961197c0", func := "homehub/homehublaw35.ResolveDecides", spec := "resolveDecides", inPlace := ["internal/abi.NoEscape"], unfollowed := true, recurses := true, named := ["internal/strconv.uint64pow10", "math/bits.deBruijn32tab", "math/bits.deBruijn64tab"], apart := false, laid := [("math/bits.deBruijn32tab", laid_math_bits_deBruijn32tab), ("math/bits.deBruijn64tab", laid_math_bits_deBruijn64tab), ("internal/strconv.uint64pow10", laid_internal_strconv_uint64pow10)] }
def ResolveDecidesSaid : Prop := resolveDecidesRow.holds Tryd.pinned (OpenSpec.ofChange resolveDecidesSpec)

/-- ITS FALSE NEIGHBOUR: 'it returns false'. Refute it at one input. -/
def resolveDecidesWrong : ChangeSpec := { name := "resolveDecides", fn := fun _ => fun
  | [d] => { results := [.lit (.bool false)], args := [d] }
  | _ => none }
def ResolveDecidesWrongFalsely : Prop := resolveDecidesRow.holds Tryd.pinned (OpenSpec.ofChange resolveDecidesWrong)

/-- 'homehublaw35.ResolveMerges': WHATEVER THE INPUT: true; the input reads as it did. -/
def resolveMergesSpec : ChangeSpec := { name := "resolveMerges", fn := fun _ => fun
  | [d1, d2] => { results := [.lit (.bool true)], args := [d1, d2] }
  | _ => none }
def resolveMergesRow : OpenClaim := { program := "ytgjoojailghilaadoor", sum := "66b2d5f2f4fcdbdb4a2b6c92bddd644c8a444560ba80d6a154cad8fc961197c0", func := "homehub/homehublaw35.ResolveMerges", spec := "resolveMerges", inPlace := ["internal/abi.NoEscape"], unfollowed := true, recurses := true, named := ["internal/strconv.uint64pow10", "math/bits.deBruijn32tab", "math/bits.deBruijn64tab"], apart := false, laid := [("math/bits.deBruijn32tab", laid_math_bits_deBruijn32tab), ("math/bits.deBruijn64tab", laid_math_bits_deBruijn64tab), ("internal/strconv.uint64pow10", laid_internal_strconv_uint64pow10)] }
def ResolveMergesSaid : Prop := resolveMergesRow.holds Tryd.pinned (OpenSpec.ofChange resolveMergesSpec)

/-- ITS FALSE NEIGHBOUR: 'it returns false'. Refute it at one input. -/
def resolveMergesWrong : ChangeSpec := { name := "resolveMerges", fn := fun _ => fun
  | [d1, d2] => { results := [.lit (.bool false)], args := [d1, d2] }
  | _ => none }
def ResolveMergesWrongFalsely : Prop := resolveMergesRow.holds Tryd.pinned (OpenSpec.ofChange resolveMergesWrong)

/-- 'homehublaw35.ResolveExplains': WHATEVER THE INPUT: true; the input reads as it did. -/
def resolveExplainsSpec : ChangeSpec := { name := "resolveExplains", fn := fun _ => fun
  | [d] => { results := [.lit (.bool true)], args := [d] }
  | _ => none }
def resolveExplainsRow : OpenClaim := { program := "ytgjoojailghilaadoor", sum := "66b2d5f2f4fcdbdb4a2b6c92bddd644c8a444560ba80d6a154cad8fc961197c0", func := "homehub/homehublaw35.ResolveExplains", spec := "resolveExplains", inPlace := ["internal/abi.NoEscape"], unfollowed := true, recurses := true, named := ["internal/strconv.uint64pow10", "math/bits.deBruijn32tab", "math/bits.deBruijn64tab"], apart := false, laid := [("math/bits.deBruijn32tab", laid_math_bits_deBruijn32tab), ("math/bits.deBruijn64tab", laid_math_bits_deBruijn64tab), ("internal/strconv.uint64pow10", laid_internal_strconv_uint64pow10)] }
def ResolveExplainsSaid : Prop := resolveExplainsRow.holds Tryd.pinned (OpenSpec.ofChange resolveExplainsSpec)

/-- ITS FALSE NEIGHBOUR: 'it returns false'. Refute it at one input. -/
def resolveExplainsWrong : ChangeSpec := { name := "resolveExplains", fn := fun _ => fun
  | [d] => { results := [.lit (.bool false)], args := [d] }
  | _ => none }
def ResolveExplainsWrongFalsely : Prop := resolveExplainsRow.holds Tryd.pinned (OpenSpec.ofChange resolveExplainsWrong)

/-- 'homehublaw35.ResolveTotal': WHATEVER THE INPUT: true; the input reads as it did. -/
def resolveTotalSpec : ChangeSpec := { name := "resolveTotal", fn := fun _ => fun
  | [d1, d2, d3] => { results := [.lit (.bool true)], args := [d1, d2, d3] }
  | _ => none }
def resolveTotalRow : OpenClaim := { program := "ytgjoojailghilaadoor", sum := "66b2d5f2f4fcdbdb4a2b6c92bddd644c8a444560ba80d6a154cad8fc961197c0", func := "homehub/homehublaw35.ResolveTotal", spec := "resolveTotal", inPlace := ["internal/abi.NoEscape"], unfollowed := true, recurses := true, named := ["internal/strconv.uint64pow10", "math/bits.deBruijn32tab", "math/bits.deBruijn64tab"], apart := false, laid := [("math/bits.deBruijn32tab", laid_math_bits_deBruijn32tab), ("math/bits.deBruijn64tab", laid_math_bits_deBruijn64tab), ("internal/strconv.uint64pow10", laid_internal_strconv_uint64pow10)] }
def ResolveTotalSaid : Prop := resolveTotalRow.holds Tryd.pinned (OpenSpec.ofChange resolveTotalSpec)

/-- ITS FALSE NEIGHBOUR: 'it returns false'. Refute it at one input. -/
def resolveTotalWrong : ChangeSpec := { name := "resolveTotal", fn := fun _ => fun
  | [d1, d2, d3] => { results := [.lit (.bool false)], args := [d1, d2, d3] }
  | _ => none }
def ResolveTotalWrongFalsely : Prop := resolveTotalRow.holds Tryd.pinned (OpenSpec.ofChange resolveTotalWrong)

/-- 'homehublaw35.ResolveOrder': WHATEVER THE INPUT: true; the input reads as it did. -/
def resolveOrderSpec : ChangeSpec := { name := "resolveOrder", fn := fun _ => fun
  | [d1, d2, d3] => { results := [.lit (.bool true)], args := [d1, d2, d3] }
  | _ => none }
def resolveOrderRow : OpenClaim := { program := "ytgjoojailghilaadoor", sum := "66b2d5f2f4fcdbdb4a2b6c92bddd644c8a444560ba80d6a154cad8fc961197c0", func := "homehub/homehublaw35.ResolveOrder", spec := "resolveOrder", inPlace := ["internal/abi.NoEscape"], unfollowed := true, recurses := true, named := ["internal/strconv.uint64pow10", "math/bits.deBruijn32tab", "math/bits.deBruijn64tab"], apart := false, laid := [("math/bits.deBruijn32tab", laid_math_bits_deBruijn32tab), ("math/bits.deBruijn64tab", laid_math_bits_deBruijn64tab), ("internal/strconv.uint64pow10", laid_internal_strconv_uint64pow10)] }
def ResolveOrderSaid : Prop := resolveOrderRow.holds Tryd.pinned (OpenSpec.ofChange resolveOrderSpec)

/-- ITS FALSE NEIGHBOUR: 'it returns false'. Refute it at one input. -/
def resolveOrderWrong : ChangeSpec := { name := "resolveOrder", fn := fun _ => fun
  | [d1, d2, d3] => { results := [.lit (.bool false)], args := [d1, d2, d3] }
  | _ => none }
def ResolveOrderWrongFalsely : Prop := resolveOrderRow.holds Tryd.pinned (OpenSpec.ofChange resolveOrderWrong)

/-- 'homehublaw35.ResolveLosers': WHATEVER THE INPUT: true; the input reads as it did. -/
def resolveLosersSpec : ChangeSpec := { name := "resolveLosers", fn := fun _ => fun
  | [d1, d2] => { results := [.lit (.bool true)], args := [d1, d2] }
  | _ => none }
def resolveLosersRow : OpenClaim := { program := "ytgjoojailghilaadoor", sum := "66b2d5f2f4fcdbdb4a2b6c92bddd644c8a444560ba80d6a154cad8fc961197c0", func := "homehub/homehublaw35.ResolveLosers", spec := "resolveLosers", inPlace := ["internal/abi.NoEscape"], unfollowed := true, recurses := true, named := ["internal/strconv.uint64pow10", "math/bits.deBruijn32tab", "math/bits.deBruijn64tab"], apart := false, laid := [("math/bits.deBruijn32tab", laid_math_bits_deBruijn32tab), ("math/bits.deBruijn64tab", laid_math_bits_deBruijn64tab), ("internal/strconv.uint64pow10", laid_internal_strconv_uint64pow10)] }
def ResolveLosersSaid : Prop := resolveLosersRow.holds Tryd.pinned (OpenSpec.ofChange resolveLosersSpec)

/-- ITS FALSE NEIGHBOUR: 'it returns false'. Refute it at one input. -/
def resolveLosersWrong : ChangeSpec := { name := "resolveLosers", fn := fun _ => fun
  | [d1, d2] => { results := [.lit (.bool false)], args := [d1, d2] }
  | _ => none }
def ResolveLosersWrongFalsely : Prop := resolveLosersRow.holds Tryd.pinned (OpenSpec.ofChange resolveLosersWrong)

/- THE SECOND FORM. 'bulk': how many values and letters a reading holds, each counted each time it is reached (what is shared counts as often as it is met; a slice's spare places count too). A statement '..UptoSaid' is the law's where the arguments, and the package variables that the reading takes, are together of bulk at most 1048576: NARROWER than '..Said'. Prove '..Said' where nothing that the law and all that it calls make is longer than what came in: it says more and counts as full. Else prove '..UptoSaid'. A law counts once. -/
mutual
def uptoBulk {H : Type} : DataW H → Nat
  | .lit (.string bytes) => bytes.length + 1
  | .lit _ => 1
  | .nil => 1
  | .ptr d => uptoBulk d + 1
  | .slice elems spare => uptoBulkAll elems + uptoBulkAll spare + 1
  | .agg parts => uptoBulkAll parts + 1
  | .iface _ d => uptoBulk d + 1
  | .map entries => uptoBulkEntries entries + 1
  | .held _ => 1
def uptoBulkAll {H : Type} : List (DataW H) → Nat
  | [] => 0
  | d :: r => uptoBulk d + uptoBulkAll r
def uptoBulkEntries {H : Type} : List (Lit × DataW H) → Nat
  | [] => 0
  | x :: r => uptoBulkEntry x + uptoBulkEntries r
def uptoBulkEntry {H : Type} : Lit × DataW H → Nat
  | (.string bytes, d) => bytes.length + uptoBulk d + 1
  | (_, d) => uptoBulk d + 1
 end
def uptoSmall : (H : Type) → List (DataW H) → Bool := fun _ ds => decide (uptoBulkAll ds ≤ 1048576)
def OpenSpec.upto (s : _root_.Go.ChangeSpec) : _root_.Go.OpenSpec := { _root_.Go.OpenSpec.ofChange s with cond := some uptoSmall }

/-- 'homehublaw35.ResolveBefore', WHERE WHAT IT READS IS OF BULK AT MOST 1048576: true; the input reads as it did. -/
def resolveBeforeUptoRow : OpenClaim := { program := "ytgjoojailghilaadoor", sum := "66b2d5f2f4fcdbdb4a2b6c92bddd644c8a444560ba80d6a154cad8fc961197c0", func := "homehub/homehublaw35.ResolveBefore", spec := "resolveBefore", inPlace := ["internal/abi.NoEscape"], unfollowed := true, recurses := true, named := ["internal/strconv.uint64pow10", "math/bits.deBruijn32tab", "math/bits.deBruijn64tab"], apart := false, laid := [("math/bits.deBruijn32tab", laid_math_bits_deBruijn32tab), ("math/bits.deBruijn64tab", laid_math_bits_deBruijn64tab), ("internal/strconv.uint64pow10", laid_internal_strconv_uint64pow10)], narrowed := true }
def ResolveBeforeUptoSaid : Prop := resolveBeforeUptoRow.holds Tryd.pinned (OpenSpec.upto resolveBeforeSpec)

/-- 'homehublaw35.ResolveDecides', WHERE WHAT IT READS IS OF BULK AT MOST 1048576: true; the input reads as it did. -/
def resolveDecidesUptoRow : OpenClaim := { program := "ytgjoojailghilaadoor", sum := "66b2d5f2f4fcdbdb4a2b6c92bddd644c8a444560ba80d6a154cad8fc961197c0", func := "homehub/homehublaw35.ResolveDecides", spec := "resolveDecides", inPlace := ["internal/abi.NoEscape"], unfollowed := true, recurses := true, named := ["internal/strconv.uint64pow10", "math/bits.deBruijn32tab", "math/bits.deBruijn64tab"], apart := false, laid := [("math/bits.deBruijn32tab", laid_math_bits_deBruijn32tab), ("math/bits.deBruijn64tab", laid_math_bits_deBruijn64tab), ("internal/strconv.uint64pow10", laid_internal_strconv_uint64pow10)], narrowed := true }
def ResolveDecidesUptoSaid : Prop := resolveDecidesUptoRow.holds Tryd.pinned (OpenSpec.upto resolveDecidesSpec)

/-- 'homehublaw35.ResolveMerges', WHERE WHAT IT READS IS OF BULK AT MOST 1048576: true; the input reads as it did. -/
def resolveMergesUptoRow : OpenClaim := { program := "ytgjoojailghilaadoor", sum := "66b2d5f2f4fcdbdb4a2b6c92bddd644c8a444560ba80d6a154cad8fc961197c0", func := "homehub/homehublaw35.ResolveMerges", spec := "resolveMerges", inPlace := ["internal/abi.NoEscape"], unfollowed := true, recurses := true, named := ["internal/strconv.uint64pow10", "math/bits.deBruijn32tab", "math/bits.deBruijn64tab"], apart := false, laid := [("math/bits.deBruijn32tab", laid_math_bits_deBruijn32tab), ("math/bits.deBruijn64tab", laid_math_bits_deBruijn64tab), ("internal/strconv.uint64pow10", laid_internal_strconv_uint64pow10)], narrowed := true }
def ResolveMergesUptoSaid : Prop := resolveMergesUptoRow.holds Tryd.pinned (OpenSpec.upto resolveMergesSpec)

/-- 'homehublaw35.ResolveExplains', WHERE WHAT IT READS IS OF BULK AT MOST 1048576: true; the input reads as it did. -/
def resolveExplainsUptoRow : OpenClaim := { program := "ytgjoojailghilaadoor", sum := "66b2d5f2f4fcdbdb4a2b6c92bddd644c8a444560ba80d6a154cad8fc961197c0", func := "homehub/homehublaw35.ResolveExplains", spec := "resolveExplains", inPlace := ["internal/abi.NoEscape"], unfollowed := true, recurses := true, named := ["internal/strconv.uint64pow10", "math/bits.deBruijn32tab", "math/bits.deBruijn64tab"], apart := false, laid := [("math/bits.deBruijn32tab", laid_math_bits_deBruijn32tab), ("math/bits.deBruijn64tab", laid_math_bits_deBruijn64tab), ("internal/strconv.uint64pow10", laid_internal_strconv_uint64pow10)], narrowed := true }
def ResolveExplainsUptoSaid : Prop := resolveExplainsUptoRow.holds Tryd.pinned (OpenSpec.upto resolveExplainsSpec)

/-- 'homehublaw35.ResolveTotal', WHERE WHAT IT READS IS OF BULK AT MOST 1048576: true; the input reads as it did. -/
def resolveTotalUptoRow : OpenClaim := { program := "ytgjoojailghilaadoor", sum := "66b2d5f2f4fcdbdb4a2b6c92bddd644c8a444560ba80d6a154cad8fc961197c0", func := "homehub/homehublaw35.ResolveTotal", spec := "resolveTotal", inPlace := ["internal/abi.NoEscape"], unfollowed := true, recurses := true, named := ["internal/strconv.uint64pow10", "math/bits.deBruijn32tab", "math/bits.deBruijn64tab"], apart := false, laid := [("math/bits.deBruijn32tab", laid_math_bits_deBruijn32tab), ("math/bits.deBruijn64tab", laid_math_bits_deBruijn64tab), ("internal/strconv.uint64pow10", laid_internal_strconv_uint64pow10)], narrowed := true }
def ResolveTotalUptoSaid : Prop := resolveTotalUptoRow.holds Tryd.pinned (OpenSpec.upto resolveTotalSpec)

/-- 'homehublaw35.ResolveOrder', WHERE WHAT IT READS IS OF BULK AT MOST 1048576: true; the input reads as it did. -/
def resolveOrderUptoRow : OpenClaim := { program := "ytgjoojailghilaadoor", sum := "66b2d5f2f4fcdbdb4a2b6c92bddd644c8a444560ba80d6a154cad8fc961197c0", func := "homehub/homehublaw35.ResolveOrder", spec := "resolveOrder", inPlace := ["internal/abi.NoEscape"], unfollowed := true, recurses := true, named := ["internal/strconv.uint64pow10", "math/bits.deBruijn32tab", "math/bits.deBruijn64tab"], apart := false, laid := [("math/bits.deBruijn32tab", laid_math_bits_deBruijn32tab), ("math/bits.deBruijn64tab", laid_math_bits_deBruijn64tab), ("internal/strconv.uint64pow10", laid_internal_strconv_uint64pow10)], narrowed := true }
def ResolveOrderUptoSaid : Prop := resolveOrderUptoRow.holds Tryd.pinned (OpenSpec.upto resolveOrderSpec)

/-- 'homehublaw35.ResolveLosers', WHERE WHAT IT READS IS OF BULK AT MOST 1048576: true; the input reads as it did. -/
def resolveLosersUptoRow : OpenClaim := { program := "ytgjoojailghilaadoor", sum := "66b2d5f2f4fcdbdb4a2b6c92bddd644c8a444560ba80d6a154cad8fc961197c0", func := "homehub/homehublaw35.ResolveLosers", spec := "resolveLosers", inPlace := ["internal/abi.NoEscape"], unfollowed := true, recurses := true, named := ["internal/strconv.uint64pow10", "math/bits.deBruijn32tab", "math/bits.deBruijn64tab"], apart := false, laid := [("math/bits.deBruijn32tab", laid_math_bits_deBruijn32tab), ("math/bits.deBruijn64tab", laid_math_bits_deBruijn64tab), ("internal/strconv.uint64pow10", laid_internal_strconv_uint64pow10)], narrowed := true }
def ResolveLosersUptoSaid : Prop := resolveLosersUptoRow.holds Tryd.pinned (OpenSpec.upto resolveLosersSpec)

end Rows
end Go.Proofs.YtgjoojailghilaaDoor
