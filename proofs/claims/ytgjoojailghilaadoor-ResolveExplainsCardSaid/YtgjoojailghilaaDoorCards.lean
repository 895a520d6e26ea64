/-
  DERIVED. GIVEN WITH THE SEED: THE CARDS: each row of YtgjoojailghilaaDoorRows.lean that lists a variable, with what it lists TIED to the program's text (the seventh form; the later family's looks); each row that meets fmt, with fmt's text TOLD by the authors' own Lean function (tested against real Go, not proved from fmt's source: count such statements apart). THE CARD IS WHAT COUNTS. Prove the row's statement (the work); the ties are given (YtgjoojailghilaaDoorTie.lean); close each card by the builder's one call (the guide's Derived/Test/ToyasCard.lean, 'card_holds'). Laid BY PROGRAM, IN A SANDBOX (cutbox-door.mjs). By AI agents, Wed Nov 11 2026. No macro, syntax, notation, axiom, sorry.
-/
import Derived.Test.YtgjoojailghilaaDoorRows
import GoSem.ClaimSeven
namespace Go.Proofs.YtgjoojailghilaaDoor
namespace Rows

/-- THE TIED CARD OF 'homehublaw35.ResolveBefore'. -/
def resolveBeforeCard : Claim7 := { stood := { row := resolveBeforeRow, standIns := [], harness := (true, "d2862ad9a5d420cc62d25430ce51c5c76956845635899488eff3987705f46a37"), looks := false }, kinds := [], alts := [], laidByText := true, laidKinds := [.data, .data, .data], laidTests := true, laidLooks := .later }
def ResolveBeforeCardSaid : Prop := Claim7.holds Tryd.pinned (.plain (OpenSpec.ofChange resolveBeforeSpec)) resolveBeforeCard

/-- THE TIED CARD OF 'homehublaw35.ResolveDecides'. -/
def resolveDecidesCard : Claim7 := { stood := { row := resolveDecidesRow, standIns := [], harness := (true, "d2862ad9a5d420cc62d25430ce51c5c76956845635899488eff3987705f46a37"), looks := false }, kinds := [], alts := [], laidByText := true, laidKinds := [.data, .data, .data], laidTests := true, laidLooks := .later }
def ResolveDecidesCardSaid : Prop := Claim7.holds Tryd.pinned (.plain (OpenSpec.ofChange resolveDecidesSpec)) resolveDecidesCard

/-- THE TIED CARD OF 'homehublaw35.ResolveMerges'. -/
def resolveMergesCard : Claim7 := { stood := { row := resolveMergesRow, standIns := [], harness := (true, "d2862ad9a5d420cc62d25430ce51c5c76956845635899488eff3987705f46a37"), looks := false }, kinds := [], alts := [], laidByText := true, laidKinds := [.data, .data, .data], laidTests := true, laidLooks := .later }
def ResolveMergesCardSaid : Prop := Claim7.holds Tryd.pinned (.plain (OpenSpec.ofChange resolveMergesSpec)) resolveMergesCard

/-- THE TIED CARD OF 'homehublaw35.ResolveExplains'. -/
def resolveExplainsCard : Claim7 := { stood := { row := resolveExplainsRow, standIns := [], harness := (true, "d2862ad9a5d420cc62d25430ce51c5c76956845635899488eff3987705f46a37"), looks := false }, kinds := [], alts := [], laidByText := true, laidKinds := [.data, .data, .data], laidTests := true, laidLooks := .later }
def ResolveExplainsCardSaid : Prop := Claim7.holds Tryd.pinned (.plain (OpenSpec.ofChange resolveExplainsSpec)) resolveExplainsCard

/-- THE TIED CARD OF 'homehublaw35.ResolveTotal'. -/
def resolveTotalCard : Claim7 := { stood := { row := resolveTotalRow, standIns := [], harness := (true, "d2862ad9a5d420cc62d25430ce51c5c76956845635899488eff3987705f46a37"), looks := false }, kinds := [], alts := [], laidByText := true, laidKinds := [.data, .data, .data], laidTests := true, laidLooks := .later }
def ResolveTotalCardSaid : Prop := Claim7.holds Tryd.pinned (.plain (OpenSpec.ofChange resolveTotalSpec)) resolveTotalCard

/-- THE TIED CARD OF 'homehublaw35.ResolveOrder'. -/
def resolveOrderCard : Claim7 := { stood := { row := resolveOrderRow, standIns := [], harness := (true, "d2862ad9a5d420cc62d25430ce51c5c76956845635899488eff3987705f46a37"), looks := false }, kinds := [], alts := [], laidByText := true, laidKinds := [.data, .data, .data], laidTests := true, laidLooks := .later }
def ResolveOrderCardSaid : Prop := Claim7.holds Tryd.pinned (.plain (OpenSpec.ofChange resolveOrderSpec)) resolveOrderCard

/-- THE TIED CARD OF 'homehublaw35.ResolveLosers'. -/
def resolveLosersCard : Claim7 := { stood := { row := resolveLosersRow, standIns := [], harness := (true, "d2862ad9a5d420cc62d25430ce51c5c76956845635899488eff3987705f46a37"), looks := false }, kinds := [], alts := [], laidByText := true, laidKinds := [.data, .data, .data], laidTests := true, laidLooks := .later }
def ResolveLosersCardSaid : Prop := Claim7.holds Tryd.pinned (.plain (OpenSpec.ofChange resolveLosersSpec)) resolveLosersCard

/-- THE SECOND FORM's CARD OF 'homehublaw35.ResolveBefore'. -/
def resolveBeforeUptoCard : Claim7 := { stood := { row := resolveBeforeUptoRow, standIns := [], harness := (true, "d2862ad9a5d420cc62d25430ce51c5c76956845635899488eff3987705f46a37"), looks := false }, kinds := [], alts := [], laidByText := true, laidKinds := [.data, .data, .data], laidTests := true, laidLooks := .later }
def ResolveBeforeUptoCardSaid : Prop := Claim7.holds Tryd.pinned (.plain (OpenSpec.upto resolveBeforeSpec)) resolveBeforeUptoCard

/-- THE SECOND FORM's CARD OF 'homehublaw35.ResolveDecides'. -/
def resolveDecidesUptoCard : Claim7 := { stood := { row := resolveDecidesUptoRow, standIns := [], harness := (true, "d2862ad9a5d420cc62d25430ce51c5c76956845635899488eff3987705f46a37"), looks := false }, kinds := [], alts := [], laidByText := true, laidKinds := [.data, .data, .data], laidTests := true, laidLooks := .later }
def ResolveDecidesUptoCardSaid : Prop := Claim7.holds Tryd.pinned (.plain (OpenSpec.upto resolveDecidesSpec)) resolveDecidesUptoCard

/-- THE SECOND FORM's CARD OF 'homehublaw35.ResolveMerges'. -/
def resolveMergesUptoCard : Claim7 := { stood := { row := resolveMergesUptoRow, standIns := [], harness := (true, "d2862ad9a5d420cc62d25430ce51c5c76956845635899488eff3987705f46a37"), looks := false }, kinds := [], alts := [], laidByText := true, laidKinds := [.data, .data, .data], laidTests := true, laidLooks := .later }
def ResolveMergesUptoCardSaid : Prop := Claim7.holds Tryd.pinned (.plain (OpenSpec.upto resolveMergesSpec)) resolveMergesUptoCard

/-- THE SECOND FORM's CARD OF 'homehublaw35.ResolveExplains'. -/
def resolveExplainsUptoCard : Claim7 := { stood := { row := resolveExplainsUptoRow, standIns := [], harness := (true, "d2862ad9a5d420cc62d25430ce51c5c76956845635899488eff3987705f46a37"), looks := false }, kinds := [], alts := [], laidByText := true, laidKinds := [.data, .data, .data], laidTests := true, laidLooks := .later }
def ResolveExplainsUptoCardSaid : Prop := Claim7.holds Tryd.pinned (.plain (OpenSpec.upto resolveExplainsSpec)) resolveExplainsUptoCard

/-- THE SECOND FORM's CARD OF 'homehublaw35.ResolveTotal'. -/
def resolveTotalUptoCard : Claim7 := { stood := { row := resolveTotalUptoRow, standIns := [], harness := (true, "d2862ad9a5d420cc62d25430ce51c5c76956845635899488eff3987705f46a37"), looks := false }, kinds := [], alts := [], laidByText := true, laidKinds := [.data, .data, .data], laidTests := true, laidLooks := .later }
def ResolveTotalUptoCardSaid : Prop := Claim7.holds Tryd.pinned (.plain (OpenSpec.upto resolveTotalSpec)) resolveTotalUptoCard

/-- THE SECOND FORM's CARD OF 'homehublaw35.ResolveOrder'. -/
def resolveOrderUptoCard : Claim7 := { stood := { row := resolveOrderUptoRow, standIns := [], harness := (true, "d2862ad9a5d420cc62d25430ce51c5c76956845635899488eff3987705f46a37"), looks := false }, kinds := [], alts := [], laidByText := true, laidKinds := [.data, .data, .data], laidTests := true, laidLooks := .later }
def ResolveOrderUptoCardSaid : Prop := Claim7.holds Tryd.pinned (.plain (OpenSpec.upto resolveOrderSpec)) resolveOrderUptoCard

/-- THE SECOND FORM's CARD OF 'homehublaw35.ResolveLosers'. -/
def resolveLosersUptoCard : Claim7 := { stood := { row := resolveLosersUptoRow, standIns := [], harness := (true, "d2862ad9a5d420cc62d25430ce51c5c76956845635899488eff3987705f46a37"), looks := false }, kinds := [], alts := [], laidByText := true, laidKinds := [.data, .data, .data], laidTests := true, laidLooks := .later }
def ResolveLosersUptoCardSaid : Prop := Claim7.holds Tryd.pinned (.plain (OpenSpec.upto resolveLosersSpec)) resolveLosersUptoCard
end Rows
end Go.Proofs.YtgjoojailghilaaDoor
