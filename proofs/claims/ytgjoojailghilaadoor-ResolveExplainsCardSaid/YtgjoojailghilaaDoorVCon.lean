/- Resolve: the comparisons' contracts, in the words of the other texts. -/
import Derived.Test.YtgjoojailghilaaDoorVBef
import Derived.Test.YtgjoojailghilaaDoorRely
set_option linter.unusedSimpArgs false
set_option linter.unusedVariables false
namespace Go.Proofs.YtgjoojailghilaaDoor
open Go.RowKit

theorem bef_p (a b : LW) (w : World) : Calls Tryd.prog 12 #[.agg (wC a).toArray, .agg (wC b).toArray] w fun r w' => r = .returned (.bool (bef a b)) ∧ Lat w w' :=
  (before_any a b w).mono fun r w' h => ⟨h.1, h.2.toBelow⟩
theorem bef_r (a b : LW) (w : World) : Calls Tryd.prog 13 #[.agg (wC a).toArray, .agg (wC b).toArray] w fun r w' => r = .returned (.bool (bef a b)) ∧ Lat w w' :=
  (rbefore_any a b w).mono fun r w' h => ⟨h.1, h.2.toBelow⟩
theorem less_r (a b : LKey) (w : World) : Calls Tryd.prog 30 #[.agg (kC a).toArray, .agg (kC b).toArray] w fun r w' => r = .returned (.bool (kless a b)) ∧ Lat w w' :=
  (rless_any a b w).mono fun r w' h => ⟨h.1, h.2.toBelow⟩
end Go.Proofs.YtgjoojailghilaaDoor
