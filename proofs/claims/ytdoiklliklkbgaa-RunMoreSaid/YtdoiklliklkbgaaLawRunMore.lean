/- RunMore: with more fuel all that happened happens, and what was done is done by as many steps. For every input; nothing is assumed. -/
import Derived.Test.YtdoiklliklkbgaaRunL
import Derived.Test.YtdoiklliklkbgaaRunMoreRow
set_option linter.unusedSectionVars false
set_option linter.unusedVariables false
set_option linter.unusedSimpArgs false
namespace Go.Proofs.Ytdoiklliklkbgaa
open A Go
/-- RunMore, as it is given. -/
theorem runMore_proved : Rows.RunMoreSaid := by
  obtain ⟨L⟩ := lp_exists
  refine row_RunMore fun ys hg => ?_
  obtain ⟨p, ins, fuel, more_, hv, _, _, _, rfl⟩ := hg
  have hp : ∀ f ∈ p.Funcs, f.Params.length ≤ 9223372036854775807 := fun f hf => Nat.le_trans (hv.2.2.2.2.2.1.2 f hf).1.1 (by decide)
  exact lift_L_RunMore p ins fuel more_ true (law_RunMore p ins fuel more_ hp)
end Go.Proofs.Ytdoiklliklkbgaa
