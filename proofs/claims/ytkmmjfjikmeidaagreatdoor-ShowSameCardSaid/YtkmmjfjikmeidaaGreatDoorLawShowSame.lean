/- ShowSame: Same answers just what the document says, whatever two trees it is handed. For every input; nothing is assumed; what the listed variables hold is tied to the program's text by the given card. -/
import Derived.Test.YtkmmjfjikmeidaaGreatDoorShowL
import Derived.Test.YtkmmjfjikmeidaaGreatDoorShowSameRow
set_option linter.unusedSectionVars false
set_option linter.unusedVariables false
set_option linter.unusedSimpArgs false
namespace Go.Proofs.YtkmmjfjikmeidaaGreatDoor
open A Go
/-- ShowSame, as it is given. -/
theorem showSame_proved : Rows.ShowSameCardSaid := by
  obtain ⟨L⟩ := lp_exists
  refine card_ShowSame (row_ShowSame fun ys hg => ?_)
  obtain ⟨t, u, hv, _, rfl⟩ := hg
  exact lift_L_ShowSame t u true (showSame_is t u (lnT hv))
end Go.Proofs.YtkmmjfjikmeidaaGreatDoor
