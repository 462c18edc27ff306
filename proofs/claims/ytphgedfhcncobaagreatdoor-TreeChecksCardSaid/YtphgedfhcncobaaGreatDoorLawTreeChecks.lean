/- TreeChecks: tree.Check answers just what the document says, whatever tree it is handed. For every input; nothing is assumed; what the listed variables hold is tied to the program's text by the given card. -/
import Derived.Test.YtphgedfhcncobaaGreatDoorTreeL
import Derived.Test.YtphgedfhcncobaaGreatDoorTreeChecksRow
set_option linter.unusedSectionVars false
set_option linter.unusedVariables false
set_option linter.unusedSimpArgs false
namespace Go.Proofs.YtphgedfhcncobaaGreatDoor
open A Go
theorem treeChecks_proved:Rows.TreeChecksCardSaid:=by
 obtain ⟨L⟩:=DV
 refine wH (yI fun ys hg=>?_)
 obtain ⟨t,_,rfl⟩:=hg
 exact uq t true (zR t)
end Go.Proofs.YtphgedfhcncobaaGreatDoor
