/- ShowShows: show.Show answers just what the document says, whatever tree it is handed. For every input; nothing is assumed; what the listed variables hold is tied to the program's text by the given card. -/
import Derived.Test.YtogbakbmphadfaaGreatDoorShowG
import Derived.Test.YtogbakbmphadfaaGreatDoorShowShowsRow
set_option linter.unusedSectionVars false
set_option linter.unusedVariables false
set_option linter.unusedSimpArgs false
namespace Go.Proofs.YtogbakbmphadfaaGreatDoor
open A Go
theorem showShows_proved:Rows.ShowShowsCardSaid:=by
 obtain ⟨L⟩:=Jj
 refine Dg (Ey fun ys hg=>?_)
 obtain ⟨t,_,rfl⟩:=hg
 exact zR t true (F8 t)
end Go.Proofs.YtogbakbmphadfaaGreatDoor
