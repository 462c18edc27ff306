/-
  DERIVED. GIVEN WITH THE SEED: THE CARDS: each row of YtogbakbmphadfaaGreatDoorRows.lean that lists a variable, with what it lists TIED to the program's text (the seventh form; the later family's looks); each row that meets fmt, with fmt's text TOLD by the authors' own Lean function (tested against real Go, not proved from fmt's source: count such statements apart). THE CARD IS WHAT COUNTS. Prove the row's statement (the work); the ties are given (YtogbakbmphadfaaGreatDoorTie.lean); close each card by the builder's one call (the guide's Derived/Test/ToyasCard.lean, 'card_holds'). Laid BY PROGRAM, IN A SANDBOX (cutbox-door.mjs). By AI agents, Wed Nov 11 2026. No macro, syntax, notation, axiom, sorry.
-/
import Derived.Test.YtogbakbmphadfaaGreatDoorRows
import GoSem.ClaimSeven
namespace Go.Proofs.YtogbakbmphadfaaGreatDoor
namespace Rows

/-- THE TIED CARD OF 'veilworklaw.ShowShows'. -/
def showShowsCard : Claim7 := { stood := { row := showShowsRow, standIns := [], harness := (true, "973f3d429d06565560a3f94c7a33de3d23023286b50f56ff15a24fabed4ca2e0"), looks := false }, kinds := [], alts := [], laidByText := true, laidKinds := [.data, .data, .data], laidTests := true, laidLooks := .later }
def ShowShowsCardSaid : Prop := Claim7.holds Tryz.pinned (.plain (OpenSpec.ofChange showShowsSpec)) showShowsCard

/-- THE SECOND FORM's CARD OF 'veilworklaw.ShowShows'. -/
def showShowsUptoCard : Claim7 := { stood := { row := showShowsUptoRow, standIns := [], harness := (true, "973f3d429d06565560a3f94c7a33de3d23023286b50f56ff15a24fabed4ca2e0"), looks := false }, kinds := [], alts := [], laidByText := true, laidKinds := [.data, .data, .data], laidTests := true, laidLooks := .later }
def ShowShowsUptoCardSaid : Prop := Claim7.holds Tryz.pinned (.plain (OpenSpec.upto showShowsSpec)) showShowsUptoCard
end Rows
end Go.Proofs.YtogbakbmphadfaaGreatDoor
