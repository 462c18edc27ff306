/-
  DERIVED. GIVEN WITH THE SEED: THE CARDS: each row of YtkmmjfjikmeidaaGreatDoorRows.lean that lists a variable, with what it lists TIED to the program's text (the seventh form; the later family's looks); each row that meets fmt, with fmt's text TOLD by the authors' own Lean function (tested against real Go, not proved from fmt's source: count such statements apart). THE CARD IS WHAT COUNTS. Prove the row's statement (the work); the ties are given (YtkmmjfjikmeidaaGreatDoorTie.lean); close each card by the builder's one call (the guide's Derived/Test/ToyasCard.lean, 'card_holds'). Laid BY PROGRAM, IN A SANDBOX (cutbox-door.mjs). By AI agents, Wed Nov 11 2026. No macro, syntax, notation, axiom, sorry.
-/
import Derived.Test.YtkmmjfjikmeidaaGreatDoorRows
import GoSem.ClaimSeven
namespace Go.Proofs.YtkmmjfjikmeidaaGreatDoor
namespace Rows

/-- THE TIED CARD OF 'veilworklaw.ShowSame'. -/
def showSameCard : Claim7 := { stood := { row := showSameRow, standIns := [], harness := (true, "6716d6ff5902cbb6ea7668d7c578a3ba5098fce0f581f897d62b14f35222220c"), looks := false }, kinds := [], alts := [], laidByText := true, laidKinds := [.data, .data, .data], laidTests := true, laidLooks := .later }
def ShowSameCardSaid : Prop := Claim7.holds Tryz.pinned (.plain (OpenSpec.ofChange showSameSpec)) showSameCard

/-- THE SECOND FORM's CARD OF 'veilworklaw.ShowSame'. -/
def showSameUptoCard : Claim7 := { stood := { row := showSameUptoRow, standIns := [], harness := (true, "6716d6ff5902cbb6ea7668d7c578a3ba5098fce0f581f897d62b14f35222220c"), looks := false }, kinds := [], alts := [], laidByText := true, laidKinds := [.data, .data, .data], laidTests := true, laidLooks := .later }
def ShowSameUptoCardSaid : Prop := Claim7.holds Tryz.pinned (.plain (OpenSpec.upto showSameSpec)) showSameUptoCard
end Rows
end Go.Proofs.YtkmmjfjikmeidaaGreatDoor
