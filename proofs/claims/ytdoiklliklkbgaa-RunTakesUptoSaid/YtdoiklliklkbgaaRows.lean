/-
  NARROWER THAN 'FOR EVERY INPUT', by the rows' own cells (each row's printed sentence says how): RunEvals: loops · RunMore: loops · RunTakes: loops.
  DERIVED. THE GIVEN ROWS OF THIS SEAT. 3 by the template 'for every input the law returns true; each argument reads behind the call as it read before'; 0 by the template 'total and deterministic' (their statements: YtdoiklliklkbgaaTotals.lean).
  GIVEN WITH THE SEED: the statements are not yours to turn. If you find one false, say at which input.
  Laid BY PROGRAM, IN A SANDBOX (cutbox-rows.mjs): the forced cells as the released guide's own fill.sh prints them over the translation c31bb9dd9c681d31… (all of the seat's roots in one cut). By AI agents, Wed Nov 11 2026. No macro, syntax, notation, axiom, sorry.
-/
import Derived.Test.YtdoiklliklkbgaaChecked
import GoSem.Claim
import GoSem.ClaimJoined
import GoSem.ClaimMapViews
import Derived.JoinedTies
import Derived.KernelRfl
namespace Go.Proofs.Ytdoiklliklkbgaa
/- THE CELL 'sum', in the pinned program and in every row, IS THE sha256 OF THE DUMP (.gsa) THAT YtdoiklliklkbgaaProg.lean LOADS. Nothing in Lean hashes anything: it is a label: what it is worth is what the hold of that sum in a sandbox is worth. -/
noncomputable def Try.pinned : Pinned := { name := "ytdoiklliklkbgaa", sum := "c31bb9dd9c681d31b4e3bdf4c2817521c1e607c4222fe621022d1d463ee67b62", checked := Try.checked }
namespace Rows
def none {H : Type} : Left H := { results := [], args := [] }

/-- 'veilworklaw.RunEvals': WHATEVER THE INPUT: true; the input reads as it did. -/
def runEvalsSpec : ChangeSpec := { name := "runEvals", fn := fun _ => fun
  | [d1, d2] => { results := [.lit (.bool true)], args := [d1, d2] }
  | _ => none }
def runEvalsRow : OpenClaim := { program := "ytdoiklliklkbgaa", sum := "c31bb9dd9c681d31b4e3bdf4c2817521c1e607c4222fe621022d1d463ee67b62", func := "veilwork/veilworklaw.RunEvals", spec := "runEvals", unfollowed := true, recurses := true, loops := true, apart := false }
def RunEvalsSaid : Prop := runEvalsRow.holds Try.pinned (OpenSpec.ofChange runEvalsSpec)

/-- ITS FALSE NEIGHBOUR: 'it returns false'. Refute it at one input. -/
def runEvalsWrong : ChangeSpec := { name := "runEvals", fn := fun _ => fun
  | [d1, d2] => { results := [.lit (.bool false)], args := [d1, d2] }
  | _ => none }
def RunEvalsWrongFalsely : Prop := runEvalsRow.holds Try.pinned (OpenSpec.ofChange runEvalsWrong)

/-- 'veilworklaw.RunMore': WHATEVER THE INPUT: true; the input reads as it did. -/
def runMoreSpec : ChangeSpec := { name := "runMore", fn := fun _ => fun
  | [d1, d2, d3, d4] => { results := [.lit (.bool true)], args := [d1, d2, d3, d4] }
  | _ => none }
def runMoreRow : OpenClaim := { program := "ytdoiklliklkbgaa", sum := "c31bb9dd9c681d31b4e3bdf4c2817521c1e607c4222fe621022d1d463ee67b62", func := "veilwork/veilworklaw.RunMore", spec := "runMore", unfollowed := true, recurses := true, loops := true, apart := false }
def RunMoreSaid : Prop := runMoreRow.holds Try.pinned (OpenSpec.ofChange runMoreSpec)

/-- ITS FALSE NEIGHBOUR: 'it returns false'. Refute it at one input. -/
def runMoreWrong : ChangeSpec := { name := "runMore", fn := fun _ => fun
  | [d1, d2, d3, d4] => { results := [.lit (.bool false)], args := [d1, d2, d3, d4] }
  | _ => none }
def RunMoreWrongFalsely : Prop := runMoreRow.holds Try.pinned (OpenSpec.ofChange runMoreWrong)

/-- 'veilworklaw.RunTakes': WHATEVER THE INPUT: true; the input reads as it did. -/
def runTakesSpec : ChangeSpec := { name := "runTakes", fn := fun _ => fun
  | [d1, d2, d3, d4] => { results := [.lit (.bool true)], args := [d1, d2, d3, d4] }
  | _ => none }
def runTakesRow : OpenClaim := { program := "ytdoiklliklkbgaa", sum := "c31bb9dd9c681d31b4e3bdf4c2817521c1e607c4222fe621022d1d463ee67b62", func := "veilwork/veilworklaw.RunTakes", spec := "runTakes", unfollowed := true, recurses := true, loops := true, apart := false }
def RunTakesSaid : Prop := runTakesRow.holds Try.pinned (OpenSpec.ofChange runTakesSpec)

/-- ITS FALSE NEIGHBOUR: 'it returns false'. Refute it at one input. -/
def runTakesWrong : ChangeSpec := { name := "runTakes", fn := fun _ => fun
  | [d1, d2, d3, d4] => { results := [.lit (.bool false)], args := [d1, d2, d3, d4] }
  | _ => none }
def RunTakesWrongFalsely : Prop := runTakesRow.holds Try.pinned (OpenSpec.ofChange runTakesWrong)

/- THE SECOND FORM. 'bulk': how many values and letters a reading holds, each counted each time it is reached (what is shared counts as often as it is met; a slice's spare places count too). A statement '..UptoSaid' is the law's where the arguments, and the package variables that the reading takes, are together of bulk at most 1048576: NARROWER than '..Said'. Prove '..Said' where nothing that the law and all that it calls make is longer than what came in: it says more and counts as full. Else prove '..UptoSaid'. A law counts once. -/
mutual
def uptoBulk {H : Type} : DataW H → Nat
  | .lit (.string bytes) => bytes.length + 1
  | .lit _ => 1
  | .nil => 1
  | .ptr d => uptoBulk d + 1
  | .slice elems spare => uptoBulkAll elems + uptoBulkAll spare + 1
  | .agg parts => uptoBulkAll parts + 1
  | .iface _ d => uptoBulk d + 1
  | .map entries => uptoBulkEntries entries + 1
  | .held _ => 1
def uptoBulkAll {H : Type} : List (DataW H) → Nat
  | [] => 0
  | d :: r => uptoBulk d + uptoBulkAll r
def uptoBulkEntries {H : Type} : List (Lit × DataW H) → Nat
  | [] => 0
  | x :: r => uptoBulkEntry x + uptoBulkEntries r
def uptoBulkEntry {H : Type} : Lit × DataW H → Nat
  | (.string bytes, d) => bytes.length + uptoBulk d + 1
  | (_, d) => uptoBulk d + 1
 end
def uptoSmall : (H : Type) → List (DataW H) → Bool := fun _ ds => decide (uptoBulkAll ds ≤ 1048576)
def OpenSpec.upto (s : _root_.Go.ChangeSpec) : _root_.Go.OpenSpec := { _root_.Go.OpenSpec.ofChange s with cond := some uptoSmall }

/-- 'veilworklaw.RunEvals', WHERE WHAT IT READS IS OF BULK AT MOST 1048576: true; the input reads as it did. -/
def runEvalsUptoRow : OpenClaim := { program := "ytdoiklliklkbgaa", sum := "c31bb9dd9c681d31b4e3bdf4c2817521c1e607c4222fe621022d1d463ee67b62", func := "veilwork/veilworklaw.RunEvals", spec := "runEvals", unfollowed := true, recurses := true, loops := true, apart := false, narrowed := true }
def RunEvalsUptoSaid : Prop := runEvalsUptoRow.holds Try.pinned (OpenSpec.upto runEvalsSpec)

/-- 'veilworklaw.RunMore', WHERE WHAT IT READS IS OF BULK AT MOST 1048576: true; the input reads as it did. -/
def runMoreUptoRow : OpenClaim := { program := "ytdoiklliklkbgaa", sum := "c31bb9dd9c681d31b4e3bdf4c2817521c1e607c4222fe621022d1d463ee67b62", func := "veilwork/veilworklaw.RunMore", spec := "runMore", unfollowed := true, recurses := true, loops := true, apart := false, narrowed := true }
def RunMoreUptoSaid : Prop := runMoreUptoRow.holds Try.pinned (OpenSpec.upto runMoreSpec)

/-- 'veilworklaw.RunTakes', WHERE WHAT IT READS IS OF BULK AT MOST 1048576: true; the input reads as it did. -/
def runTakesUptoRow : OpenClaim := { program := "ytdoiklliklkbgaa", sum := "c31bb9dd9c681d31b4e3bdf4c2817521c1e607c4222fe621022d1d463ee67b62", func := "veilwork/veilworklaw.RunTakes", spec := "runTakes", unfollowed := true, recurses := true, loops := true, apart := false, narrowed := true }
def RunTakesUptoSaid : Prop := runTakesUptoRow.holds Try.pinned (OpenSpec.upto runTakesSpec)

end Rows
end Go.Proofs.Ytdoiklliklkbgaa
