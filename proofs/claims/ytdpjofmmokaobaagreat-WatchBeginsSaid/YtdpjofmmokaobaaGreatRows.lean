/-
  NARROWER THAN 'FOR EVERY INPUT', by the rows' own cells (each row's printed sentence says how): WatchRuns: loops · WatchKnown: loops · WatchBegins: loops.
  DERIVED. THE GIVEN ROWS OF THIS SEAT. 3 by the template 'for every input the law returns true; each argument reads behind the call as it read before'; 0 by the template 'total and deterministic' (their statements: YtdpjofmmokaobaaGreatTotals.lean).
  GIVEN WITH THE SEED: the statements are not yours to turn. If you find one false, say at which input.
  Laid BY PROGRAM, IN A SANDBOX (cutbox-rows.mjs): the forced cells as the released guide's own fill.sh prints them over the translation 09b50180a3959935… (all of the seat's roots in one cut). By AI agents, Wed Nov 11 2026. No macro, syntax, notation, axiom, sorry.
-/
import Derived.Test.YtdpjofmmokaobaaGreatChecked
import GoSem.Claim
import GoSem.ClaimJoined
import GoSem.ClaimMapViews
import Derived.JoinedTies
import Derived.KernelRfl
namespace Go.Proofs.YtdpjofmmokaobaaGreat
/- THE CELL 'sum', in the pinned program and in every row, IS THE sha256 OF THE DUMP (.gsa) THAT YtdpjofmmokaobaaGreatProg.lean LOADS. Nothing in Lean hashes anything: it is a label: what it is worth is what the hold of that sum in a sandbox is worth. -/
noncomputable def Tryz.pinned : Pinned := { name := "ytdpjofmmokaobaagreat", sum := "09b50180a395993538b3048a441e20cfff452842ac902a2a500ce9384075ffb9", checked := Tryz.checked }
namespace Rows
def none {H : Type} : Left H := { results := [], args := [] }

/-- 'veilworklaw.WatchRuns': WHATEVER THE INPUT: true; the input reads as it did. -/
def watchRunsSpec : ChangeSpec := { name := "watchRuns", fn := fun _ => fun
  | [d1, d2, d3] => { results := [.lit (.bool true)], args := [d1, d2, d3] }
  | _ => none }
def watchRunsRow : OpenClaim := { program := "ytdpjofmmokaobaagreat", sum := "09b50180a395993538b3048a441e20cfff452842ac902a2a500ce9384075ffb9", func := "veilwork/veilworklaw.WatchRuns", spec := "watchRuns", unfollowed := true, recurses := true, loops := true, apart := false }
def WatchRunsSaid : Prop := watchRunsRow.holds Tryz.pinned (OpenSpec.ofChange watchRunsSpec)

/-- ITS FALSE NEIGHBOUR: 'it returns false'. Refute it at one input. -/
def watchRunsWrong : ChangeSpec := { name := "watchRuns", fn := fun _ => fun
  | [d1, d2, d3] => { results := [.lit (.bool false)], args := [d1, d2, d3] }
  | _ => none }
def WatchRunsWrongFalsely : Prop := watchRunsRow.holds Tryz.pinned (OpenSpec.ofChange watchRunsWrong)

/-- 'veilworklaw.WatchKnown': WHATEVER THE INPUT: true; the input reads as it did. -/
def watchKnownSpec : ChangeSpec := { name := "watchKnown", fn := fun _ => fun
  | [d1, d2, d3] => { results := [.lit (.bool true)], args := [d1, d2, d3] }
  | _ => none }
def watchKnownRow : OpenClaim := { program := "ytdpjofmmokaobaagreat", sum := "09b50180a395993538b3048a441e20cfff452842ac902a2a500ce9384075ffb9", func := "veilwork/veilworklaw.WatchKnown", spec := "watchKnown", unfollowed := true, recurses := true, loops := true, apart := false }
def WatchKnownSaid : Prop := watchKnownRow.holds Tryz.pinned (OpenSpec.ofChange watchKnownSpec)

/-- ITS FALSE NEIGHBOUR: 'it returns false'. Refute it at one input. -/
def watchKnownWrong : ChangeSpec := { name := "watchKnown", fn := fun _ => fun
  | [d1, d2, d3] => { results := [.lit (.bool false)], args := [d1, d2, d3] }
  | _ => none }
def WatchKnownWrongFalsely : Prop := watchKnownRow.holds Tryz.pinned (OpenSpec.ofChange watchKnownWrong)

/-- 'veilworklaw.WatchBegins': WHATEVER THE INPUT: true; the input reads as it did. -/
def watchBeginsSpec : ChangeSpec := { name := "watchBegins", fn := fun _ => fun
  | [d1, d2, d3] => { results := [.lit (.bool true)], args := [d1, d2, d3] }
  | _ => none }
def watchBeginsRow : OpenClaim := { program := "ytdpjofmmokaobaagreat", sum := "09b50180a395993538b3048a441e20cfff452842ac902a2a500ce9384075ffb9", func := "veilwork/veilworklaw.WatchBegins", spec := "watchBegins", unfollowed := true, recurses := true, loops := true, apart := false }
def WatchBeginsSaid : Prop := watchBeginsRow.holds Tryz.pinned (OpenSpec.ofChange watchBeginsSpec)

/-- ITS FALSE NEIGHBOUR: 'it returns false'. Refute it at one input. -/
def watchBeginsWrong : ChangeSpec := { name := "watchBegins", fn := fun _ => fun
  | [d1, d2, d3] => { results := [.lit (.bool false)], args := [d1, d2, d3] }
  | _ => none }
def WatchBeginsWrongFalsely : Prop := watchBeginsRow.holds Tryz.pinned (OpenSpec.ofChange watchBeginsWrong)

/- THE SECOND FORM. 'bulk': how many values and letters a reading holds, each counted each time it is reached (what is shared counts as often as it is met; a slice's spare places count too). A statement '..UptoSaid' is the law's where the arguments, and the package variables that the reading takes, are together of bulk at most 1048576: NARROWER than '..Said'. Prove '..Said' where nothing that the law and all that it calls make is longer than what came in: it says more and counts as full. Else prove '..UptoSaid'. A law counts once. -/
mutual
def uptoBulk {H : Type} : DataW H → Nat
  | .lit (.string bytes) => bytes.length + 1
  | .lit _ => 1
  | .nil => 1
  | .ptr d => uptoBulk d + 1
  | .slice elems spare => uptoBulkAll elems + uptoBulkAll spare + 1
  | .agg parts => uptoBulkAll parts + 1
  | .iface _ d => uptoBulk d + 1
  | .map entries => uptoBulkEntries entries + 1
  | .held _ => 1
def uptoBulkAll {H : Type} : List (DataW H) → Nat
  | [] => 0
  | d :: r => uptoBulk d + uptoBulkAll r
def uptoBulkEntries {H : Type} : List (Lit × DataW H) → Nat
  | [] => 0
  | x :: r => uptoBulkEntry x + uptoBulkEntries r
def uptoBulkEntry {H : Type} : Lit × DataW H → Nat
  | (.string bytes, d) => bytes.length + uptoBulk d + 1
  | (_, d) => uptoBulk d + 1
 end
def uptoSmall : (H : Type) → List (DataW H) → Bool := fun _ ds => decide (uptoBulkAll ds ≤ 1048576)
def OpenSpec.upto (s : _root_.Go.ChangeSpec) : _root_.Go.OpenSpec := { _root_.Go.OpenSpec.ofChange s with cond := some uptoSmall }

/-- 'veilworklaw.WatchRuns', WHERE WHAT IT READS IS OF BULK AT MOST 1048576: true; the input reads as it did. -/
def watchRunsUptoRow : OpenClaim := { program := "ytdpjofmmokaobaagreat", sum := "09b50180a395993538b3048a441e20cfff452842ac902a2a500ce9384075ffb9", func := "veilwork/veilworklaw.WatchRuns", spec := "watchRuns", unfollowed := true, recurses := true, loops := true, apart := false, narrowed := true }
def WatchRunsUptoSaid : Prop := watchRunsUptoRow.holds Tryz.pinned (OpenSpec.upto watchRunsSpec)

/-- 'veilworklaw.WatchKnown', WHERE WHAT IT READS IS OF BULK AT MOST 1048576: true; the input reads as it did. -/
def watchKnownUptoRow : OpenClaim := { program := "ytdpjofmmokaobaagreat", sum := "09b50180a395993538b3048a441e20cfff452842ac902a2a500ce9384075ffb9", func := "veilwork/veilworklaw.WatchKnown", spec := "watchKnown", unfollowed := true, recurses := true, loops := true, apart := false, narrowed := true }
def WatchKnownUptoSaid : Prop := watchKnownUptoRow.holds Tryz.pinned (OpenSpec.upto watchKnownSpec)

/-- 'veilworklaw.WatchBegins', WHERE WHAT IT READS IS OF BULK AT MOST 1048576: true; the input reads as it did. -/
def watchBeginsUptoRow : OpenClaim := { program := "ytdpjofmmokaobaagreat", sum := "09b50180a395993538b3048a441e20cfff452842ac902a2a500ce9384075ffb9", func := "veilwork/veilworklaw.WatchBegins", spec := "watchBegins", unfollowed := true, recurses := true, loops := true, apart := false, narrowed := true }
def WatchBeginsUptoSaid : Prop := watchBeginsUptoRow.holds Tryz.pinned (OpenSpec.upto watchBeginsSpec)

end Rows
end Go.Proofs.YtdpjofmmokaobaaGreat
