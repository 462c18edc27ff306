/-
  NARROWER THAN 'FOR EVERY INPUT', by the rows' own cells (each row's printed sentence says how): SliceTells: loops · SliceNeeds: loops · WatchRuns: loops · SliceAgain: loops · WatchReads: loops.
  DERIVED. THE GIVEN ROWS OF THIS SEAT. 5 by the template 'for every input the law returns true; each argument reads behind the call as it read before'; 0 by the template 'total and deterministic' (their statements: YtlmphbbhaeampaaGreatTotals.lean).
  GIVEN WITH THE SEED: the statements are not yours to turn. If you find one false, say at which input.
  Laid BY PROGRAM, IN A SANDBOX (cutbox-rows.mjs): the forced cells as the released guide's own fill.sh prints them over the translation 1173a07e12ae4663… (all of the seat's roots in one cut). By AI agents, Wed Nov 11 2026. No macro, syntax, notation, axiom, sorry.
-/
import Derived.Test.YtlmphbbhaeampaaGreatChecked
import GoSem.Claim
import GoSem.ClaimJoined
import GoSem.ClaimMapViews
import Derived.JoinedTies
import Derived.KernelRfl
namespace Go.Proofs.YtlmphbbhaeampaaGreat
/- THE CELL 'sum', in the pinned program and in every row, IS THE sha256 OF THE DUMP (.gsa) THAT YtlmphbbhaeampaaGreatProg.lean LOADS. Nothing in Lean hashes anything: it is a label: what it is worth is what the hold of that sum in a sandbox is worth. -/
noncomputable def Tryz.pinned : Pinned := { name := "ytlmphbbhaeampaagreat", sum := "1173a07e12ae46631b7fa92a06e206d95b39b9a268fd91018f994a16e381be1f", checked := Tryz.checked }
namespace Rows
def none {H : Type} : Left H := { results := [], args := [] }

/-- 'veilworklaw.SliceTells': WHATEVER THE INPUT: true; the input reads as it did. -/
def sliceTellsSpec : ChangeSpec := { name := "sliceTells", fn := fun _ => fun
  | [d1, d2] => { results := [.lit (.bool true)], args := [d1, d2] }
  | _ => none }
def sliceTellsRow : OpenClaim := { program := "ytlmphbbhaeampaagreat", sum := "1173a07e12ae46631b7fa92a06e206d95b39b9a268fd91018f994a16e381be1f", func := "veilwork/veilworklaw.SliceTells", spec := "sliceTells", unfollowed := true, recurses := true, loops := true, apart := false }
def SliceTellsSaid : Prop := sliceTellsRow.holds Tryz.pinned (OpenSpec.ofChange sliceTellsSpec)

/-- ITS FALSE NEIGHBOUR: 'it returns false'. Refute it at one input. -/
def sliceTellsWrong : ChangeSpec := { name := "sliceTells", fn := fun _ => fun
  | [d1, d2] => { results := [.lit (.bool false)], args := [d1, d2] }
  | _ => none }
def SliceTellsWrongFalsely : Prop := sliceTellsRow.holds Tryz.pinned (OpenSpec.ofChange sliceTellsWrong)

/-- 'veilworklaw.SliceNeeds': WHATEVER THE INPUT: true; the input reads as it did. -/
def sliceNeedsSpec : ChangeSpec := { name := "sliceNeeds", fn := fun _ => fun
  | [d1, d2, d3, d4, d5] => { results := [.lit (.bool true)], args := [d1, d2, d3, d4, d5] }
  | _ => none }
def sliceNeedsRow : OpenClaim := { program := "ytlmphbbhaeampaagreat", sum := "1173a07e12ae46631b7fa92a06e206d95b39b9a268fd91018f994a16e381be1f", func := "veilwork/veilworklaw.SliceNeeds", spec := "sliceNeeds", unfollowed := true, recurses := true, loops := true, apart := false }
def SliceNeedsSaid : Prop := sliceNeedsRow.holds Tryz.pinned (OpenSpec.ofChange sliceNeedsSpec)

/-- ITS FALSE NEIGHBOUR: 'it returns false'. Refute it at one input. -/
def sliceNeedsWrong : ChangeSpec := { name := "sliceNeeds", fn := fun _ => fun
  | [d1, d2, d3, d4, d5] => { results := [.lit (.bool false)], args := [d1, d2, d3, d4, d5] }
  | _ => none }
def SliceNeedsWrongFalsely : Prop := sliceNeedsRow.holds Tryz.pinned (OpenSpec.ofChange sliceNeedsWrong)

/-- 'veilworklaw.WatchRuns': WHATEVER THE INPUT: true; the input reads as it did. -/
def watchRunsSpec : ChangeSpec := { name := "watchRuns", fn := fun _ => fun
  | [d1, d2, d3] => { results := [.lit (.bool true)], args := [d1, d2, d3] }
  | _ => none }
def watchRunsRow : OpenClaim := { program := "ytlmphbbhaeampaagreat", sum := "1173a07e12ae46631b7fa92a06e206d95b39b9a268fd91018f994a16e381be1f", func := "veilwork/veilworklaw.WatchRuns", spec := "watchRuns", unfollowed := true, recurses := true, loops := true, apart := false }
def WatchRunsSaid : Prop := watchRunsRow.holds Tryz.pinned (OpenSpec.ofChange watchRunsSpec)

/-- ITS FALSE NEIGHBOUR: 'it returns false'. Refute it at one input. -/
def watchRunsWrong : ChangeSpec := { name := "watchRuns", fn := fun _ => fun
  | [d1, d2, d3] => { results := [.lit (.bool false)], args := [d1, d2, d3] }
  | _ => none }
def WatchRunsWrongFalsely : Prop := watchRunsRow.holds Tryz.pinned (OpenSpec.ofChange watchRunsWrong)

/-- 'veilworklaw.SliceAgain': WHATEVER THE INPUT: true; the input reads as it did. -/
def sliceAgainSpec : ChangeSpec := { name := "sliceAgain", fn := fun _ => fun
  | [d1, d2] => { results := [.lit (.bool true)], args := [d1, d2] }
  | _ => none }
def sliceAgainRow : OpenClaim := { program := "ytlmphbbhaeampaagreat", sum := "1173a07e12ae46631b7fa92a06e206d95b39b9a268fd91018f994a16e381be1f", func := "veilwork/veilworklaw.SliceAgain", spec := "sliceAgain", unfollowed := true, recurses := true, loops := true, apart := false }
def SliceAgainSaid : Prop := sliceAgainRow.holds Tryz.pinned (OpenSpec.ofChange sliceAgainSpec)

/-- ITS FALSE NEIGHBOUR: 'it returns false'. Refute it at one input. -/
def sliceAgainWrong : ChangeSpec := { name := "sliceAgain", fn := fun _ => fun
  | [d1, d2] => { results := [.lit (.bool false)], args := [d1, d2] }
  | _ => none }
def SliceAgainWrongFalsely : Prop := sliceAgainRow.holds Tryz.pinned (OpenSpec.ofChange sliceAgainWrong)

/-- 'veilworklaw.WatchReads': WHATEVER THE INPUT: true; the input reads as it did. -/
def watchReadsSpec : ChangeSpec := { name := "watchReads", fn := fun _ => fun
  | [d1, d2, d3, d4, d5] => { results := [.lit (.bool true)], args := [d1, d2, d3, d4, d5] }
  | _ => none }
def watchReadsRow : OpenClaim := { program := "ytlmphbbhaeampaagreat", sum := "1173a07e12ae46631b7fa92a06e206d95b39b9a268fd91018f994a16e381be1f", func := "veilwork/veilworklaw.WatchReads", spec := "watchReads", unfollowed := true, recurses := true, loops := true, apart := false }
def WatchReadsSaid : Prop := watchReadsRow.holds Tryz.pinned (OpenSpec.ofChange watchReadsSpec)

/-- ITS FALSE NEIGHBOUR: 'it returns false'. Refute it at one input. -/
def watchReadsWrong : ChangeSpec := { name := "watchReads", fn := fun _ => fun
  | [d1, d2, d3, d4, d5] => { results := [.lit (.bool false)], args := [d1, d2, d3, d4, d5] }
  | _ => none }
def WatchReadsWrongFalsely : Prop := watchReadsRow.holds Tryz.pinned (OpenSpec.ofChange watchReadsWrong)

/- THE SECOND FORM. 'bulk': how many values and letters a reading holds, each counted each time it is reached (what is shared counts as often as it is met; a slice's spare places count too). A statement '..UptoSaid' is the law's where the arguments, and the package variables that the reading takes, are together of bulk at most 1048576: NARROWER than '..Said'. Prove '..Said' where nothing that the law and all that it calls make is longer than what came in: it says more and counts as full. Else prove '..UptoSaid'. A law counts once. -/
mutual
def uptoBulk {H : Type} : DataW H → Nat
  | .lit (.string bytes) => bytes.length + 1
  | .lit _ => 1
  | .nil => 1
  | .ptr d => uptoBulk d + 1
  | .slice elems spare => uptoBulkAll elems + uptoBulkAll spare + 1
  | .agg parts => uptoBulkAll parts + 1
  | .iface _ d => uptoBulk d + 1
  | .map entries => uptoBulkEntries entries + 1
  | .held _ => 1
def uptoBulkAll {H : Type} : List (DataW H) → Nat
  | [] => 0
  | d :: r => uptoBulk d + uptoBulkAll r
def uptoBulkEntries {H : Type} : List (Lit × DataW H) → Nat
  | [] => 0
  | x :: r => uptoBulkEntry x + uptoBulkEntries r
def uptoBulkEntry {H : Type} : Lit × DataW H → Nat
  | (.string bytes, d) => bytes.length + uptoBulk d + 1
  | (_, d) => uptoBulk d + 1
 end
def uptoSmall : (H : Type) → List (DataW H) → Bool := fun _ ds => decide (uptoBulkAll ds ≤ 1048576)
def OpenSpec.upto (s : _root_.Go.ChangeSpec) : _root_.Go.OpenSpec := { _root_.Go.OpenSpec.ofChange s with cond := some uptoSmall }

/-- 'veilworklaw.SliceTells', WHERE WHAT IT READS IS OF BULK AT MOST 1048576: true; the input reads as it did. -/
def sliceTellsUptoRow : OpenClaim := { program := "ytlmphbbhaeampaagreat", sum := "1173a07e12ae46631b7fa92a06e206d95b39b9a268fd91018f994a16e381be1f", func := "veilwork/veilworklaw.SliceTells", spec := "sliceTells", unfollowed := true, recurses := true, loops := true, apart := false, narrowed := true }
def SliceTellsUptoSaid : Prop := sliceTellsUptoRow.holds Tryz.pinned (OpenSpec.upto sliceTellsSpec)

/-- 'veilworklaw.SliceNeeds', WHERE WHAT IT READS IS OF BULK AT MOST 1048576: true; the input reads as it did. -/
def sliceNeedsUptoRow : OpenClaim := { program := "ytlmphbbhaeampaagreat", sum := "1173a07e12ae46631b7fa92a06e206d95b39b9a268fd91018f994a16e381be1f", func := "veilwork/veilworklaw.SliceNeeds", spec := "sliceNeeds", unfollowed := true, recurses := true, loops := true, apart := false, narrowed := true }
def SliceNeedsUptoSaid : Prop := sliceNeedsUptoRow.holds Tryz.pinned (OpenSpec.upto sliceNeedsSpec)

/-- 'veilworklaw.WatchRuns', WHERE WHAT IT READS IS OF BULK AT MOST 1048576: true; the input reads as it did. -/
def watchRunsUptoRow : OpenClaim := { program := "ytlmphbbhaeampaagreat", sum := "1173a07e12ae46631b7fa92a06e206d95b39b9a268fd91018f994a16e381be1f", func := "veilwork/veilworklaw.WatchRuns", spec := "watchRuns", unfollowed := true, recurses := true, loops := true, apart := false, narrowed := true }
def WatchRunsUptoSaid : Prop := watchRunsUptoRow.holds Tryz.pinned (OpenSpec.upto watchRunsSpec)

/-- 'veilworklaw.SliceAgain', WHERE WHAT IT READS IS OF BULK AT MOST 1048576: true; the input reads as it did. -/
def sliceAgainUptoRow : OpenClaim := { program := "ytlmphbbhaeampaagreat", sum := "1173a07e12ae46631b7fa92a06e206d95b39b9a268fd91018f994a16e381be1f", func := "veilwork/veilworklaw.SliceAgain", spec := "sliceAgain", unfollowed := true, recurses := true, loops := true, apart := false, narrowed := true }
def SliceAgainUptoSaid : Prop := sliceAgainUptoRow.holds Tryz.pinned (OpenSpec.upto sliceAgainSpec)

/-- 'veilworklaw.WatchReads', WHERE WHAT IT READS IS OF BULK AT MOST 1048576: true; the input reads as it did. -/
def watchReadsUptoRow : OpenClaim := { program := "ytlmphbbhaeampaagreat", sum := "1173a07e12ae46631b7fa92a06e206d95b39b9a268fd91018f994a16e381be1f", func := "veilwork/veilworklaw.WatchReads", spec := "watchReads", unfollowed := true, recurses := true, loops := true, apart := false, narrowed := true }
def WatchReadsUptoSaid : Prop := watchReadsUptoRow.holds Tryz.pinned (OpenSpec.upto watchReadsSpec)

end Rows
end Go.Proofs.YtlmphbbhaeampaaGreat
