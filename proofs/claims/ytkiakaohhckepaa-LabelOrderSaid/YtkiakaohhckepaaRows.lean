/-
  No cell of these rows narrows 'for every input' (looked for: loops, veiled, ifaces, maps, wideKeys, modest, calm, conditions, laid).
  DERIVED. THE GIVEN ROWS OF THIS SEAT. 6 by the template 'for every input the law returns true; each argument reads behind the call as it read before'; 0 by the template 'total and deterministic' (their statements: YtkiakaohhckepaaTotals.lean).
  GIVEN WITH THE SEED: the statements are not yours to turn. If you find one false, say at which input.
  Laid BY PROGRAM, IN A SANDBOX (cutbox-rows.mjs): the forced cells as the released guide's own fill.sh prints them over the translation 7b819e882e6356cb… (all of the seat's roots in one cut). By AI agents, Wed Nov 11 2026. No macro, syntax, notation, axiom, sorry.
-/
import Derived.Test.YtkiakaohhckepaaChecked
import GoSem.Claim
import GoSem.ClaimJoined
import GoSem.ClaimMapViews
import Derived.JoinedTies
import Derived.KernelRfl
namespace Go.Proofs.Ytkiakaohhckepaa
/- THE CELL 'sum', in the pinned program and in every row, IS THE sha256 OF THE DUMP (.gsa) THAT YtkiakaohhckepaaProg.lean LOADS. Nothing in Lean hashes anything: it is a label: what it is worth is what the hold of that sum in a sandbox is worth. -/
noncomputable def Try.pinned : Pinned := { name := "ytkiakaohhckepaa", sum := "7b819e882e6356cb5e360ad885fc137738efce4d115150e4627f7018945599fd", checked := Try.checked }
namespace Rows
def none {H : Type} : Left H := { results := [], args := [] }

/-- 'veilworklaw.ActorsTell': WHATEVER THE INPUT: true; the input reads as it did. -/
def actorsTellSpec : ChangeSpec := { name := "actorsTell", fn := fun _ => fun
  | [d1, d2, d3] => { results := [.lit (.bool true)], args := [d1, d2, d3] }
  | _ => none }
def actorsTellRow : OpenClaim := { program := "ytkiakaohhckepaa", sum := "7b819e882e6356cb5e360ad885fc137738efce4d115150e4627f7018945599fd", func := "veilwork/veilworklaw.ActorsTell", spec := "actorsTell", unfollowed := true, recurses := true, apart := false }
def ActorsTellSaid : Prop := actorsTellRow.holds Try.pinned (OpenSpec.ofChange actorsTellSpec)

/-- ITS FALSE NEIGHBOUR: 'it returns false'. Refute it at one input. -/
def actorsTellWrong : ChangeSpec := { name := "actorsTell", fn := fun _ => fun
  | [d1, d2, d3] => { results := [.lit (.bool false)], args := [d1, d2, d3] }
  | _ => none }
def ActorsTellWrongFalsely : Prop := actorsTellRow.holds Try.pinned (OpenSpec.ofChange actorsTellWrong)

/-- 'veilworklaw.ActorsClosed': WHATEVER THE INPUT: true; the input reads as it did. -/
def actorsClosedSpec : ChangeSpec := { name := "actorsClosed", fn := fun _ => fun
  | [d1, d2] => { results := [.lit (.bool true)], args := [d1, d2] }
  | _ => none }
def actorsClosedRow : OpenClaim := { program := "ytkiakaohhckepaa", sum := "7b819e882e6356cb5e360ad885fc137738efce4d115150e4627f7018945599fd", func := "veilwork/veilworklaw.ActorsClosed", spec := "actorsClosed", unfollowed := true, recurses := true, apart := false }
def ActorsClosedSaid : Prop := actorsClosedRow.holds Try.pinned (OpenSpec.ofChange actorsClosedSpec)

/-- ITS FALSE NEIGHBOUR: 'it returns false'. Refute it at one input. -/
def actorsClosedWrong : ChangeSpec := { name := "actorsClosed", fn := fun _ => fun
  | [d1, d2] => { results := [.lit (.bool false)], args := [d1, d2] }
  | _ => none }
def ActorsClosedWrongFalsely : Prop := actorsClosedRow.holds Try.pinned (OpenSpec.ofChange actorsClosedWrong)

/-- 'veilworklaw.LabelLevels': WHATEVER THE INPUT: true; the input reads as it did. -/
def labelLevelsSpec : ChangeSpec := { name := "labelLevels", fn := fun _ => fun
  | [d1, d2] => { results := [.lit (.bool true)], args := [d1, d2] }
  | _ => none }
def labelLevelsRow : OpenClaim := { program := "ytkiakaohhckepaa", sum := "7b819e882e6356cb5e360ad885fc137738efce4d115150e4627f7018945599fd", func := "veilwork/veilworklaw.LabelLevels", spec := "labelLevels", unfollowed := true, recurses := true, apart := false }
def LabelLevelsSaid : Prop := labelLevelsRow.holds Try.pinned (OpenSpec.ofChange labelLevelsSpec)

/-- ITS FALSE NEIGHBOUR: 'it returns false'. Refute it at one input. -/
def labelLevelsWrong : ChangeSpec := { name := "labelLevels", fn := fun _ => fun
  | [d1, d2] => { results := [.lit (.bool false)], args := [d1, d2] }
  | _ => none }
def LabelLevelsWrongFalsely : Prop := labelLevelsRow.holds Try.pinned (OpenSpec.ofChange labelLevelsWrong)

/-- 'veilworklaw.LabelJoins': WHATEVER THE INPUT: true; the input reads as it did. -/
def labelJoinsSpec : ChangeSpec := { name := "labelJoins", fn := fun _ => fun
  | [d1, d2, d3] => { results := [.lit (.bool true)], args := [d1, d2, d3] }
  | _ => none }
def labelJoinsRow : OpenClaim := { program := "ytkiakaohhckepaa", sum := "7b819e882e6356cb5e360ad885fc137738efce4d115150e4627f7018945599fd", func := "veilwork/veilworklaw.LabelJoins", spec := "labelJoins", unfollowed := true, recurses := true, apart := false }
def LabelJoinsSaid : Prop := labelJoinsRow.holds Try.pinned (OpenSpec.ofChange labelJoinsSpec)

/-- ITS FALSE NEIGHBOUR: 'it returns false'. Refute it at one input. -/
def labelJoinsWrong : ChangeSpec := { name := "labelJoins", fn := fun _ => fun
  | [d1, d2, d3] => { results := [.lit (.bool false)], args := [d1, d2, d3] }
  | _ => none }
def LabelJoinsWrongFalsely : Prop := labelJoinsRow.holds Try.pinned (OpenSpec.ofChange labelJoinsWrong)

/-- 'veilworklaw.LabelOrder': WHATEVER THE INPUT: true; the input reads as it did. -/
def labelOrderSpec : ChangeSpec := { name := "labelOrder", fn := fun _ => fun
  | [d1, d2, d3, d4] => { results := [.lit (.bool true)], args := [d1, d2, d3, d4] }
  | _ => none }
def labelOrderRow : OpenClaim := { program := "ytkiakaohhckepaa", sum := "7b819e882e6356cb5e360ad885fc137738efce4d115150e4627f7018945599fd", func := "veilwork/veilworklaw.LabelOrder", spec := "labelOrder", unfollowed := true, recurses := true, apart := false }
def LabelOrderSaid : Prop := labelOrderRow.holds Try.pinned (OpenSpec.ofChange labelOrderSpec)

/-- ITS FALSE NEIGHBOUR: 'it returns false'. Refute it at one input. -/
def labelOrderWrong : ChangeSpec := { name := "labelOrder", fn := fun _ => fun
  | [d1, d2, d3, d4] => { results := [.lit (.bool false)], args := [d1, d2, d3, d4] }
  | _ => none }
def LabelOrderWrongFalsely : Prop := labelOrderRow.holds Try.pinned (OpenSpec.ofChange labelOrderWrong)

/-- 'veilworklaw.LabelMore': WHATEVER THE INPUT: true; the input reads as it did. -/
def labelMoreSpec : ChangeSpec := { name := "labelMore", fn := fun _ => fun
  | [d1, d2, d3] => { results := [.lit (.bool true)], args := [d1, d2, d3] }
  | _ => none }
def labelMoreRow : OpenClaim := { program := "ytkiakaohhckepaa", sum := "7b819e882e6356cb5e360ad885fc137738efce4d115150e4627f7018945599fd", func := "veilwork/veilworklaw.LabelMore", spec := "labelMore", unfollowed := true, recurses := true, apart := false }
def LabelMoreSaid : Prop := labelMoreRow.holds Try.pinned (OpenSpec.ofChange labelMoreSpec)

/-- ITS FALSE NEIGHBOUR: 'it returns false'. Refute it at one input. -/
def labelMoreWrong : ChangeSpec := { name := "labelMore", fn := fun _ => fun
  | [d1, d2, d3] => { results := [.lit (.bool false)], args := [d1, d2, d3] }
  | _ => none }
def LabelMoreWrongFalsely : Prop := labelMoreRow.holds Try.pinned (OpenSpec.ofChange labelMoreWrong)

/- THE SECOND FORM. 'bulk': how many values and letters a reading holds, each counted each time it is reached (what is shared counts as often as it is met; a slice's spare places count too). A statement '..UptoSaid' is the law's where the arguments, and the package variables that the reading takes, are together of bulk at most 1048576: NARROWER than '..Said'. Prove '..Said' where nothing that the law and all that it calls make is longer than what came in: it says more and counts as full. Else prove '..UptoSaid'. A law counts once. -/
mutual
def uptoBulk {H : Type} : DataW H → Nat
  | .lit (.string bytes) => bytes.length + 1
  | .lit _ => 1
  | .nil => 1
  | .ptr d => uptoBulk d + 1
  | .slice elems spare => uptoBulkAll elems + uptoBulkAll spare + 1
  | .agg parts => uptoBulkAll parts + 1
  | .iface _ d => uptoBulk d + 1
  | .map entries => uptoBulkEntries entries + 1
  | .held _ => 1
def uptoBulkAll {H : Type} : List (DataW H) → Nat
  | [] => 0
  | d :: r => uptoBulk d + uptoBulkAll r
def uptoBulkEntries {H : Type} : List (Lit × DataW H) → Nat
  | [] => 0
  | x :: r => uptoBulkEntry x + uptoBulkEntries r
def uptoBulkEntry {H : Type} : Lit × DataW H → Nat
  | (.string bytes, d) => bytes.length + uptoBulk d + 1
  | (_, d) => uptoBulk d + 1
 end
def uptoSmall : (H : Type) → List (DataW H) → Bool := fun _ ds => decide (uptoBulkAll ds ≤ 1048576)
def OpenSpec.upto (s : _root_.Go.ChangeSpec) : _root_.Go.OpenSpec := { _root_.Go.OpenSpec.ofChange s with cond := some uptoSmall }

/-- 'veilworklaw.ActorsTell', WHERE WHAT IT READS IS OF BULK AT MOST 1048576: true; the input reads as it did. -/
def actorsTellUptoRow : OpenClaim := { program := "ytkiakaohhckepaa", sum := "7b819e882e6356cb5e360ad885fc137738efce4d115150e4627f7018945599fd", func := "veilwork/veilworklaw.ActorsTell", spec := "actorsTell", unfollowed := true, recurses := true, apart := false, narrowed := true }
def ActorsTellUptoSaid : Prop := actorsTellUptoRow.holds Try.pinned (OpenSpec.upto actorsTellSpec)

/-- 'veilworklaw.ActorsClosed', WHERE WHAT IT READS IS OF BULK AT MOST 1048576: true; the input reads as it did. -/
def actorsClosedUptoRow : OpenClaim := { program := "ytkiakaohhckepaa", sum := "7b819e882e6356cb5e360ad885fc137738efce4d115150e4627f7018945599fd", func := "veilwork/veilworklaw.ActorsClosed", spec := "actorsClosed", unfollowed := true, recurses := true, apart := false, narrowed := true }
def ActorsClosedUptoSaid : Prop := actorsClosedUptoRow.holds Try.pinned (OpenSpec.upto actorsClosedSpec)

/-- 'veilworklaw.LabelLevels', WHERE WHAT IT READS IS OF BULK AT MOST 1048576: true; the input reads as it did. -/
def labelLevelsUptoRow : OpenClaim := { program := "ytkiakaohhckepaa", sum := "7b819e882e6356cb5e360ad885fc137738efce4d115150e4627f7018945599fd", func := "veilwork/veilworklaw.LabelLevels", spec := "labelLevels", unfollowed := true, recurses := true, apart := false, narrowed := true }
def LabelLevelsUptoSaid : Prop := labelLevelsUptoRow.holds Try.pinned (OpenSpec.upto labelLevelsSpec)

/-- 'veilworklaw.LabelJoins', WHERE WHAT IT READS IS OF BULK AT MOST 1048576: true; the input reads as it did. -/
def labelJoinsUptoRow : OpenClaim := { program := "ytkiakaohhckepaa", sum := "7b819e882e6356cb5e360ad885fc137738efce4d115150e4627f7018945599fd", func := "veilwork/veilworklaw.LabelJoins", spec := "labelJoins", unfollowed := true, recurses := true, apart := false, narrowed := true }
def LabelJoinsUptoSaid : Prop := labelJoinsUptoRow.holds Try.pinned (OpenSpec.upto labelJoinsSpec)

/-- 'veilworklaw.LabelOrder', WHERE WHAT IT READS IS OF BULK AT MOST 1048576: true; the input reads as it did. -/
def labelOrderUptoRow : OpenClaim := { program := "ytkiakaohhckepaa", sum := "7b819e882e6356cb5e360ad885fc137738efce4d115150e4627f7018945599fd", func := "veilwork/veilworklaw.LabelOrder", spec := "labelOrder", unfollowed := true, recurses := true, apart := false, narrowed := true }
def LabelOrderUptoSaid : Prop := labelOrderUptoRow.holds Try.pinned (OpenSpec.upto labelOrderSpec)

/-- 'veilworklaw.LabelMore', WHERE WHAT IT READS IS OF BULK AT MOST 1048576: true; the input reads as it did. -/
def labelMoreUptoRow : OpenClaim := { program := "ytkiakaohhckepaa", sum := "7b819e882e6356cb5e360ad885fc137738efce4d115150e4627f7018945599fd", func := "veilwork/veilworklaw.LabelMore", spec := "labelMore", unfollowed := true, recurses := true, apart := false, narrowed := true }
def LabelMoreUptoSaid : Prop := labelMoreUptoRow.holds Try.pinned (OpenSpec.upto labelMoreSpec)

end Rows
end Go.Proofs.Ytkiakaohhckepaa
