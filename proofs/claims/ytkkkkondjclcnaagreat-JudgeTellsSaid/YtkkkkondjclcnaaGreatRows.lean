/-
  NARROWER THAN 'FOR EVERY INPUT', by the rows' own cells (each row's printed sentence says how): InferTells: loops · ViewTells: loops · JudgeTells: loops · JudgeKnown: loops.
  DERIVED. THE GIVEN ROWS OF THIS SEAT. 4 by the template 'for every input the law returns true; each argument reads behind the call as it read before'; 0 by the template 'total and deterministic' (their statements: YtkkkkondjclcnaaGreatTotals.lean).
  GIVEN WITH THE SEED: the statements are not yours to turn. If you find one false, say at which input.
  Laid BY PROGRAM, IN A SANDBOX (cutbox-rows.mjs): the forced cells as the released guide's own fill.sh prints them over the translation e15c6f37f4eb9310… (all of the seat's roots in one cut). By AI agents, Wed Nov 11 2026. No macro, syntax, notation, axiom, sorry.
-/
import Derived.Test.YtkkkkondjclcnaaGreatChecked
import GoSem.Claim
import GoSem.ClaimJoined
import GoSem.ClaimMapViews
import Derived.JoinedTies
import Derived.KernelRfl
namespace Go.Proofs.YtkkkkondjclcnaaGreat
/- THE CELL 'sum', in the pinned program and in every row, IS THE sha256 OF THE DUMP (.gsa) THAT YtkkkkondjclcnaaGreatProg.lean LOADS. Nothing in Lean hashes anything: it is a label: what it is worth is what the hold of that sum in a sandbox is worth. -/
noncomputable def Tryz.pinned : Pinned := { name := "ytkkkkondjclcnaagreat", sum := "e15c6f37f4eb9310dfc83f8ef75199f171faf9ef7158e499dcd2278ebdda8041", checked := Tryz.checked }
namespace Rows
def none {H : Type} : Left H := { results := [], args := [] }

/-- 'veilworklaw.InferTells': WHATEVER THE INPUT: true; the input reads as it did. -/
def inferTellsSpec : ChangeSpec := { name := "inferTells", fn := fun _ => fun
  | [d1, d2, d3] => { results := [.lit (.bool true)], args := [d1, d2, d3] }
  | _ => none }
def inferTellsRow : OpenClaim := { program := "ytkkkkondjclcnaagreat", sum := "e15c6f37f4eb9310dfc83f8ef75199f171faf9ef7158e499dcd2278ebdda8041", func := "veilwork/veilworklaw.InferTells", spec := "inferTells", unfollowed := true, recurses := true, loops := true, apart := false }
def InferTellsSaid : Prop := inferTellsRow.holds Tryz.pinned (OpenSpec.ofChange inferTellsSpec)

/-- ITS FALSE NEIGHBOUR: 'it returns false'. Refute it at one input. -/
def inferTellsWrong : ChangeSpec := { name := "inferTells", fn := fun _ => fun
  | [d1, d2, d3] => { results := [.lit (.bool false)], args := [d1, d2, d3] }
  | _ => none }
def InferTellsWrongFalsely : Prop := inferTellsRow.holds Tryz.pinned (OpenSpec.ofChange inferTellsWrong)

/-- 'veilworklaw.ViewTells': WHATEVER THE INPUT: true; the input reads as it did. -/
def viewTellsSpec : ChangeSpec := { name := "viewTells", fn := fun _ => fun
  | [d1, d2, d3, d4, d5] => { results := [.lit (.bool true)], args := [d1, d2, d3, d4, d5] }
  | _ => none }
def viewTellsRow : OpenClaim := { program := "ytkkkkondjclcnaagreat", sum := "e15c6f37f4eb9310dfc83f8ef75199f171faf9ef7158e499dcd2278ebdda8041", func := "veilwork/veilworklaw.ViewTells", spec := "viewTells", unfollowed := true, recurses := true, loops := true, apart := false }
def ViewTellsSaid : Prop := viewTellsRow.holds Tryz.pinned (OpenSpec.ofChange viewTellsSpec)

/-- ITS FALSE NEIGHBOUR: 'it returns false'. Refute it at one input. -/
def viewTellsWrong : ChangeSpec := { name := "viewTells", fn := fun _ => fun
  | [d1, d2, d3, d4, d5] => { results := [.lit (.bool false)], args := [d1, d2, d3, d4, d5] }
  | _ => none }
def ViewTellsWrongFalsely : Prop := viewTellsRow.holds Tryz.pinned (OpenSpec.ofChange viewTellsWrong)

/-- 'veilworklaw.JudgeTells': WHATEVER THE INPUT: true; the input reads as it did. -/
def judgeTellsSpec : ChangeSpec := { name := "judgeTells", fn := fun _ => fun
  | [d] => { results := [.lit (.bool true)], args := [d] }
  | _ => none }
def judgeTellsRow : OpenClaim := { program := "ytkkkkondjclcnaagreat", sum := "e15c6f37f4eb9310dfc83f8ef75199f171faf9ef7158e499dcd2278ebdda8041", func := "veilwork/veilworklaw.JudgeTells", spec := "judgeTells", unfollowed := true, recurses := true, loops := true, apart := false }
def JudgeTellsSaid : Prop := judgeTellsRow.holds Tryz.pinned (OpenSpec.ofChange judgeTellsSpec)

/-- ITS FALSE NEIGHBOUR: 'it returns false'. Refute it at one input. -/
def judgeTellsWrong : ChangeSpec := { name := "judgeTells", fn := fun _ => fun
  | [d] => { results := [.lit (.bool false)], args := [d] }
  | _ => none }
def JudgeTellsWrongFalsely : Prop := judgeTellsRow.holds Tryz.pinned (OpenSpec.ofChange judgeTellsWrong)

/-- 'veilworklaw.JudgeKnown': WHATEVER THE INPUT: true; the input reads as it did. -/
def judgeKnownSpec : ChangeSpec := { name := "judgeKnown", fn := fun _ => fun
  | [d] => { results := [.lit (.bool true)], args := [d] }
  | _ => none }
def judgeKnownRow : OpenClaim := { program := "ytkkkkondjclcnaagreat", sum := "e15c6f37f4eb9310dfc83f8ef75199f171faf9ef7158e499dcd2278ebdda8041", func := "veilwork/veilworklaw.JudgeKnown", spec := "judgeKnown", unfollowed := true, recurses := true, loops := true, apart := false }
def JudgeKnownSaid : Prop := judgeKnownRow.holds Tryz.pinned (OpenSpec.ofChange judgeKnownSpec)

/-- ITS FALSE NEIGHBOUR: 'it returns false'. Refute it at one input. -/
def judgeKnownWrong : ChangeSpec := { name := "judgeKnown", fn := fun _ => fun
  | [d] => { results := [.lit (.bool false)], args := [d] }
  | _ => none }
def JudgeKnownWrongFalsely : Prop := judgeKnownRow.holds Tryz.pinned (OpenSpec.ofChange judgeKnownWrong)

/- THE SECOND FORM. 'bulk': how many values and letters a reading holds, each counted each time it is reached (what is shared counts as often as it is met; a slice's spare places count too). A statement '..UptoSaid' is the law's where the arguments, and the package variables that the reading takes, are together of bulk at most 1048576: NARROWER than '..Said'. Prove '..Said' where nothing that the law and all that it calls make is longer than what came in: it says more and counts as full. Else prove '..UptoSaid'. A law counts once. -/
mutual
def uptoBulk {H : Type} : DataW H → Nat
  | .lit (.string bytes) => bytes.length + 1
  | .lit _ => 1
  | .nil => 1
  | .ptr d => uptoBulk d + 1
  | .slice elems spare => uptoBulkAll elems + uptoBulkAll spare + 1
  | .agg parts => uptoBulkAll parts + 1
  | .iface _ d => uptoBulk d + 1
  | .map entries => uptoBulkEntries entries + 1
  | .held _ => 1
def uptoBulkAll {H : Type} : List (DataW H) → Nat
  | [] => 0
  | d :: r => uptoBulk d + uptoBulkAll r
def uptoBulkEntries {H : Type} : List (Lit × DataW H) → Nat
  | [] => 0
  | x :: r => uptoBulkEntry x + uptoBulkEntries r
def uptoBulkEntry {H : Type} : Lit × DataW H → Nat
  | (.string bytes, d) => bytes.length + uptoBulk d + 1
  | (_, d) => uptoBulk d + 1
 end
def uptoSmall : (H : Type) → List (DataW H) → Bool := fun _ ds => decide (uptoBulkAll ds ≤ 1048576)
def OpenSpec.upto (s : _root_.Go.ChangeSpec) : _root_.Go.OpenSpec := { _root_.Go.OpenSpec.ofChange s with cond := some uptoSmall }

/-- 'veilworklaw.InferTells', WHERE WHAT IT READS IS OF BULK AT MOST 1048576: true; the input reads as it did. -/
def inferTellsUptoRow : OpenClaim := { program := "ytkkkkondjclcnaagreat", sum := "e15c6f37f4eb9310dfc83f8ef75199f171faf9ef7158e499dcd2278ebdda8041", func := "veilwork/veilworklaw.InferTells", spec := "inferTells", unfollowed := true, recurses := true, loops := true, apart := false, narrowed := true }
def InferTellsUptoSaid : Prop := inferTellsUptoRow.holds Tryz.pinned (OpenSpec.upto inferTellsSpec)

/-- 'veilworklaw.ViewTells', WHERE WHAT IT READS IS OF BULK AT MOST 1048576: true; the input reads as it did. -/
def viewTellsUptoRow : OpenClaim := { program := "ytkkkkondjclcnaagreat", sum := "e15c6f37f4eb9310dfc83f8ef75199f171faf9ef7158e499dcd2278ebdda8041", func := "veilwork/veilworklaw.ViewTells", spec := "viewTells", unfollowed := true, recurses := true, loops := true, apart := false, narrowed := true }
def ViewTellsUptoSaid : Prop := viewTellsUptoRow.holds Tryz.pinned (OpenSpec.upto viewTellsSpec)

/-- 'veilworklaw.JudgeTells', WHERE WHAT IT READS IS OF BULK AT MOST 1048576: true; the input reads as it did. -/
def judgeTellsUptoRow : OpenClaim := { program := "ytkkkkondjclcnaagreat", sum := "e15c6f37f4eb9310dfc83f8ef75199f171faf9ef7158e499dcd2278ebdda8041", func := "veilwork/veilworklaw.JudgeTells", spec := "judgeTells", unfollowed := true, recurses := true, loops := true, apart := false, narrowed := true }
def JudgeTellsUptoSaid : Prop := judgeTellsUptoRow.holds Tryz.pinned (OpenSpec.upto judgeTellsSpec)

/-- 'veilworklaw.JudgeKnown', WHERE WHAT IT READS IS OF BULK AT MOST 1048576: true; the input reads as it did. -/
def judgeKnownUptoRow : OpenClaim := { program := "ytkkkkondjclcnaagreat", sum := "e15c6f37f4eb9310dfc83f8ef75199f171faf9ef7158e499dcd2278ebdda8041", func := "veilwork/veilworklaw.JudgeKnown", spec := "judgeKnown", unfollowed := true, recurses := true, loops := true, apart := false, narrowed := true }
def JudgeKnownUptoSaid : Prop := judgeKnownUptoRow.holds Tryz.pinned (OpenSpec.upto judgeKnownSpec)

end Rows
end Go.Proofs.YtkkkkondjclcnaaGreat
