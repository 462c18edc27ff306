/- JudgeKnown: of a program that is fine, all that is asked of variables that are known holds, too. For every input; nothing is assumed. -/
import Derived.Test.YtkkkkondjclcnaaGreatKnowF
import Derived.Test.YtkkkkondjclcnaaGreatJudgeKnownRow
set_option linter.unusedSectionVars false
set_option linter.unusedVariables false
set_option linter.unusedSimpArgs false
namespace Go.Proofs.YtkkkkondjclcnaaGreat
open A Go
theorem judgeKnown_proved:Rows.JudgeKnownSaid:=by
 obtain ⟨L⟩:=MI
 refine E9 fun ys hg=>?_
 obtain ⟨p,hv,rfl⟩:=hg
 have hp:∀ f∈p.Funcs,f.Params.length≤9223372036854775807:=fun f hf=>Nat.le_trans (hv.2.2.2.2.2.1.2 f hf).1.1 (by decide)
 exact PV p hp
end Go.Proofs.YtkkkkondjclcnaaGreat
