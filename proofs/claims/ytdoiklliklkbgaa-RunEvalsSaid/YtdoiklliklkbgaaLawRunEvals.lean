/- RunEvals: Eval answers just what the document says, errors too, whatever it is handed. For every input; nothing is assumed. -/
import Derived.Test.YtdoiklliklkbgaaEvalP
import Derived.Test.YtdoiklliklkbgaaFRunEvals
import Derived.Test.YtdoiklliklkbgaaRunEvalsRow
set_option linter.unusedSectionVars false
set_option linter.unusedVariables false
set_option linter.unusedSimpArgs false
namespace Go.Proofs.Ytdoiklliklkbgaa.A
open Go
theorem law_RunEvals [Lp] (e : ExprT) (vs : List Int) (hl : vs.length ≤ maxLen) : F_L_RunEvals e vs = some true := by
  have hl' : vs.length ≤ 9223372036854775807 := Nat.le_trans hl (by decide)
  unfold F_L_RunEvals D_L_RunEvals_d0
  rw [eval_is hl', Option.bind_some, checkEval_is hl', Option.bind_some]
  have hb : F_L_runBegun = some true := rfl
  simp only [hb, Option.bind_some, if_true]
  by_cases h : evalS e vs = 0
  · obtain ⟨o1, o2⟩ := ok_of h
    rw [if_pos (by simp [h]), valueR_is o1 o2]
    simp [h]
  · rw [if_neg (by simp [h])]
    simp [h]
end Go.Proofs.Ytdoiklliklkbgaa.A
namespace Go.Proofs.Ytdoiklliklkbgaa
open A Go
/-- RunEvals, as it is given. -/
theorem runEvals_proved : Rows.RunEvalsSaid := by
  obtain ⟨L⟩ := lp_exists
  refine row_RunEvals fun ys hg => ?_
  obtain ⟨e, vs, _, hv, rfl⟩ := hg
  have := lift_L_RunEvals e vs true (law_RunEvals e vs hv.1)
  rw [eExprT_eq]
  exact this
end Go.Proofs.Ytdoiklliklkbgaa
