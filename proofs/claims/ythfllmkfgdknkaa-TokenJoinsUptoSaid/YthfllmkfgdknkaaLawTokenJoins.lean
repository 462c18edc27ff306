/- TokenJoins: Join answers just what the document says, errors too, whatever tokens it is handed. -/
import Derived.Test.YthfllmkfgdknkaaTokJ
import Derived.Test.YthfllmkfgdknkaaFTokenJoins
import Derived.Test.YthfllmkfgdknkaaTokenJoinsRow
set_option linter.unusedSectionVars false
set_option linter.unusedVariables false
set_option linter.unusedSimpArgs false
namespace Go.Proofs.Ythfllmkfgdknkaa.A
open Go
theorem bulk_tokens [Lp] : ∀ l : List Token, AV.bulkL (l.map eToken) = wsum l
  | [] => rfl
  | t :: l => by
    rw [List.map_cons, wsum_cons, AV.bulkL, bulk_tokens l]
    show (0 + (0 + (t.Text.length + 1 + 0))) + wsum l = _
    omega
theorem law_TokenJoins [Lp] (l : List Token) (h : wsum l ≤ 1048576) : F_L_TokenJoins l = some true := by
  unfold F_L_TokenJoins
  rw [F_join l h, R_join l h, F_begunT]
  simp
end Go.Proofs.Ythfllmkfgdknkaa.A
namespace Go.Proofs.Ythfllmkfgdknkaa
open A Go
/-- TokenJoins, where what comes is of bulk at most 1048576. -/
theorem tokenJoins_proved : Rows.TokenJoinsUptoSaid := by
  obtain ⟨L⟩ := lp_exists
  refine rowU_TokenJoins fun ys hg hb => ?_
  obtain ⟨l, _, rfl⟩ := hg
  have h1 : AV.bulkL (l.map eToken) + 1 + 0 ≤ 1048576 := hb
  rw [bulk_tokens] at h1
  exact lift_L_TokenJoins l true (law_TokenJoins l (by omega))
end Go.Proofs.Ythfllmkfgdknkaa
