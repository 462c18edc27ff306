/- TokenScans: Scan answers just what the document says, and the same place, whatever text it is handed. For every input; nothing is assumed. -/
import Derived.Test.YthfllmkfgdknkaaTokL
import Derived.Test.YthfllmkfgdknkaaFTokenScans
import Derived.Test.YthfllmkfgdknkaaTokenScansRow
set_option linter.unusedSectionVars false
set_option linter.unusedVariables false
set_option linter.unusedSimpArgs false
namespace Go.Proofs.Ythfllmkfgdknkaa.A
open Go
theorem law_TokenScans [Lp] (s : List UInt8) : F_L_TokenScans s = some true := by
  unfold F_L_TokenScans
  simp only [F_scan, R_scan, F_begunT, Option.bind_some, if_true, beq_self_eq_true, F_same_self _ true (Nat.le_trans (scanS_len s) (by decide))]
end Go.Proofs.Ythfllmkfgdknkaa.A
namespace Go.Proofs.Ythfllmkfgdknkaa
open A Go
/-- TokenScans, as it is given. -/
theorem tokenScans_proved : Rows.TokenScansSaid := by
  obtain ⟨L⟩ := lp_exists
  refine row_TokenScans fun ys hg => ?_
  obtain ⟨s, _, rfl⟩ := hg
  exact lift_L_TokenScans s true (law_TokenScans s)
end Go.Proofs.Ythfllmkfgdknkaa
