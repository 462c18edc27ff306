/- LabelLevels: Check and Level answer just what the document says, errors too, whatever they are handed. For every input; nothing is assumed. -/
import Derived.Test.YtkiakaohhckepaaLabelH
import Derived.Test.YtkiakaohhckepaaFLabelLevels
import Derived.Test.YtkiakaohhckepaaLabelLevelsRow
set_option linter.unusedSectionVars false
set_option linter.unusedVariables false
set_option linter.unusedSimpArgs false
namespace Go.Proofs.Ytkiakaohhckepaa.A
open Go
section
variable [Lp]
theorem law_LabelLevels (a : Actors) (l : Label) : F_L_LabelLevels a l = some true := by
  unfold F_L_LabelLevels
  simp only [F_level, F_checkActors, F_begunL, F_labelCheck, Option.bind_some, if_true]
  by_cases hok : checkA a = 0
  · have hm := many_of hok
    obtain ⟨h1, h2, _⟩ := checkA_ok hok
    simp only [hok, beq_self_eq_true, if_true, F_checkLabel a ⟨h1, h2⟩, Option.bind_some]
    have hE : labelE a l = fitsE a.Many l := by simp [labelE, hok]
    rw [hE]
    by_cases hf : fitsE a.Many l = 0
    · obtain ⟨s1, s2⟩ := sized_level a l
      simp only [hf, beq_self_eq_true, if_true, F_levelOf a hok l hf, Option.bind_some, F_levelIs (levelOf a l) (levelOf a l) 0 0 (by omega) rfl (fun h => absurd rfl h) (fun _ => rfl)]
    · have hb : (fitsE a.Many l == 0) = false := by simpa using hf
      simp only [hb, hf, beq_self_eq_true, if_false, if_true, Bool.false_eq_true, Option.bind_some, F_levelIs ⟨[], []⟩ ⟨[], []⟩ (fitsE a.Many l) (fitsE a.Many l) (by simp) rfl (fun _ => rfl) (fun _ => rfl)]
  · have hb : (checkA a == 0) = false := by simpa using hok
    have hE : labelE a l = checkA a := by simp [labelE, hok]
    simp only [hE, hb, hok, beq_self_eq_true, if_false, if_true, Bool.false_eq_true, Option.bind_some, F_levelIs ⟨[], []⟩ ⟨[], []⟩ (checkA a) (checkA a) (by simp) rfl (fun _ => rfl) (fun _ => rfl)]
end
end Go.Proofs.Ytkiakaohhckepaa.A
namespace Go.Proofs.Ytkiakaohhckepaa
open A Go
/-- LabelLevels, as it is given. -/
theorem labelLevels_proved : Rows.LabelLevelsSaid := by
  obtain ⟨L⟩ := lp_exists
  refine row_LabelLevels fun ys hg => ?_
  obtain ⟨a, l, _, _, rfl⟩ := hg
  exact lift_L_LabelLevels a l true (law_LabelLevels a l)
end Go.Proofs.Ytkiakaohhckepaa
