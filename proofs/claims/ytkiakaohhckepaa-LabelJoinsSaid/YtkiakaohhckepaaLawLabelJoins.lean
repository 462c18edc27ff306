/- LabelJoins: Right, Flows, Join and Meet answer just what the document says, errors too, whatever they are handed. For every input; nothing is assumed. -/
import Derived.Test.YtkiakaohhckepaaLabelH
import Derived.Test.YtkiakaohhckepaaFLabelJoins
import Derived.Test.YtkiakaohhckepaaLabelJoinsRow
set_option linter.unusedSectionVars false
set_option linter.unusedVariables false
set_option linter.unusedSimpArgs false
namespace Go.Proofs.Ytkiakaohhckepaa.A
open Go
section
variable [Lp]
theorem law_LabelJoins (a : Actors) (l m : Level) : F_L_LabelJoins a l m = some true := by
  unfold F_L_LabelJoins
  simp only [F_flows, F_join, F_meet, F_checkActors, F_begunL, F_right, F_checkLevel, Option.bind_some, if_true]
  have hz : ∀ e : Int, F_L_levelIs L0 e e ⟨[], []⟩ = some true := fun e => F_levelIs L0 ⟨[], []⟩ e e (by simp [L0]) rfl (fun _ => rfl) (fun _ => rfl)
  by_cases hok : checkA a = 0
  · have hm := many_of hok
    have r1 : readyE a [l] = if sizedE a l = true then 0 else 1 := by cases hs : sizedE a l <;> simp [readyE, hok, hs]
    have r2 : readyE a [l, m] = if sizedE a l = true ∧ sizedE a m = true then 0 else 1 := by cases hs : sizedE a l <;> cases hs' : sizedE a m <;> simp [readyE, hok, hs, hs']
    rw [r1, r2]
    simp only [hok, beq_self_eq_true, if_true]
    cases hs : sizedE a l with
    | false => simp [hz]
    | true =>
      cases hs' : sizedE a m with
      | false => simp [hz]
      | true =>
        have hr : readyE a [l, m] = 0 := by rw [r2]; simp [hs, hs']
        obtain ⟨_, hsz⟩ := readyE_ok hr
        have h1 := hsz l (by simp)
        have h2 := hsz m (by simp)
        obtain ⟨j1, j2⟩ := sized_join a.Many.toNat l m
        obtain ⟨k1, k2⟩ := sized_meet a.Many.toNat l m
        have e1 := F_levelIs (joinL a.Many.toNat l m) (joinL a.Many.toNat l m) 0 0 (by omega) rfl (fun h => absurd rfl h) (fun _ => rfl)
        have e2 := F_levelIs (meetL a.Many.toNat l m) (meetL a.Many.toNat l m) 0 0 (by omega) rfl (fun h => absurd rfl h) (fun _ => rfl)
        simp [F_flowsTo (n := a.Many.toNat) (by omega) h1 h2, F_joinLevels (n := a.Many.toNat) (by omega) h1 h2, F_meetLevels (n := a.Many.toNat) (by omega) h1 h2, e1, e2]
  · have hb : (checkA a == 0) = false := by simpa using hok
    have r1 : readyE a [l] = checkA a := by simp [readyE, hok]
    have r2 : readyE a [l, m] = checkA a := by simp [readyE, hok]
    rw [r1, r2]
    simp [hb, hok, hz]
end
end Go.Proofs.Ytkiakaohhckepaa.A
namespace Go.Proofs.Ytkiakaohhckepaa
open A Go
/-- LabelJoins, as it is given. -/
theorem labelJoins_proved : Rows.LabelJoinsSaid := by
  obtain ⟨L⟩ := lp_exists
  refine row_LabelJoins fun ys hg => ?_
  obtain ⟨a, l, m, _, _, _, rfl⟩ := hg
  exact lift_L_LabelJoins a l m true (law_LabelJoins a l m)
end Go.Proofs.Ytkiakaohhckepaa
