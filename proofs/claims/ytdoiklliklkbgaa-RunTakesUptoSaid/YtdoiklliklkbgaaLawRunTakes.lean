/- RunTakes: what is not taken does not matter: other numbers behind what was taken change nothing. For every input whose bulk is at most 1048576. -/
import Derived.Test.YtdoiklliklkbgaaRunT
import Derived.Test.YtdoiklliklkbgaaRunTakesRow
set_option linter.unusedSectionVars false
set_option linter.unusedVariables false
set_option linter.unusedSimpArgs false
namespace Go.Proofs.Ytdoiklliklkbgaa.A
open Go
theorem bulk_ints : ∀ l : List Int, AV.bulkL (l.map (AV.i .i64)) = l.length
  | [] => rfl
  | x :: l => by rw [List.map_cons, AV.bulkL, bulk_ints l, AV.bulk, List.length_cons]; omega
theorem bulk_lists : ∀ (l : List (List Int)) (x : List Int), x ∈ l → x.length ≤ AV.bulkL (l.map (eLs 3 (AV.i .i64)))
  | y :: l, x, h => by
    rw [List.map_cons, AV.bulkL]
    have hy : AV.bulk (eLs 3 (AV.i .i64) y) = y.length + 1 := by unfold eLs; rw [AV.bulk, bulk_ints]
    rcases List.mem_cons.1 h with rfl | h
    · omega
    · have := bulk_lists l x h; omega
end Go.Proofs.Ytdoiklliklkbgaa.A
namespace Go.Proofs.Ytdoiklliklkbgaa
open A Go
/-- RunTakes, where what comes is of bulk at most 1048576. -/
theorem runTakes_proved : Rows.RunTakesUptoSaid := by
  obtain ⟨L⟩ := lp_exists
  refine rowU_RunTakes fun ys hg hb => ?_
  obtain ⟨p, ins, others, fuel, hv, _, _, _, rfl⟩ := hg
  have hp : ∀ f ∈ p.Funcs, f.Params.length ≤ 9223372036854775807 := fun f hf => Nat.le_trans (hv.2.2.2.2.2.1.2 f hf).1.1 (by decide)
  refine lift_L_RunTakes p ins others fuel true (law_RunTakes p ins others fuel hp fun l hl => ?_)
  have h1 := bulk_lists others l hl
  simp only [AV.bulkL, AV.bulk] at hb
  omega
end Go.Proofs.Ytdoiklliklkbgaa
