/- Runs: the document's comparing of runs, of equal ones. -/
import Derived.Test.YtdoiklliklkbgaaRunR
import Derived.Test.YtdoiklliklkbgaaB
set_option linter.unusedSectionVars false
set_option linter.unusedVariables false
set_option linter.unusedSimpArgs false
set_option linter.constructorNameAsVariable false
namespace Go.Proofs.Ytdoiklliklkbgaa.A
open Go
variable [Lp]
theorem sameEvents_self {a : List Event} (h : a.length ≤ 9223372036854775807) : F_R_SameEvents a a = some true := by
  unfold F_R_SameEvents
  rw [if_neg (by simp)]
  have := lp_all (B := fun v => B_R_SameEvents_0 a a v) a.length (fun k => k) (x := .inr (a.length, false)) (fun k hk => by
    unfold B_R_SameEvents_0
    rw [if_pos (by omega), List.getElem?_eq_getElem hk, Option.bind_some, Option.bind_some, if_pos (by simp), if_pos (w64s (by omega))]) (by
    unfold B_R_SameEvents_0
    rw [if_neg (by omega), decide_eq_false (by omega)])
  rw [this]; rfl
theorem sameInts_self {a : List Int} (h : a.length ≤ 9223372036854775807) : F_R_SameInts a a = some true := by
  unfold F_R_SameInts
  rw [if_neg (by simp)]
  have := lp_all (B := fun v => B_R_SameInts_0 a a v) a.length (fun k => k) (x := .inr (a.length, false)) (fun k hk => by
    unfold B_R_SameInts_0
    rw [if_pos (by omega), List.getElem?_eq_getElem hk, Option.bind_some, Option.bind_some, if_neg (by simp), if_pos (w64s (by omega))]) (by
    unfold B_R_SameInts_0
    rw [if_neg (by omega), decide_eq_false (by omega)])
  rw [this]; rfl
theorem sameRun_self {r : RunT} (h1 : r.Events.length ≤ 9223372036854775807) (h2 : r.Vars.length ≤ 9223372036854775807) (h3 : r.Taken.length ≤ 9223372036854775807) : F_R_SameRun r r = some true := by
  unfold F_R_SameRun D_R_SameRun_j1 D_R_SameRun_j2
  rw [sameEvents_self h1, sameInts_self h2, sameInts_self h3]
  simp
theorem comes_small {p : Program} {ins : List (List Int)} {fuel : Int} (h : readyS p ins fuel = 0) {r : RunT} (hr : Comes (ctxOf p ins fuel) (begin_ p) r) : Kept p.Vars.length p.Ins.length r ∧ r.Events.length ≤ 2000 ∧ p.Vars.length ≤ 16 ∧ p.Ins.length ≤ 5 ∧ (r.End = 1 ∨ r.End = 2) := by
  have hX := okX_of h
  have hf := hX.fuel
  obtain ⟨k1, k2, k3⟩ := hr.kept (init_kept p) (by show (0 : Int) ≤ _; omega)
  have := k1.evs
  exact ⟨k1, by omega, hX.ok.vars, hX.ok.ins, k3⟩
end Go.Proofs.Ytdoiklliklkbgaa.A
