/- Runs: the document's comparing of runs, of equal ones. -/
import Derived.Test.YtdoiklliklkbgaaRunR
import Derived.Test.YtdoiklliklkbgaaB
set_option linter.unusedSectionVars false
set_option linter.unusedVariables false
set_option linter.unusedSimpArgs false
set_option linter.constructorNameAsVariable false
namespace Go.Proofs.Ytdoiklliklkbgaa.A
open Go
variable [Lp]
theorem sameEvents_self {a : List Event} (h : a.length ≤ 9223372036854775807) : F_R_SameEvents a a = some true := by
  unfold F_R_SameEvents
  rw [if_neg (by simp)]
  have := lp_all (B := fun v => B_R_SameEvents_0 a a v) a.length (fun k => k) (x := .inr (a.length, false)) (fun k hk => by
    unfold B_R_SameEvents_0
    rw [if_pos (by omega), List.getElem?_eq_getElem hk, Option.bind_some, Option.bind_some, if_pos (by simp), if_pos (w64s (by omega))]) (by
    unfold B_R_SameEvents_0
    rw [if_neg (by omega), decide_eq_false (by omega)])
  rw [this]; rfl
theorem sameInts_self {a : List Int} (h : a.length ≤ 9223372036854775807) : F_R_SameInts a a = some true := by
  unfold F_R_SameInts
  rw [if_neg (by simp)]
  have := lp_all (B := fun v => B_R_SameInts_0 a a v) a.length (fun k => k) (x := .inr (a.length, false)) (fun k hk => by
    unfold B_R_SameInts_0
    rw [if_pos (by omega), List.getElem?_eq_getElem hk, Option.bind_some, Option.bind_some, if_neg (by simp), if_pos (w64s (by omega))]) (by
    unfold B_R_SameInts_0
    rw [if_neg (by omega), decide_eq_false (by omega)])
  rw [this]; rfl
theorem sameRun_self {r : RunT} (h1 : r.Events.length ≤ 9223372036854775807) (h2 : r.Vars.length ≤ 9223372036854775807) (h3 : r.Taken.length ≤ 9223372036854775807) : F_R_SameRun r r = some true := by
  unfold F_R_SameRun D_R_SameRun_j1 D_R_SameRun_j2
  rw [sameEvents_self h1, sameInts_self h2, sameInts_self h3]
  simp
theorem begins_is {a es : List Event} (h : (a ++ es).length ≤ 9223372036854775807) : F_L_begins a (a ++ es) = some true := by
  unfold F_L_begins
  have hl : a.length ≤ (a ++ es).length := by rw [List.length_append]; omega
  rw [if_pos (by omega), if_pos hl, List.drop_zero, List.take_left, sameEvents_self (by omega)]; rfl
theorem comes_small {p : Program} {ins : List (List Int)} {fuel : Int} (h : readyS p ins fuel = 0) {r : RunT} (hr : Comes (ctxOf p ins fuel) (begin_ p) r) : Kept p.Vars.length p.Ins.length r ∧ r.Events.length ≤ 2000 ∧ p.Vars.length ≤ 16 ∧ p.Ins.length ≤ 5 ∧ (r.End = 1 ∨ r.End = 2) := by
  have hX := okX_of h
  have hf := hX.fuel
  obtain ⟨k1, k2, k3⟩ := hr.kept (init_kept p) (by show (0 : Int) ≤ _; omega)
  have := k1.evs
  exact ⟨k1, by omega, hX.ok.vars, hX.ok.ins, k3⟩
theorem law_RunMore (p : Program) (ins : List (List Int)) (fuel more_ : Int) (hp : ∀ f ∈ p.Funcs, f.Params.length ≤ 9223372036854775807) : F_L_RunMore p ins fuel more_ = some true := by
  unfold F_L_RunMore
  have hb : F_L_runBegun = some true := rfl
  obtain ⟨a1, a2⟩ := run_is (ins := ins) (fuel := fuel) hp
  obtain ⟨b1, b2⟩ := run_is (ins := ins) (fuel := more_) hp
  by_cases hy : readyS p ins more_ = 0
  rotate_left
  · rw [b1 hy, hb]
    by_cases hx : readyS p ins fuel = 0
    · obtain ⟨r, hr, _⟩ := a2 hx
      rw [hr]
      simp [hy]
    · rw [a1 hx]
      simp [hx]
  obtain ⟨s, hs, hs2⟩ := b2 hy
  by_cases hx : readyS p ins fuel = 0
  rotate_left
  · rw [a1 hx, hs, hb]
    simp [hx]
  obtain ⟨r, hr, hr2⟩ := a2 hx
  rw [hr, hs, hb]
  simp only [Option.bind_some, if_true, bne_self_eq_false, Bool.false_eq_true, if_false]
  by_cases hlt : more_ < fuel
  · rw [if_pos hlt]
  rw [if_neg hlt]
  obtain ⟨c1, c2, c3, c4, c5⟩ := comes_small hx hr2
  obtain ⟨d1, d2, d3, d4, d5⟩ := comes_small hy hs2
  have hfu : (0 : Int) ≤ fuel := (okX_of hx).fuel.1
  rcases more (X := ctxOf p ins fuel) (Y := ctxOf p ins more_) rfl rfl rfl (by show fuel ≤ more_; omega) (c := begin_ p) rfl (by show (0 : Int) ≤ fuel; exact hfu) hr2 hs2 with ⟨g1, rfl⟩ | ⟨g1, g2, es, g3⟩
  · rw [if_pos (by simp [g1]), sameRun_self (by omega) (by rw [c1.vars]; omega) (by rw [c1.taken]; omega)]; rfl
  · have g2' : r.Steps = fuel := g2
    rw [if_neg (by simp [g1]), if_pos (by simp [g1]), if_pos (by simp [g2']), g3, begins_is (by rw [← g3]; omega)]; rfl
end Go.Proofs.Ytdoiklliklkbgaa.A
