/- Programs: their check answers as plain mathematics says. -/
import Derived.Test.YtdoiklliklkbgaaScopeQ
set_option linter.unusedSectionVars false
set_option linter.unusedVariables false
set_option linter.unusedSimpArgs false
set_option linter.constructorNameAsVariable false
namespace Go.Proofs.Ytdoiklliklkbgaa.A
open Go
variable [Lp]
theorem j1_is (p : Program) : ((D_scope_head_j1 p) = some (if 16 < p.Vars.length ∨ 5 < p.Ins.length ∨ 5 < p.Outs.length ∨ 5 < p.Funcs.length then .inl () else .inr ())) := by
  unfold D_scope_head_j1 D_scope_head_j2
  by_cases h1 : 16 < p.Vars.length
  · have : (16 : Int) < (p.Vars.length : Int) := by omega
    simp [h1, this]
  have h1' : ¬ (16 : Int) < (p.Vars.length : Int) := by omega
  by_cases h2 : 5 < p.Ins.length
  · have : (5 : Int) < (p.Ins.length : Int) := by omega
    simp [h1, h1', h2, this]
  have h2' : ¬ (5 : Int) < (p.Ins.length : Int) := by omega
  by_cases h3 : 5 < p.Outs.length
  · have : (5 : Int) < (p.Outs.length : Int) := by omega
    simp [h1, h1', h2, h2', h3, this]
  have h3' : ¬ (5 : Int) < (p.Outs.length : Int) := by omega
  by_cases h4 : 5 < p.Funcs.length
  · have : (5 : Int) < (p.Funcs.length : Int) := by omega
    simp [h1, h1', h2, h2', h3, h3', h4, this]
  have h4' : ¬ (5 : Int) < (p.Funcs.length : Int) := by omega
  simp [h1, h1', h2, h2', h3, h3', h4, h4']
theorem fits_len {m : Int} {l : Label} (h : fitsE m l = 0) : l.Read.length ≤ 4 ∧ l.Write.length ≤ 4 := ⟨(listE_ok (fitsE_ok h).1).1, (listE_ok (fitsE_ok h).2).1⟩
theorem head_is (p : Program) : F_scope_head p = some (headS p) := by
  unfold F_scope_head headS
  rw [F_check, Option.bind_some]
  by_cases a1 : checkA p.Actors = 0
  rotate_left
  · rw [if_pos (show (checkA p.Actors != 0) = true by simp [a1]), if_pos a1]
  rw [if_neg (show ¬ (checkA p.Actors != 0) = true by simp [a1]), if_neg (show ¬ checkA p.Actors ≠ 0 from fun h => h a1), j1_is, Option.bind_some]
  obtain ⟨c1, c2, c3, c4⟩ := checkA_ok a1
  by_cases a2 : 16 < p.Vars.length ∨ 5 < p.Ins.length ∨ 5 < p.Outs.length ∨ 5 < p.Funcs.length
  · have : 16 < p.Vars.length ∨ 5 < p.Ins.length ∨ 5 < p.Outs.length ∨ 5 < p.Funcs.length ∨ p.Actors.Many < (p.Speak.length : Int) := by omega
    rw [if_pos a2, if_pos this]
  rw [if_neg a2]
  simp only
  by_cases a3 : p.Actors.Many < (p.Speak.length : Int)
  · have : 16 < p.Vars.length ∨ 5 < p.Ins.length ∨ 5 < p.Outs.length ∨ 5 < p.Funcs.length ∨ p.Actors.Many < (p.Speak.length : Int) := by omega
    rw [if_pos a3, if_pos this]
  have a4 : ¬ (16 < p.Vars.length ∨ 5 < p.Ins.length ∨ 5 < p.Outs.length ∨ 5 < p.Funcs.length ∨ p.Actors.Many < (p.Speak.length : Int)) := by omega
  rw [if_neg a3, if_neg a4]
  have hs : F_slices_ContainsFunc__scope_head_1 p.Speak p = some (p.Speak.any (fun n => !inRange p.Actors.Many n)) := find_any (fun y => F_scope_head_1 y p) _ p.Speak (by omega) (fun y _ => by simp [F_scope_head_1, F_is])
  rw [hs, Option.bind_some]
  cases a5 : p.Speak.any (fun n => !inRange p.Actors.Many n) with
  | true => rfl
  | false =>
    simp only [Bool.false_eq_true, if_false]
    rw [concat_is _ _ (by omega) (by omega), Option.bind_some]
    obtain ⟨x, hx, e1, e2⟩ := lp_err (B := fun v => B_scope_head_0 p (p.Ins ++ p.Outs) v) (p.Ins ++ p.Outs) (fitsE p.Actors.Many) (fun k hk => by
      unfold B_scope_head_0
      rw [if_pos (by omega), List.getElem?_eq_getElem hk, Option.bind_some, F_fits, Option.bind_some]
      rw [List.length_append] at hk
      by_cases h0 : fitsE p.Actors.Many (p.Ins ++ p.Outs)[k] = 0
      · rw [if_neg (by simp [h0]), if_pos (w64s (by omega)), if_neg (by simp [h0])]
      · rw [if_pos (by simp [h0]), if_pos h0]) ⟨_, by unfold B_scope_head_0; rw [if_neg (by omega)]⟩
    rw [hx, Option.bind_some]
    by_cases h6 : firstErr (fitsE p.Actors.Many) (p.Ins ++ p.Outs) = 0
    rotate_left
    · rcases x with y | ⟨a, b⟩
      · have hy : y = _ := e1
        rw [if_pos h6, ← hy]
      · have hy : (0 : Int) = _ := e1
        exact absurd hy.symm h6
    obtain ⟨z, rfl⟩ := e2 h6
    rw [if_neg (show ¬ firstErr (fitsE p.Actors.Many) (p.Ins ++ p.Outs) ≠ 0 from fun h => h h6)]
    obtain ⟨z1, z2⟩ := z
    simp only
    obtain ⟨x, hx, e3, e4⟩ := lp_err (B := fun v => B_scope_head_1 p v) p.Vars (fun v : Var => fitsE p.Actors.Many v.Label) (fun k hk => by
      unfold B_scope_head_1
      rw [if_pos (by omega), List.getElem?_eq_getElem hk, Option.bind_some, F_fits, Option.bind_some]
      by_cases h0 : fitsE p.Actors.Many p.Vars[k].Label = 0
      · rw [if_neg (by simp [h0]), if_pos (w64s (by omega)), if_neg (by simp [h0])]
      · rw [if_pos (by simp [h0]), if_pos h0]) ⟨_, by unfold B_scope_head_1; rw [if_neg (by omega)]⟩
    rw [hx, Option.bind_some]
    by_cases h7 : firstErr (fun v : Var => fitsE p.Actors.Many v.Label) p.Vars = 0
    rotate_left
    · rcases x with y | ⟨a, b⟩
      · have hy : y = _ := e3
        rw [if_pos h7, ← hy]
      · have hy : (0 : Int) = _ := e3
        exact absurd hy.symm h7
    obtain ⟨z, rfl⟩ := e4 h7
    rw [if_neg (show ¬ firstErr (fun v : Var => fitsE p.Actors.Many v.Label) p.Vars ≠ 0 from fun h => h h7)]
    obtain ⟨z1, z2⟩ := z
    simp only
    have hv : F_slices_ContainsFunc__scope_head_2 p.Vars = some (p.Vars.any (fun v => !v.Known && decide (0 < v.Label.Read.length + v.Label.Write.length))) := find_any F_scope_head_2 _ p.Vars (by omega) (fun y hy => by
      have hl := fits_len (firstErr_zero h7 y hy)
      unfold F_scope_head_2
      rw [if_pos (c := IntKind.i64.wrap _ = _) (w64 (by omega) (by omega))]
      cases y.Known with
      | true => simp
      | false => simp; omega)
    rw [hv, Option.bind_some]
    cases p.Vars.any (fun v => !v.Known && decide (0 < v.Label.Read.length + v.Label.Write.length)) <;> rfl
theorem fnsCheck {p : Program} (hf : p.Funcs.length ≤ 5) (hp : ∀ f ∈ p.Funcs, f.Params.length ≤ 9223372036854775807) (hc : ∀ f ∈ p.Funcs, cntL f.Body ≤ 50 ∧ depL f.Body ≤ 6) :
    ∃ x, lp (fun v => B_scope_Check_0 p v.1 v.2) (0, 0) = some x ∧ endE x = fnsS p 0 p.Funcs ∧ (fnsS p 0 p.Funcs = 0 → ∃ z, x = .inr z) := by
  refine lp_wf (B := fun v => B_scope_Check_0 p v.1 v.2) (fun v => p.Funcs.length - v.1) (fun v => v.1 ≤ p.Funcs.length ∧ fnsS p 0 p.Funcs = fnsS p v.1 (p.Funcs.drop v.1)) (fun x => endE x = fnsS p 0 p.Funcs ∧ (fnsS p 0 p.Funcs = 0 → ∃ z, x = .inr z)) ?_ (0, 0) ⟨Nat.zero_le _, rfl⟩
  rintro ⟨k, m⟩ ⟨hk, he⟩
  simp only at hk he ⊢
  unfold B_scope_Check_0
  by_cases hlt : k < p.Funcs.length
  · rw [List.drop_eq_getElem_cons hlt, fnsS] at he
    have hm := hc _ (List.getElem_mem hlt)
    rw [if_pos (by omega), List.getElem?_eq_getElem hlt, Option.bind_some, fn_is (c := ⟨p, (k : Int)⟩) (by simp only; omega) hp hm.1 hm.2, Option.bind_some]
    simp only
    by_cases h0 : fnS p k p.Funcs[k] = 0
    · rw [if_neg (by simp [h0])] at he
      rw [if_neg (by simp [h0]), if_pos (w64s (by omega))]
      exact .inr ⟨_, rfl, ⟨by simp only; omega, he⟩, by simp only; omega⟩
    · rw [if_pos h0] at he
      rw [if_pos (by simp [h0])]
      exact .inl ⟨_, rfl, he.symm, fun hz => absurd (he.symm.trans hz) h0⟩
  · rw [List.drop_eq_nil_of_le (by omega), fnsS] at he
    rw [if_neg (by omega)]
    exact .inl ⟨_, rfl, he.symm, fun _ => ⟨_, rfl⟩⟩
/-- scope.Check. -/
theorem check_is {p : Program} (hp : ∀ f ∈ p.Funcs, f.Params.length ≤ 9223372036854775807) : F_scope_Check p = some (checkS p) := by
  unfold F_scope_Check checkS
  rw [head_is, Option.bind_some]
  by_cases h1 : headS p = 0
  rotate_left
  · rw [if_pos (show (headS p != 0) = true by simp [h1]), if_pos h1]
  rw [if_neg (show ¬ (headS p != 0) = true by simp [h1]), if_neg (show ¬ headS p ≠ 0 from fun h => h h1)]
  have hf : p.Funcs.length ≤ 5 := by
    unfold headS at h1
    by_cases a1 : checkA p.Actors = 0
    · rw [if_neg (by simp [a1])] at h1
      by_cases a2 : 16 < p.Vars.length ∨ 5 < p.Ins.length ∨ 5 < p.Outs.length ∨ 5 < p.Funcs.length ∨ p.Actors.Many < (p.Speak.length : Int)
      · rw [if_pos a2] at h1; exact absurd h1 (by decide)
      · omega
    · rw [if_pos a1] at h1; exact absurd h1 a1
  rw [scopeFew_is hf, Option.bind_some]
  cases h2 : (fewP p.Main p.Funcs 0).1 with
  | false => rfl
  | true =>
    have h2' : fewP p.Main p.Funcs 0 = (true, (fewP p.Main p.Funcs 0).2) := Prod.ext h2 rfl
    obtain ⟨g1, g2, g3, _⟩ := fewP_iff (by decide) (by decide) h2'
    obtain ⟨x, hx, e1, e2⟩ := fnsCheck hf hp g1
    simp only [if_true, hx, Option.bind_some, Bool.true_eq_false, if_false]
    by_cases h3 : fnsS p 0 p.Funcs = 0
    rotate_left
    · rcases x with y | ⟨a, b, e⟩
      · have hy : y = _ := e1
        rw [if_pos h3, ← hy]
      · have hy : (0 : Int) = _ := e1
        exact absurd hy.symm h3
    obtain ⟨⟨z1, z2, z3⟩, rfl⟩ := e2 h3
    rw [if_neg (show ¬ fnsS p 0 p.Funcs ≠ 0 from fun h => h h3)]
    simp only [stmts_is (c := ⟨p, (p.Funcs.length : Int)⟩) (l := p.Main) (Int.le_refl _) hp g2 g3, Option.bind_some]
end Go.Proofs.Ytdoiklliklkbgaa.A
