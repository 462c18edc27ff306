/- Programs: the program's own check of them answers as plain mathematics says. -/
import Derived.Test.YtdoiklliklkbgaaScopeS
import Derived.Test.YtdoiklliklkbgaaEvalP
set_option linter.unusedSectionVars false
set_option linter.unusedVariables false
set_option linter.unusedSimpArgs false
set_option linter.constructorNameAsVariable false
namespace Go.Proofs.Ytdoiklliklkbgaa.A
open Go
variable [Lp]
theorem fewN (n : Nat) : ∀ (l : List Stmt) (d c : Int), 1 ≤ d → d ≤ 7 → 8 - d ≤ n → 0 ≤ c → c ≤ 50 → (N_scope_Walk__scope_few_1 n).f_scope_Walk__scope_few_1 l d c = some (fewL l d c) := by
  induction n with
  | zero => intro l d c h1 h2 h3; omega
  | succ n ih =>
    intro l d c h1 h2 h3 h4 h5
    show FB_scope_Walk__scope_few_1 (N_scope_Walk__scope_few_1 n) l d c = _
    unfold FB_scope_Walk__scope_few_1
    obtain ⟨x, hx, hQ⟩ := lp_wf (B := fun v => B_scope_Walk__scope_few_1_0 (N_scope_Walk__scope_few_1 n) l d v.1 v.2) (fun v => l.length - v.1)
      (fun v => v.1 ≤ l.length ∧ fewL l d c = fewL (l.drop v.1) d v.2 ∧ 0 ≤ v.2 ∧ v.2 ≤ 50 ∧ (v.1 : Int) ≤ v.2)
      (fun x => (match x with
        | .inl y => (false, y)
        | .inr (_, _, y) => (true, y)) = fewL l d c) (by
        rintro ⟨k, c'⟩ ⟨hk, he, g1, g2, g3⟩
        simp only at hk he g1 g2 g3 ⊢
        unfold B_scope_Walk__scope_few_1_0 F_scope_few_1
        by_cases hlt : k < l.length
        · rw [List.drop_eq_getElem_cons hlt, fewL, fewS_eq] at he
          rw [if_pos (by omega), List.getElem?_eq_getElem hlt, Option.bind_some, if_pos (w64 (by omega) (by omega))]
          generalize l[k] = s at *
          by_cases hc : c' + 1 ≤ 50
          · rw [if_pos hc]
            by_cases hd : d ≤ 6
            · rw [if_pos ⟨hc, hd⟩] at he
              simp only [Option.bind_some, hd, decide_true, if_true]
              rw [if_pos (w64 (by omega) (by omega)), ih _ _ _ (by omega) (by omega) (by omega) (by omega) (by omega), Option.bind_some]
              cases ht : fewL s.Then (d + 1) (c' + 1) with
              | mk b m =>
                cases b with
                | false =>
                  rw [ht] at he
                  refine .inl ⟨_, rfl, ?_⟩
                  rw [he]; rfl
                | true =>
                  obtain ⟨rfl, q1, q2⟩ := (fewL_iff _ _ _ _ (by omega) (by omega)).1 ht
                  rw [ht] at he
                  simp only [if_true]
                  rw [ih _ _ _ (by omega) (by omega) (by omega) (by omega) (by omega), Option.bind_some]
                  simp only [andThen, if_true] at he
                  cases hel : fewL s.Else (d + 1) (c' + 1 + (cntL s.Then : Int)) with
                  | mk b m =>
                    rw [hel] at he
                    cases b with
                    | false => exact .inl ⟨_, rfl, by rw [he]; rfl⟩
                    | true =>
                      obtain ⟨rfl, q3, q4⟩ := (fewL_iff _ _ _ _ (by omega) (by omega)).1 hel
                      simp only [if_true] at he ⊢
                      rw [if_pos (w64s (by omega))]
                      exact .inr ⟨_, rfl, ⟨by simp only; omega, he, by simp only; omega, by simp only; omega, by simp only; omega⟩, by simp only; omega⟩
            · rw [if_neg (by omega)] at he
              simp only [Option.bind_some, hd, decide_false, Bool.false_eq_true, if_false]
              exact .inl ⟨_, rfl, by rw [he]; rfl⟩
          · rw [if_neg hc]
            rw [if_neg (by omega)] at he
            simp only [Option.bind_some, Bool.false_eq_true, if_false]
            exact .inl ⟨_, rfl, by rw [he]; rfl⟩
        · rw [List.drop_eq_nil_of_le (by omega), fewL] at he
          rw [if_neg (by omega)]
          exact .inl ⟨_, rfl, he.symm⟩) (0, c) ⟨Nat.zero_le _, rfl, h4, h5, by simpa using h4⟩
    rw [hx, Option.bind_some]
    rcases x with a | ⟨a, b, e⟩
    · exact congrArg some hQ
    · exact congrArg some hQ
theorem few_is {l : List Stmt} {c : Int} (h1 : 0 ≤ c) (h2 : c ≤ 50) : F_scope_Walk__scope_few_1 l 1 c = some (fewL l 1 c) :=
  ev_of 8 fun n hn => fewN n l 1 c (by decide) (by decide) (by omega) h1 h2
theorem scopeFew_is {p : Program} (hf : p.Funcs.length ≤ 5) : F_scope_few p = some (fewP p.Main p.Funcs 0).1 := by
  unfold F_scope_few
  obtain ⟨x, hx, hQ⟩ := lp_wf (B := fun v => B_scope_few_0 p v.1 v.2) (fun v => p.Funcs.length - v.1)
    (fun v => v.1 ≤ p.Funcs.length ∧ fewP p.Main p.Funcs 0 = fewP p.Main (p.Funcs.drop v.1) v.2 ∧ 0 ≤ v.2 ∧ v.2 ≤ 50)
    (fun x => (match x with
      | .inl _ => (fewP p.Main p.Funcs 0).1 = false
      | .inr (_, _, y) => fewP p.Main p.Funcs 0 = fewL p.Main 1 y ∧ 0 ≤ y ∧ y ≤ 50)) (by
      rintro ⟨k, c⟩ ⟨hk, he, g1, g2⟩
      simp only at hk he g1 g2 ⊢
      unfold B_scope_few_0
      by_cases hlt : k < p.Funcs.length
      · rw [List.drop_eq_getElem_cons hlt, fewP] at he
        rw [if_pos (by omega), List.getElem?_eq_getElem hlt, Option.bind_some, few_is g1 g2, Option.bind_some]
        cases hl : fewL p.Funcs[k].Body 1 c with
        | mk b m =>
          rw [hl] at he
          cases b with
          | false => exact .inl ⟨_, rfl, by simp only; rw [he]; rfl⟩
          | true =>
            obtain ⟨rfl, q1, q2⟩ := (fewL_iff _ _ _ _ g2 (by decide)).1 hl
            simp only [andThen, if_true] at he ⊢
            rw [if_pos (w64s (by omega))]
            exact .inr ⟨_, rfl, ⟨by simp only; omega, he, by simp only; omega, by simp only; omega⟩, by simp only; omega⟩
      · rw [List.drop_eq_nil_of_le (by omega), fewP] at he
        rw [if_neg (by omega)]
        exact .inl ⟨_, rfl, he, g1, g2⟩) (0, 0) ⟨Nat.zero_le _, rfl, by decide, by decide⟩
  rw [hx, Option.bind_some]
  rcases x with a | ⟨a, b, y⟩
  · simp only at hQ ⊢
    rw [hQ]
  · obtain ⟨h1, h2, h3⟩ := hQ
    simp only
    rw [few_is h2 h3, Option.bind_some, h1]
/-- a loop that stops with the first error of a list. -/
def endE {α : Type} : Int ⊕ α → Int
  | .inl y => y
  | .inr _ => 0
theorem firstErr_cons {β : Type} (f : β → Int) (x : β) (l : List β) : firstErr f (x :: l) = if f x ≠ 0 then f x else firstErr f l := by
  unfold firstErr
  rw [List.findSome?_cons]
  by_cases h : f x = 0 <;> simp [h]
theorem lp_err {β ζ : Type} {B : Nat → Option (Nat ⊕ (Int ⊕ ζ))} (es : List β) (f : β → Int) (hs : ∀ k (h : k < es.length), B k = if f es[k] ≠ 0 then some (.inr (.inl (f es[k]))) else some (.inl (k + 1))) (he : ∃ z, B es.length = some (.inr (.inr z))) :
    ∃ x, lp B 0 = some x ∧ endE x = firstErr f es ∧ (firstErr f es = 0 → ∃ z, x = .inr z) := by
  refine lp_wf (B := B) (fun k => es.length - k) (fun k => k ≤ es.length ∧ firstErr f es = firstErr f (es.drop k)) (fun x => endE x = firstErr f es ∧ (firstErr f es = 0 → ∃ z, x = .inr z)) ?_ 0 ⟨Nat.zero_le _, rfl⟩
  rintro k ⟨hk, hf⟩
  by_cases hlt : k < es.length
  · rw [List.drop_eq_getElem_cons hlt, firstErr_cons] at hf
    rw [hs k hlt]
    by_cases h0 : f es[k] = 0
    · rw [if_neg (by simp [h0])] at hf ⊢
      exact .inr ⟨_, rfl, ⟨by omega, hf⟩, by omega⟩
    · rw [if_pos h0] at hf ⊢
      exact .inl ⟨_, rfl, hf.symm, fun hz => absurd (hf.symm.trans hz) h0⟩
  · obtain rfl : k = es.length := by omega
    rw [List.drop_length] at hf
    obtain ⟨z, hz⟩ := he
    exact .inl ⟨_, hz, hf.symm, fun _ => ⟨z, rfl⟩⟩
theorem named_is (k : Int) : F_scope_Named k = some (hasV k, hasO k, hasE k) := by
  unfold F_scope_Named hasV hasO hasE
  by_cases h4 : k = 4
  · subst h4; rfl
  by_cases h2 : k = 2
  · subst h2; rfl
  by_cases h22 : 2 ≤ k
  · by_cases h3 : k = 3 <;> simp [h4, h2, h22, h3]
  · have h3 : ¬ k = 3 := by omega
    simp [h4, h2, h22, h3]
theorem others_is (c : Checker) (k : Int) : F_scope_checker_others c k = some (othersS c.p c.funcs k) := by
  unfold F_scope_checker_others othersS
  by_cases h2 : k = 2
  · simp [h2]
  by_cases h3 : k = 3 <;> simp [h2, h3]
theorem exprE_is (p : Program) (e : ExprT) : F_scope_Expr e (p.Vars.length : Int) = some (exprE p e) := expr_is e _
end Go.Proofs.Ytdoiklliklkbgaa.A
