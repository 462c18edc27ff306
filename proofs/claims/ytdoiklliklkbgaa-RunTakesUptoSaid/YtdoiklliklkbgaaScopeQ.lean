/- Programs: the check of commands, of functions, of all. -/
import Derived.Test.YtdoiklliklkbgaaScopeP
set_option linter.unusedSectionVars false
set_option linter.unusedVariables false
set_option linter.unusedSimpArgs false
set_option linter.constructorNameAsVariable false
namespace Go.Proofs.Ytdoiklliklkbgaa.A
open Go
variable [Lp]
theorem no_is (c : Checker) (s : Stmt) (r : Bool × Bool × Bool) : D_scope_checker_stmt_j1 c s r = some (decide (s.Expr.Kind = 0 ∧ s.Expr.N = 0 ∧ s.Expr.Args.length = 0)) := by
  unfold D_scope_checker_stmt_j1 D_scope_checker_stmt_j2
  by_cases h1 : s.Expr.Kind = 0
  · by_cases h2 : s.Expr.N = 0
    · by_cases h3 : s.Expr.Args = [] <;> simp [h1, h2, h3]
    · simp [h1, h2]
  · simp [h1]
theorem c5_is (c : Checker) (s : Stmt) (x : Bool) : D_scope_checker_stmt_j3 c s (hasV s.Kind, hasO s.Kind, hasE s.Kind) x =
    some (decide ((hasV s.Kind = true ∧ (s.Var < 0 ∨ (c.p.Vars.length : Int) ≤ s.Var)) ∨ (hasO s.Kind = true ∧ (s.Other < 0 ∨ othersS c.p c.funcs s.Kind ≤ s.Other)))) := by
  have j4 : ∀ u, D_scope_checker_stmt_j4 c s (hasV s.Kind, hasO s.Kind, hasE s.Kind) x u = some (u || decide (hasO s.Kind = true ∧ (s.Other < 0 ∨ othersS c.p c.funcs s.Kind ≤ s.Other))) := by
    intro u
    unfold D_scope_checker_stmt_j4 D_scope_checker_stmt_j5
    simp only [others_is, Option.bind_some]
    cases u with
    | true => simp
    | false =>
      cases hasO s.Kind with
      | false => simp
      | true => by_cases h : s.Other < 0 <;> simp [h]
  unfold D_scope_checker_stmt_j3
  simp only [j4, Option.bind_some]
  cases hasV s.Kind with
  | false => simp
  | true => by_cases h : s.Var < 0 <;> simp [h]
theorem c1_is (c : Checker) (s : Stmt) (x : Bool) : D_scope_checker_stmt_j6 c s (hasV s.Kind, hasO s.Kind, hasE s.Kind) (decide (s.Expr.Kind = 0 ∧ s.Expr.N = 0 ∧ s.Expr.Args.length = 0)) x =
    some (decide ((hasV s.Kind = false ∧ s.Var ≠ 0) ∨ (hasO s.Kind = false ∧ s.Other ≠ 0) ∨ (hasE s.Kind = false ∧ ¬ (s.Expr.Kind = 0 ∧ s.Expr.N = 0 ∧ s.Expr.Args.length = 0)) ∨ (s.Kind ≠ 2 ∧ 0 < s.Args.length) ∨ (s.Kind < 7 ∧ 0 < s.Then.length) ∨ (s.Kind ≠ 7 ∧ 0 < s.Else.length))) := by
  generalize hn : decide (s.Expr.Kind = 0 ∧ s.Expr.N = 0 ∧ s.Expr.Args.length = 0) = no
  have hn' : (s.Expr.Kind = 0 ∧ s.Expr.N = 0 ∧ s.Expr.Args.length = 0) ↔ no = true := by rw [← hn]; simp
  rw [decide_eq_decide.2 (by rw [hn'])]
  have j10 : ∀ a b d u, D_scope_checker_stmt_j10 c s (hasV s.Kind, hasO s.Kind, hasE s.Kind) no x a b d u = some (u || decide (s.Kind ≠ 7 ∧ 0 < s.Else.length)) := by
    intro a b d u
    unfold D_scope_checker_stmt_j10 D_scope_checker_stmt_j11
    cases u with
    | true => simp
    | false => by_cases h : s.Kind = 7 <;> simp [h]
  have j9 : ∀ a b u, D_scope_checker_stmt_j9 c s (hasV s.Kind, hasO s.Kind, hasE s.Kind) no x a b u = some (u || (decide (s.Kind < 7 ∧ 0 < s.Then.length) || decide (s.Kind ≠ 7 ∧ 0 < s.Else.length))) := by
    intro a b u
    unfold D_scope_checker_stmt_j9
    simp only [j10, Option.bind_some]
    cases u with
    | true => simp
    | false =>
      by_cases h : 7 ≤ s.Kind
      · have : ¬ s.Kind < 7 := by omega
        simp [h, this]
      · have : s.Kind < 7 := by omega
        simp [h, this]
  have j8 : ∀ a u, D_scope_checker_stmt_j8 c s (hasV s.Kind, hasO s.Kind, hasE s.Kind) no x a u = some (u || (decide (s.Kind ≠ 2 ∧ 0 < s.Args.length) || (decide (s.Kind < 7 ∧ 0 < s.Then.length) || decide (s.Kind ≠ 7 ∧ 0 < s.Else.length)))) := by
    intro a u
    unfold D_scope_checker_stmt_j8
    simp only [j9, Option.bind_some]
    cases u with
    | true => simp
    | false => by_cases h : s.Kind = 2 <;> simp [h]
  have j7 : ∀ u, D_scope_checker_stmt_j7 c s (hasV s.Kind, hasO s.Kind, hasE s.Kind) no x u = some (u || (decide (hasE s.Kind = false ∧ ¬ no = true) || (decide (s.Kind ≠ 2 ∧ 0 < s.Args.length) || (decide (s.Kind < 7 ∧ 0 < s.Then.length) || decide (s.Kind ≠ 7 ∧ 0 < s.Else.length))))) := by
    intro u
    unfold D_scope_checker_stmt_j7
    simp only [j8, Option.bind_some]
    cases u with
    | true => simp
    | false => cases hasE s.Kind <;> cases no <;> simp
  unfold D_scope_checker_stmt_j6
  simp only [j7, Option.bind_some]
  have e : decide ((hasV s.Kind = false ∧ s.Var ≠ 0) ∨ (hasO s.Kind = false ∧ s.Other ≠ 0) ∨ (hasE s.Kind = false ∧ ¬ no = true) ∨ (s.Kind ≠ 2 ∧ 0 < s.Args.length) ∨ (s.Kind < 7 ∧ 0 < s.Then.length) ∨ (s.Kind ≠ 7 ∧ 0 < s.Else.length)) =
      (decide (hasV s.Kind = false ∧ s.Var ≠ 0) || (decide (hasO s.Kind = false ∧ s.Other ≠ 0) || (decide (hasE s.Kind = false ∧ ¬ no = true) || (decide (s.Kind ≠ 2 ∧ 0 < s.Args.length) || (decide (s.Kind < 7 ∧ 0 < s.Then.length) || decide (s.Kind ≠ 7 ∧ 0 < s.Else.length)))))) := by
    simp only [Bool.decide_or]
  rw [e]
  generalize (decide (hasE s.Kind = false ∧ ¬ no = true) || (decide (s.Kind ≠ 2 ∧ 0 < s.Args.length) || (decide (s.Kind < 7 ∧ 0 < s.Then.length) || decide (s.Kind ≠ 7 ∧ 0 < s.Else.length)))) = w
  cases hasV s.Kind with
  | true =>
    cases hasO s.Kind with
    | true => simp
    | false => by_cases h : s.Other = 0 <;> simp [h]
  | false =>
    by_cases hv : s.Var = 0
    · cases hasO s.Kind with
      | true => simp [hv]
      | false => by_cases h : s.Other = 0 <;> simp [h, hv]
    · simp [hv]
theorem args_is (c : Checker) (s : Stmt) (hl : s.Args.length ≤ 9223372036854775807) : D_scope_checker_stmt_d2 c s = some (if firstErr (exprE c.p) s.Args ≠ 0 then .inl (firstErr (exprE c.p) s.Args) else .inr ()) := by
  unfold D_scope_checker_stmt_d2
  obtain ⟨x, hx, h1, h2⟩ := lp_err (B := fun v => B_scope_checker_stmt_0 c s v) s.Args (exprE c.p) (fun k hk => by
    unfold B_scope_checker_stmt_0
    rw [if_pos (by omega), List.getElem?_eq_getElem hk, Option.bind_some, exprE_is, Option.bind_some]
    by_cases h0 : exprE c.p s.Args[k] = 0
    · rw [if_neg (by simp [h0]), if_pos (w64s (by omega)), if_neg (by simp [h0])]
    · rw [if_pos (by simp [h0]), if_pos h0]) ⟨_, by unfold B_scope_checker_stmt_0; rw [if_neg (by omega)]⟩
  rw [hx, Option.bind_some]
  rcases x with y | ⟨a, b⟩
  · have hy : y = firstErr (exprE c.p) s.Args := h1
    by_cases h0 : firstErr (exprE c.p) s.Args = 0
    · obtain ⟨z, hz⟩ := h2 h0; cases hz
    · rw [if_pos h0, hy]
  · have hy : (0 : Int) = firstErr (exprE c.p) s.Args := h1
    rw [if_neg (by simp [← hy])]
theorem d1_is (c : Checker) (s : Stmt) (a b : Bool) (hl : s.Args.length ≤ 9223372036854775807) :
    ((D_scope_checker_stmt_d1 c s (a, b, hasE s.Kind)).bind fun (x19 : (Int ⊕ Unit)) => match x19 with
      | .inl y => some y
      | .inr () => some (0 : Int)) = some (if hasE s.Kind = true ∧ exprE c.p s.Expr ≠ 0 then exprE c.p s.Expr else firstErr (exprE c.p) s.Args) := by
  unfold D_scope_checker_stmt_d1
  rw [args_is c s hl, exprE_is]
  simp only [Option.bind_some]
  by_cases hf : firstErr (exprE c.p) s.Args = 0
  · cases hasE s.Kind with
    | false => simp [hf]
    | true => by_cases h0 : exprE c.p s.Expr = 0 <;> simp [h0, hf]
  · cases hasE s.Kind with
    | false => simp [hf]
    | true => by_cases h0 : exprE c.p s.Expr = 0 <;> simp [h0, hf]
theorem stmt_is {c : Checker} {s : Stmt} (h0 : c.funcs ≤ c.p.Funcs.length) (hp : ∀ f ∈ c.p.Funcs, f.Params.length ≤ 9223372036854775807) : F_scope_checker_stmt c s = some (stmtS c.p c.funcs s) := by
  unfold F_scope_checker_stmt stmtS
  by_cases k1 : s.Kind < 1
  · rw [if_pos k1, if_pos (.inl k1)]
  rw [if_neg k1]
  by_cases k8 : 8 < s.Kind
  · rw [if_pos k8, if_pos (.inr k8)]
  rw [if_neg k8, if_neg (by omega), named_is, Option.bind_some, no_is, Option.bind_some, c5_is, Option.bind_some]
  by_cases h5 : (hasV s.Kind = true ∧ (s.Var < 0 ∨ (c.p.Vars.length : Int) ≤ s.Var)) ∨ (hasO s.Kind = true ∧ (s.Other < 0 ∨ othersS c.p c.funcs s.Kind ≤ s.Other))
  · rw [if_pos (decide_eq_true h5), if_pos h5]
  rw [if_neg (by simpa using h5), if_neg h5, c1_is, Option.bind_some]
  by_cases h1 : (hasV s.Kind = false ∧ s.Var ≠ 0) ∨ (hasO s.Kind = false ∧ s.Other ≠ 0) ∨ (hasE s.Kind = false ∧ ¬ (s.Expr.Kind = 0 ∧ s.Expr.N = 0 ∧ s.Expr.Args.length = 0)) ∨ (s.Kind ≠ 2 ∧ 0 < s.Args.length) ∨ (s.Kind < 7 ∧ 0 < s.Then.length) ∨ (s.Kind ≠ 7 ∧ 0 < s.Else.length)
  · rw [if_pos (decide_eq_true h1), if_pos h1]
  rw [if_neg (by rw [decide_eq_true_iff]; exact h1), if_neg h1]
  by_cases k2 : s.Kind = 2
  · have ho : 0 ≤ s.Other ∧ s.Other < c.funcs := by
      have : hasO s.Kind = true := by rw [k2]; rfl
      have e : othersS c.p c.funcs s.Kind = c.funcs := by rw [k2]; rfl
      rw [e] at h5
      have h6 : ¬ (s.Other < 0 ∨ c.funcs ≤ s.Other) := fun h => h5 (.inr ⟨this, h⟩)
      omega
    have hi : s.Other.toNat < c.p.Funcs.length := by omega
    have hpo : parsOf c.p s.Other = (c.p.Funcs[s.Other.toNat]).Params.length := by unfold parsOf; rw [List.getElem?_eq_getElem hi]; rfl
    rw [if_pos (by simp [k2]), natI_nn ho.1, Option.bind_some, List.getElem?_eq_getElem hi, Option.bind_some, hpo]
    have hpl := hp _ (List.getElem_mem hi)
    generalize (c.p.Funcs[s.Other.toNat]).Params.length = n at *
    by_cases hn : s.Args.length = n
    · rw [if_neg (by simp [hn]), if_neg (fun h => h.2 hn)]
      exact d1_is c s _ _ (by omega)
    · rw [if_pos (by simp; omega), if_pos ⟨k2, hn⟩]
  · rw [if_neg (by simp [k2]), if_neg (fun h => k2 h.1)]
    have ha : ¬ 0 < s.Args.length := fun h => h1 (.inr (.inr (.inr (.inl ⟨k2, h⟩))))
    exact d1_is c s _ _ (by omega)
theorem walkN {c : Checker} (h0 : c.funcs ≤ c.p.Funcs.length) (hp : ∀ f ∈ c.p.Funcs, f.Params.length ≤ 9223372036854775807) (n : Nat) : ∀ (l : List Stmt) (d : Int), depL l + 1 ≤ n → cntL l ≤ 50 → 1 ≤ d → d + depL l ≤ 100 →
    (N_scope_Walk__scope_checker_stmts_1 n).f_scope_Walk__scope_checker_stmts_1 l d () c 0 = some (errL (stmtS c.p c.funcs) l == 0, (), errL (stmtS c.p c.funcs) l) := by
  induction n with
  | zero => intro l d h; omega
  | succ n ih =>
    intro l d h1 h2 h3 h4
    show FB_scope_Walk__scope_checker_stmts_1 (N_scope_Walk__scope_checker_stmts_1 n) l d () c 0 = _
    unfold FB_scope_Walk__scope_checker_stmts_1
    have hlen := cntL_len l
    obtain ⟨x, hx, hQ⟩ := lp_wf (B := fun v => B_scope_Walk__scope_checker_stmts_1_0 (N_scope_Walk__scope_checker_stmts_1 n) l d c v.1 v.2) (fun v => l.length - v.1)
      (fun v => v.1 ≤ l.length ∧ errL (stmtS c.p c.funcs) l = errL (stmtS c.p c.funcs) (l.drop v.1) ∧ v.2 = 0)
      (fun x => (match x with
        | .inl y => y ≠ 0 ∧ y = errL (stmtS c.p c.funcs) l
        | .inr (_, _, y) => y = 0 ∧ errL (stmtS c.p c.funcs) l = 0)) (by
        rintro ⟨k, e⟩ ⟨hk, he, hz⟩
        simp only at hk he hz ⊢
        subst hz
        unfold B_scope_Walk__scope_checker_stmts_1_0 F_scope_checker_stmts_1
        by_cases hlt : k < l.length
        · rw [List.drop_eq_getElem_cons hlt, errL, errS_eq] at he
          have hm := List.getElem_mem hlt
          have g1 := cntL_mem hm
          have g2 := depL_mem hm
          rw [if_pos (by omega), List.getElem?_eq_getElem hlt, Option.bind_some]
          generalize l[k] = s at *
          have g3 := cnt_eq s
          have g4 := dep_eq s
          rw [stmt_is h0 hp, Option.bind_some, Option.bind_some]
          by_cases e1 : stmtS c.p c.funcs s = 0
          · simp only [e1, beq_self_eq_true, if_true, ne_eq, not_true_eq_false, if_false] at he ⊢
            rw [if_pos (w64 (by omega) (by omega)), ih _ _ (by omega) (by omega) (by omega) (by omega), Option.bind_some]
            by_cases e2 : errL (stmtS c.p c.funcs) s.Then = 0
            · simp only [e2, beq_self_eq_true, if_true, not_true_eq_false, if_false] at he ⊢
              rw [ih _ _ (by omega) (by omega) (by omega) (by omega), Option.bind_some]
              by_cases e3 : errL (stmtS c.p c.funcs) s.Else = 0
              · simp only [e3, beq_self_eq_true, if_true, not_true_eq_false, if_false] at he ⊢
                rw [if_pos (w64s (by omega))]
                exact .inr ⟨_, rfl, ⟨by simp only; omega, he, rfl⟩, by simp only; omega⟩
              · have : (errL (stmtS c.p c.funcs) s.Else == 0) = false := by simp [e3]
                simp only [e3, not_false_eq_true, if_true] at he
                simp only [this, Bool.false_eq_true, if_false]
                exact .inl ⟨_, rfl, e3, he.symm⟩
            · have : (errL (stmtS c.p c.funcs) s.Then == 0) = false := by simp [e2]
              simp only [e2, not_false_eq_true, if_true] at he
              simp only [this, Bool.false_eq_true, if_false]
              exact .inl ⟨_, rfl, e2, he.symm⟩
          · have : (stmtS c.p c.funcs s == 0) = false := by simp [e1]
            simp only [e1, ne_eq, not_false_eq_true, if_true] at he
            simp only [this, Bool.false_eq_true, if_false]
            exact .inl ⟨_, rfl, e1, he.symm⟩
        · rw [List.drop_eq_nil_of_le (by omega), errL] at he
          rw [if_neg (by omega)]
          exact .inl ⟨_, rfl, rfl, he⟩) (0, 0) ⟨Nat.zero_le _, rfl, rfl⟩
    rw [hx, Option.bind_some]
    rcases x with y | ⟨a, b, y⟩
    · obtain ⟨q1, q2⟩ := hQ
      have : (errL (stmtS c.p c.funcs) l == 0) = false := by rw [← q2]; simp [q1]
      simp only [this]
      rw [q2]
    · obtain ⟨q1, q2⟩ := hQ
      simp only [q2, q1]; rfl
theorem stmts_is {c : Checker} {l : List Stmt} (h0 : c.funcs ≤ c.p.Funcs.length) (hp : ∀ f ∈ c.p.Funcs, f.Params.length ≤ 9223372036854775807) (hc : cntL l ≤ 50) (hd : depL l ≤ 6) : F_scope_checker_stmts c l = some (errL (stmtS c.p c.funcs) l) := by
  unfold F_scope_checker_stmts
  have : F_scope_Walk__scope_checker_stmts_1 l 1 () c 0 = some (errL (stmtS c.p c.funcs) l == 0, (), errL (stmtS c.p c.funcs) l) :=
    ev_of 8 fun n hn => walkN h0 hp n l 1 (by omega) hc (by decide) (by omega)
  rw [this]; rfl
theorem contains_is {l : List Int} {a : Int} (hl : l.length ≤ 9223372036854775807) : F_slices_Contains_int l a = some (decide (a ∈ l)) := by
  unfold F_slices_Contains_int F_slices_Index_int
  obtain ⟨x, hx, hQ⟩ := lp_wf (B := fun v => B_slices_Index_int_0 l a v) (fun k => l.length - k) (fun k => k ≤ l.length ∧ ¬ a ∈ l.take k)
    (fun x => match x with
      | .inl _ => a ∈ l
      | .inr _ => ¬ a ∈ l) (by
      rintro k ⟨hk, hn⟩
      unfold B_slices_Index_int_0
      by_cases hlt : k < l.length
      · rw [if_pos (by omega), List.getElem?_eq_getElem hlt, Option.bind_some]
        by_cases h : a = l[k]
        · rw [if_pos (by simp [h])]
          exact .inl ⟨_, rfl, by rw [h]; exact List.getElem_mem hlt⟩
        · rw [if_neg (by simp [h]), if_pos (w64s (by omega))]
          refine .inr ⟨_, rfl, ⟨by omega, fun hm => ?_⟩, by omega⟩
          rw [List.take_add_one, List.getElem?_eq_getElem hlt] at hm
          rcases List.mem_append.1 hm with hm | hm
          · exact hn hm
          · exact h (by simpa using hm)
      · rw [if_neg (by omega)]
        rw [List.take_of_length_le (by omega)] at hn
        exact .inl ⟨_, rfl, hn⟩) 0 ⟨Nat.zero_le _, by simp⟩
  rw [hx]
  simp only [Option.bind_some]
  rcases x with y | ⟨y, z⟩
  · have h : a ∈ l := hQ
    simp [h]
  · have h : ¬ a ∈ l := hQ
    simp [h]
theorem fn_is {c : Checker} {f : Func} (h0 : c.funcs ≤ c.p.Funcs.length) (hp : ∀ f ∈ c.p.Funcs, f.Params.length ≤ 9223372036854775807) (hc : cntL f.Body ≤ 50) (hd : depL f.Body ≤ 6) : F_scope_checker_fn c f = some (fnS c.p c.funcs f) := by
  unfold F_scope_checker_fn fnS
  by_cases h4 : 4 < f.Params.length
  · rw [if_pos (by omega), if_pos h4]
  rw [if_neg (by omega), if_neg h4]
  obtain ⟨x, hx, hQ⟩ := lp_wf (B := fun v => B_scope_checker_fn_0 c f v) (fun k => f.Params.length - k)
    (fun k => k ≤ f.Params.length ∧ parS c.p.Vars.length [] f.Params = parS c.p.Vars.length (f.Params.take k) (f.Params.drop k))
    (fun x => (match x with
      | .inl _ => (5 : Int)
      | .inr (.inl _) => 6
      | .inr (.inr _) => 0) = parS c.p.Vars.length [] f.Params) (by
      rintro k ⟨hk, he⟩
      unfold B_scope_checker_fn_0
      by_cases hlt : k < f.Params.length
      · rw [List.drop_eq_getElem_cons hlt, parS] at he
        rw [if_pos (by omega), List.getElem?_eq_getElem hlt, Option.bind_some]
        have htk : f.Params.take k ++ [f.Params[k]] = f.Params.take (k + 1) := by rw [List.take_add_one, List.getElem?_eq_getElem hlt]; rfl
        rw [htk] at he
        by_cases g1 : f.Params[k] < 0
        · rw [if_pos g1]
          rw [if_pos (.inl g1)] at he
          exact .inl ⟨_, rfl, he.symm⟩
        rw [if_neg g1]
        by_cases g2 : (c.p.Vars.length : Int) ≤ f.Params[k]
        · rw [if_pos g2]
          rw [if_pos (.inr g2)] at he
          exact .inl ⟨_, rfl, he.symm⟩
        rw [if_neg g2, if_pos (by omega), List.drop_zero, contains_is (by rw [List.length_take]; omega), Option.bind_some]
        rw [if_neg (by omega)] at he
        by_cases g3 : f.Params[k] ∈ f.Params.take k
        · rw [if_pos (decide_eq_true g3)]
          rw [if_pos g3] at he
          exact .inl ⟨_, rfl, he.symm⟩
        · rw [if_neg (by simpa using g3), if_pos (w64s (by omega))]
          rw [if_neg g3] at he
          exact .inr ⟨_, rfl, ⟨by omega, he⟩, by omega⟩
      · rw [List.drop_eq_nil_of_le (by omega), parS] at he
        rw [if_neg (by omega)]
        exact .inl ⟨_, rfl, he.symm⟩) 0 ⟨Nat.zero_le _, by simp⟩
  rw [hx, Option.bind_some]
  rcases x with _ | _ | ⟨a, b⟩
  · have h : (5 : Int) = parS c.p.Vars.length [] f.Params := hQ
    rw [← h]; rfl
  · have h : (6 : Int) = parS c.p.Vars.length [] f.Params := hQ
    rw [← h]; rfl
  · have h : (0 : Int) = parS c.p.Vars.length [] f.Params := hQ
    rw [← h, if_neg (by decide)]
    simp only [stmts_is h0 hp hc hd, Option.bind_some]
    by_cases he : errL (stmtS c.p c.funcs) f.Body = 0
    · rw [if_neg (by simp [he]), if_neg (by simp [he]), exprE_is]; rfl
    · rw [if_pos (by simp [he]), if_pos he]
theorem concat_is (a b : List Label) (ha : a.length ≤ 5) (hb : b.length ≤ 5) : F_slices_Concat_api_Label [a, b] = some (a ++ b) := by
  unfold F_slices_Concat_api_Label
  have z1 : IntKind.i64.wrap 1 = 1 := by decide
  have z2 : IntKind.i64.wrap 2 = 2 := by decide
  have w1 : IntKind.i64.wrap (0 + (a.length : Int)) = 0 + (a.length : Int) := w64 (by omega) (by omega)
  have w2 : IntKind.i64.wrap (0 + (a.length : Int) + (b.length : Int)) = 0 + (a.length : Int) + (b.length : Int) := w64 (by omega) (by omega)
  have n1 : ¬ (0 + (a.length : Int)) < 0 := by omega
  have n2 : ¬ (0 + (a.length : Int) + (b.length : Int)) < 0 := by omega
  have l0 : lp (fun v => B_slices_Concat_api_Label_0 [a, b] v.1 v.2) (0, 0) = some (0 + (a.length : Int) + (b.length : Int), 2, false) := by
    rw [lp_next (w := (0 + (a.length : Int), 1)) (by simp only [B_slices_Concat_api_Label_0]; simp only [List.length_cons, List.length_nil, List.getElem?_cons_zero, Option.bind_some, w1, n1, if_false, if_true]; simp [z1]),
      lp_next (w := (0 + (a.length : Int) + (b.length : Int), 2)) (by simp only [B_slices_Concat_api_Label_0]; simp only [List.length_cons, List.length_nil, List.getElem?_cons_succ, List.getElem?_cons_zero, Option.bind_some, w2, n2, if_false, if_true]; simp [z2])]
    exact lp_end (by simp [B_slices_Concat_api_Label_0])
  have l1 : lp (fun v => B_slices_Concat_api_Label_1 [a, b] v.1 v.2) (([] : List Label), 0) = some (a ++ b, 2, false) := by
    rw [lp_next (w := (a, 1)) (by simp [B_slices_Concat_api_Label_1, z1]; omega),
      lp_next (w := (a ++ b, 2)) (by simp [B_slices_Concat_api_Label_1, z2]; omega)]
    exact lp_end (by simp [B_slices_Concat_api_Label_1])
  rw [l0, Option.bind_some, if_pos (by simp only; omega), l1]; rfl
end Go.Proofs.Ytdoiklliklkbgaa.A
