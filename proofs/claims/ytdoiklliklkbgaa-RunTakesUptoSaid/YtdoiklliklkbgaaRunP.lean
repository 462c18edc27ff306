/- Runs: the program's functions for one command, as plain mathematics. -/
import Derived.Test.YtdoiklliklkbgaaRunS
import Derived.Test.YtdoiklliklkbgaaScopeR
set_option linter.unusedSectionVars false
set_option linter.unusedVariables false
set_option linter.unusedSimpArgs false
set_option linter.constructorNameAsVariable false
namespace Go.Proofs.Ytdoiklliklkbgaa.A
open Go
theorem stmt_ok [Lp] {p : Program} {i : Int} {s : Stmt} (h : stmtS p i s = 0) : (1 ≤ s.Kind ∧ s.Kind ≤ 8) ∧ (hasV s.Kind = true → 0 ≤ s.Var ∧ s.Var < p.Vars.length) ∧ (hasO s.Kind = true → 0 ≤ s.Other ∧ s.Other < othersS p i s.Kind) ∧ (s.Kind = 2 → s.Args.length = parsOf p s.Other) ∧ (hasE s.Kind = true → exprE p s.Expr = 0) ∧ (∀ e ∈ s.Args, exprE p e = 0) := by
  unfold stmtS at h
  by_cases h1 : s.Kind < 1 ∨ 8 < s.Kind
  · rw [if_pos h1] at h; exact absurd h (by decide)
  rw [if_neg h1] at h
  by_cases h2 : (hasV s.Kind = true ∧ (s.Var < 0 ∨ (p.Vars.length : Int) ≤ s.Var)) ∨ (hasO s.Kind = true ∧ (s.Other < 0 ∨ othersS p i s.Kind ≤ s.Other))
  · rw [if_pos h2] at h; exact absurd h (by decide)
  rw [if_neg h2] at h
  split at h
  · exact absurd h (by decide)
  by_cases h4 : s.Kind = 2 ∧ s.Args.length ≠ parsOf p s.Other
  · rw [if_pos h4] at h; exact absurd h (by decide)
  rw [if_neg h4] at h
  by_cases h5 : hasE s.Kind = true ∧ stmtS.exprE p s.Expr ≠ 0
  · rw [if_pos h5] at h; exact absurd h h5.2
  rw [if_neg h5] at h
  have g1 : ∀ hv : hasV s.Kind = true, ¬ (s.Var < 0 ∨ (p.Vars.length : Int) ≤ s.Var) := fun hv hh => h2 (.inl ⟨hv, hh⟩)
  have g2 : ∀ hv : hasO s.Kind = true, ¬ (s.Other < 0 ∨ othersS p i s.Kind ≤ s.Other) := fun hv hh => h2 (.inr ⟨hv, hh⟩)
  exact ⟨by omega, fun hv => by have := g1 hv; omega, fun hv => by have := g2 hv; omega, fun k => Decidable.not_not.1 fun hn => h4 ⟨k, hn⟩, fun he => Decidable.not_not.1 fun hn => h5 ⟨he, hn⟩, firstErr_zero h⟩
theorem exprE_ok {p : Program} {e : ExprT} (h : exprE p e = 0) : ∀ x ∈ allP e, partS p.Vars.length x = 0 := by
  unfold exprE stmtS.exprE at h
  split at h
  · exact absurd h (by decide)
  · exact ferr_ok h
theorem fn_ok {p : Program} {i : Int} {f : Func} (h : fnS p i f = 0) : f.Params.length ≤ 4 ∧ (∀ n ∈ f.Params, 0 ≤ n ∧ n < p.Vars.length) ∧ errL (stmtS p i) f.Body = 0 ∧ exprE p f.Result = 0 := by
  unfold fnS at h
  split at h
  · exact absurd h (by decide)
  split at h
  · rename_i h1; exact absurd h h1
  split at h
  · rename_i h1; exact absurd h h1
  rename_i h1 h2 h3
  exact ⟨by omega, parS_ok (Decidable.not_not.1 h2), Decidable.not_not.1 h3, h⟩
/-- numbers of the functions' first commands, and of Main's. -/
def firstsL : Int → List Func → List Int
  | n, [] => [n]
  | n, f :: r => n :: firstsL (n + cntL f.Body) r
structure OkX (X : Ctx) : Prop where
  ok : OkP X.p
  fuel : 0 ≤ X.fuel ∧ X.fuel ≤ 2000
  ins : X.ins.length = X.p.Ins.length
  nums : ∀ l ∈ X.ins, l.length ≤ 100 ∧ ∀ x ∈ l, numB x = true
  first : X.first = firstsL 0 X.p.Funcs
/-- a state; k steps are done of which nothing was told. -/
structure Valid (X : Ctx) (k : Int) (r : RunT) : Prop where
  vars : r.Vars.length = X.p.Vars.length
  nums : ∀ x ∈ r.Vars, numB x = true
  taken : r.Taken.length = X.p.Ins.length
  tks : ∀ t ∈ r.Taken, 0 ≤ t ∧ t + k ≤ r.Steps
  steps : 0 ≤ r.Steps ∧ r.Steps ≤ X.fuel
  evs : (r.Events.length : Int) + k ≤ r.Steps
  en : r.End = 0
theorem Valid.less {X : Ctx} {r : RunT} (h : Valid X 1 r) : Valid X 0 r := ⟨h.vars, h.nums, h.taken, fun t ht => by have := h.tks t ht; omega, h.steps, by have := h.evs; omega, h.en⟩
theorem Valid.tick {X : Ctx} {r : RunT} (h : Valid X 0 r) (hf : r.Steps ≠ X.fuel) : Valid X 1 r.tick :=
  ⟨h.vars, h.nums, h.taken, fun t ht => by have := h.tks t ht; simp only [RunT.tick]; omega, by have := h.steps; simp only [RunT.tick]; omega, by have := h.evs; simp only [RunT.tick]; omega, h.en⟩
theorem mem_set {l : List Int} {k : Nat} {x y : Int} (h : y ∈ l.set k x) : y ∈ l ∨ y = x := List.mem_or_eq_of_mem_set h
theorem Valid.setVars {X : Ctx} {k : Int} {r : RunT} (h : Valid X k r) {vs : List Int} (h1 : vs.length = X.p.Vars.length) (h2 : ∀ x ∈ vs, numB x = true) : Valid X k (r.setVars vs) := ⟨h1, h2, h.taken, h.tks, h.steps, h.evs, h.en⟩
theorem Valid.set {X : Ctx} {k : Int} {r : RunT} (h : Valid X k r) (n : Int) {x : Int} (hx : numB x = true) : Valid X k (r.set n x) :=
  h.setVars (by rw [List.length_set]; exact h.vars) fun y hy => (mem_set hy).elim (h.nums y) fun e => e ▸ hx
theorem Valid.ev {X : Ctx} {r : RunT} (h : Valid X 1 r) (e : Event) : Valid X 0 (r.ev e) :=
  ⟨h.vars, h.nums, h.taken, fun t ht => by have := h.tks t ht; simp only [RunT.ev]; omega, h.steps, by have := h.evs; simp only [RunT.ev, List.length_append, List.length_singleton]; omega, h.en⟩
variable [Lp]
def mk (X : Ctx) (r : RunT) : Runner := ⟨X.p, X.ins, X.fuel, X.first, r⟩
theorem val_is {X : Ctx} {k : Int} {r : RunT} (h : Valid X k r) {e : ExprT} (he : exprE X.p e = 0) : F_run_Value e r.Vars = some (valS r.Vars e) ∧ numB (valS r.Vars e) = true := by
  have h1 := exprE_ok he
  rw [← h.vars] at h1
  exact ⟨value_is h.nums h1, val_num h.nums _ e (Nat.le_refl _) h1⟩
theorem manyN (n : Nat) : ∀ (l : List Stmt) (d c : Int), depL l + 1 ≤ n → cntL l ≤ 50 → 1 ≤ d → d + depL l ≤ 100 → 0 ≤ c → c + cntL l ≤ 1000 → (N_scope_Walk__run_Many_1 n).f_scope_Walk__run_Many_1 l d c = some (true, c + cntL l) := by
  induction n with
  | zero => intro l d c h; omega
  | succ n ih =>
    intro l d c h1 h2 h3 h4 h5 h6
    show FB_scope_Walk__run_Many_1 (N_scope_Walk__run_Many_1 n) l d c = _
    unfold FB_scope_Walk__run_Many_1
    have hlen := cntL_len l
    obtain ⟨x, hx, hQ⟩ := lp_wf (B := fun v => B_scope_Walk__run_Many_1_0 (N_scope_Walk__run_Many_1 n) l d v.1 v.2) (fun v => l.length - v.1)
      (fun v => v.1 ≤ l.length ∧ c + cntL l = v.2 + cntL (l.drop v.1) ∧ 0 ≤ v.2)
      (fun x => ∃ a b, x = .inr (a, b, c + (cntL l : Int))) (by
        rintro ⟨k, m⟩ ⟨hk, he, hm⟩
        simp only at hk he hm ⊢
        unfold B_scope_Walk__run_Many_1_0 F_run_Many_1
        by_cases hlt : k < l.length
        · rw [List.drop_eq_getElem_cons hlt, cntL, cnt_eq] at he
          have hmem := List.getElem_mem hlt
          have g1 := cntL_mem hmem
          have g2 := depL_mem hmem
          rw [if_pos (by omega), List.getElem?_eq_getElem hlt, Option.bind_some, if_pos (w64 (by omega) (by omega)), Option.bind_some]
          generalize l[k] = s at *
          have g3 := cnt_eq s
          have g4 := dep_eq s
          simp only [if_true]
          rw [if_pos (w64 (by omega) (by omega)), ih _ _ _ (by omega) (by omega) (by omega) (by omega) (by omega) (by omega), Option.bind_some]
          simp only [if_true]
          rw [ih _ _ _ (by omega) (by omega) (by omega) (by omega) (by omega) (by omega), Option.bind_some]
          simp only [if_true]
          rw [if_pos (w64s (by omega))]
          exact .inr ⟨_, rfl, ⟨by simp only; omega, by simp only; omega, by simp only; omega⟩, by simp only; omega⟩
        · rw [List.drop_eq_nil_of_le (by omega), cntL] at he
          rw [if_neg (by omega)]
          exact .inl ⟨_, rfl, _, _, by rw [show m = c + (cntL l : Int) by omega]⟩) (0, c) ⟨Nat.zero_le _, rfl, h5⟩
    obtain ⟨a, b, rfl⟩ := hQ
    rw [hx]; rfl
theorem many_is {l : List Stmt} (h1 : cntL l ≤ 50) (h2 : depL l ≤ 6) : F_run_Many l = some (cntL l : Int) := by
  unfold F_run_Many
  have : F_scope_Walk__run_Many_1 l 1 0 = some (true, 0 + (cntL l : Int)) := ev_of 8 fun n hn => manyN n l 1 0 (by omega) h1 (by decide) (by omega) (by decide) (by omega)
  rw [this]; simp
theorem step_is {X : Ctx} {r : RunT} (hX : OkX X) (h : Valid X 0 r) : F_run_Runner_Step (mk X r) = some (if r.Steps = X.fuel then (false, mk X r.out) else (true, mk X r.tick)) := by
  unfold F_run_Runner_Step
  have hs := h.steps
  have hf := hX.fuel
  by_cases he : r.Steps = X.fuel
  · rw [if_pos (by simp [mk, he]), if_pos he]; rfl
  · rw [if_neg (by simp [mk, he]), if_pos (w64 (by simp only [mk]; omega) (by simp only [mk]; omega)), if_neg he]; rfl
theorem getD_some {l : List Int} {k : Int} (h0 : 0 ≤ k) (h : k < l.length) : l[k.toNat]? = some (nth l k) := by
  unfold nth
  rw [List.getD_eq_getElem?_getD, List.getElem?_eq_getElem (by omega)]; rfl
theorem getL_some {l : List (List Int)} {k : Int} (h0 : 0 ≤ k) (h : k < l.length) : l[k.toNat]? = some (nthL l k) := by
  unfold nthL
  rw [List.getD_eq_getElem?_getD, List.getElem?_eq_getElem (by omega)]; rfl
theorem nth_mem {l : List Int} {k : Int} (h0 : 0 ≤ k) (h : k < l.length) : nth l k ∈ l := List.mem_of_getElem? (getD_some h0 h)
theorem nthL_mem {l : List (List Int)} {k : Int} (h0 : 0 ≤ k) (h : k < l.length) : nthL l k ∈ l := List.mem_of_getElem? (getL_some h0 h)
theorem do_is {X : Ctx} (hX : OkX X) {i : Int} {s : Stmt} (hs : stmtS X.p i s = 0) (hk : s.Kind ≠ 2 ∧ s.Kind < 7) {r : RunT} (h : Valid X 1 r) (a : Int) :
    F_run_Runner_Do (mk X r) s a = some (mk X (doS X s a r)) ∧ Valid X 0 (doS X s a r) := by
  obtain ⟨o1, o2, o3, o4, o5, o6⟩ := stmt_ok hs
  have hf := hX.fuel
  have hst := h.steps
  have hlen := h.vars
  unfold F_run_Runner_Do doS
  by_cases k3 : s.Kind = 3
  · have v1 := o2 (by rw [k3]; rfl)
    have v2 := o3 (by rw [k3]; rfl)
    have e3 : othersS X.p i s.Kind = X.p.Ins.length := by rw [k3]; rfl
    rw [e3] at v2
    have hi := hX.ins
    have ht := h.taken
    rw [if_pos (by simp [k3]), if_pos k3, natI_nn v2.1, Option.bind_some]
    simp only [mk]
    rw [getL_some v2.1 (by omega), Option.bind_some, getD_some v2.1 (by omega), Option.bind_some]
    obtain ⟨n1, n2⟩ := hX.nums _ (nthL_mem (l := X.ins) v2.1 (by omega))
    have n3 := h.tks _ (nth_mem (l := r.Taken) v2.1 (by omega))
    have d0 : ∀ w, D_run_Runner_Do_d0 ⟨X.p, X.ins, X.fuel, X.first, r⟩ s w = some (r.Vars.set s.Var.toNat w, r.Taken.set s.Other.toNat (nth r.Taken s.Other + 1)) := by
      intro w
      unfold D_run_Runner_Do_d0
      rw [natI_nn v2.1, Option.bind_some]
      simp only
      rw [getD_some v2.1 (by omega), Option.bind_some, if_pos (w64 (by omega) (by omega)), natI_nn v1.1, Option.bind_some, getD_some v1.1 (by omega), Option.bind_some]
    have fin : ∀ w, numB w = true → Valid X 0 ⟨r.Events, r.Vars.set s.Var.toNat w, r.Taken.set s.Other.toNat (nth r.Taken s.Other + 1), r.Steps, r.End, r.Stop⟩ := fun w hw =>
      ⟨by simp only [List.length_set]; exact hlen, fun y hy => (mem_set hy).elim (h.nums y) fun e => e ▸ hw, by simp only [List.length_set]; exact ht, fun y hy => (mem_set hy).elim (fun hm => by have := h.tks y hm; simp only; omega) fun e => by subst e; simp only; omega, hst, by have := h.evs; simp only; omega, h.en⟩
    by_cases hlt : nth r.Taken s.Other < ((nthL X.ins s.Other).length : Int)
    · rw [if_pos hlt, natI_nn n3.1, Option.bind_some, getD_some n3.1 hlt, Option.bind_some, d0, Option.bind_some]
      exact ⟨rfl, fin _ (n2 _ (nth_mem n3.1 hlt))⟩
    · have e0 : nth (nthL X.ins s.Other) (nth r.Taken s.Other) = 0 := by
        unfold nth at hlt ⊢
        rw [List.getD_eq_getElem?_getD (l := nthL X.ins s.Other), List.getElem?_eq_none (by omega)]; rfl
      rw [if_neg hlt, d0, Option.bind_some, e0]
      exact ⟨rfl, fin _ rfl⟩
  · rw [if_neg (by simp [k3]), if_neg k3]
    have he := o5 (by simp [hasE, hk.1, k3])
    obtain ⟨q1, q2⟩ := val_is h he
    simp only [mk]
    rw [q1, Option.bind_some]
    have hev : ((r.Events.length : Int) + 1 ≤ 2000) := by have := h.evs; omega
    by_cases k4 : s.Kind = 4
    · rw [if_neg (by simp [k4]), if_pos k4]
      unfold D_run_Runner_Do_d2 F_run_Runner_happen
      rw [if_pos (by simp [k4])]
      simp only [List.length_singleton]
      rw [if_pos (by omega)]
      exact ⟨rfl, h.ev _⟩
    · have v1 := o2 (by simp [hasV, k4]; omega)
      rw [if_pos (by simp [k4]), if_neg k4, natI_nn v1.1, Option.bind_some, getD_some v1.1 (by omega), Option.bind_some]
      unfold D_run_Runner_Do_d2 F_run_Runner_happen
      rw [if_neg (by simp [k4])]
      simp only [List.length_singleton]
      have hs' := h.set s.Var q2
      by_cases k5 : s.Kind = 5
      · rw [if_pos (by simp [k5]), if_pos k5, if_pos (by omega)]
        exact ⟨rfl, hs'.ev _⟩
      · rw [if_neg (by simp [k5]), if_neg k5]
        by_cases k6 : s.Kind = 6
        · rw [if_pos (by simp [k6]), if_pos k6, if_pos (by omega)]
          exact ⟨rfl, hs'.ev _⟩
        · rw [if_neg (by simp [k6]), if_neg k6]
          exact ⟨rfl, hs'.less⟩
end Go.Proofs.Ytdoiklliklkbgaa.A
