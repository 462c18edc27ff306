/- Runs: the program's runner does what is done step by step. -/
import Derived.Test.YtdoiklliklkbgaaRunP
set_option linter.unusedSectionVars false
set_option linter.unusedVariables false
set_option linter.unusedSimpArgs false
set_option linter.constructorNameAsVariable false
namespace Go.Proofs.Ytdoiklliklkbgaa.A
open Go
variable [Lp]
theorem fnOf_get {X : Ctx} {s : Stmt} (h : s.Other.toNat < X.p.Funcs.length) : X.p.Funcs[s.Other.toNat]? = some (fnOf X s) := by
  unfold fnOf
  rw [List.getElem?_eq_getElem h]; rfl
/-- a function that is called is right. -/
theorem called {X : Ctx} (hX : OkX X) {i : Nat} (hi : i ≤ X.p.Funcs.length) {s : Stmt} (hs : stmtS X.p i s = 0) (hk : s.Kind = 2) :
    0 ≤ s.Other ∧ s.Other.toNat < i ∧ X.p.Funcs[s.Other.toNat]? = some (fnOf X s) ∧ fnS X.p s.Other.toNat (fnOf X s) = 0 ∧ s.Args.length = (fnOf X s).Params.length ∧ cntL (fnOf X s).Body ≤ 50 ∧ depL (fnOf X s).Body ≤ 6 := by
  obtain ⟨o1, o2, o3, o4, o5, o6⟩ := stmt_ok hs
  have v2 := o3 (by rw [hk]; rfl)
  have e3 : othersS X.p i s.Kind = i := by rw [hk]; rfl
  rw [e3] at v2
  have hlt : s.Other.toNat < X.p.Funcs.length := by omega
  have hg := fnOf_get (X := X) (s := s) hlt
  have he : X.p.Funcs[s.Other.toNat] = fnOf X s := Option.some.inj ((List.getElem?_eq_getElem hlt).symm.trans hg)
  have h1 := hX.ok.fns _ hlt
  rw [he] at h1
  have h2 := hX.ok.few _ (List.mem_of_getElem? hg)
  refine ⟨v2.1, by omega, hg, h1, ?_, h2.1, h2.2⟩
  rw [o4 hk]
  unfold parsOf
  rw [hg]; rfl
theorem setL_nil (vs xs : List Int) : setL vs [] xs = vs := by cases xs <;> rfl
theorem setL_ok {v : Nat} : ∀ (ps xs vs : List Int), ps.length = xs.length → vs.length = v → (∀ n ∈ ps, 0 ≤ n ∧ n < v) → (∀ x ∈ xs, numB x = true) → (∀ x ∈ vs, numB x = true) → (setL vs ps xs).length = v ∧ ∀ x ∈ setL vs ps xs, numB x = true
  | [], [], vs, _, hv, _, _, hn => ⟨hv, hn⟩
  | n :: ps, x :: xs, vs, hl, hv, hp, hx, hn => by
    rw [setL]
    exact setL_ok ps xs (vs.set n.toNat x) (by simpa using hl) (by rw [List.length_set]; exact hv) (fun m hm => hp m (by simp [hm])) (fun y hy => hx y (by simp [hy])) fun y hy => (mem_set hy).elim (hn y) fun e => e ▸ hx x (by simp)
  | [], _ :: _, _, hl, _, _, _, _ => by cases hl
  | _ :: _, [], _, hl, _, _, _, _ => by cases hl
theorem enter_is {X : Ctx} (hX : OkX X) {i : Nat} (hi : i ≤ X.p.Funcs.length) {s : Stmt} (hs : stmtS X.p i s = 0) (hk : s.Kind = 2) {r : RunT} (h : Valid X 1 r) :
    F_run_Runner_Enter (mk X r) s = some (mk X (enterS X s r)) ∧ Valid X 1 (enterS X s r) := by
  obtain ⟨c1, c2, c3, c4, c5, _⟩ := called hX hi hs hk
  obtain ⟨f1, f2, f3, f4⟩ := fn_ok c4
  obtain ⟨o1, o2, o3, o4, o5, o6⟩ := stmt_ok hs
  unfold F_run_Runner_Enter
  obtain ⟨x, hx, hQ⟩ := lp_wf (B := fun v => B_run_Runner_Enter_0 (mk X r) s v.1 v.2) (fun v => s.Args.length - v.2) (fun v => v.2 ≤ s.Args.length ∧ v.1 = (s.Args.take v.2).map (valS r.Vars))
    (fun x => x.1 = s.Args.map (valS r.Vars)) (by
      rintro ⟨l, k⟩ ⟨hk', he⟩
      simp only at hk' he ⊢
      unfold B_run_Runner_Enter_0
      by_cases hlt : k < s.Args.length
      · rw [if_pos (by omega), List.getElem?_eq_getElem hlt, Option.bind_some]
        obtain ⟨q1, q2⟩ := val_is h (o6 _ (List.getElem_mem hlt))
        simp only [mk]
        rw [q1, Option.bind_some, if_pos (by rw [he, List.length_map, List.length_take]; simp only [List.length_singleton]; omega), if_pos (w64s (by omega))]
        refine .inr ⟨_, rfl, ⟨by simp only; omega, ?_⟩, by simp only; omega⟩
        simp only
        rw [he, List.take_add_one, List.getElem?_eq_getElem hlt, List.map_append]; rfl
      · rw [if_neg (by omega)]
        rw [List.take_of_length_le (by omega)] at he
        exact .inl ⟨_, rfl, he⟩) ([], 0) ⟨Nat.zero_le _, by simp⟩
  rw [hx, Option.bind_some, natI_nn c1, Option.bind_some]
  simp only [mk]
  rw [c3, Option.bind_some]
  obtain ⟨l, k1, k2⟩ := x
  simp only at hQ
  subst hQ
  have hvl : (s.Args.map (valS r.Vars)).length = (fnOf X s).Params.length := by rw [List.length_map, c5]
  have hvn : ∀ y ∈ s.Args.map (valS r.Vars), numB y = true := by
    intro y hy
    obtain ⟨e, he, rfl⟩ := List.mem_map.1 hy
    exact (val_is h (o6 e he)).2
  have hset := setL_ok (v := X.p.Vars.length) _ _ r.Vars hvl.symm h.vars f2 hvn h.nums
  unfold enterS
  generalize s.Args.map (valS r.Vars) = vals at *
  obtain ⟨x, hx2, hQ2⟩ := lp_wf (B := fun v => B_run_Runner_Enter_1 ⟨X.p, X.ins, X.fuel, X.first, r⟩ (vals, k1, k2) (fnOf X s) v.1 v.2) (fun v => (fnOf X s).Params.length - v.1)
    (fun v => v.1 ≤ (fnOf X s).Params.length ∧ v.2.length = X.p.Vars.length ∧ setL r.Vars (fnOf X s).Params vals = setL v.2 ((fnOf X s).Params.drop v.1) (vals.drop v.1))
    (fun x => x.2.2 = setL r.Vars (fnOf X s).Params vals) (by
      rintro ⟨k, vs⟩ ⟨hk', hl', he⟩
      simp only at hk' hl' he ⊢
      unfold B_run_Runner_Enter_1
      by_cases hlt : k < (fnOf X s).Params.length
      · have hlt2 : k < vals.length := by omega
        rw [List.drop_eq_getElem_cons hlt, List.drop_eq_getElem_cons hlt2, setL] at he
        have hp := f2 _ (List.getElem_mem hlt)
        rw [if_pos (by omega), List.getElem?_eq_getElem hlt, Option.bind_some]
        simp only
        rw [List.getElem?_eq_getElem hlt2, Option.bind_some, natI_nn hp.1, Option.bind_some, List.getElem?_eq_getElem (by omega), Option.bind_some, if_pos (w64s (by omega))]
        exact .inr ⟨_, rfl, ⟨by simp only; omega, by simp only [List.length_set]; exact hl', he⟩, by simp only; omega⟩
      · rw [if_neg (by omega)]
        rw [List.drop_eq_nil_of_le (by omega), setL_nil] at he
        exact .inl ⟨_, rfl, he.symm⟩) (0, r.Vars) ⟨Nat.zero_le _, h.vars, rfl⟩
  rw [hx2, Option.bind_some, hQ2]
  exact ⟨rfl, h.setVars hset.1 hset.2⟩
theorem leave_is {X : Ctx} (hX : OkX X) {i : Nat} (hi : i ≤ X.p.Funcs.length) {s : Stmt} (hs : stmtS X.p i s = 0) (hk : s.Kind = 2) {r : RunT} (h : Valid X 0 r) :
    F_run_Runner_Leave (mk X r) s = some (mk X (leaveS X s r)) ∧ Valid X 0 (leaveS X s r) := by
  obtain ⟨c1, c2, c3, c4, c5, _⟩ := called hX hi hs hk
  obtain ⟨f1, f2, f3, f4⟩ := fn_ok c4
  obtain ⟨o1, o2, o3, o4, o5, o6⟩ := stmt_ok hs
  have v1 := o2 (by rw [hk]; rfl)
  obtain ⟨q1, q2⟩ := val_is h f4
  have hv := h.vars
  unfold F_run_Runner_Leave
  rw [natI_nn c1, Option.bind_some]
  simp only [mk]
  rw [c3, Option.bind_some, q1, Option.bind_some, natI_nn v1.1, Option.bind_some, getD_some v1.1 (by omega), Option.bind_some]
  exact ⟨rfl, h.set s.Var q2⟩
theorem firsts_len : ∀ (l : List Func) (n : Int), (firstsL n l).length = l.length + 1
  | [], n => rfl
  | f :: r, n => by rw [firstsL, List.length_cons, firsts_len r, List.length_cons]
theorem firsts_bound : ∀ (l : List Func) (n : Int), 0 ≤ n → (n + ((l.map fun f => cntL f.Body).sum : Nat) ≤ 50) → ∀ x ∈ firstsL n l, 0 ≤ x ∧ x ≤ 50
  | [], n, h0, h, x, hx => by
    obtain rfl : x = n := by simpa [firstsL] using hx
    simp at h; omega
  | f :: r, n, h0, h, x, hx => by
    rw [firstsL] at hx
    rw [List.map_cons, List.sum_cons] at h
    rcases List.mem_cons.1 hx with rfl | hx
    · omega
    · exact firsts_bound r _ (by omega) (by omega) x hx
theorem first_is {X : Ctx} (hX : OkX X) {k : Int} (h0 : 0 ≤ k) (h : k ≤ X.p.Funcs.length) : X.first[k.toNat]? = some (nth X.first k) ∧ 0 ≤ nth X.first k ∧ nth X.first k ≤ 50 := by
  have hl : X.first.length = X.p.Funcs.length + 1 := by rw [hX.first, firsts_len]
  have hm := nth_mem (l := X.first) h0 (by omega)
  refine ⟨getD_some h0 (by omega), ?_⟩
  have hs := hX.ok.sum
  rw [hX.first] at hm ⊢
  exact firsts_bound X.p.Funcs 0 (by decide) (by omega) _ hm
noncomputable abbrev NR (n : Nat) := N_run_Runner_all_run_Runner_call_run_Runner_inner_run_Runner_o n
/-- what a list of commands does. -/
def AllOk (X : Ctx) (n : Nat) : Prop := ∀ (i : Nat) (l : List Stmt), i ≤ X.p.Funcs.length → 3 * depL l + 100 * i + 1 ≤ n → errL (stmtS X.p i) l = 0 → cntL l ≤ 50 → depL l ≤ 6 → ∀ (r : RunT) (a : Int), Valid X 0 r → 0 ≤ a → a + cntL l ≤ 200 →
  ∃ b r', (NR n).f_run_Runner_all (mk X r) l a = some (b, mk X r') ∧ (b = true → Valid X 0 r' ∧ r.Steps ≤ r'.Steps ∧ ∀ K, Gets X (.run l a :: K, r) (K, r')) ∧ (b = false → r'.End = 2 ∧ ∀ K, Gets X (.run l a :: K, r) ([], r'))
def OneOk (X : Ctx) (n : Nat) : Prop := ∀ (i : Nat) (s : Stmt), i ≤ X.p.Funcs.length → 3 * dep s + 100 * i ≤ n → errS (stmtS X.p i) s = 0 → cnt s ≤ 50 → dep s ≤ 6 → ∀ (r : RunT) (a : Int), Valid X 0 r → 0 ≤ a → a + cnt s ≤ 200 →
  ∃ b r', (NR n).f_run_Runner_one (mk X r) s a = some (b, mk X r') ∧ (b = true → Valid X 0 r' ∧ r.Steps ≤ r'.Steps ∧ ∀ l K, Gets X (.run (s :: l) a :: K, r) (.run l (a + cnt s) :: K, r')) ∧ (b = false → r'.End = 2 ∧ ∀ l K, Gets X (.run (s :: l) a :: K, r) ([], r'))
def InnerOk (X : Ctx) (n : Nat) : Prop := ∀ (i : Nat) (s : Stmt), i ≤ X.p.Funcs.length → 3 * dep s + 100 * i ≤ n + 1 → errS (stmtS X.p i) s = 0 → cnt s ≤ 50 → dep s ≤ 6 → 7 ≤ s.Kind → ∀ (r : RunT) (a : Int), Valid X 1 r → 0 ≤ a → a + cnt s ≤ 200 →
  ∃ b r', (NR n).f_run_Runner_inner (mk X r) s a = some (b, mk X r') ∧ (b = true → Valid X 0 r' ∧ r.Steps ≤ r'.Steps ∧ ∀ l K, Gets X (goS X s a l K r) (.run l (a + cnt s) :: K, r')) ∧ (b = false → r'.End = 2 ∧ ∀ l K, Gets X (goS X s a l K r) ([], r'))
def CallOkR (X : Ctx) (n : Nat) : Prop := ∀ (i : Nat) (s : Stmt), i ≤ X.p.Funcs.length → 100 * i ≤ n → stmtS X.p i s = 0 → s.Kind = 2 → ∀ (r : RunT) (a : Int), Valid X 1 r →
  ∃ b r', (NR n).f_run_Runner_call (mk X r) s = some (b, mk X r') ∧ (b = true → Valid X 0 r' ∧ r.Steps ≤ r'.Steps ∧ ∀ l K, Gets X (goS X s a l K r) (.run l (a + cnt s) :: K, r')) ∧ (b = false → r'.End = 2 ∧ ∀ l K, Gets X (goS X s a l K r) ([], r'))
theorem all_step {X : Ctx} (hX : OkX X) {n : Nat} (h1 : OneOk X n) : AllOk X (n + 1) := by
  intro i l hi hn hok hc hd r a hv ha hac
  show ∃ b r', FB_run_Runner_all (NR n) (mk X r) l a = some (b, mk X r') ∧ _
  unfold FB_run_Runner_all
  have hlen := cntL_len l
  obtain ⟨x, hx, hQ⟩ := lp_wf (B := fun v => B_run_Runner_all_0 (NR n) l v.1 v.2.1 v.2.2) (fun v => l.length - v.2.2)
    (fun v => v.2.2 ≤ l.length ∧ ∃ r1, v.1 = mk X r1 ∧ Valid X 0 r1 ∧ r.Steps ≤ r1.Steps ∧ a ≤ v.2.1 ∧ v.2.1 + cntL (l.drop v.2.2) = a + cntL l ∧ ∀ K, Gets X (.run l a :: K, r) (.run (l.drop v.2.2) v.2.1 :: K, r1))
    (fun x => (∃ r1, x = .inl (mk X r1) ∧ r1.End = 2 ∧ ∀ K, Gets X (.run l a :: K, r) ([], r1)) ∨ (∃ b c r1, x = .inr (b, c, false, mk X r1) ∧ Valid X 0 r1 ∧ r.Steps ≤ r1.Steps ∧ ∀ K, Gets X (.run l a :: K, r) (K, r1))) (by
      rintro ⟨c, b, k⟩ ⟨hk, r1, rfl, v1, v2, v3, v4, v5⟩
      simp only at hk v3 v4 v5 ⊢
      unfold B_run_Runner_all_0
      by_cases hlt : k < l.length
      · have hm := List.getElem_mem hlt
        have g1 := cntL_mem hm
        have g2 := depL_mem hm
        have hoks := errL_all hok _ hm
        rw [List.drop_eq_getElem_cons hlt, cntL] at v4
        rw [List.drop_eq_getElem_cons hlt] at v5
        rw [if_pos (by omega), List.getElem?_eq_getElem hlt, Option.bind_some]
        generalize l[k] = s at *
        have g3 := cnt_eq s
        have g4 := dep_eq s
        obtain ⟨bb, r2, e1, e2, e3⟩ := h1 i s hi (by omega) hoks (by omega) (by omega) r1 b v1 (by omega) (by omega)
        rw [e1, Option.bind_some]
        cases bb with
        | false =>
          obtain ⟨t1, t2⟩ := e3 rfl
          exact .inl ⟨_, rfl, .inl ⟨r2, rfl, t1, fun K => (v5 K).trans (t2 _ K)⟩⟩
        | true =>
          obtain ⟨t1, t2, t3⟩ := e2 rfl
          simp only [if_true]
          rw [many_is (by omega) (by omega), Option.bind_some, if_pos (w64 (by omega) (by omega)), many_is (by omega) (by omega), Option.bind_some, if_pos (w64 (by omega) (by omega)), if_pos (w64 (by omega) (by omega)), if_pos (w64s (by omega))]
          have ec : b + (1 + (cntL s.Then : Int) + (cntL s.Else : Int)) = b + (cnt s : Int) := by omega
          rw [ec]
          exact .inr ⟨_, rfl, ⟨by simp only; omega, r2, rfl, t1, by omega, by simp only; omega, by simp only; omega, fun K => (v5 K).trans (t3 _ K)⟩, by simp only; omega⟩
      · rw [if_neg (by omega)]
        have hdr : l.drop k = [] := List.drop_eq_nil_of_le (by omega)
        rw [hdr] at v5
        exact .inl ⟨_, rfl, .inr ⟨b, k, r1, by rw [decide_eq_false (show ¬ (k : Int) < (l.length : Int) by omega)], v1, v2, fun K => (v5 K).trans (Gets.one rfl)⟩⟩) (mk X r, a, 0) ⟨Nat.zero_le _, r, rfl, hv, Int.le_refl _, Int.le_refl _, rfl, fun K => Gets.refl _ _⟩
  rw [hx, Option.bind_some]
  rcases hQ with ⟨r1, rfl, q1, q2⟩ | ⟨b, c, r1, rfl, q1, q2, q3⟩
  · exact ⟨false, r1, rfl, fun h => (by cases h), fun _ => ⟨q1, q2⟩⟩
  · exact ⟨true, r1, rfl, fun _ => ⟨q1, q2, q3⟩, fun h => by cases h⟩
theorem call_step {X : Ctx} (hX : OkX X) {n : Nat} (h1 : AllOk X n) : CallOkR X (n + 1) := by
  intro i s hi hn hok hk r a hv
  show ∃ b r', FB_run_Runner_call (NR n) (mk X r) s = some (b, mk X r') ∧ _
  unfold FB_run_Runner_call
  obtain ⟨c1, c2, c3, c4, c5, c6, c7⟩ := called hX hi hok hk
  obtain ⟨f1, f2, f3, f4⟩ := fn_ok c4
  obtain ⟨e1, e2⟩ := enter_is hX hi hok hk hv
  obtain ⟨g1, g2, g3⟩ := first_is hX c1 (by omega)
  rw [e1, Option.bind_some, natI_nn c1, Option.bind_some]
  simp only [mk]
  rw [c3, Option.bind_some, g1, Option.bind_some]
  obtain ⟨bb, r2, t1, t2, t3⟩ := h1 s.Other.toNat (fnOf X s).Body (by omega) (by omega) f3 c6 c7 (enterS X s r) (nth X.first s.Other) e2.less g2 (by omega)
  simp only [mk] at t1
  rw [t1, Option.bind_some]
  have hgo : ∀ l K, goS X s a l K r = (.run (fnOf X s).Body (nth X.first s.Other) :: .leave s :: .run l (a + cnt s) :: K, enterS X s r) := fun l K => by unfold goS; rw [if_pos hk]
  cases bb with
  | false =>
    obtain ⟨u1, u2⟩ := t3 rfl
    exact ⟨false, r2, rfl, fun h => (by cases h), fun _ => ⟨u1, fun l K => by rw [hgo]; exact u2 _⟩⟩
  | true =>
    obtain ⟨u1, u2, u3⟩ := t2 rfl
    obtain ⟨l1, l2⟩ := leave_is hX hi hok hk u1
    simp only [mk] at l1
    simp only [if_true]
    rw [l1, Option.bind_some]
    exact ⟨true, leaveS X s r2, rfl, fun _ => ⟨l2, u2, fun l K => by rw [hgo]; exact (u3 _).trans (Gets.one rfl)⟩, fun h => by cases h⟩
theorem true_is {X : Ctx} {k : Int} {r : RunT} (h : Valid X k r) {e : ExprT} (he : exprE X.p e = 0) : F_run_Runner_True (mk X r) e = some (valS r.Vars e != 0) := by
  unfold F_run_Runner_True
  simp only [mk]
  rw [(val_is h he).1]; rfl
theorem inner_step {X : Ctx} (hX : OkX X) {n : Nat} (h1 : AllOk X n) : InnerOk X (n + 1) := by
  intro i s hi hn hok hc hd hk r a hv ha hac
  obtain ⟨s1, s2, s3⟩ := errS_all hok
  obtain ⟨o1, o2, o3, o4, o5, o6⟩ := stmt_ok s1
  have he := o5 (by simp [hasE]; omega)
  have g3 := cnt_eq s
  have g4 := dep_eq s
  show ∃ b r', FB_run_Runner_inner (NR n) (mk X r) s a = some (b, mk X r') ∧ _
  unfold FB_run_Runner_inner
  by_cases k7 : s.Kind = 7
  · rw [if_pos (by simp [k7])]
    unfold F_run_Runner_Side
    rw [true_is hv he, Option.bind_some]
    have hgo : ∀ l K, goS X s a l K r = (.run (if valS r.Vars s.Expr ≠ 0 then s.Then else s.Else) (if valS r.Vars s.Expr ≠ 0 then a + 1 else a + 1 + cntL s.Then) :: .run l (a + cnt s) :: K, r) := fun l K => by
      unfold goS
      rw [if_neg (by omega), if_pos k7]
    by_cases h0 : valS r.Vars s.Expr = 0
    · rw [if_neg (by simp [h0]), if_pos (w64 (by omega) (by omega)), many_is (by omega) (by omega), Option.bind_some, if_pos (w64 (by omega) (by omega)), Option.bind_some]
      obtain ⟨bb, r2, t1, t2, t3⟩ := h1 i s.Else hi (by omega) s3 (by omega) (by omega) r (a + 1 + cntL s.Then) hv.less (by omega) (by omega)
      simp only
      rw [t1, Option.bind_some]
      refine ⟨bb, r2, rfl, fun hb => ?_, fun hb => ?_⟩
      · obtain ⟨u1, u2, u3⟩ := t2 hb
        exact ⟨u1, u2, fun l K => by rw [hgo, if_neg (by simp [h0]), if_neg (by simp [h0])]; exact u3 _⟩
      · obtain ⟨u1, u2⟩ := t3 hb
        exact ⟨u1, fun l K => by rw [hgo, if_neg (by simp [h0]), if_neg (by simp [h0])]; exact u2 _⟩
    · rw [if_pos (by simp [h0]), if_pos (w64 (by omega) (by omega)), Option.bind_some]
      obtain ⟨bb, r2, t1, t2, t3⟩ := h1 i s.Then hi (by omega) s2 (by omega) (by omega) r (a + 1) hv.less (by omega) (by omega)
      simp only
      rw [t1, Option.bind_some]
      refine ⟨bb, r2, rfl, fun hb => ?_, fun hb => ?_⟩
      · obtain ⟨u1, u2, u3⟩ := t2 hb
        exact ⟨u1, u2, fun l K => by rw [hgo, if_pos h0, if_pos h0]; exact u3 _⟩
      · obtain ⟨u1, u2⟩ := t3 hb
        exact ⟨u1, fun l K => by rw [hgo, if_pos h0, if_pos h0]; exact u2 _⟩
  · rw [if_neg (by simp [k7])]
    have k8 : s.Kind = 8 := by omega
    have hgo : ∀ l K (q : RunT), goS X s a l K q = if valS q.Vars s.Expr ≠ 0 then (.run s.Then (a + 1) :: .run (s :: l) a :: K, q) else (.run l (a + cnt s) :: K, q) := fun l K q => by
      unfold goS
      rw [if_neg (by omega), if_neg k7, if_pos k8]
    obtain ⟨x, hx, hQ⟩ := lp_wf (B := fun v => B_run_Runner_inner_0 (NR n) s a v) (fun v => (v.fuel - v.Run.Steps).toNat)
      (fun v => ∃ q, v = mk X q ∧ Valid X 1 q ∧ r.Steps ≤ q.Steps ∧ ∀ l K, Gets X (goS X s a l K r) (goS X s a l K q))
      (fun x => (∃ q, x = .inl (mk X q) ∧ q.End = 2 ∧ ∀ l K, Gets X (goS X s a l K r) ([], q)) ∨ (∃ b q, x = .inr (b, mk X q) ∧ Valid X 0 q ∧ r.Steps ≤ q.Steps ∧ ∀ l K, Gets X (goS X s a l K r) (.run l (a + cnt s) :: K, q))) (by
        rintro v ⟨q, rfl, v1, v2, v3⟩
        unfold B_run_Runner_inner_0
        rw [true_is v1 he, Option.bind_some]
        by_cases h0 : valS q.Vars s.Expr = 0
        · rw [if_neg (by simp [h0])]
          refine .inl ⟨_, rfl, .inr ⟨_, q, rfl, v1.less, v2, fun l K => ?_⟩⟩
          have := v3 l K
          rw [hgo l K q, if_neg (by simp [h0])] at this
          exact this
        · rw [if_pos (by simp [h0]), if_pos (w64 (by omega) (by omega))]
          obtain ⟨bb, r2, t1, t2, t3⟩ := h1 i s.Then hi (by omega) s2 (by omega) (by omega) q (a + 1) v1.less (by omega) (by omega)
          rw [t1, Option.bind_some]
          have hv3 : ∀ l K, Gets X (goS X s a l K r) (.run s.Then (a + 1) :: .run (s :: l) a :: K, q) := fun l K => by
            have := v3 l K
            rw [hgo l K q, if_pos h0] at this
            exact this
          cases bb with
          | false =>
            obtain ⟨u1, u2⟩ := t3 rfl
            exact .inl ⟨_, rfl, .inl ⟨r2, rfl, u1, fun l K => (hv3 l K).trans (u2 _)⟩⟩
          | true =>
            obtain ⟨u1, u2, u3⟩ := t2 rfl
            simp only [if_true]
            rw [step_is hX u1, Option.bind_some]
            by_cases hf : r2.Steps = X.fuel
            · rw [if_pos hf]
              simp only [Bool.false_eq_true, if_false]
              refine .inl ⟨_, rfl, .inl ⟨r2.out, rfl, rfl, fun l K => ((hv3 l K).trans (u3 _)).trans (Gets.one ?_)⟩⟩
              simp only [stepS, if_pos hf]
            · rw [if_neg hf]
              simp only [if_true]
              have hst := u1.steps
              have hq := v1.steps
              refine .inr ⟨_, rfl, ⟨r2.tick, rfl, u1.tick hf, by simp only [RunT.tick]; omega, fun l K => ((hv3 l K).trans (u3 _)).trans (Gets.one ?_)⟩, ?_⟩
              · simp only [stepS, if_neg hf]
              · simp only [mk, RunT.tick]; omega) (mk X r) ⟨r, rfl, hv, Int.le_refl _, fun l K => Gets.refl _ _⟩
    rw [hx, Option.bind_some]
    rcases hQ with ⟨q, rfl, q1, q2⟩ | ⟨b, q, rfl, q1, q2, q3⟩
    · exact ⟨false, q, rfl, fun h => (by cases h), fun _ => ⟨q1, q2⟩⟩
    · exact ⟨true, q, rfl, fun _ => ⟨q1, q2, q3⟩, fun h => by cases h⟩
theorem one_step {X : Ctx} (hX : OkX X) {n : Nat} (h1 : CallOkR X n) (h2 : InnerOk X n) : OneOk X (n + 1) := by
  intro i s hi hn hok hc hd r a hv ha hac
  obtain ⟨s1, s2, s3⟩ := errS_all hok
  have g4 := dep_eq s
  show ∃ b r', FB_run_Runner_one (NR n) (mk X r) s a = some (b, mk X r') ∧ _
  unfold FB_run_Runner_one
  rw [step_is hX hv, Option.bind_some]
  by_cases hf : r.Steps = X.fuel
  · rw [if_pos hf]
    simp only [Bool.false_eq_true, if_false]
    exact ⟨false, r.out, rfl, fun h => (by cases h), fun _ => ⟨rfl, fun l K => Gets.one (by simp only [stepS, if_pos hf])⟩⟩
  · rw [if_neg hf]
    simp only [if_true]
    have ht := hv.tick hf
    have hgo : ∀ l K, Gets X (.run (s :: l) a :: K, r) (goS X s a l K r.tick) := fun l K => Gets.one (by simp only [stepS, if_neg hf])
    have hle : r.Steps ≤ r.tick.Steps := by simp only [RunT.tick]; omega
    by_cases k2 : s.Kind = 2
    · rw [if_pos (by simp [k2])]
      obtain ⟨bb, r2, t1, t2, t3⟩ := h1 i s hi (by omega) s1 k2 r.tick a ht
      rw [t1, Option.bind_some]
      refine ⟨bb, r2, rfl, fun hb => ?_, fun hb => ?_⟩
      · obtain ⟨u1, u2, u3⟩ := t2 hb
        exact ⟨u1, by omega, fun l K => (hgo l K).trans (u3 l K)⟩
      · obtain ⟨u1, u2⟩ := t3 hb
        exact ⟨u1, fun l K => (hgo l K).trans (u2 l K)⟩
    · rw [if_neg (by simp [k2])]
      by_cases k7 : 7 ≤ s.Kind
      · rw [if_pos k7]
        obtain ⟨bb, r2, t1, t2, t3⟩ := h2 i s hi (by omega) hok hc hd k7 r.tick a ht ha hac
        rw [t1, Option.bind_some]
        refine ⟨bb, r2, rfl, fun hb => ?_, fun hb => ?_⟩
        · obtain ⟨u1, u2, u3⟩ := t2 hb
          exact ⟨u1, by omega, fun l K => (hgo l K).trans (u3 l K)⟩
        · obtain ⟨u1, u2⟩ := t3 hb
          exact ⟨u1, fun l K => (hgo l K).trans (u2 l K)⟩
      · rw [if_neg k7]
        obtain ⟨q1, q2⟩ := do_is hX s1 ⟨k2, by omega⟩ ht a
        rw [q1, Option.bind_some]
        refine ⟨true, doS X s a r.tick, rfl, fun _ => ⟨q2, ?_, fun l K => ?_⟩, fun h => by cases h⟩
        · have := (goS_run X s a [] [] r.tick).2.1
          unfold goS at this
          rw [if_neg k2, if_neg (by omega), if_neg (by omega)] at this
          simp only at this
          omega
        · have := hgo l K
          unfold goS at this
          rw [if_neg k2, if_neg (by omega), if_neg (by omega)] at this
          exact this
theorem all_ok {X : Ctx} (hX : OkX X) : ∀ n, AllOk X n ∧ OneOk X n ∧ InnerOk X n ∧ CallOkR X n := by
  intro n
  induction n with
  | zero =>
    refine ⟨fun i l _ h => by omega, fun i s _ h => ?_, fun i s _ h => ?_, fun i s hi h hok hk => ?_⟩
    · have := dep_eq s; omega
    · have := dep_eq s; omega
    · have := (called hX hi hok hk).2.1; omega
  | succ n ih => exact ⟨all_step hX ih.2.1, one_step hX ih.2.2.2 ih.2.2.1, inner_step hX ih.1, call_step hX ih.1⟩
theorem all_is {X : Ctx} (hX : OkX X) {r : RunT} {a : Int} (hv : Valid X 0 r) (h0 : 0 ≤ a) (h : a ≤ 50) : ∃ b r', F_run_Runner_all (mk X r) X.p.Main a = some (b, mk X r') ∧ (b = true → Valid X 0 r' ∧ ∀ K, Gets X (.run X.p.Main a :: K, r) (K, r')) ∧ (b = false → r'.End = 2 ∧ ∀ K, Gets X (.run X.p.Main a :: K, r) ([], r')) := by
  have hm := hX.ok.main
  have hn : ∀ n, 3 * 6 + 100 * X.p.Funcs.length + 1 ≤ n → ∃ b r', (NR n).f_run_Runner_all (mk X r) X.p.Main a = some (b, mk X r') ∧ (b = true → Valid X 0 r' ∧ ∀ K, Gets X (.run X.p.Main a :: K, r) (K, r')) ∧ (b = false → r'.End = 2 ∧ ∀ K, Gets X (.run X.p.Main a :: K, r) ([], r')) := fun n hn => by
    obtain ⟨b, r', e1, e2, e3⟩ := (all_ok hX n).1 X.p.Funcs.length X.p.Main (Nat.le_refl _) (by omega) hX.ok.mains hm.1 hm.2 r a hv h0 (by omega)
    exact ⟨b, r', e1, fun hb => ⟨(e2 hb).1, (e2 hb).2.2⟩, e3⟩
  obtain ⟨b, r', e1, e2, e3⟩ := hn _ (Nat.le_refl _)
  refine ⟨b, r', ?_, e2, e3⟩
  refine ev_of (3 * 6 + 100 * X.p.Funcs.length + 1) fun n hge => ?_
  obtain ⟨b', r2, f1, f2, f3⟩ := hn n hge
  rw [f1]
  cases b with
  | true =>
    have g1 := (e2 rfl).2 []
    cases b' with
    | true => rw [((f2 rfl).2 []).end_eq g1]
    | false =>
      have := ((f3 rfl).2 []).end_eq g1
      have h1 := (f3 rfl).1
      rw [this, (e2 rfl).1.en] at h1
      exact absurd h1 (by decide)
  | false =>
    have g1 := (e3 rfl).2 []
    cases b' with
    | true =>
      have := ((f2 rfl).2 []).end_eq g1
      have h1 := (e3 rfl).1
      rw [← this, (f2 rfl).1.en] at h1
      exact absurd h1 (by decide)
    | false => rw [((f3 rfl).2 []).end_eq g1]
end Go.Proofs.Ytdoiklliklkbgaa.A
