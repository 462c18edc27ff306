/- Runs: what run.Run answers. -/
import Derived.Test.YtdoiklliklkbgaaRunQ
set_option linter.unusedSectionVars false
set_option linter.unusedVariables false
set_option linter.unusedSimpArgs false
set_option linter.constructorNameAsVariable false
namespace Go.Proofs.Ytdoiklliklkbgaa.A
open Go
/-- what is wrong with a run. -/
def readyS (p : Program) (ins : List (List Int)) (fuel : Int) : Int :=
  if checkS p ≠ 0 then checkS p
  else if ins.length ≠ p.Ins.length then 1
  else if ins.any (fun l => decide (100 < (l.length : Int))) then 2
  else if ins.any (fun l => l.any fun n => !numB n) then 3
  else if fuel < 0 ∨ 2000 < fuel then 3 else 0
def ctxOf (p : Program) (ins : List (List Int)) (fuel : Int) : Ctx := ⟨p, ins, fuel, firstsL 0 p.Funcs⟩
def init (p : Program) : RunT := ⟨[], List.replicate p.Vars.length 0, List.replicate p.Ins.length 0, 0, 0, 0⟩
def begin_ (p : Program) : Cfg := ([.run p.Main (nth (firstsL 0 p.Funcs) p.Funcs.length)], init p)
/-- what always holds of a run. -/
structure Kept (v t : Nat) (r : RunT) : Prop where
  vars : r.Vars.length = v
  taken : r.Taken.length = t
  nn : ∀ x ∈ r.Taken, 0 ≤ x
  evs : (r.Events.length : Int) ≤ r.Steps
theorem setL_len : ∀ (ps xs vs : List Int), (setL vs ps xs).length = vs.length
  | n :: ps, x :: xs, vs => by rw [setL, setL_len ps xs, List.length_set]
  | [], xs, vs => by cases xs <;> rfl
  | _ :: _, [], vs => rfl
theorem Kept.tick {v t : Nat} {r : RunT} (h : Kept v t r) : Kept v t r.tick ∧ (r.tick.Events.length : Int) + 1 ≤ r.tick.Steps :=
  ⟨⟨h.vars, h.taken, h.nn, by have := h.evs; simp only [RunT.tick]; omega⟩, by have := h.evs; simp only [RunT.tick]; omega⟩
theorem nth_nn {l : List Int} (h : ∀ x ∈ l, 0 ≤ x) (k : Int) : 0 ≤ nth l k := by
  unfold nth
  rw [List.getD_eq_getElem?_getD]
  cases hk : l[k.toNat]? with
  | none => exact Int.le_refl _
  | some x => exact h x (List.mem_of_getElem? hk)
theorem Kept.step {X : Ctx} {v t : Nat} {c : Cfg} (h : Kept v t c.2) : Kept v t (stepS X c).2 := by
  obtain ⟨ts, r⟩ := c
  match ts with
  | [] => exact h
  | .leave s :: K => exact ⟨by simp only [stepS, leaveS, RunT.set, RunT.setVars, List.length_set]; exact h.vars, h.taken, h.nn, h.evs⟩
  | .run [] _ :: K => exact h
  | .run (s :: l) a :: K =>
    simp only [stepS]
    split
    · exact ⟨h.vars, h.taken, h.nn, h.evs⟩
    · obtain ⟨⟨k1, k2, k3, k4⟩, k5⟩ := Kept.tick h
      generalize r.tick = q at *
      unfold goS
      split
      · exact ⟨by simp only [enterS, RunT.setVars, setL_len]; exact k1, k2, k3, k4⟩
      split
      · exact ⟨k1, k2, k3, k4⟩
      split
      · split
        · exact ⟨k1, k2, k3, k4⟩
        · exact ⟨k1, k2, k3, k4⟩
      unfold doS
      have hs : ∀ (n x : Int), ((q.set n x).Vars.length = v) := fun n x => by simp only [RunT.set, RunT.setVars, List.length_set]; exact k1
      split
      · exact ⟨by simp only [List.length_set]; exact k1, by simp only [List.length_set]; exact k2, fun y hy => (mem_set hy).elim (k3 y) fun e => by have := nth_nn k3 s.Other; omega, k4⟩
      split
      · exact ⟨k1, k2, k3, by simp only [RunT.ev, List.length_append, List.length_singleton]; omega⟩
      split
      · exact ⟨hs _ _, k2, k3, by simp only [RunT.ev, RunT.set, RunT.setVars, List.length_append, List.length_singleton]; omega⟩
      split
      · exact ⟨hs _ _, k2, k3, by simp only [RunT.ev, RunT.set, RunT.setVars, List.length_append, List.length_singleton]; omega⟩
      · exact ⟨hs _ _, k2, k3, k4⟩
theorem Kept.iter {X : Ctx} {v t : Nat} : ∀ (n : Nat) {c : Cfg}, Kept v t c.2 → Kept v t (iter X n c).2
  | 0, c, h => h
  | n + 1, c, h => Kept.iter n h.step
theorem init_kept (p : Program) : Kept p.Vars.length p.Ins.length (init p) := ⟨by simp [init], by simp [init], fun x hx => by have := List.eq_of_mem_replicate hx; omega, by simp [init]⟩
theorem steps_le {X : Ctx} : ∀ (n : Nat) {c : Cfg}, c.2.Steps ≤ X.fuel → (A.iter X n c).2.Steps ≤ X.fuel
  | 0, c, h => h
  | n + 1, c, h => steps_le n (step_steps h)
theorem Comes.kept {X : Ctx} {c : Cfg} {r : RunT} {v t : Nat} (h : Comes X c r) (hk : Kept v t c.2) (hs : c.2.Steps ≤ X.fuel) : Kept v t r ∧ r.Steps ≤ X.fuel ∧ (r.End = 1 ∨ r.End = 2) := by
  rcases h with ⟨q, ⟨n, g1⟩, g2, rfl⟩ | ⟨⟨n, g1⟩, g2⟩
  · have h1 := Kept.iter (X := X) n hk
    have h2 := steps_le (X := X) n hs
    rw [g1] at h1 h2
    exact ⟨⟨h1.vars, h1.taken, h1.nn, h1.evs⟩, h2, .inl rfl⟩
  · have h1 := Kept.iter (X := X) n hk
    have h2 := steps_le (X := X) n hs
    rw [g1] at h1 h2
    exact ⟨h1, h2, .inr g2⟩
theorem Comes.eq {X : Ctx} {c : Cfg} {r s : RunT} (h : Comes X c r) (h' : Comes X c s) : r = s := by
  rcases h with ⟨q, g1, g2, rfl⟩ | ⟨g1, g2⟩ <;> rcases h' with ⟨q', k1, k2, rfl⟩ | ⟨k1, k2⟩
  · obtain rfl := g1.end_eq k1; rfl
  · obtain rfl := g1.end_eq k1; rw [g2] at k2; exact absurd k2 (by decide)
  · obtain rfl := g1.end_eq k1; rw [g2] at k2; exact absurd k2 (by decide)
  · exact g1.end_eq k1
variable [Lp]
theorem ready_is {p : Program} {ins : List (List Int)} {fuel : Int} (hp : ∀ f ∈ p.Funcs, f.Params.length ≤ 9223372036854775807) : F_run_Ready p ins fuel = some (readyS p ins fuel) := by
  unfold F_run_Ready readyS
  rw [check_is hp, Option.bind_some]
  by_cases h1 : checkS p = 0
  rotate_left
  · rw [if_pos (show (checkS p != 0) = true by simp [h1]), if_pos h1]
  rw [if_neg (show ¬ (checkS p != 0) = true by simp [h1]), if_neg (show ¬ checkS p ≠ 0 from fun h => h h1)]
  have hok := ok_of_check h1
  have hi := hok.ins
  by_cases h2 : ins.length = p.Ins.length
  rotate_left
  · rw [if_pos (by simp; omega), if_pos h2]
  rw [if_neg (by simp [h2]), if_neg (show ¬ ins.length ≠ p.Ins.length from fun h => h h2)]
  have c1 : F_slices_ContainsFunc__run_Ready_1 ins = some (ins.any (fun l => decide (100 < (l.length : Int)))) := find_any F_run_Ready_1 _ ins (by omega) (fun y _ => rfl)
  rw [c1, Option.bind_some]
  cases h3 : ins.any (fun l => decide (100 < (l.length : Int))) with
  | true => rfl
  | false =>
    have hl : ∀ l ∈ ins, l.length ≤ 100 := fun l hl => by
      have := List.any_eq_false.1 h3 l hl
      simp at this; omega
    simp only [Bool.false_eq_true, if_false]
    have c2 : F_slices_ContainsFunc__run_Ready_2 ins = some (ins.any fun l => l.any fun n => !numB n) := find_any F_run_Ready_2 _ ins (by omega) (fun y hy => by
      unfold F_run_Ready_2
      have hl' := hl y hy
      have c3 : F_slices_ContainsFunc__run_Ready_2_1 y = some (y.any fun n => !numB n) := find_any F_run_Ready_2_1 _ y (by omega) (fun z _ => by unfold F_run_Ready_2_1; rw [number_is]; rfl)
      rw [c3]; rfl)
    rw [c2, Option.bind_some]
    cases h4 : ins.any (fun l => l.any fun n => !numB n) with
    | true => rfl
    | false =>
      simp only [Bool.false_eq_true, if_false]
      by_cases h5 : fuel < 0
      · rw [if_pos h5, if_pos (.inl h5)]
      · by_cases h6 : 2000 < fuel
        · rw [if_neg h5, if_pos h6, if_pos (.inr h6)]
        · rw [if_neg h5, if_neg h6, if_neg (by omega)]
theorem okX_of {p : Program} {ins : List (List Int)} {fuel : Int} (h : readyS p ins fuel = 0) : OkX (ctxOf p ins fuel) := by
  unfold readyS at h
  by_cases h1 : checkS p = 0
  rotate_left
  · rw [if_pos h1] at h; exact absurd h h1
  rw [if_neg (show ¬ checkS p ≠ 0 from fun h => h h1)] at h
  by_cases h2 : ins.length = p.Ins.length
  rotate_left
  · rw [if_pos h2] at h; exact absurd h (by decide)
  rw [if_neg (show ¬ ins.length ≠ p.Ins.length from fun h => h h2)] at h
  cases h3 : ins.any (fun l => decide (100 < (l.length : Int))) with
  | true => rw [h3, if_pos rfl] at h; exact absurd h (by decide)
  | false =>
    rw [h3, if_neg (by decide)] at h
    cases h4 : ins.any (fun l => l.any fun n => !numB n) with
    | true => rw [h4, if_pos rfl] at h; exact absurd h (by decide)
    | false =>
      rw [h4, if_neg (by decide)] at h
      by_cases h5 : fuel < 0 ∨ 2000 < fuel
      · rw [if_pos h5] at h; exact absurd h (by decide)
      · refine ⟨ok_of_check h1, by show 0 ≤ fuel ∧ fuel ≤ 2000; omega, h2, fun l hl => ⟨?_, fun x hx => ?_⟩, rfl⟩
        · have := List.any_eq_false.1 h3 l hl
          simp at this; omega
        · have := List.any_eq_false.1 h4 l hl
          cases hn : numB x with
          | true => rfl
          | false => exact absurd (List.any_eq_true.2 ⟨x, hx, by simp [hn]⟩) this
theorem new_is {p : Program} {ins : List (List Int)} {fuel : Int} (hX : OkX (ctxOf p ins fuel)) : F_run_New p ins fuel = some (mk (ctxOf p ins fuel) (init p)) := by
  have hok : OkP p := hX.ok
  have h1 := hok.vars
  have h2 := hok.ins
  have h3 := hok.funcs
  have h4 := hok.sum
  unfold F_run_New
  rw [if_pos (by omega), if_pos (by omega)]
  obtain ⟨x, hx, hQ⟩ := lp_wf (B := fun v => B_run_New_0 p ins fuel v.1 v.2.1 v.2.2) (fun v => p.Funcs.length - v.2.1)
    (fun v => v.2.1 ≤ p.Funcs.length ∧ firstsL 0 p.Funcs = v.2.2 ++ firstsL v.1 (p.Funcs.drop v.2.1) ∧ 0 ≤ v.1 ∧ v.1 + ((p.Funcs.drop v.2.1).map fun f => cntL f.Body).sum ≤ 50 ∧ v.2.2.length = v.2.1)
    (fun x => firstsL 0 p.Funcs = x.2.2.2 ++ [x.1] ∧ x.2.2.2.length ≤ 5) (by
      rintro ⟨n, k, l⟩ ⟨hk, he, hn, hs, hl⟩
      simp only at hk he hn hs hl ⊢
      unfold B_run_New_0
      by_cases hlt : k < p.Funcs.length
      · rw [List.drop_eq_getElem_cons hlt, firstsL] at he
        rw [List.drop_eq_getElem_cons hlt, List.map_cons, List.sum_cons] at hs
        have hf := hok.few _ (List.getElem_mem hlt)
        rw [if_pos (by omega), List.getElem?_eq_getElem hlt, Option.bind_some, if_pos (by simp only [List.length_singleton]; omega), many_is hf.1 hf.2, Option.bind_some, if_pos (w64 (by omega) (by omega)), if_pos (w64s (by omega))]
        exact .inr ⟨_, rfl, ⟨by simp only; omega, by simp only; rw [List.append_assoc]; exact he, by simp only; omega, by simp only; omega, by simp only [List.length_append, List.length_singleton]; omega⟩, by simp only; omega⟩
      · rw [List.drop_eq_nil_of_le (by omega), firstsL] at he
        rw [if_neg (by omega)]
        exact .inl ⟨_, rfl, he, by simp only; omega⟩) (0, 0, []) ⟨Nat.zero_le _, rfl, by decide, by simp only [List.drop_zero]; omega, rfl⟩
  rw [hx, Option.bind_some, if_pos (by simp only [List.length_singleton]; omega), ← hQ.1]
  rfl
/-- run.Run. -/
theorem run_is {p : Program} {ins : List (List Int)} {fuel : Int} (hp : ∀ f ∈ p.Funcs, f.Params.length ≤ 9223372036854775807) :
    (readyS p ins fuel ≠ 0 → F_run_Run p ins fuel = some (⟨[], [], [], 0, 0, 0⟩, readyS p ins fuel)) ∧ (readyS p ins fuel = 0 → ∃ r, F_run_Run p ins fuel = some (r, 0) ∧ Comes (ctxOf p ins fuel) (begin_ p) r) := by
  unfold F_run_Run
  rw [ready_is hp, Option.bind_some]
  refine ⟨fun h => ?_, fun h => ?_⟩
  · rw [if_pos (by simp [h])]
  · rw [if_neg (by simp [h])]
    have hX := okX_of h
    rw [new_is hX, Option.bind_some]
    obtain ⟨g1, g2, g3⟩ := first_is hX (k := p.Funcs.length) (by omega) (Int.le_refl _)
    have hv : Valid (ctxOf p ins fuel) 0 (init p) := ⟨by simp [init, ctxOf], fun x hx => by rw [List.eq_of_mem_replicate hx]; rfl, by simp [init, ctxOf], fun t ht => by rw [List.eq_of_mem_replicate ht]; simp [init], by have := hX.fuel; simp only [init]; omega, by simp [init], rfl⟩
    obtain ⟨b, r', e1, e2, e3⟩ := all_is hX hv g2 g3
    unfold F_run_Runner_Go D_run_Runner_Go_d0
    simp only [mk] at e1 ⊢
    rw [Int.toNat_natCast] at g1
    have g1' : (ctxOf p ins fuel).first[(ctxOf p ins fuel).p.Funcs.length]? = some (nth (ctxOf p ins fuel).first (p.Funcs.length : Int)) := g1
    rw [g1', Option.bind_some]
    have e1' : F_run_Runner_all ⟨(ctxOf p ins fuel).p, (ctxOf p ins fuel).ins, (ctxOf p ins fuel).fuel, (ctxOf p ins fuel).first, init p⟩ (ctxOf p ins fuel).p.Main (nth (ctxOf p ins fuel).first (p.Funcs.length : Int)) = _ := e1
    rw [e1', Option.bind_some]
    cases b with
    | true =>
      obtain ⟨u1, u2⟩ := e2 rfl
      simp only [if_true, Option.bind_some]
      exact ⟨_, rfl, .inl ⟨r', u2 [], u1.en, rfl⟩⟩
    | false =>
      obtain ⟨u1, u2⟩ := e3 rfl
      simp only [Bool.false_eq_true, if_false, Option.bind_some]
      exact ⟨_, rfl, .inr ⟨u2 [], u1⟩⟩
end Go.Proofs.Ytdoiklliklkbgaa.A
