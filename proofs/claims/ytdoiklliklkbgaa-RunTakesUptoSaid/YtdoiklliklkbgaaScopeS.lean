/- Programs: how many commands there are, how deep they stand, what is wrong first; as plain mathematics. -/
import Derived.Test.YtdoiklliklkbgaaEvalS
import Derived.Test.YtdoiklliklkbgaaHeadF
set_option linter.unusedSectionVars false
set_option linter.unusedVariables false
set_option linter.unusedSimpArgs false
namespace Go.Proofs.Ytdoiklliklkbgaa.A
open Go
mutual
/-- how many commands. -/
def cnt : Stmt → Nat
  | ⟨_, _, _, _, _, t, e⟩ => 1 + cntL t + cntL e
def cntL : List Stmt → Nat
  | [] => 0
  | x :: r => cnt x + cntL r
end
mutual
/-- how deep. -/
def dep : Stmt → Nat
  | ⟨_, _, _, _, _, t, e⟩ => 1 + max (depL t) (depL e)
def depL : List Stmt → Nat
  | [] => 0
  | x :: r => max (dep x) (depL r)
end
/-- goes on with what was counted, if all was well. -/
def andThen (q : Bool × Int) (k : Int → Bool × Int) : Bool × Int := if q.1 = true then k q.2 else q
mutual
/-- counts commands, as long as there are not too many, nor too deep. -/
def fewS : Stmt → Int → Int → Bool × Int
  | ⟨_, _, _, _, _, t, e⟩, d, n => if n + 1 ≤ 50 ∧ d ≤ 6 then andThen (fewL t (d + 1) (n + 1)) (fewL e (d + 1)) else (false, n + 1)
def fewL : List Stmt → Int → Int → Bool × Int
  | [], _, n => (true, n)
  | x :: r, d, n => andThen (fewS x d n) (fewL r d)
end
mutual
/-- what is wrong first. -/
def errS (ck : Stmt → Int) : Stmt → Int
  | ⟨k, v, o, x, a, t, e⟩ => if ck ⟨k, v, o, x, a, t, e⟩ ≠ 0 then ck ⟨k, v, o, x, a, t, e⟩ else if errL ck t ≠ 0 then errL ck t else errL ck e
def errL (ck : Stmt → Int) : List Stmt → Int
  | [] => 0
  | x :: r => if errS ck x ≠ 0 then errS ck x else errL ck r
end
theorem cnt_eq (s : Stmt) : cnt s = 1 + cntL s.Then + cntL s.Else := by cases s; rw [cnt]
theorem dep_eq (s : Stmt) : dep s = 1 + max (depL s.Then) (depL s.Else) := by cases s; rw [dep]
theorem fewS_eq (s : Stmt) (d n : Int) : fewS s d n = if n + 1 ≤ 50 ∧ d ≤ 6 then andThen (fewL s.Then (d + 1) (n + 1)) (fewL s.Else (d + 1)) else (false, n + 1) := by cases s; rw [fewS]
theorem errS_eq (ck : Stmt → Int) (s : Stmt) : errS ck s = if ck s ≠ 0 then ck s else if errL ck s.Then ≠ 0 then errL ck s.Then else errL ck s.Else := by cases s; rw [errS]
theorem cnt_pos (s : Stmt) : 0 < cnt s := by rw [cnt_eq]; omega
theorem cntL_len : ∀ l : List Stmt, l.length ≤ cntL l
  | [] => Nat.zero_le _
  | x :: l => by have := cntL_len l; have := cnt_pos x; rw [cntL, List.length_cons]; omega
theorem cntL_mem : ∀ {l : List Stmt} {x : Stmt}, x ∈ l → cnt x ≤ cntL l
  | y :: l, x, h => by
    rw [cntL]
    rcases List.mem_cons.1 h with rfl | h
    · omega
    · have := cntL_mem h; omega
theorem depL_mem : ∀ {l : List Stmt} {x : Stmt}, x ∈ l → dep x ≤ depL l
  | y :: l, x, h => by
    rw [depL]
    rcases List.mem_cons.1 h with rfl | h
    · omega
    · have := depL_mem h; omega
theorem andThen_true {q : Bool × Int} {k : Int → Bool × Int} {m : Int} : andThen q k = (true, m) ↔ ∃ j, q = (true, j) ∧ k j = (true, m) := by
  obtain ⟨b, j⟩ := q
  cases b with
  | true => simp [andThen]
  | false => simp [andThen]
mutual
theorem fewS_iff (s : Stmt) (d n m : Int) (hn : n ≤ 50) (hd : d ≤ 7) : fewS s d n = (true, m) ↔ m = n + cnt s ∧ n + cnt s ≤ 50 ∧ d + dep s ≤ 7 := by
  match s with
  | ⟨k, v, o, x, a, t, e⟩ =>
    rw [fewS, cnt, dep]
    by_cases h : n + 1 ≤ 50 ∧ d ≤ 6
    · rw [if_pos h, andThen_true]
      constructor
      · rintro ⟨j, h1, h2⟩
        obtain ⟨rfl, h3, h4⟩ := (fewL_iff t (d + 1) (n + 1) j h.1 (by omega)).1 h1
        obtain ⟨rfl, h5, h6⟩ := (fewL_iff e (d + 1) _ m h3 (by omega)).1 h2
        exact ⟨by omega, by omega, by omega⟩
      · rintro ⟨rfl, h1, h2⟩
        exact ⟨_, (fewL_iff t (d + 1) (n + 1) _ h.1 (by omega)).2 ⟨rfl, by omega, by omega⟩, (fewL_iff e (d + 1) _ _ (by omega) (by omega)).2 ⟨by omega, by omega, by omega⟩⟩
    · rw [if_neg h]
      constructor
      · intro h1; cases h1
      · rintro ⟨rfl, h1, h2⟩; exact absurd ⟨by omega, by omega⟩ h
theorem fewL_iff (l : List Stmt) (d n m : Int) (hn : n ≤ 50) (hd : d ≤ 7) : fewL l d n = (true, m) ↔ m = n + cntL l ∧ n + cntL l ≤ 50 ∧ d + depL l ≤ 7 := by
  match l with
  | [] =>
    rw [fewL, cntL, depL]
    constructor
    · intro h; obtain ⟨_, rfl⟩ := Prod.mk.inj h; exact ⟨by omega, by omega, by omega⟩
    · rintro ⟨rfl, _, _⟩; simp
  | x :: r =>
    rw [fewL, cntL, depL, andThen_true]
    constructor
    · rintro ⟨j, h1, h2⟩
      obtain ⟨rfl, h3, h4⟩ := (fewS_iff x d n j hn hd).1 h1
      obtain ⟨rfl, h5, h6⟩ := (fewL_iff r d _ m h3 hd).1 h2
      exact ⟨by omega, by omega, by omega⟩
    · rintro ⟨rfl, h1, h2⟩
      exact ⟨_, (fewS_iff x d n _ hn hd).2 ⟨rfl, by omega, by omega⟩, (fewL_iff r d _ _ (by omega) hd).2 ⟨by omega, by omega, by omega⟩⟩
end
/-- does a kind name a variable? -/
def hasV (k : Int) : Bool := decide (k ≠ 4 ∧ k < 7)
def hasO (k : Int) : Bool := decide (2 ≤ k ∧ k ≤ 4)
def hasE (k : Int) : Bool := decide (k ≠ 2 ∧ k ≠ 3)
def othersS (p : Program) (i k : Int) : Int := if k = 2 then i else if k = 3 then p.Ins.length else p.Outs.length
def parsOf (p : Program) (n : Int) : Nat := ((p.Funcs[n.toNat]?).map fun f => f.Params.length).getD 0
/-- what is wrong with a command by itself, where so many functions may be called. -/
def stmtS (p : Program) (i : Int) (s : Stmt) : Int :=
  if s.Kind < 1 ∨ 8 < s.Kind then 7
  else if (hasV s.Kind = true ∧ (s.Var < 0 ∨ (p.Vars.length : Int) ≤ s.Var)) ∨ (hasO s.Kind = true ∧ (s.Other < 0 ∨ othersS p i s.Kind ≤ s.Other)) then 5
  else if (hasV s.Kind = false ∧ s.Var ≠ 0) ∨ (hasO s.Kind = false ∧ s.Other ≠ 0) ∨ (hasE s.Kind = false ∧ ¬ (s.Expr.Kind = 0 ∧ s.Expr.N = 0 ∧ s.Expr.Args.length = 0)) ∨ (s.Kind ≠ 2 ∧ 0 < s.Args.length) ∨ (s.Kind < 7 ∧ 0 < s.Then.length) ∨ (s.Kind ≠ 7 ∧ 0 < s.Else.length) then 1
  else if s.Kind = 2 ∧ s.Args.length ≠ parsOf p s.Other then 1
  else if hasE s.Kind = true ∧ exprE p s.Expr ≠ 0 then exprE p s.Expr
  else firstErr (exprE p) s.Args
where
  exprE (p : Program) (e : ExprT) : Int := if 15 < sz e then 2 else ferr p.Vars.length (allP e)
/-- what is wrong with parameters: not there, or twice. -/
def parS (v : Int) : List Int → List Int → Int
  | _, [] => 0
  | seen, n :: r => if n < 0 ∨ v ≤ n then 5 else if n ∈ seen then 6 else parS v (seen ++ [n]) r
def fnS (p : Program) (i : Int) (f : Func) : Int :=
  if 4 < f.Params.length then 2
  else if parS p.Vars.length [] f.Params ≠ 0 then parS p.Vars.length [] f.Params
  else if errL (stmtS p i) f.Body ≠ 0 then errL (stmtS p i) f.Body
  else stmtS.exprE p f.Result
def fnsS (p : Program) : Nat → List Func → Int
  | _, [] => 0
  | i, f :: r => if fnS p i f ≠ 0 then fnS p i f else fnsS p (i + 1) r
def fewP (main : List Stmt) : List Func → Int → Bool × Int
  | [], n => fewL main 1 n
  | f :: r, n => andThen (fewL f.Body 1 n) (fewP main r)
def headS (p : Program) : Int :=
  if checkA p.Actors ≠ 0 then checkA p.Actors
  else if 16 < p.Vars.length ∨ 5 < p.Ins.length ∨ 5 < p.Outs.length ∨ 5 < p.Funcs.length ∨ p.Actors.Many < (p.Speak.length : Int) then 2
  else if p.Speak.any (fun n => !inRange p.Actors.Many n) then 5
  else if firstErr (fitsE p.Actors.Many) (p.Ins ++ p.Outs) ≠ 0 then firstErr (fitsE p.Actors.Many) (p.Ins ++ p.Outs)
  else if firstErr (fun v : Var => fitsE p.Actors.Many v.Label) p.Vars ≠ 0 then firstErr (fun v : Var => fitsE p.Actors.Many v.Label) p.Vars
  else if p.Vars.any (fun v => !v.Known && decide (0 < v.Label.Read.length + v.Label.Write.length)) then 1 else 0
/-- what is wrong with a program. -/
def checkS (p : Program) : Int :=
  if headS p ≠ 0 then headS p
  else if (fewP p.Main p.Funcs 0).1 = false then 2
  else if fnsS p 0 p.Funcs ≠ 0 then fnsS p 0 p.Funcs
  else errL (stmtS p p.Funcs.length) p.Main
abbrev exprE (p : Program) (e : ExprT) : Int := stmtS.exprE p e
mutual
theorem errS_all {ck : Stmt → Int} {s : Stmt} (h : errS ck s = 0) : ck s = 0 ∧ errL ck s.Then = 0 ∧ errL ck s.Else = 0 := by
  rw [errS_eq] at h
  by_cases h1 : ck s = 0
  · rw [if_neg (by simp [h1])] at h
    by_cases h2 : errL ck s.Then = 0
    · rw [if_neg (by simp [h2])] at h; exact ⟨h1, h2, h⟩
    · rw [if_pos h2] at h; exact absurd h h2
  · rw [if_pos h1] at h; exact absurd h h1
end
theorem errL_all {ck : Stmt → Int} : ∀ {l : List Stmt}, errL ck l = 0 → ∀ s ∈ l, errS ck s = 0
  | y :: l, h, x, hx => by
    rw [errL] at h
    by_cases hy : errS ck y = 0
    · rw [if_neg (by simpa using hy)] at h
      rcases List.mem_cons.1 hx with rfl | hx
      · exact hy
      · exact errL_all h x hx
    · rw [if_pos hy] at h; exact absurd h hy
theorem fnsS_all {p : Program} : ∀ {l : List Func} {i : Nat}, fnsS p i l = 0 → ∀ (k : Nat) (h : k < l.length), fnS p (i + k : Nat) l[k] = 0
  | y :: l, i, h, k, hk => by
    rw [fnsS] at h
    by_cases hy : fnS p i y = 0
    · rw [if_neg (by simpa using hy)] at h
      cases k with
      | zero => simpa using hy
      | succ k =>
        have := fnsS_all h k (by simpa using hk)
        rw [show i + (k + 1) = i + 1 + k by omega]
        simpa using this
    · rw [if_pos hy] at h; exact absurd h hy
theorem parS_ok {v : Int} : ∀ {seen l : List Int}, parS v seen l = 0 → ∀ n ∈ l, 0 ≤ n ∧ n < v
  | seen, y :: l, h, n, hn => by
    rw [parS] at h
    split at h
    · exact absurd h (by decide)
    · rename_i h1
      split at h
      · exact absurd h (by decide)
      · rcases List.mem_cons.1 hn with rfl | hn
        · omega
        · exact parS_ok h n hn
theorem fewP_iff {main : List Stmt} : ∀ {l : List Func} {n m : Int}, 0 ≤ n → n ≤ 50 → fewP main l n = (true, m) → (∀ f ∈ l, cntL f.Body ≤ 50 ∧ depL f.Body ≤ 6) ∧ cntL main ≤ 50 ∧ depL main ≤ 6 ∧ n ≤ m ∧ m ≤ 50 ∧ m = n + ((l.map fun f => cntL f.Body).sum : Nat) + cntL main
  | [], n, m, h0, hn, h => by
    rw [fewP, fewL_iff _ _ _ _ hn (by omega)] at h
    obtain ⟨rfl, h2, h3⟩ := h
    exact ⟨fun f hf => (by cases hf), by omega, by omega, by omega, by omega, by simp⟩
  | f :: r, n, m, h0, hn, h => by
    rw [fewP, andThen_true] at h
    obtain ⟨j, h1, h2⟩ := h
    obtain ⟨rfl, h3, h4⟩ := (fewL_iff _ _ _ _ hn (by omega)).1 h1
    obtain ⟨h5, h6, h7, h8, h9, h10⟩ := fewP_iff (by omega) h3 h2
    refine ⟨fun g hg => ?_, h6, h7, by omega, h9, ?_⟩
    · rcases List.mem_cons.1 hg with rfl | hg
      · exact ⟨by omega, by omega⟩
      · exact h5 g hg
    · rw [h10, List.map_cons, List.sum_cons]; omega
/-- what holds of a program that is right. -/
structure OkP (p : Program) : Prop where
  acts : checkA p.Actors = 0
  vars : p.Vars.length ≤ 16
  ins : p.Ins.length ≤ 5
  outs : p.Outs.length ≤ 5
  funcs : p.Funcs.length ≤ 5
  few : ∀ f ∈ p.Funcs, cntL f.Body ≤ 50 ∧ depL f.Body ≤ 6
  main : cntL p.Main ≤ 50 ∧ depL p.Main ≤ 6
  fns : ∀ (k : Nat) (h : k < p.Funcs.length), fnS p k p.Funcs[k] = 0
  mains : errL (stmtS p p.Funcs.length) p.Main = 0
  sum : ((p.Funcs.map fun f => cntL f.Body).sum : Nat) + cntL p.Main ≤ 50
theorem ok_of_check {p : Program} (h : checkS p = 0) : OkP p := by
  unfold checkS at h
  by_cases h1 : headS p = 0
  · rw [if_neg (by simp [h1])] at h
    by_cases h2 : (fewP p.Main p.Funcs 0).1 = false
    · rw [if_pos h2] at h; exact absurd h (by decide)
    · rw [if_neg h2] at h
      by_cases h3 : fnsS p 0 p.Funcs = 0
      · rw [if_neg (by simp [h3])] at h
        have h2' : fewP p.Main p.Funcs 0 = (true, (fewP p.Main p.Funcs 0).2) := Prod.ext (by simpa using h2) rfl
        obtain ⟨g1, g2, g3, g4, g5, g6⟩ := fewP_iff (by decide) (by decide) h2'
        unfold headS at h1
        by_cases a1 : checkA p.Actors = 0
        · rw [if_neg (by simp [a1])] at h1
          by_cases a2 : 16 < p.Vars.length ∨ 5 < p.Ins.length ∨ 5 < p.Outs.length ∨ 5 < p.Funcs.length ∨ p.Actors.Many < (p.Speak.length : Int)
          · rw [if_pos a2] at h1; exact absurd h1 (by decide)
          · exact ⟨a1, by omega, by omega, by omega, by omega, g1, ⟨g2, g3⟩, fun k hk => by simpa using fnsS_all h3 k hk, h, by omega⟩
        · rw [if_pos a1] at h1; exact absurd h1 a1
      · rw [if_pos h3] at h; exact absurd h h3
  · rw [if_pos h1] at h; exact absurd h h1
end Go.Proofs.Ytdoiklliklkbgaa.A
