/- Runs, step by step, as plain mathematics: with more fuel; with other numbers behind what is taken. -/
import Derived.Test.YtdoiklliklkbgaaScopeS
set_option linter.unusedSectionVars false
set_option linter.unusedVariables false
set_option linter.unusedSimpArgs false
namespace Go.Proofs.Ytdoiklliklkbgaa.A
open Go
/-- what is still to be done: commands, of which the first one has a number; the end of a call. -/
inductive Task where
  | run (l : List Stmt) (a : Int)
  | leave (s : Stmt)
structure Ctx where
  p : Program
  ins : List (List Int)
  fuel : Int
  first : List Int
abbrev Cfg := List Task × RunT
def RunT.tick (r : RunT) : RunT := ⟨r.Events, r.Vars, r.Taken, r.Steps + 1, r.End, r.Stop⟩
def RunT.out (r : RunT) : RunT := ⟨r.Events, r.Vars, r.Taken, r.Steps, 2, r.Stop⟩
def RunT.setVars (r : RunT) (vs : List Int) : RunT := ⟨r.Events, vs, r.Taken, r.Steps, r.End, r.Stop⟩
def RunT.ev (r : RunT) (e : Event) : RunT := ⟨r.Events ++ [e], r.Vars, r.Taken, r.Steps, r.End, r.Stop⟩
def RunT.set (r : RunT) (n x : Int) : RunT := r.setVars (r.Vars.set n.toNat x)
def nth (l : List Int) (k : Int) : Int := l.getD k.toNat 0
def nthL (l : List (List Int)) (k : Int) : List Int := l.getD k.toNat []
/-- a command that holds no others. -/
def doS (X : Ctx) (s : Stmt) (a : Int) (r : RunT) : RunT :=
  if s.Kind = 3 then ⟨r.Events, r.Vars.set s.Var.toNat (nth (nthL X.ins s.Other) (nth r.Taken s.Other)), r.Taken.set s.Other.toNat (nth r.Taken s.Other + 1), r.Steps, r.End, r.Stop⟩
  else if s.Kind = 4 then r.ev ⟨1, a, s.Other, valS r.Vars s.Expr⟩
  else if s.Kind = 5 then (r.set s.Var (valS r.Vars s.Expr)).ev ⟨2, a, s.Var, valS r.Vars s.Expr⟩
  else if s.Kind = 6 then (r.set s.Var (valS r.Vars s.Expr)).ev ⟨3, a, s.Var, valS r.Vars s.Expr⟩
  else r.set s.Var (valS r.Vars s.Expr)
def setL : List Int → List Int → List Int → List Int
  | vs, n :: ps, x :: xs => setL (vs.set n.toNat x) ps xs
  | vs, _, _ => vs
def fnOf (X : Ctx) (s : Stmt) : Func := (X.p.Funcs[s.Other.toNat]?).getD ⟨[], [], ⟨0, 0, []⟩⟩
def enterS (X : Ctx) (s : Stmt) (r : RunT) : RunT := r.setVars (setL r.Vars (fnOf X s).Params (s.Args.map (valS r.Vars)))
def leaveS (X : Ctx) (s : Stmt) (r : RunT) : RunT := r.set s.Var (valS r.Vars (fnOf X s).Result)
/-- a command, its step is done. -/
def goS (X : Ctx) (s : Stmt) (a : Int) (l : List Stmt) (K : List Task) (r : RunT) : Cfg :=
  if s.Kind = 2 then (.run (fnOf X s).Body (nth X.first s.Other) :: .leave s :: .run l (a + cnt s) :: K, enterS X s r)
  else if s.Kind = 7 then (.run (if valS r.Vars s.Expr ≠ 0 then s.Then else s.Else) (if valS r.Vars s.Expr ≠ 0 then a + 1 else a + 1 + cntL s.Then) :: .run l (a + cnt s) :: K, r)
  else if s.Kind = 8 then (if valS r.Vars s.Expr ≠ 0 then (.run s.Then (a + 1) :: .run (s :: l) a :: K, r) else (.run l (a + cnt s) :: K, r))
  else (.run l (a + cnt s) :: K, doS X s a r)
def stepS (X : Ctx) : Cfg → Cfg
  | ([], r) => ([], r)
  | (.leave s :: K, r) => (K, leaveS X s r)
  | (.run [] _ :: K, r) => (K, r)
  | (.run (s :: l) a :: K, r) => if r.Steps = X.fuel then ([], r.out) else goS X s a l K r.tick
def iter (X : Ctx) : Nat → Cfg → Cfg
  | 0, c => c
  | n + 1, c => iter X n (stepS X c)
theorem iter_add (X : Ctx) : ∀ (n m : Nat) (c : Cfg), iter X (n + m) c = iter X m (iter X n c)
  | 0, m, c => by rw [Nat.zero_add]; rfl
  | n + 1, m, c => by rw [show n + 1 + m = (n + m) + 1 by omega]; exact iter_add X n m (stepS X c)
theorem iter_succ (X : Ctx) (n : Nat) (c : Cfg) : iter X (n + 1) c = stepS X (iter X n c) := by rw [iter_add]; rfl
theorem iter_end (X : Ctx) (r : RunT) : ∀ n, iter X n ([], r) = ([], r)
  | 0 => rfl
  | n + 1 => iter_end X r n
def Gets (X : Ctx) (c d : Cfg) : Prop := ∃ n, iter X n c = d
theorem Gets.refl (X : Ctx) (c : Cfg) : Gets X c c := ⟨0, rfl⟩
theorem Gets.trans {X : Ctx} {c d e : Cfg} : Gets X c d → Gets X d e → Gets X c e
  | ⟨n, h⟩, ⟨m, h'⟩ => ⟨n + m, by rw [iter_add, h, h']⟩
theorem Gets.one {X : Ctx} {c d : Cfg} (h : stepS X c = d) : Gets X c d := ⟨1, h⟩
theorem Gets.end_eq {X : Ctx} {c : Cfg} {r s : RunT} : Gets X c ([], r) → Gets X c ([], s) → r = s
  | ⟨n, h⟩, ⟨m, h'⟩ => by
    rcases Nat.le_total n m with hm | hm
    · obtain ⟨k, rfl⟩ := Nat.exists_eq_add_of_le hm
      rw [iter_add, h, iter_end] at h'
      exact (Prod.mk.inj h').2
    · obtain ⟨k, rfl⟩ := Nat.exists_eq_add_of_le hm
      rw [iter_add, h', iter_end] at h
      exact (Prod.mk.inj h).2.symm
/-- what each step leaves. -/
theorem goS_run (X : Ctx) (s : Stmt) (a : Int) (l : List Stmt) (K : List Task) (r : RunT) :
    (goS X s a l K r).2.End = r.End ∧ (goS X s a l K r).2.Steps = r.Steps ∧ (∃ es, (goS X s a l K r).2.Events = r.Events ++ es) ∧ (goS X s a l K r).1 ≠ [] := by
  unfold goS
  split
  · exact ⟨rfl, rfl, ⟨[], by simp [enterS, RunT.setVars]⟩, by simp⟩
  split
  · exact ⟨rfl, rfl, ⟨[], by simp⟩, by simp⟩
  split
  · split
    · exact ⟨rfl, rfl, ⟨[], by simp⟩, by simp⟩
    · exact ⟨rfl, rfl, ⟨[], by simp⟩, by simp⟩
  · refine ⟨?_, ?_, ?_, by simp⟩
    · unfold doS; repeat' split
      all_goals rfl
    · unfold doS; repeat' split
      all_goals rfl
    · unfold doS
      repeat' split
      · exact ⟨[], by simp⟩
      · exact ⟨_, rfl⟩
      · exact ⟨_, rfl⟩
      · exact ⟨_, rfl⟩
      · exact ⟨[], by simp [RunT.set, RunT.setVars]⟩
theorem step_events (X : Ctx) (c : Cfg) : ∃ es, (stepS X c).2.Events = c.2.Events ++ es := by
  obtain ⟨ts, r⟩ := c
  match ts with
  | [] => exact ⟨[], by simp [stepS]⟩
  | .leave s :: K => exact ⟨[], by simp [stepS, leaveS, RunT.set, RunT.setVars]⟩
  | .run [] _ :: K => exact ⟨[], by simp [stepS]⟩
  | .run (s :: l) a :: K =>
    simp only [stepS]
    split
    · exact ⟨[], by simp [RunT.out]⟩
    · exact (goS_run X s a l K r.tick).2.2.1
theorem iter_events (X : Ctx) : ∀ (n : Nat) (c : Cfg), ∃ es, (iter X n c).2.Events = c.2.Events ++ es
  | 0, c => ⟨[], by simp [iter]⟩
  | n + 1, c => by
    obtain ⟨es, h⟩ := step_events X c
    obtain ⟨fs, h'⟩ := iter_events X n (stepS X c)
    exact ⟨es ++ fs, by rw [iter, h', h, List.append_assoc]⟩
/-- the step at which the fuel is gone. -/
def Gone (X : Ctx) (c : Cfg) : Prop := ∃ s l a K, c.1 = .run (s :: l) a :: K ∧ c.2.Steps = X.fuel
theorem step_end {X : Ctx} {c : Cfg} (h : c.2.End = 0) : ((stepS X c).2.End = 0 ∧ ¬ Gone X c) ∨ (Gone X c ∧ stepS X c = ([], c.2.out)) := by
  obtain ⟨ts, r⟩ := c
  match ts with
  | [] => exact .inl ⟨h, fun ⟨_, _, _, _, h1, _⟩ => by cases h1⟩
  | .leave s :: K => exact .inl ⟨h, fun ⟨_, _, _, _, h1, _⟩ => by cases h1⟩
  | .run [] _ :: K => exact .inl ⟨h, fun ⟨_, _, _, _, h1, _⟩ => by cases h1⟩
  | .run (s :: l) a :: K =>
    by_cases hf : r.Steps = X.fuel
    · exact .inr ⟨⟨s, l, a, K, rfl, hf⟩, by simp only [stepS, if_pos hf]⟩
    · refine .inl ⟨?_, fun ⟨_, _, _, _, _, h2⟩ => hf h2⟩
      simp only [stepS, if_neg hf]
      rw [(goS_run X s a l K r.tick).1]; exact h
/-- with another fuel the same is done, until the fuel is gone. -/
theorem step_same {X Y : Ctx} (hp : X.p = Y.p) (hi : X.ins = Y.ins) (hf : X.first = Y.first) {c : Cfg} (hx : ¬ Gone X c) (hy : ¬ Gone Y c) : stepS X c = stepS Y c := by
  obtain ⟨ts, r⟩ := c
  obtain ⟨p, i, f, q⟩ := X
  obtain ⟨p', i', f', q'⟩ := Y
  simp only at hp hi hf
  subst hp hi hf
  match ts with
  | [] => rfl
  | .leave s :: K => rfl
  | .run [] _ :: K => rfl
  | .run (s :: l) a :: K =>
    have h1 : ¬ r.Steps = f := fun h => hx ⟨s, l, a, K, rfl, h⟩
    have h2 : ¬ r.Steps = f' := fun h => hy ⟨s, l, a, K, rfl, h⟩
    simp only [stepS, if_neg h1, if_neg h2]
    rfl
theorem step_steps {X : Ctx} {c : Cfg} (h : c.2.Steps ≤ X.fuel) : (stepS X c).2.Steps ≤ X.fuel := by
  obtain ⟨ts, r⟩ := c
  match ts with
  | [] => exact h
  | .leave s :: K => exact h
  | .run [] _ :: K => exact h
  | .run (s :: l) a :: K =>
    simp only [stepS]
    split
    · exact h
    · rename_i hne
      rw [(goS_run X s a l K r.tick).2.1]
      have : r.Steps ≤ X.fuel := h
      show r.Steps + 1 ≤ X.fuel
      omega
theorem out_end {X : Ctx} : ∀ (n : Nat) (c : Cfg), c.2.End = 0 → c.2.Steps ≤ X.fuel → ∀ {ts : List Task} {r : RunT}, iter X n c = (ts, r) → r.End ≠ 0 → ∃ m, m < n ∧ (∀ j, j ≤ m → (iter X j c).2.End = 0 ∧ (iter X j c).2.Steps ≤ X.fuel) ∧ (∀ j, j < m → ¬ Gone X (iter X j c)) ∧ Gone X (iter X m c) ∧ r = (iter X m c).2.out
  | 0, c, h, hs, ts, r, hr, he => by
    obtain rfl : c = (ts, r) := hr
    exact absurd h he
  | n + 1, c, h, hs, ts, r, hr, he => by
    rcases step_end (X := X) h with ⟨h1, h2⟩ | ⟨h1, h2⟩
    · obtain ⟨m, hm, g1, g2, g3, g4⟩ := out_end n (stepS X c) h1 (step_steps hs) hr he
      refine ⟨m + 1, by omega, fun j hj => ?_, fun j hj => ?_, g3, g4⟩
      · cases j with
        | zero => exact ⟨h, hs⟩
        | succ j => exact g1 j (by omega)
      · cases j with
        | zero => exact h2
        | succ j => exact g2 j (by omega)
    · refine ⟨0, by omega, fun j hj => ?_, fun j hj => by omega, h1, ?_⟩
      · obtain rfl : j = 0 := by omega
        exact ⟨h, hs⟩
      · rw [iter, h2, iter_end] at hr
        exact (Prod.mk.inj hr).2.symm
theorem iter_same {X Y : Ctx} (hp : X.p = Y.p) (hi : X.ins = Y.ins) (hf : X.first = Y.first) : ∀ (n : Nat) (c : Cfg), (∀ j, j < n → ¬ Gone X (iter X j c) ∧ ¬ Gone Y (iter X j c)) → iter Y n c = iter X n c
  | 0, c, _ => rfl
  | n + 1, c, h => by
    have h0 := h 0 (by omega)
    rw [iter, iter, ← step_same (c := c) hp hi hf h0.1 h0.2]
    exact iter_same hp hi hf n (stepS X c) fun j hj => h (j + 1) (by omega)
/-- is that what comes of a run? -/
def Comes (X : Ctx) (c : Cfg) (r : RunT) : Prop := (∃ q : RunT, Gets X c ([], q) ∧ q.End = 0 ∧ r = ⟨q.Events, q.Vars, q.Taken, q.Steps, 1, q.Stop⟩) ∨ (Gets X c ([], r) ∧ r.End = 2)
/-- with more fuel all that happened happens. -/
theorem more {X Y : Ctx} (hp : X.p = Y.p) (hi : X.ins = Y.ins) (hf : X.first = Y.first) (hfu : X.fuel ≤ Y.fuel) {c : Cfg} (hc : c.2.End = 0) (hs : c.2.Steps ≤ X.fuel) {r s : RunT} (hr : Comes X c r) (hy : Comes Y c s) :
    (r.End = 1 ∧ s = r) ∨ (r.End = 2 ∧ r.Steps = X.fuel ∧ ∃ es, s.Events = r.Events ++ es) := by
  by_cases heq : X.fuel = Y.fuel
  · have hxy : X = Y := by
      obtain ⟨p, i, f, q⟩ := X
      obtain ⟨p', i', f', q'⟩ := Y
      simp only at hp hi hf heq
      subst hp hi hf heq; rfl
    subst hxy
    rcases hr with ⟨q, g1, g2, rfl⟩ | ⟨g1, g2⟩
    · rcases hy with ⟨q', k1, k2, rfl⟩ | ⟨k1, k2⟩
      · obtain rfl := g1.end_eq k1
        exact .inl ⟨rfl, rfl⟩
      · obtain rfl := g1.end_eq k1
        rw [g2] at k2; exact absurd k2 (by decide)
    · rcases hy with ⟨q', k1, k2, rfl⟩ | ⟨k1, k2⟩
      · obtain rfl := g1.end_eq k1
        rw [g2] at k2; exact absurd k2 (by decide)
      · obtain rfl := g1.end_eq k1
        obtain ⟨n, hn⟩ := g1
        obtain ⟨m, _, _, _, ⟨_, _, _, _, _, h5⟩, h6⟩ := out_end n c hc hs hn (by rw [g2]; decide)
        exact .inr ⟨g2, by rw [h6]; exact h5, [], by simp⟩
  · have hlt : X.fuel < Y.fuel := by omega
    have hgy : ∀ {d : Cfg}, d.2.Steps ≤ X.fuel → ¬ Gone Y d := fun hd ⟨_, _, _, _, _, h2⟩ => by omega
    rcases hr with ⟨q, ⟨n, g1⟩, g2, rfl⟩ | ⟨⟨n, g1⟩, g2⟩
    · -- all was done: nowhere was the fuel gone
      have hall : ∀ j, j ≤ n → (iter X j c).2.End = 0 ∧ (iter X j c).2.Steps ≤ X.fuel ∧ (j < n → ¬ Gone X (iter X j c)) := by
        intro j
        induction j with
        | zero =>
          intro _
          refine ⟨hc, hs, fun h0 hg => ?_⟩
          rcases step_end (X := X) (c := iter X 0 c) hc with ⟨_, h2⟩ | ⟨_, h2⟩
          · exact h2 hg
          · have : iter X n c = ([], (iter X 0 c).2.out) := by
              obtain ⟨k, rfl⟩ : ∃ k, n = 1 + k := ⟨n - 1, by omega⟩
              rw [iter_add, show iter X 1 c = stepS X (iter X 0 c) from rfl, h2, iter_end]
            rw [g1] at this
            have := (Prod.mk.inj this).2
            rw [this] at g2
            exact absurd (show (2 : Int) = 0 from g2) (by decide)
        | succ j ih =>
          intro hj
          obtain ⟨i1, i2, i3⟩ := ih (by omega)
          have hst := step_steps i2
          rw [← iter_succ] at hst
          have he : (iter X (j + 1) c).2.End = 0 := by
            rw [iter_succ]
            rcases step_end (X := X) i1 with ⟨h1, _⟩ | ⟨h1, _⟩
            · exact h1
            · exact absurd h1 (i3 (by omega))
          refine ⟨he, hst, fun hlt hg => ?_⟩
          rcases step_end (X := X) he with ⟨_, h2⟩ | ⟨_, h2⟩
          · exact h2 hg
          · have : iter X n c = ([], (iter X (j + 1) c).2.out) := by
              obtain ⟨k, rfl⟩ : ∃ k, n = (j + 1 + 1) + k := ⟨n - (j + 1 + 1), by omega⟩
              rw [iter_add, iter_succ X (j + 1), h2, iter_end]
            rw [g1] at this
            have := (Prod.mk.inj this).2
            rw [this] at g2
            exact absurd (show (2 : Int) = 0 from g2) (by decide)
      have hsame := iter_same hp hi hf n c fun j hj => ⟨(hall j (by omega)).2.2 hj, hgy (hall j (by omega)).2.1⟩
      have hy1 : Gets Y c ([], q) := ⟨n, by rw [hsame, g1]⟩
      rcases hy with ⟨q', k1, k2, rfl⟩ | ⟨k1, k2⟩
      · obtain rfl := hy1.end_eq k1
        exact .inl ⟨rfl, rfl⟩
      · obtain rfl := hy1.end_eq k1
        rw [g2] at k2; exact absurd k2 (by decide)
    · obtain ⟨m, _, h2, h3, h4, h6⟩ := out_end n c hc hs g1 (by rw [g2]; decide)
      obtain ⟨_, _, _, _, _, h5⟩ := h4
      have hsame := iter_same hp hi hf m c fun j hj => ⟨h3 j hj, hgy (h2 j (by omega)).2⟩
      have hev : ∀ {q : RunT}, Gets Y c ([], q) → ∃ es, q.Events = r.Events ++ es := by
        rintro q ⟨k, hk⟩
        rcases Nat.le_total k m with hkm | hkm
        · obtain ⟨j, rfl⟩ := Nat.exists_eq_add_of_le hkm
          have : iter Y (k + j) c = ([], q) := by rw [iter_add, hk, iter_end]
          rw [hsame] at this
          have e2 : (iter X (k + j) c).2 = q := by rw [this]
          exact ⟨[], by rw [h6, e2]; simp [RunT.out]⟩
        · obtain ⟨j, rfl⟩ := Nat.exists_eq_add_of_le hkm
          rw [iter_add, hsame] at hk
          obtain ⟨es, he⟩ := iter_events Y j (iter X m c)
          rw [hk] at he
          exact ⟨es, by rw [h6]; exact he⟩
      refine .inr ⟨g2, by rw [h6]; exact h5, ?_⟩
      rcases hy with ⟨q', k1, k2, rfl⟩ | ⟨k1, k2⟩
      · exact hev (q := q') k1
      · exact hev k1
end Go.Proofs.Ytdoiklliklkbgaa.A
