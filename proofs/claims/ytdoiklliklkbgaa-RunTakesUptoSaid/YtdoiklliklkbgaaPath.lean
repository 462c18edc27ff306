/- Paths: what is told of a run (which way it goes, what an element is, what a call answers) gives what must be shown, and nothing else; all else is reckoned. -/
import Derived.Test.YtdoiklliklkbgaaAbs3
set_option linter.unusedSectionVars false
set_option linter.unusedVariables false
set_option linter.unusedSimpArgs false
set_option linter.constructorNameAsVariable false
namespace Go.Proofs.Ytdoiklliklkbgaa.A
open Go

inductive Ans where
  | b (x : Bool)
  | n (x : Nat)
  | i (x : Int)
  | v (x : AV)
  | l (es : List AV)
  | s (x : List UInt8)
  | h (hp : HP)
  | bx (bs : List (Nat × List AV))
  | lp (e : AExit) (st : St)
  | fr (e : AExit) (st : St)
  | jn (d : Option Nat) (n : Nat) (st : St)
def tkB (a : List Ans) (k : Bool → List Ans → Prop) : Prop := match a with
  | .b x :: r => k x r
  | _ => False
def tkN (a : List Ans) (k : Nat → List Ans → Prop) : Prop := match a with
  | .n x :: r => k x r
  | _ => False
def tkI (a : List Ans) (k : Int → List Ans → Prop) : Prop := match a with
  | .i x :: r => k x r
  | _ => False
def tkV (a : List Ans) (k : AV → List Ans → Prop) : Prop := match a with
  | .v x :: r => k x r
  | _ => False
def tkL (a : List Ans) (k : List AV → List Ans → Prop) : Prop := match a with
  | .l x :: r => k x r
  | _ => False
def tkS (a : List Ans) (k : List UInt8 → List Ans → Prop) : Prop := match a with
  | .s x :: r => k x r
  | _ => False
def tkH (a : List Ans) (k : HP → List Ans → Prop) : Prop := match a with
  | .h x :: r => k x r
  | _ => False
def tkBx (a : List Ans) (k : List (Nat × List AV) → List Ans → Prop) : Prop := match a with
  | .bx x :: r => k x r
  | _ => False
def tkLp (a : List Ans) (k : AExit → St → List Ans → Prop) : Prop := match a with
  | .lp e st :: r => k e st r
  | _ => False
/-- a check that must be reckoned to be true. -/
def ifW (b : Bool) (p : Prop) : Prop := match b with
  | true => p
  | false => False
theorem tkB_ex {a : List Ans} {k : Bool → List Ans → Prop} (h : tkB a k) : ∃ x r, k x r := by
  unfold tkB at h; split at h
  · exact ⟨_, _, h⟩
  · exact h.elim
theorem tkN_ex {a : List Ans} {k : Nat → List Ans → Prop} (h : tkN a k) : ∃ x r, k x r := by
  unfold tkN at h; split at h
  · exact ⟨_, _, h⟩
  · exact h.elim
theorem tkI_ex {a : List Ans} {k : Int → List Ans → Prop} (h : tkI a k) : ∃ x r, k x r := by
  unfold tkI at h; split at h
  · exact ⟨_, _, h⟩
  · exact h.elim
theorem tkV_ex {a : List Ans} {k : AV → List Ans → Prop} (h : tkV a k) : ∃ x r, k x r := by
  unfold tkV at h; split at h
  · exact ⟨_, _, h⟩
  · exact h.elim
theorem tkL_ex {a : List Ans} {k : List AV → List Ans → Prop} (h : tkL a k) : ∃ x r, k x r := by
  unfold tkL at h; split at h
  · exact ⟨_, _, h⟩
  · exact h.elim
theorem tkS_ex {a : List Ans} {k : List UInt8 → List Ans → Prop} (h : tkS a k) : ∃ x r, k x r := by
  unfold tkS at h; split at h
  · exact ⟨_, _, h⟩
  · exact h.elim
theorem tkH_ex {a : List Ans} {k : HP → List Ans → Prop} (h : tkH a k) : ∃ x r, k x r := by
  unfold tkH at h; split at h
  · exact ⟨_, _, h⟩
  · exact h.elim
theorem tkBx_ex {a : List Ans} {k : List (Nat × List AV) → List Ans → Prop} (h : tkBx a k) : ∃ x r, k x r := by
  unfold tkBx at h; split at h
  · exact ⟨_, _, h⟩
  · exact h.elim
theorem tkLp_ex {a : List Ans} {k : AExit → St → List Ans → Prop} (h : tkLp a k) : ∃ e st r, k e st r := by
  unfold tkLp at h; split at h
  · exact ⟨_, _, _, h⟩
  · exact h.elim
theorem ifW_ex {b : Bool} {p : Prop} (h : ifW b p) : b = true ∧ p := by
  cases b with
  | true => exact ⟨rfl, h⟩
  | false => exact h.elim

def natW (x : AV) (a : List Ans) (k : Nat → List Ans → Prop) : Prop := match x with
  | .i _ n => tkN a fun j r => n = (j : Int) ∧ k j r
  | _ => False
theorem natW_ex {x : AV} {a : List Ans} {k : Nat → List Ans → Prop} (h : natW x a k) : ∃ j r, natOf x = some j ∧ k j r := by
  unfold natW at h; split at h
  · obtain ⟨j, r, h1, h2⟩ := tkN_ex h
    subst h1
    exact ⟨j, r, by simp [natOf], h2⟩
  · exact h.elim
/-- a box. -/
def boxW (E : Env) (st : St) (k : Key) (a : List Ans) (q : List AV → List Ans → Prop) : Prop :=
  tkB a fun own r => match own with
    | true => k.dp = E.dp ∧ (match bget st.bx k.d with
      | some cs => q cs r
      | none => False)
    | false => tkL r fun cs r => k.dp ≠ E.dp ∧ st.hp k = some cs ∧ q cs r
theorem boxW_ex {E : Env} {st : St} {k : Key} {a : List Ans} {q : List AV → List Ans → Prop} (h : boxW E st k a q) : ∃ cs r, st.box E.dp k = some cs ∧ q cs r := by
  obtain ⟨own, r, h⟩ := tkB_ex h
  cases own with
  | true =>
    obtain ⟨h1, h2⟩ := h
    split at h2
    · rename_i cs hb
      exact ⟨cs, r, by simp only [St.box, if_pos h1, hb], h2⟩
    · exact h2.elim
  | false =>
    obtain ⟨cs, r, h1, h2, h3⟩ := tkL_ex h
    exact ⟨cs, r, by simp only [St.box, if_neg h1, h2], h3⟩
def putBoxW (E : Env) (st : St) (k : Key) (cs : List AV) (a : List Ans) (q : St → List Ans → Prop) : Prop :=
  tkB a fun own r => match own with
    | true => k.dp = E.dp ∧ q { st with bx := bset st.bx k.d cs } r
    | false => tkH r fun hp r => k.dp ≠ E.dp ∧ upd st.hp k cs = hp ∧ q { st with hp := hp } r
theorem putBoxW_ex {E : Env} {st : St} {k : Key} {cs : List AV} {a : List Ans} {q : St → List Ans → Prop} (h : putBoxW E st k cs a q) : ∃ r, q (st.setBox E.dp k cs) r := by
  obtain ⟨own, r, h⟩ := tkB_ex h
  cases own with
  | true =>
    obtain ⟨h1, h2⟩ := h
    exact ⟨r, by simp only [St.setBox, if_pos h1]; exact h2⟩
  | false =>
    obtain ⟨hp, r, h1, h2, h3⟩ := tkH_ex h
    subst h2
    exact ⟨r, by simp only [St.setBox, if_neg h1]; exact h3⟩
def rowW (E : Env) (st : St) (pl : Pl) (a : List Ans) (q : TypeId → List AV → List Ans → Prop) : Prop :=
  match pl with
  | .s d => match fget st.fr d with
    | .o t es => q t es a
    | _ => False
  | .c k off => boxW E st k a fun cs r => match cs[off]? with
    | some (.o t es) => q t es r
    | _ => False
theorem rowW_ex {E : Env} {st : St} {pl : Pl} {a : List Ans} {q : TypeId → List AV → List Ans → Prop} (h : rowW E st pl a q) : ∃ t es r, st.rowAt E.dp pl = some (t, es) ∧ q t es r := by
  unfold rowW at h
  split at h
  · split at h
    · rename_i t es hx
      exact ⟨t, es, a, by simp only [St.rowAt, hx], h⟩
    · exact h.elim
  · obtain ⟨cs, r, h1, h2⟩ := boxW_ex h
    split at h2
    · rename_i t es hx
      exact ⟨t, es, r, by simp only [St.rowAt, h1, hx], h2⟩
    · exact h2.elim
/-- another thing in a place. -/
def putAtW (E : Env) (st : St) (x : AV) (pl : Pl) (a : List Ans) (q : St → List Ans → Prop) : Prop :=
  match pl with
  | .s d => q (st.fset d x) a
  | .c k off => boxW E st k a fun cs r => putBoxW E st k (cs.set off x) r q
theorem putAtW_ex {E : Env} {st : St} {x : AV} {pl : Pl} {a : List Ans} {q : St → List Ans → Prop} (h : putAtW E st x pl a q) : ∃ st' r, st.putAt E.dp x pl = some st' ∧ q st' r := by
  unfold putAtW at h
  split at h
  · exact ⟨_, a, rfl, h⟩
  · obtain ⟨cs, r, h1, h2⟩ := boxW_ex h
    obtain ⟨r', h3⟩ := putBoxW_ex h2
    exact ⟨_, r', by simp only [St.putAt, h1], h3⟩
def elemW (sz : Nat) (es : List AV) (j : Nat) (a : List Ans) (q : AV → List Ans → Prop) : Prop := tkV a fun e r => es[j]? = some e ∧ ifW (e.nc == sz) (q e r)
theorem elemW_ex {sz : Nat} {es : List AV} {j : Nat} {a : List Ans} {q : AV → List Ans → Prop} (h : elemW sz es j a q) : ∃ e r, es[j]? = some e ∧ e.nc = sz ∧ q e r := by
  obtain ⟨e, r, h1, h2⟩ := tkV_ex h
  obtain ⟨h3, h4⟩ := ifW_ex h2
  exact ⟨e, r, h1, by simpa using h3, h4⟩
theorem mine_of {E : Env} (h : E.ro = false) (pl : Pl) : pl.mine E = true := by cases pl <;> simp [Pl.mine, h]

/-- what a slice holds. -/
def elemsW (E : Env) (st : St) (x : AV) (a : List Ans) (q : TypeId → List AV → List Ans → Prop) : Prop :=
  match x with
  | .l t es => q t es a
  | .n => q 0 [] a
  | .o t es => q t es a
  | .r pl => rowW E st pl a q
  | .v pl lo len => rowW E st pl a fun t es r => tkL r fun es' r => lo + len ≤ es.length ∧ (es.drop lo).take len = es' ∧ q t es' r
  | _ => False
theorem elemsW_ex {E : Env} {st : St} {x : AV} {a : List Ans} {q : TypeId → List AV → List Ans → Prop} (h : elemsW E st x a q) : ∃ t es r, st.elems E.dp x = some (t, es) ∧ q t es r := by
  unfold elemsW at h
  split at h
  · exact ⟨_, _, a, rfl, h⟩
  · exact ⟨_, _, a, rfl, h⟩
  · exact ⟨_, _, a, rfl, h⟩
  · obtain ⟨t, es, r, h1, h2⟩ := rowW_ex h
    exact ⟨t, es, r, h1, h2⟩
  · obtain ⟨t, es, r, h1, h2⟩ := rowW_ex h
    obtain ⟨es', r', h3, h4, h5⟩ := tkL_ex h2
    subst h4
    exact ⟨t, _, r', by simp only [St.elems, h1, if_pos h3], h5⟩
  · exact h.elim
/-- arguments of a call that changes nothing. -/
def lendW (E : Env) (st : St) : List AV → List Ans → (List AV → List TypeId → List Ans → Prop) → Prop
  | [], a, q => q [] [] a
  | x :: xs, a, q => (match x with
    | .o t es => lendW E st xs a fun ys ts r => q (.l t es :: ys) ([t] ++ ts) r
    | .r pl => rowW E st pl a fun t es r => lendW E st xs r fun ys ts r => q (.l t es :: ys) ([t] ++ ts) r
    | .v pl lo len => rowW E st pl a fun t es r => tkL r fun es' r => lo + len ≤ es.length ∧ (es.drop lo).take len = es' ∧ lendW E st xs r fun ys ts r => q (.l t es' :: ys) ([t] ++ ts) r
    | x => ifW x.pure (lendW E st xs a fun ys ts r => q (x :: ys) ([] ++ ts) r))
theorem lendW_ex {E : Env} {st : St} : ∀ {xs : List AV} {a : List Ans} {q : List AV → List TypeId → List Ans → Prop}, lendW E st xs a q → ∃ ys ts r, st.lendAll E.dp xs = some (ys, ts) ∧ q ys ts r
  | [], a, q, h => ⟨[], [], a, rfl, h⟩
  | x :: xs, a, q, h => by
    unfold lendW at h
    split at h
    · obtain ⟨ys, ts, r, h1, h2⟩ := lendW_ex h
      exact ⟨_, _, r, by simp [St.lendAll, St.lend, h1], h2⟩
    · obtain ⟨t, es, r, h1, h2⟩ := rowW_ex h
      obtain ⟨ys, ts, r, h3, h4⟩ := lendW_ex h2
      exact ⟨_, _, r, by simp [St.lendAll, St.lend, h1, h3], h4⟩
    · obtain ⟨t, es, r, h1, h2⟩ := rowW_ex h
      obtain ⟨es', r, h3, h4, h5⟩ := tkL_ex h2
      obtain ⟨ys, ts, r, h6, h7⟩ := lendW_ex h5
      subst h4
      exact ⟨_, _, r, by simp [St.lendAll, St.lend, h1, h3, h6], h7⟩
    · rename_i h1 h2 h3
      obtain ⟨h4, h5⟩ := ifW_ex h
      obtain ⟨ys, ts, r, h6, h7⟩ := lendW_ex h5
      refine ⟨_, _, r, ?_, h7⟩
      have : st.lend E.dp x = some (x, []) := by
        unfold St.lend
        split
        · exact (h1 _ _ rfl).elim
        · exact (h2 _ rfl).elim
        · exact (h3 _ _ _ rfl).elim
        · rw [if_pos h4]
      simp [St.lendAll, this, h6]
end Go.Proofs.Ytdoiklliklkbgaa.A
