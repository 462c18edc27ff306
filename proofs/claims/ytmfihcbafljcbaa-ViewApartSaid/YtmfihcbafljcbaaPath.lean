/- Paths: what is told of a run (which way it goes, what an element is, what a call answers) gives what must be shown, and nothing else; all else is reckoned. -/
import Derived.Test.YtmfihcbafljcbaaAbs3
set_option linter.unusedSectionVars false
set_option linter.unusedVariables false
set_option linter.unusedSimpArgs false
set_option linter.constructorNameAsVariable false
namespace Go.Proofs.Ytmfihcbafljcbaa.A
open Go

inductive Ans where
  | b (x : Bool)
  | n (x : Nat)
  | i (x : Int)
  | v (x : AV)
  | l (es : List AV)
  | s (x : List UInt8)
  | h (hp : HP)
  | bx (bs : List (Nat × List AV))
  | lp (e : AExit) (st : St)
  | fr (e : AExit) (st : St)
  | jn (st : St)
/-- answers, in a tree: one after the other; one of two ways; for some thing; the rest of a region; the rest of code. -/
inductive AT : Type 1 where
  | nil
  | no
  | co (x : Ans) (r : AT)
  | or (a b : AT)
  | ex {α : Type} (f : α → AT)
  | jb (d : Option Nat) (n : Nat) (b : AT)
  | fb (b : AT)
def splitW : AT → (AT → Prop) → Prop
  | .or a b, k => splitW a k ∨ splitW b k
  | .ex f, k => ∃ x, splitW (f x) k
  | .no, _ => False
  | a, k => k a
theorem splitW_ex {k : AT → Prop} : ∀ {a : AT}, splitW a k → ∃ b, k b
  | .or a b, h => by
    rw [splitW] at h
    rcases h with h | h
    · exact splitW_ex h
    · exact splitW_ex h
  | .ex f, h => by
    rw [splitW] at h
    obtain ⟨x, h⟩ := h
    exact splitW_ex h
  | .no, h => h.elim
  | .nil, h => ⟨_, h⟩
  | .co _ _, h => ⟨_, h⟩
  | .jb _ _ _, h => ⟨_, h⟩
  | .fb _, h => ⟨_, h⟩
def tkB (a : AT) (k : Bool → AT → Prop) : Prop := splitW a fun a => match a with
  | .co (.b x) r => k x r
  | _ => False
def tkN (a : AT) (k : Nat → AT → Prop) : Prop := splitW a fun a => match a with
  | .co (.n x) r => k x r
  | _ => False
def tkI (a : AT) (k : Int → AT → Prop) : Prop := splitW a fun a => match a with
  | .co (.i x) r => k x r
  | _ => False
def tkV (a : AT) (k : AV → AT → Prop) : Prop := splitW a fun a => match a with
  | .co (.v x) r => k x r
  | _ => False
def tkL (a : AT) (k : List AV → AT → Prop) : Prop := splitW a fun a => match a with
  | .co (.l x) r => k x r
  | _ => False
def tkS (a : AT) (k : List UInt8 → AT → Prop) : Prop := splitW a fun a => match a with
  | .co (.s x) r => k x r
  | _ => False
def tkH (a : AT) (k : HP → AT → Prop) : Prop := splitW a fun a => match a with
  | .co (.h x) r => k x r
  | _ => False
def tkBx (a : AT) (k : List (Nat × List AV) → AT → Prop) : Prop := splitW a fun a => match a with
  | .co (.bx x) r => k x r
  | _ => False
def tkLp (a : AT) (k : AExit → St → AT → Prop) : Prop := splitW a fun a => match a with
  | .co (.lp e st) r => k e st r
  | _ => False
/-- a check that must be reckoned to be true. -/
def ifW (b : Bool) (p : Prop) : Prop := match b with
  | true => p
  | false => False
theorem tkB_ex {a : AT} {k : Bool → AT → Prop} (h : tkB a k) : ∃ x r, k x r := by
  obtain ⟨b, h⟩ := splitW_ex h
  split at h
  · exact ⟨_, _, h⟩
  · exact h.elim
theorem tkN_ex {a : AT} {k : Nat → AT → Prop} (h : tkN a k) : ∃ x r, k x r := by
  obtain ⟨b, h⟩ := splitW_ex h
  split at h
  · exact ⟨_, _, h⟩
  · exact h.elim
theorem tkI_ex {a : AT} {k : Int → AT → Prop} (h : tkI a k) : ∃ x r, k x r := by
  obtain ⟨b, h⟩ := splitW_ex h
  split at h
  · exact ⟨_, _, h⟩
  · exact h.elim
theorem tkV_ex {a : AT} {k : AV → AT → Prop} (h : tkV a k) : ∃ x r, k x r := by
  obtain ⟨b, h⟩ := splitW_ex h
  split at h
  · exact ⟨_, _, h⟩
  · exact h.elim
theorem tkL_ex {a : AT} {k : List AV → AT → Prop} (h : tkL a k) : ∃ x r, k x r := by
  obtain ⟨b, h⟩ := splitW_ex h
  split at h
  · exact ⟨_, _, h⟩
  · exact h.elim
theorem tkS_ex {a : AT} {k : List UInt8 → AT → Prop} (h : tkS a k) : ∃ x r, k x r := by
  obtain ⟨b, h⟩ := splitW_ex h
  split at h
  · exact ⟨_, _, h⟩
  · exact h.elim
theorem tkH_ex {a : AT} {k : HP → AT → Prop} (h : tkH a k) : ∃ x r, k x r := by
  obtain ⟨b, h⟩ := splitW_ex h
  split at h
  · exact ⟨_, _, h⟩
  · exact h.elim
theorem tkBx_ex {a : AT} {k : List (Nat × List AV) → AT → Prop} (h : tkBx a k) : ∃ x r, k x r := by
  obtain ⟨b, h⟩ := splitW_ex h
  split at h
  · exact ⟨_, _, h⟩
  · exact h.elim
theorem tkLp_ex {a : AT} {k : AExit → St → AT → Prop} (h : tkLp a k) : ∃ e st r, k e st r := by
  obtain ⟨b, h⟩ := splitW_ex h
  split at h
  · exact ⟨_, _, _, h⟩
  · exact h.elim
theorem ifW_ex {b : Bool} {p : Prop} (h : ifW b p) : b = true ∧ p := by
  cases b with
  | true => exact ⟨rfl, h⟩
  | false => exact h.elim

def natW (x : AV) (a : AT) (k : Nat → AT → Prop) : Prop := match x with
  | .i _ n => tkN a fun j r => n = (j : Int) ∧ k j r
  | _ => False
theorem natW_ex {x : AV} {a : AT} {k : Nat → AT → Prop} (h : natW x a k) : ∃ j r, natOf x = some j ∧ k j r := by
  unfold natW at h; split at h
  · obtain ⟨j, r, h1, h2⟩ := tkN_ex h
    subst h1
    exact ⟨j, r, by simp [natOf], h2⟩
  · exact h.elim
/-- a box. -/
def boxW (E : Env) (st : St) (k : Key) (a : AT) (q : List AV → AT → Prop) : Prop :=
  tkB a fun own r => match own with
    | true => k.dp = E.dp ∧ (match bget st.bx k.d with
      | some cs => q cs r
      | none => False)
    | false => tkL r fun cs r => k.dp ≠ E.dp ∧ st.hp k = some cs ∧ q cs r
theorem boxW_ex {E : Env} {st : St} {k : Key} {a : AT} {q : List AV → AT → Prop} (h : boxW E st k a q) : ∃ cs r, st.box E.dp k = some cs ∧ q cs r := by
  obtain ⟨own, r, h⟩ := tkB_ex h
  cases own with
  | true =>
    obtain ⟨h1, h2⟩ := h
    split at h2
    · rename_i cs hb
      exact ⟨cs, r, by simp only [St.box, if_pos h1, hb], h2⟩
    · exact h2.elim
  | false =>
    obtain ⟨cs, r, h1, h2, h3⟩ := tkL_ex h
    exact ⟨cs, r, by simp only [St.box, if_neg h1, h2], h3⟩
def putBoxW (E : Env) (st : St) (k : Key) (cs : List AV) (a : AT) (q : St → AT → Prop) : Prop :=
  tkB a fun own r => match own with
    | true => k.dp = E.dp ∧ q { st with bx := bset st.bx k.d cs } r
    | false => tkH r fun hp r => k.dp ≠ E.dp ∧ upd st.hp k cs = hp ∧ q { st with hp := hp } r
theorem putBoxW_ex {E : Env} {st : St} {k : Key} {cs : List AV} {a : AT} {q : St → AT → Prop} (h : putBoxW E st k cs a q) : ∃ r, q (st.setBox E.dp k cs) r := by
  obtain ⟨own, r, h⟩ := tkB_ex h
  cases own with
  | true =>
    obtain ⟨h1, h2⟩ := h
    exact ⟨r, by simp only [St.setBox, if_pos h1]; exact h2⟩
  | false =>
    obtain ⟨hp, r, h1, h2, h3⟩ := tkH_ex h
    subst h2
    exact ⟨r, by simp only [St.setBox, if_neg h1]; exact h3⟩
def rowW (E : Env) (st : St) (pl : Pl) (a : AT) (q : TypeId → List AV → AT → Prop) : Prop :=
  match pl with
  | .s d => match fget st.fr d with
    | .o t es => q t es a
    | _ => False
  | .c k off => boxW E st k a fun cs r => match cs[off]? with
    | some (.o t es) => q t es r
    | _ => False
theorem rowW_ex {E : Env} {st : St} {pl : Pl} {a : AT} {q : TypeId → List AV → AT → Prop} (h : rowW E st pl a q) : ∃ t es r, st.rowAt E.dp pl = some (t, es) ∧ q t es r := by
  unfold rowW at h
  split at h
  · split at h
    · rename_i t es hx
      exact ⟨t, es, a, by simp only [St.rowAt, hx], h⟩
    · exact h.elim
  · obtain ⟨cs, r, h1, h2⟩ := boxW_ex h
    split at h2
    · rename_i t es hx
      exact ⟨t, es, r, by simp only [St.rowAt, h1, hx], h2⟩
    · exact h2.elim
/-- another thing in a place. -/
def putAtW (E : Env) (st : St) (x : AV) (pl : Pl) (a : AT) (q : St → AT → Prop) : Prop :=
  match pl with
  | .s d => q (st.fset d x) a
  | .c k off => boxW E st k a fun cs r => putBoxW E st k (cs.set off x) r q
theorem putAtW_ex {E : Env} {st : St} {x : AV} {pl : Pl} {a : AT} {q : St → AT → Prop} (h : putAtW E st x pl a q) : ∃ st' r, st.putAt E.dp x pl = some st' ∧ q st' r := by
  unfold putAtW at h
  split at h
  · exact ⟨_, a, rfl, h⟩
  · obtain ⟨cs, r, h1, h2⟩ := boxW_ex h
    obtain ⟨r', h3⟩ := putBoxW_ex h2
    exact ⟨_, r', by simp only [St.putAt, h1], h3⟩
def elemW (sz : Nat) (es : List AV) (j : Nat) (a : AT) (q : AV → AT → Prop) : Prop := tkV a fun e r => es[j]? = some e ∧ ifW (e.nc == sz) (q e r)
theorem elemW_ex {sz : Nat} {es : List AV} {j : Nat} {a : AT} {q : AV → AT → Prop} (h : elemW sz es j a q) : ∃ e r, es[j]? = some e ∧ e.nc = sz ∧ q e r := by
  obtain ⟨e, r, h1, h2⟩ := tkV_ex h
  obtain ⟨h3, h4⟩ := ifW_ex h2
  exact ⟨e, r, h1, by simpa using h3, h4⟩
theorem mine_of {E : Env} (h : E.ro = false) (pl : Pl) : pl.mine E = true := by cases pl <;> simp [Pl.mine, h]

/-- what a slice holds. -/
def elemsW (E : Env) (st : St) (x : AV) (a : AT) (q : TypeId → List AV → AT → Prop) : Prop :=
  match x with
  | .l t es => q t es a
  | .n => q 0 [] a
  | .o t es => q t es a
  | .r pl => rowW E st pl a q
  | .v pl lo len => rowW E st pl a fun t es r => tkL r fun es' r => lo + len ≤ es.length ∧ (es.drop lo).take len = es' ∧ q t es' r
  | _ => False
theorem elemsW_ex {E : Env} {st : St} {x : AV} {a : AT} {q : TypeId → List AV → AT → Prop} (h : elemsW E st x a q) : ∃ t es r, st.elems E.dp x = some (t, es) ∧ q t es r := by
  unfold elemsW at h
  split at h
  · exact ⟨_, _, a, rfl, h⟩
  · exact ⟨_, _, a, rfl, h⟩
  · exact ⟨_, _, a, rfl, h⟩
  · obtain ⟨t, es, r, h1, h2⟩ := rowW_ex h
    exact ⟨t, es, r, h1, h2⟩
  · obtain ⟨t, es, r, h1, h2⟩ := rowW_ex h
    obtain ⟨es', r', h3, h4, h5⟩ := tkL_ex h2
    subst h4
    exact ⟨t, _, r', by simp only [St.elems, h1, if_pos h3], h5⟩
  · exact h.elim
/-- arguments of a call that changes nothing. -/
def lendW (E : Env) (st : St) : List AV → AT → (List AV → List TypeId → AT → Prop) → Prop
  | [], a, q => q [] [] a
  | x :: xs, a, q => (match x with
    | .o t es => lendW E st xs a fun ys ts r => q (.l t es :: ys) ([t] ++ ts) r
    | .r pl => rowW E st pl a fun t es r => lendW E st xs r fun ys ts r => q (.l t es :: ys) ([t] ++ ts) r
    | .v pl lo len => rowW E st pl a fun t es r => tkL r fun es' r => lo + len ≤ es.length ∧ (es.drop lo).take len = es' ∧ lendW E st xs r fun ys ts r => q (.l t es' :: ys) ([t] ++ ts) r
    | .w _ t x => lendW E st xs a fun ys ts r => q (x :: ys) ([t] ++ ts) r
    | x => ifW x.pure (lendW E st xs a fun ys ts r => q (x :: ys) ([] ++ ts) r))
theorem lendW_ex {E : Env} {st : St} : ∀ {xs : List AV} {a : AT} {q : List AV → List TypeId → AT → Prop}, lendW E st xs a q → ∃ ys ts r, st.lendAll E.dp xs = some (ys, ts) ∧ q ys ts r
  | [], a, q, h => ⟨[], [], a, rfl, h⟩
  | x :: xs, a, q, h => by
    unfold lendW at h
    split at h
    · obtain ⟨ys, ts, r, h1, h2⟩ := lendW_ex h
      exact ⟨_, _, r, by simp [St.lendAll, St.lend, h1], h2⟩
    · obtain ⟨t, es, r, h1, h2⟩ := rowW_ex h
      obtain ⟨ys, ts, r, h3, h4⟩ := lendW_ex h2
      exact ⟨_, _, r, by simp [St.lendAll, St.lend, h1, h3], h4⟩
    · obtain ⟨t, es, r, h1, h2⟩ := rowW_ex h
      obtain ⟨es', r, h3, h4, h5⟩ := tkL_ex h2
      obtain ⟨ys, ts, r, h6, h7⟩ := lendW_ex h5
      subst h4
      exact ⟨_, _, r, by simp [St.lendAll, St.lend, h1, h3, h6], h7⟩
    · obtain ⟨ys, ts, r, h1, h2⟩ := lendW_ex h
      exact ⟨_, _, r, by simp [St.lendAll, St.lend, h1], h2⟩
    · rename_i h1 h2 h3 hw
      obtain ⟨h4, h5⟩ := ifW_ex h
      obtain ⟨ys, ts, r, h6, h7⟩ := lendW_ex h5
      refine ⟨_, _, r, ?_, h7⟩
      have : st.lend E.dp x = some (x, []) := by
        unfold St.lend
        split
        · exact (h1 _ _ rfl).elim
        · exact (h2 _ rfl).elim
        · exact (h3 _ _ _ rfl).elim
        · exact (hw _ _ _ rfl).elim
        · simp [AV.pure] at h4
        · rw [if_pos h4]
      simp [St.lendAll, this, h6]
end Go.Proofs.Ytmfihcbafljcbaa.A
