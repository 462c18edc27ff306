/- Paths: regions, code, functions. -/
import Derived.Test.YtmfihcbafljcbaaPath2
import Derived.KernelRfl
set_option linter.unusedSectionVars false
set_option linter.unusedVariables false
set_option linter.unusedSimpArgs false
set_option linter.constructorNameAsVariable false
namespace Go.Proofs.Ytmfihcbafljcbaa.A
open Go
section
variable (G : Prg) (Ω : Orc) (E : Env)
abbrev KS := St → AT → Prop
noncomputable def gW (st : St) (g : GOp) (a : AT) (q : KS) : Prop :=
  match g.g with
  | none => opW G Ω E st g.d a g.o fun x st' a => q (put st' g.d (frz g.fz x)) a
  | some (j, want) => match fget st.fr j with
    | .b x => tkB a fun y a => (x == want) = y ∧ (match y with
      | true => opW G Ω E st g.d a g.o fun x st' a => q (put st' g.d (frz g.fz x)) a
      | false => q (put st g.d .sk) a)
    | .sk => q (put st g.d .sk) a
    | _ => False
noncomputable def gsW : St → List GOp → AT → KS → Prop
  | st, [], a, q => q st a
  | st, g :: gs, a, q => gW G Ω E st g a fun st a => gsW st gs a q
/-- a row that is put into a box: a slot's, into a box of one's own. -/
def lightStW (dp : Nat) (p : DOp) (v : St) (q : Prop) : Prop :=
  match p.p.o with
  | .st _ x y => (match isO (v.ev y) with
    | false => q
    | true => match v.ev x with
      | .p k _ => k.dp = dp ∧ ifW (p.vb == [k.d] && (match y with
        | .t m => p.cs == [m]
        | .c _ => false)) q
      | _ => False)
  | .ap _ _ _ x _ => ifW (isRC (v.ev x) == (p.cs.length == 2)) q
  | _ => q
theorem lightStW_ex {dp : Nat} {p : DOp} {v : St} {q : Prop} (h : lightStW dp p v q) : lightSt dp p v = true ∧ q := by
  unfold lightStW at h
  unfold lightSt
  split at h
  · rename_i n x y ho
    simp only [ho]
    split at h
    · rename_i hy
      exact ⟨by rw [hy]; rfl, h⟩
    · rename_i hy
      split at h
      · rename_i k off hx
        obtain ⟨h1, h2⟩ := h
        obtain ⟨h3, h4⟩ := ifW_ex h2
        refine ⟨?_, h4⟩
        rw [hy, hx]
        simp only [Bool.and_eq_true] at h3
        simp only [h1, decide_true, h3.1, Bool.not_true, Bool.false_or, Bool.true_and]
        exact h3.2
      · exact h.elim
  · rename_i ho
    simp only [ho]
    exact ifW_ex h
  · rename_i hne hna
    refine ⟨?_, h⟩
    split
    · rename_i n x y ho
      exact (hne _ _ _ ho).elim
    · rename_i ho
      exact (hna _ _ _ _ _ ho).elim
    · rfl
noncomputable def coreW (st : St) (p : DOp) (a : AT) (q : KS) : Prop :=
  ifW (lightOk (view p st) p.p.o) (lightStW E.dp p (view p st) (opW G Ω E (view p st) p.p.d a p.p.o fun x v' a => (okRes E.dp p.nk x && okB E.dp p.nb x) = true ∧ q ((effect p (x, v')).app st) a))
noncomputable def dW (st : St) (p : DOp) (a : AT) (q : KS) : Prop :=
  match p.lt with
  | true => match p.p.g with
    | none => coreW G Ω E st p a q
    | some (j, want) => match fget st.fr j with
      | .b x => tkB a fun y a => (x == want) = y ∧ (match y with
        | true => coreW G Ω E st p a q
        | false => q ((⟨dput p.p.d .sk, [], [], none⟩ : Patch).app st) a)
      | .sk => q ((⟨dput p.p.d .sk, [], [], none⟩ : Patch).app st) a
      | _ => False
  | false => gW G Ω E st p.p a q
noncomputable def dsW : St → List DOp → AT → KS → Prop
  | st, [], a, q => q st a
  | st, p :: ps, a, q => dW G Ω E st p a fun st a => dsW st ps a q
/-- the rest of a region, and what is kept behind it. -/
noncomputable def opsK (kf kb : List Nat) (gs : List GOp) (st : St) : Option St := (execOps (call G Ω) Ω E st gs).map fun s => s.keep kf kb
noncomputable def opsD (kf kb : List Nat) (gs : List DOp) (st : St) : Option St := (execD (call G Ω) Ω E st gs).map fun s => s.keep kf kb
/-- does the rest of a region begin here? -/
def jnAt (d : Option Nat) (m n : Nat) (d' : Option Nat) : Bool := (match d, d' with
  | some x, some y => x == y
  | none, none => true
  | _, _ => false) && m == n
noncomputable def gsJW (kf kb : List Nat) : St → List GOp → AT → KS → Prop
  | st, [], a, q => q (st.keep kf kb) a
  | st, g :: gs, a, q => match a with
    | .jb d n b => (match jnAt g.d gs.length n d with
      | true => splitW b fun b => match b with
        | .co (.jn X) r => opsK G Ω E kf kb (g :: gs) st = some X ∧ q X r
        | _ => False
      | false => gW G Ω E st g (.jb d n b) fun st a => gsJW kf kb st gs a q)
    | a => gW G Ω E st g a fun st a => gsJW kf kb st gs a q
noncomputable def dsJW (kf kb : List Nat) : St → List DOp → AT → KS → Prop
  | st, [], a, q => q (st.keep kf kb) a
  | st, p :: ps, a, q => match a with
    | .jb d n b => (match jnAt p.p.d ps.length n d with
      | true => splitW b fun b => match b with
        | .co (.jn X) r => opsD G Ω E kf kb (p :: ps) st = some X ∧ q X r
        | _ => False
      | false => dW G Ω E st p (.jb d n b) fun st a => dsJW kf kb st ps a q)
    | a => dW G Ω E st p a fun st a => dsJW kf kb st ps a q
def preW1 (st : St) (p : Pre) (a : AT) (q : KS) : Prop :=
  match p with
  | .own d t => match fget st.fr d with
    | .n => q ((st.dropB (.s d)).fset d (.o t [])) a
    | .o _ _ => q st a
    | _ => False
  | .fz d => match fget st.fr d with
    | .o t es => q (st.fset d (.l t es)) a
    | _ => False
  | .ownC d off t => match fget st.fr d with
    | .p k o => E.ro = false ∧ (boxW E st k a fun cs a => match cs[o + off]? with
      | some .n => putBoxW E (st.dropB (.c k (o + off))) k (cs.set (o + off) (.o t [])) a q
      | some (.o _ _) => q st a
      | _ => False)
    | _ => False
  | .fzC d off => match fget st.fr d with
    | .p k o => E.ro = false ∧ (boxW E st k a fun cs a => match cs[o + off]? with
      | some (.o t es) => putBoxW E st k (cs.set (o + off) (.l t es)) a q
      | _ => False)
    | _ => False
  | .fzB d agg => match fget st.fr d with
    | .p k 0 => k.dp = E.dp ∧ (match bget st.bx k.d with
      | some cs => ifW (AV.pureL cs) (match agg with
        | true => q { (st.fset d (.e (.a cs) 0)) with bx := st.bx.filter fun y => y.1 != k.d } a
        | false => match cs with
          | [c] => q { (st.fset d (.e c 0)) with bx := st.bx.filter fun y => y.1 != k.d } a
          | _ => False)
      | none => False)
    | _ => False
  | .pin d off nd sz => match doPre1 E st (.pin d off nd sz) with
    | some st' => q st' a
    | none => False
  | .unp d off => match doPre1 E st (.unp d off) with
    | some st' => q st' a
    | none => False
def preW : St → List Pre → AT → KS → Prop
  | st, [], a, q => q st a
  | st, p :: ps, a, q => preW1 E st p a fun st a => preW st ps a q
abbrev KX := AExit → St → AT → Prop
noncomputable def cW : AC → St → AT → KX → Prop
  | .sk, st, a, q => q .nrm st a
  | .rg pre ops kf kb, st, a, q => preW E st pre a fun st a => gsJW G Ω E kf kb st ops a fun st a => q .nrm st a
  | .dg pre mks ops kf kb, st, a, q => preW E st pre a fun st a => (mks.all (freeOf E.dp st) && ops.all (freeB E.dp st)) = true ∧ (dsJW G Ω E kf kb st ops a fun st a => q .nrm st a)
  | .sq x y, st, a, q => cW x st a fun e st a => match e with
    | .nrm => cW y st a q
    | e => q e st a
  | .ite c x y, st, a, q => match st.ev c with
    | .b z => tkB a fun w a => z = w ∧ (match w with
      | true => cW x st a q
      | false => cW y st a q)
    | _ => False
  | .bl id x, st, a, q => cW x st a fun e st a => match e with
    | .ex id' => if id' = id then q .nrm st a else q (.ex id') st a
    | e => q e st a
  | .lp (.kp kf kb x), st, a, q => tkLp a fun e st' a => run G Ω E (.lp (.kp kf kb x)) (st.keep kf kb) = some (e, st') ∧ q e st' a
  | .lp x, st, a, q => tkLp a fun e st' a => run G Ω E (.lp x) st = some (e, st') ∧ q e st' a
  | .ex id, st, a, q => q (.ex id) st a
  | .rt, st, a, q => q .ret st a
  | .bad, _, _, _ => False
  | .ru g x y b, st, a, q => tkLp a fun e st' a => run G Ω E (.ru g x y b) st = some (e, st') ∧ q e st' a
  | .kp kf kb x, st, a, q => match a with
    | .fb b => splitW b fun b => match b with
      | .co (.fr e st') r => run G Ω E x (st.keep kf kb) = some (e, st') ∧ q e st' r
      | _ => False
    | _ => cW x (st.keep kf kb) a q
def fin1W (st : St) (x : AV) (a : AT) (q : AV → AT → Prop) : Prop :=
  match x with
  | .o t es => q (.l t es) a
  | .r (.s d) => rowW E st (.s d) a fun t es a => q (.l t es) a
  | .r (.c k off) => k.dp = E.dp ∧ (rowW E st (.c k off) a fun t es a => q (.l t es) a)
  | .v (.s d) lo len => rowW E st (.s d) a fun t es a => tkL a fun es' a => lo + len ≤ es.length ∧ (es.drop lo).take len = es' ∧ q (.l t es') a
  | .v (.c _ _) _ _ => False
  | .q _ _ _ _ => False
  | .w _ _ _ => False
  | .bp _ _ _ => False
  | x => q x a
def finLW (st : St) : List AV → AT → (List AV → AT → Prop) → Prop
  | [], a, q => q [] a
  | x :: xs, a, q => fin1W E st x a fun y a => finLW st xs a fun ys a => q (y :: ys) a
def resVW (st : St) (z : RV) (a : AT) (q : AV → AT → Prop) : Prop :=
  match z with
  | .t n => fin1W E st (fget st.fr n) a q
  | .c n sz => match fget st.fr n with
    | .p k off => k.dp = E.dp ∧ (match bget st.bx k.d with
      | some cs => match pick sz off cs with
        | some (.a ds) => finLW E st ds a fun ds a => q (.a ds) a
        | some y => fin1W E st y a q
        | none => False
      | none => False)
    | _ => False
def resW (st : St) : List RV → AT → (List AV → Prop) → Prop
  | [], _, q => q []
  | z :: zs, a, q => resVW E st z a fun y a => resW st zs a fun ys => q (y :: ys)
noncomputable def callNW (fn : AFn) (ys : List AV) (hp : HP) (a : AT) (q : List AV → HP → Prop) : Prop :=
  cW G Ω E fn.code ⟨argFr 0 ys, [], hp⟩ a fun e st _ => match e with
    | .ex _ => False
    | _ => match fn.res with
      | [.t n] => match fget st.fr n with
        | .p k 0 => k.dp = E.dp ∧ (match bget st.bx k.d with
          | some cs => (cs.all newCell) = true ∧ q cs st.hp
          | none => False)
        | _ => False
      | _ => False
noncomputable def callW (fn : AFn) (ys : List AV) (hp : HP) (a : AT) (q : AV → HP → Prop) : Prop :=
  cW G Ω E fn.code ⟨argFr 0 ys, [], hp⟩ a fun e st a => match e with
    | .ex _ => False
    | _ => resW E st fn.res a fun xs => ifW (AV.pureL xs) (q (tup xs) st.hp)
end
section
variable {G : Prg} {Ω : Orc} {E : Env}
theorem gW_ex {st : St} {g : GOp} {a : AT} {q : KS} (h : gW G Ω E st g a q) : ∃ st' r, execG (call G Ω) Ω E st g = some st' ∧ q st' r := by
  unfold gW at h
  split at h
  · rename_i hg
    obtain ⟨x, st', r, h1, h2⟩ := opW_ex h
    exact ⟨_, r, by simp only [execG, hg, h1, Option.bind_some], h2⟩
  · rename_i j want hg
    split at h
    · rename_i x hx
      obtain ⟨y, r, rfl, h⟩ := tkB_ex h
      split at h
      · rename_i hy
        obtain ⟨x', st', r, h1, h2⟩ := opW_ex h
        exact ⟨_, r, by simp only [execG, hg, hx, asG, Option.bind_some, hy, if_true, h1], h2⟩
      · rename_i hy
        exact ⟨_, r, by simp only [execG, hg, hx, asG, Option.bind_some, hy, Bool.false_eq_true, if_false], h⟩
    · rename_i hx
      exact ⟨_, a, by simp only [execG, hg, hx, asG, Option.bind_some, Bool.false_eq_true, if_false], h⟩
    · exact h.elim
theorem gsW_ex : ∀ {gs : List GOp} {st : St} {a : AT} {q : KS}, gsW G Ω E st gs a q → ∃ st' r, execOps (call G Ω) Ω E st gs = some st' ∧ q st' r
  | [], st, a, q, h => ⟨st, a, rfl, h⟩
  | g :: gs, st, a, q, h => by
    obtain ⟨st1, r1, h1, h2⟩ := gW_ex h
    obtain ⟨st2, r2, h3, h4⟩ := gsW_ex h2
    exact ⟨st2, r2, by simp only [execOps, h1, Option.bind_some, h3], h4⟩
theorem coreW_ex {st : St} {p : DOp} {a : AT} {q : KS} (h : coreW G Ω E st p a q) : ∃ P r, coreL (call G Ω) Ω E p (view p st) = some P ∧ q (P.app st) r := by
  obtain ⟨h0, h⟩ := ifW_ex h
  obtain ⟨h1, h⟩ := lightStW_ex h
  obtain ⟨x, st', r, h2, h3, h4⟩ := opW_ex h
  exact ⟨_, r, by simp only [coreL, h0, h1, Bool.and_self, if_true, h2, Option.bind_some, h3], h4⟩
theorem dW_ex {st : St} {p : DOp} {a : AT} {q : KS} (h : dW G Ω E st p a q) : ∃ st' r, execD1 (call G Ω) Ω E st p = some st' ∧ q st' r := by
  unfold dW at h
  split at h
  · rename_i hlt
    split at h
    · rename_i hg
      obtain ⟨P, r, h1, h2⟩ := coreW_ex h
      exact ⟨_, r, by simp only [execD1, hlt, if_true, patchL, hg, h1, Option.bind_some], h2⟩
    · rename_i j want hg
      split at h
      · rename_i x hx
        obtain ⟨y, r, rfl, h⟩ := tkB_ex h
        split at h
        · rename_i hy
          obtain ⟨P, r, h1, h2⟩ := coreW_ex h
          exact ⟨_, r, by simp only [execD1, hlt, if_true, patchL, hg, hx, asG, hy, h1, Option.bind_some], h2⟩
        · rename_i hy
          exact ⟨_, r, by simp only [execD1, hlt, if_true, patchL, hg, hx, asG, hy, Option.bind_some, Bool.false_eq_true, if_false], h⟩
      · rename_i hx
        exact ⟨_, a, by simp only [execD1, hlt, if_true, patchL, hg, hx, asG, Option.bind_some, Bool.false_eq_true, if_false], h⟩
      · exact h.elim
  · rename_i hlt
    obtain ⟨st', r, h1, h2⟩ := gW_ex h
    exact ⟨st', r, by simp only [execD1, hlt, Bool.false_eq_true, if_false, h1], h2⟩
theorem dsW_ex : ∀ {gs : List DOp} {st : St} {a : AT} {q : KS}, dsW G Ω E st gs a q → ∃ st' r, execD (call G Ω) Ω E st gs = some st' ∧ q st' r
  | [], st, a, q, h => ⟨st, a, rfl, h⟩
  | g :: gs, st, a, q, h => by
    obtain ⟨st1, r1, h1, h2⟩ := dW_ex h
    obtain ⟨st2, r2, h3, h4⟩ := dsW_ex h2
    exact ⟨st2, r2, by simp only [execD, h1, Option.bind_some, h3], h4⟩
theorem gsJW_ex {kf kb : List Nat} : ∀ {gs : List GOp} {st : St} {a : AT} {q : KS}, gsJW G Ω E kf kb st gs a q → ∃ st' r, opsK G Ω E kf kb gs st = some st' ∧ q st' r
  | [], st, a, q, h => ⟨_, a, rfl, h⟩
  | g :: gs, st, a, q, h => by
    have key : ∀ a', (gW G Ω E st g a' fun st a => gsJW G Ω E kf kb st gs a q) → ∃ st' r, opsK G Ω E kf kb (g :: gs) st = some st' ∧ q st' r := by
      intro a' h
      obtain ⟨st1, r1, h1, h2⟩ := gW_ex h
      obtain ⟨st2, r2, h3, h4⟩ := gsJW_ex h2
      exact ⟨st2, r2, by simp only [opsK, execOps, h1, Option.bind_some]; exact h3, h4⟩
    unfold gsJW at h
    split at h
    · split at h
      · obtain ⟨b, h⟩ := splitW_ex h
        split at h
        · exact ⟨_, _, h.1, h.2⟩
        · exact h.elim
      · exact key _ h
    · exact key _ h
theorem dsJW_ex {kf kb : List Nat} : ∀ {gs : List DOp} {st : St} {a : AT} {q : KS}, dsJW G Ω E kf kb st gs a q → ∃ st' r, opsD G Ω E kf kb gs st = some st' ∧ q st' r
  | [], st, a, q, h => ⟨_, a, rfl, h⟩
  | g :: gs, st, a, q, h => by
    have key : ∀ a', (dW G Ω E st g a' fun st a => dsJW G Ω E kf kb st gs a q) → ∃ st' r, opsD G Ω E kf kb (g :: gs) st = some st' ∧ q st' r := by
      intro a' h
      obtain ⟨st1, r1, h1, h2⟩ := dW_ex h
      obtain ⟨st2, r2, h3, h4⟩ := dsJW_ex h2
      exact ⟨st2, r2, by simp only [opsD, execD, h1, Option.bind_some]; exact h3, h4⟩
    unfold dsJW at h
    split at h
    · split at h
      · obtain ⟨b, h⟩ := splitW_ex h
        split at h
        · exact ⟨_, _, h.1, h.2⟩
        · exact h.elim
      · exact key _ h
    · exact key _ h
theorem preW1_ex {st : St} {p : Pre} {a : AT} {q : KS} (h : preW1 E st p a q) : ∃ st' r, doPre1 E st p = some st' ∧ q st' r := by
  cases p with
  | own d t =>
    simp only [preW1] at h
    split at h
    · rename_i hx; exact ⟨_, a, by simp only [doPre1, hx], h⟩
    · rename_i hx; exact ⟨_, a, by simp only [doPre1, hx], h⟩
    · exact h.elim
  | fz d =>
    simp only [preW1] at h
    split at h
    · rename_i hx; exact ⟨_, a, by simp only [doPre1, hx], h⟩
    · exact h.elim
  | ownC d off t =>
    simp only [preW1] at h
    split at h
    · rename_i k o hx
      obtain ⟨hro, h⟩ := h
      obtain ⟨cs, r, h1, h2⟩ := boxW_ex h
      split at h2
      · rename_i hc
        obtain ⟨r', h3⟩ := putBoxW_ex h2
        exact ⟨_, r', by simp only [doPre1, hx, mine_of hro, if_true, h1, Option.bind_some, hc], h3⟩
      · rename_i hc
        exact ⟨_, r, by simp only [doPre1, hx, mine_of hro, if_true, h1, Option.bind_some, hc], h2⟩
      · exact h2.elim
    · exact h.elim
  | fzC d off =>
    simp only [preW1] at h
    split at h
    · rename_i k o hx
      obtain ⟨hro, h⟩ := h
      obtain ⟨cs, r, h1, h2⟩ := boxW_ex h
      split at h2
      · rename_i t es hc
        obtain ⟨r', h3⟩ := putBoxW_ex h2
        exact ⟨_, r', by simp only [doPre1, hx, mine_of hro, if_true, h1, Option.bind_some, hc], h3⟩
      · exact h2.elim
    · exact h.elim
  | fzB d agg =>
    simp only [preW1] at h
    split at h
    · rename_i k hx
      obtain ⟨h1, h⟩ := h
      split at h
      · rename_i cs hb
        obtain ⟨h2, h⟩ := ifW_ex h
        split at h
        · exact ⟨_, a, by simp only [doPre1, hx, if_pos h1, hb, Option.bind_some, if_pos h2, if_true], h⟩
        · split at h
          · exact ⟨_, a, by simp only [doPre1, hx, if_pos h1, hb, Option.bind_some, if_pos h2, Bool.false_eq_true, if_false], h⟩
          · exact h.elim
      · exact h.elim
    · exact h.elim
  | pin d off nd sz =>
    simp only [preW1] at h
    split at h
    · rename_i st' h1; exact ⟨st', a, h1, h⟩
    · exact h.elim
  | unp d off =>
    simp only [preW1] at h
    split at h
    · rename_i st' h1; exact ⟨st', a, h1, h⟩
    · exact h.elim
theorem preW_ex : ∀ {ps : List Pre} {st : St} {a : AT} {q : KS}, preW E st ps a q → ∃ st' r, doPre E st ps = some st' ∧ q st' r
  | [], st, a, q, h => ⟨st, a, rfl, h⟩
  | p :: ps, st, a, q, h => by
    obtain ⟨st1, r1, h1, h2⟩ := preW1_ex h
    obtain ⟨st2, r2, h3, h4⟩ := preW_ex h2
    exact ⟨st2, r2, by simp only [doPre, h1, Option.bind_some, h3], h4⟩
theorem cW_ex : ∀ (c : AC) {st : St} {a : AT} {q : KX}, cW G Ω E c st a q → ∃ e st' r, run G Ω E c st = some (e, st') ∧ q e st' r
  | .sk, st, a, q, h => ⟨_, _, a, run_sk E st, by simpa only [cW] using h⟩
  | .rg pre ops kf kb, st, a, q, h => by
    simp only [cW] at h
    obtain ⟨st1, r1, h1, h2⟩ := preW_ex h
    obtain ⟨st2, r2, h3, h4⟩ := gsJW_ex h2
    obtain ⟨st3, h5, rfl⟩ := Option.map_eq_some_iff.1 h3
    exact ⟨_, _, r2, by rw [run_rg, h1, Option.bind_some, h5]; rfl, h4⟩
  | .dg pre mks ops kf kb, st, a, q, h => by
    simp only [cW] at h
    obtain ⟨st1, r1, h1, h0, h2⟩ := preW_ex h
    obtain ⟨st2, r2, h3, h4⟩ := dsJW_ex h2
    obtain ⟨st3, h5, rfl⟩ := Option.map_eq_some_iff.1 h3
    exact ⟨_, _, r2, by rw [run_dg, h1, Option.bind_some, if_pos h0, h5]; rfl, h4⟩
  | .sq x y, st, a, q, h => by
    simp only [cW] at h
    obtain ⟨e, st1, r1, h1, h2⟩ := cW_ex x h
    cases e with
    | nrm =>
      obtain ⟨e, st2, r2, h3, h4⟩ := cW_ex y h2
      exact ⟨e, st2, r2, by rw [run_sq, h1]; exact h3, h4⟩
    | ex id => exact ⟨_, _, r1, by rw [run_sq, h1]; rfl, h2⟩
    | ret => exact ⟨_, _, r1, by rw [run_sq, h1]; rfl, h2⟩
  | .ite c x y, st, a, q, h => by
    simp only [cW] at h
    split at h
    · rename_i z hc
      obtain ⟨w, r, rfl, h⟩ := tkB_ex h
      cases z with
      | true =>
        obtain ⟨e, st1, r1, h1, h2⟩ := cW_ex x h
        exact ⟨e, st1, r1, by rw [run_ite, hc]; exact h1, h2⟩
      | false =>
        obtain ⟨e, st1, r1, h1, h2⟩ := cW_ex y h
        exact ⟨e, st1, r1, by rw [run_ite, hc]; exact h1, h2⟩
    · exact h.elim
  | .bl id x, st, a, q, h => by
    simp only [cW] at h
    obtain ⟨e, st1, r1, h1, h2⟩ := cW_ex x h
    cases e with
    | nrm => exact ⟨_, _, r1, by rw [run_bl, h1]; rfl, h2⟩
    | ret => exact ⟨_, _, r1, by rw [run_bl, h1]; rfl, h2⟩
    | ex id' =>
      simp only at h2
      split at h2
      · rename_i hi
        exact ⟨_, _, r1, by rw [run_bl, h1]; simp only [Option.bind_some, inBlock, hi, if_true], h2⟩
      · rename_i hi
        exact ⟨_, _, r1, by rw [run_bl, h1]; simp only [Option.bind_some, inBlock, hi, if_false], h2⟩
  | .lp x, st, a, q, h => by
    cases x with
    | kp kf kb x =>
      simp only [cW] at h
      obtain ⟨e, st1, r1, h1, h2⟩ := tkLp_ex h
      refine ⟨e, st1, r1, ?_, h2⟩
      exact (run_lpk G Ω E ⟨kf, kb, x⟩ st).trans h1
    | _ =>
      simp only [cW] at h
      obtain ⟨e, st1, r1, h1, h2⟩ := tkLp_ex h
      exact ⟨e, st1, r1, h1, h2⟩
  | .ex id, st, a, q, h => ⟨_, _, a, run_ex E st id, by simpa only [cW] using h⟩
  | .ru g x y b, st, a, q, h => by
    simp only [cW] at h
    obtain ⟨e, st1, r1, h1, h2⟩ := tkLp_ex h
    exact ⟨e, st1, r1, h1, h2⟩
  | .rt, st, a, q, h => ⟨_, _, a, run_rt E st, by simpa only [cW] using h⟩
  | .kp kf kb x, st, a, q, h => by
    unfold cW at h
    split at h
    · obtain ⟨b, h⟩ := splitW_ex h
      split at h
      · exact ⟨_, _, _, by rw [run_kp]; exact h.1, h.2⟩
      · exact h.elim
    · obtain ⟨e, st1, r1, h1, h2⟩ := cW_ex x h
      exact ⟨e, st1, r1, by rw [run_kp]; exact h1, h2⟩
theorem fin1W_ex {st : St} {x : AV} {a : AT} {q : AV → AT → Prop} (h : fin1W E st x a q) : ∃ y r, st.fin1 E.dp x = some y ∧ q y r := by
  unfold fin1W at h
  split at h
  · exact ⟨_, a, rfl, h⟩
  · obtain ⟨t, es, r, h1, h2⟩ := rowW_ex h
    exact ⟨_, r, by simp only [St.fin1, h1, Option.bind_some], h2⟩
  · obtain ⟨h0, h⟩ := h
    obtain ⟨t, es, r, h1, h2⟩ := rowW_ex h
    exact ⟨_, r, by simp only [St.fin1, if_pos h0, h1, Option.bind_some], h2⟩
  · obtain ⟨t, es, r, h1, h2⟩ := rowW_ex h
    obtain ⟨es', r, h3, rfl, h5⟩ := tkL_ex h2
    exact ⟨_, r, by simp only [St.fin1, h1, Option.bind_some, if_pos h3], h5⟩
  · exact h.elim
  · exact h.elim
  · exact h.elim
  · exact h.elim
  · rename_i h1 h2 h3 h4 h5 h6 h7 h8
    refine ⟨x, a, ?_, h⟩
    unfold St.fin1
    split
    · exact (h1 _ _ rfl).elim
    · exact (h2 _ rfl).elim
    · exact (h3 _ _ rfl).elim
    · exact (h4 _ _ _ rfl).elim
    · exact (h7 _ _ _ rfl).elim
    · exact (h8 _ _ _ rfl).elim
    · rfl
theorem finLW_ex {st : St} : ∀ {xs : List AV} {a : AT} {q : List AV → AT → Prop}, finLW E st xs a q → ∃ ys r, st.finL E.dp xs = some ys ∧ q ys r
  | [], a, q, h => ⟨[], a, rfl, h⟩
  | x :: xs, a, q, h => by
    obtain ⟨y, r, h1, h2⟩ := fin1W_ex h
    obtain ⟨ys, r2, h3, h4⟩ := finLW_ex h2
    exact ⟨_, r2, by simp only [St.finL, h1, h3, Option.bind_some], h4⟩
theorem resVW_ex {st : St} {z : RV} {a : AT} {q : AV → AT → Prop} (h : resVW E st z a q) : ∃ y r, st.resV E z = some y ∧ q y r := by
  cases z with
  | t n => exact fin1W_ex h
  | c n sz =>
    simp only [resVW] at h
    split at h
    · rename_i k off hx
      obtain ⟨h0, h⟩ := h
      split at h
      · rename_i cs hb
        split at h
        · rename_i ds hp
          obtain ⟨ys, r, h1, h2⟩ := finLW_ex h
          exact ⟨_, r, by simp only [St.resV, hx, if_pos h0, hb, hp, h1, Option.bind_some], h2⟩
        · rename_i y hy hp
          obtain ⟨z, r, h1, h2⟩ := fin1W_ex h
          refine ⟨z, r, ?_, h2⟩
          simp only [St.resV, hx, if_pos h0, hb, hp, Option.bind_some, h1]
        · exact h.elim
      · exact h.elim
    · exact h.elim
theorem resW_ex {st : St} : ∀ {zs : List RV} {a : AT} {q : List AV → Prop}, resW E st zs a q → ∃ xs, st.resAll E zs = some xs ∧ q xs
  | [], a, q, h => ⟨[], rfl, h⟩
  | z :: zs, a, q, h => by
    obtain ⟨y, r, h1, h2⟩ := resVW_ex h
    obtain ⟨ys, h3, h4⟩ := resW_ex h2
    exact ⟨_, by simp only [St.resAll, h1, h3, Option.bind_some], h4⟩
theorem callW_ex {f : FuncId} {fn : AFn} {ys : List AV} {hp : HP} {q : AV → HP → Prop} (hG : G f = some fn) (a : AT) (h : callW G Ω E fn ys hp a q) : ∃ x hp', call G Ω E f ys hp = some (.ret x, hp') ∧ q x hp' := by
  obtain ⟨e, st, r, h1, h2⟩ := cW_ex fn.code h
  cases e with
  | ex id => exact h2.elim
  | nrm =>
    obtain ⟨xs, h3, h4⟩ := resW_ex h2
    obtain ⟨h5, h6⟩ := ifW_ex h4
    exact ⟨_, _, by rw [call_eq, hG, Option.bind_some, h1]; simp only [Option.bind_some, St.end_, St.result, h3, h5, if_true], h6⟩
  | ret =>
    obtain ⟨xs, h3, h4⟩ := resW_ex h2
    obtain ⟨h5, h6⟩ := ifW_ex h4
    exact ⟨_, _, by rw [call_eq, hG, Option.bind_some, h1]; simp only [Option.bind_some, St.end_, St.result, h3, h5, if_true], h6⟩
theorem endNew {st : St} {rs : List RV} {n : Nat} {k : Key} {cs : List AV} (h1 : rs = [.t n]) (h2 : fget st.fr n = .p k 0) (h3 : k.dp = E.dp) (h4 : bget st.bx k.d = some cs) (h5 : cs.all newCell = true) : st.end_ E rs = some (.new cs) := by
  subst h1
  have hr : st.result E [.t n] = none := by simp [St.result, St.resAll, St.resV, h2, St.fin1, AV.pureL, AV.pure]
  simp only [St.end_, hr, St.newOf, h2, if_pos h3, h4, Option.bind_some, h5, if_true, Option.map_some]
theorem callNW_ex {f : FuncId} {fn : AFn} {ys : List AV} {hp : HP} {q : List AV → HP → Prop} (hG : G f = some fn) (a : AT) (h : callNW G Ω E fn ys hp a q) : ∃ cs hp', call G Ω E f ys hp = some (.new cs, hp') ∧ q cs hp' := by
  obtain ⟨e, st, r, h1, h2⟩ := cW_ex fn.code h
  have key : ∀ {P : Prop}, (match fn.res with
      | [.t n] => match fget st.fr n with
        | .p k 0 => k.dp = E.dp ∧ (match bget st.bx k.d with
          | some cs => (cs.all newCell) = true ∧ q cs st.hp
          | none => False)
        | _ => False
      | _ => False) → (∀ cs, st.end_ E fn.res = some (.new cs) → q cs st.hp → P) → P := by
    intro P h2 hP
    split at h2
    · rename_i n hres
      split at h2
      · rename_i k hk
        obtain ⟨h3, h4⟩ := h2
        split at h4
        · rename_i cs hb
          exact hP cs (endNew hres hk h3 hb h4.1) h4.2
        · exact h4.elim
      · exact h2.elim
    · exact h2.elim
  cases e with
  | ex id => exact h2.elim
  | nrm => exact key h2 fun cs h3 h4 => ⟨cs, _, by rw [call_eq, hG, Option.bind_some, h1]; simp only [Option.bind_some, h3], h4⟩
  | ret => exact key h2 fun cs h3 h4 => ⟨cs, _, by rw [call_eq, hG, Option.bind_some, h1]; simp only [Option.bind_some, h3], h4⟩
/-- a call that makes a box, by its ways. -/
theorem callNT {R : Type} {f : FuncId} {fn : AFn} {ys : List AV} {hp : HP} {Y : R → AEnd × HP} {r : R} {T : Prop} (hG : G f = some fn) (a : AT) (h : T) (he : T = callNW G Ω E fn ys hp a fun y h => (AEnd.new y, h) = Y r) : call G Ω E f ys hp = some (Y r) := by
  obtain ⟨y, h', h1, h2⟩ := callNW_ex hG a (he ▸ h)
  rw [← h2]; exact h1
/-- a call, by its ways. -/
theorem callT {R : Type} {f : FuncId} {fn : AFn} {ys : List AV} {hp : HP} {Y : R → AEnd × HP} {r : R} {T : Prop} (hG : G f = some fn) (a : AT) (h : T) (he : T = callW G Ω E fn ys hp a fun y h => (AEnd.ret y, h) = Y r) : call G Ω E f ys hp = some (Y r) := by
  obtain ⟨y, h', h1, h2⟩ := callW_ex hG a (he ▸ h)
  rw [← h2]; exact h1
/-- a piece of code, by its ways. -/
theorem runT {R : Type} {c : AC} {st : St} {Y : R → AExit × St} {r : R} {T : Prop} (a : AT) (h : T) (he : T = cW G Ω E c st a fun e s _ => (e, s) = Y r) : run G Ω E c st = some (Y r) := by
  obtain ⟨e, s, _, h1, h2⟩ := cW_ex c (he ▸ h)
  rw [← h2]; exact h1
/-- the rest of a region, by its ways. -/
theorem opsKT {R : Type} {kf kb : List Nat} {gs : List GOp} {st : St} {Y : R → St} {r : R} {T : Prop} (a : AT) (h : T) (he : T = gsJW G Ω E kf kb st gs a fun s _ => s = Y r) : opsK G Ω E kf kb gs st = some (Y r) := by
  obtain ⟨s, _, h1, h2⟩ := gsJW_ex (he ▸ h)
  rw [← h2]; exact h1
theorem opsDT {R : Type} {kf kb : List Nat} {gs : List DOp} {st : St} {Y : R → St} {r : R} {T : Prop} (a : AT) (h : T) (he : T = dsJW G Ω E kf kb st gs a fun s _ => s = Y r) : opsD G Ω E kf kb gs st = some (Y r) := by
  obtain ⟨s, _, h1, h2⟩ := dsJW_ex (he ▸ h)
  rw [← h2]; exact h1
/-- how a round of a loop ends. -/
def bodyV (kf kb : List Nat) : AExit → St → St ⊕ (AExit × St)
  | .nrm, s => .inl (s.keep kf kb)
  | e, s => .inr (e, s)
theorem ai {a b : Prop} (x : a) (y : b) : a ∧ b := ⟨x, y⟩
theorem tt : true = true := rfl
theorem gt : (true == true) = true := rfl
theorem gf : (false == true) = false := rfl
theorem ht : (true == false) = false := rfl
theorem hf : (false == false) = true := rfl
/-- what does not matter. -/
abbrev W (w : List AV) (n : Nat) : AV := w.getD n .u
abbrev bt (r : AT) : AT := .co (.b true) r
abbrev bf (r : AT) : AT := .co (.b false) r
abbrev ao (x : Ans) (r : AT) : AT := .co x r
theorem ff : false = false := rfl
end
end Go.Proofs.Ytmfihcbafljcbaa.A
