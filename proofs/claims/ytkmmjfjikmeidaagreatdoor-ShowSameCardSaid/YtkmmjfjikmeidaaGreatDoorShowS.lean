/- trees that are the same: the program's Same and the document's are the same plain function. -/
import Derived.Test.YtkmmjfjikmeidaaGreatDoorFinds
import Derived.Test.YtkmmjfjikmeidaaGreatDoorFR
set_option linter.unusedSectionVars false
set_option linter.unusedVariables false
set_option linter.unusedSimpArgs false
namespace Go.Proofs.YtkmmjfjikmeidaaGreatDoor.A
open Go
/-- lists of one length whose things are the same one by one. -/
def eqL {β : Type} (p : β → β → Bool) (l m : List β) : Bool := l.length == m.length && (l.zip m).all fun x => p x.1 x.2
theorem eqL_cons {β : Type} (p : β → β → Bool) (x y : β) (l m : List β) : eqL p (x :: l) (y :: m) = (p x y && eqL p l m) := by
  unfold eqL
  have : ((x :: l).length == (y :: m).length) = (l.length == m.length) := by rw [Bool.eq_iff_iff]; simp
  rw [this, List.zip_cons_cons, List.all_cons]
  cases (l.length == m.length) <;> cases p x y <;> simp
theorem eqL_refl {β : Type} (p : β → β → Bool) : ∀ (l : List β), (∀ x ∈ l, p x x = true) → eqL p l l = true
  | [], _ => rfl
  | x :: l, h => by rw [eqL_cons, h x (by simp), eqL_refl p l fun y hy => h y (by simp [hy])]; rfl
theorem eqL_len {β : Type} {p : β → β → Bool} {l m : List β} (h : l.length ≠ m.length) : eqL p l m = false := by
  unfold eqL
  have : (l.length == m.length) = false := by simpa using h
  rw [this]; rfl
mutual
def seE : TreeExpr → TreeExpr → Bool
  | ⟨k, _, n, nm, args⟩, e => k == e.Kind && (n == e.N && (nm == e.Name && seL args e.Args))
def seL : List TreeExpr → List TreeExpr → Bool
  | [], [] => true
  | x :: l, y :: m => seE x y && seL l m
  | _, _ => false
end
theorem seL_eq : ∀ l m : List TreeExpr, seL l m = eqL seE l m
  | [], [] => rfl
  | [], _ :: _ => rfl
  | _ :: _, [] => rfl
  | x :: l, y :: m => by rw [seL, seL_eq l m, eqL_cons]
theorem seE_eq (e d : TreeExpr) : seE e d = (e.Kind == d.Kind && (e.N == d.N && (e.Name == d.Name && eqL seE e.Args d.Args))) := by cases e; simp only [seE, seL_eq]
mutual
def seS : TreeStmt → TreeStmt → Bool
  | ⟨k, _, nm, ot, ex, args, th, el⟩, s => k == s.Kind && (nm == s.Name && (ot == s.Other && (seE ex s.Expr && (eqL seE args s.Args && (seSL th s.Then && seSL el s.Else)))))
def seSL : List TreeStmt → List TreeStmt → Bool
  | [], [] => true
  | x :: l, y :: m => seS x y && seSL l m
  | _, _ => false
end
theorem seSL_eq : ∀ l m : List TreeStmt, seSL l m = eqL seS l m
  | [], [] => rfl
  | [], _ :: _ => rfl
  | _ :: _, [] => rfl
  | x :: l, y :: m => by rw [seSL, seSL_eq l m, eqL_cons]
theorem seS_eq (s r : TreeStmt) : seS s r = (s.Kind == r.Kind && (s.Name == r.Name && (s.Other == r.Other && (seE s.Expr r.Expr && (eqL seE s.Args r.Args && (eqL seS s.Then r.Then && eqL seS s.Else r.Else)))))) := by cases s; simp only [seS, seSL_eq]
def seP (p q : TreePolicy) : Bool := p.Owner == q.Owner && (p.Write == q.Write && eqL (fun x y : List UInt8 => x == y) p.Names q.Names)
def seD (d c : TreeDecl) : Bool := d.Kind == c.Kind && (d.Name == c.Name && (d.Other == c.Other && (d.Given == c.Given && (eqL seP d.Label c.Label && (eqL (fun x y : List UInt8 => x == y) d.Params c.Params && (eqL seS d.Body c.Body && seE d.Result c.Result))))))
def seT (t u : Tree) : Bool := eqL seD t.Decls u.Decls && eqL seS t.Main u.Main
mutual
def hE : TreeExpr → Nat
  | ⟨_, _, _, _, args⟩ => 1 + hEL args
def hEL : List TreeExpr → Nat
  | [] => 0
  | x :: r => max (hE x) (hEL r)
end
theorem hE_eq (e : TreeExpr) : hE e = 1 + hEL e.Args := by cases e; simp only [hE]
theorem hEL_mem : ∀ {l : List TreeExpr} {x : TreeExpr}, x ∈ l → hE x ≤ hEL l
  | y :: r, x, h => by
    simp only [hEL]
    rcases List.mem_cons.1 h with rfl | h
    · omega
    · have := hEL_mem h; omega
mutual
def hS : TreeStmt → Nat
  | ⟨_, _, _, _, _, _, th, el⟩ => 1 + max (hSL th) (hSL el)
def hSL : List TreeStmt → Nat
  | [] => 0
  | x :: r => max (hS x) (hSL r)
end
theorem hS_eq (s : TreeStmt) : hS s = 1 + max (hSL s.Then) (hSL s.Else) := by cases s; simp only [hS]
theorem hSL_mem : ∀ {l : List TreeStmt} {x : TreeStmt}, x ∈ l → hS x ≤ hSL l
  | y :: r, x, h => by
    simp only [hSL]
    rcases List.mem_cons.1 h with rfl | h
    · omega
    · have := hSL_mem h; omega
/-- no list in it is longer than a machine's. -/
inductive LnE : TreeExpr → Prop where
  | mk (x : TreeExpr) (h : x.Args.length ≤ maxLen) (g : ∀ y ∈ x.Args, LnE y) : LnE x
theorem LnE.inv {x : TreeExpr} (h : LnE x) : x.Args.length ≤ maxLen ∧ ∀ y ∈ x.Args, LnE y := by cases h with | mk _ h g => exact ⟨h, g⟩
inductive LnS : TreeStmt → Prop where
  | mk (x : TreeStmt) (e : LnE x.Expr) (ha : x.Args.length ≤ maxLen) (ga : ∀ y ∈ x.Args, LnE y) (ht : x.Then.length ≤ maxLen) (gt : ∀ y ∈ x.Then, LnS y) (he : x.Else.length ≤ maxLen) (ge : ∀ y ∈ x.Else, LnS y) : LnS x
structure LnS' (x : TreeStmt) : Prop where
  e : LnE x.Expr
  ha : x.Args.length ≤ maxLen
  ga : ∀ y ∈ x.Args, LnE y
  ht : x.Then.length ≤ maxLen
  gt : ∀ y ∈ x.Then, LnS y
  he : x.Else.length ≤ maxLen
  ge : ∀ y ∈ x.Else, LnS y
theorem LnS.inv {x : TreeStmt} (h : LnS x) : LnS' x := by cases h with | mk _ e ha ga ht gt he ge => exact ⟨e, ha, ga, ht, gt, he, ge⟩
structure LnD (d : TreeDecl) : Prop where
  la : d.Label.length ≤ maxLen
  na : ∀ p ∈ d.Label, p.Names.length ≤ maxLen
  pa : d.Params.length ≤ maxLen
  bl : d.Body.length ≤ maxLen
  bg : ∀ y ∈ d.Body, LnS y
  re : LnE d.Result
structure LnT (t : Tree) : Prop where
  dl : t.Decls.length ≤ maxLen
  dg : ∀ d ∈ t.Decls, LnD d
  ml : t.Main.length ≤ maxLen
  mg : ∀ s ∈ t.Main, LnS s
theorem maxLen_lt {n : Nat} (h : n ≤ maxLen) : n ≤ 9223372036854775807 := Nat.le_trans h (by decide)
variable [Lp]
/-- one round of slices.EqualFunc. -/
def eqB {β : Type} (φ : β → β → Option Bool) (a0 a1 : List β) (k : Nat) : Option (Nat ⊕ (Unit ⊕ (Nat × Bool))) :=
  if (k : Int) < (a0.length : Int) then
    (a0[k]?).bind fun y3 =>
    (a1[k]?).bind fun y5 =>
    (φ y3 y5).bind fun r7 =>
    if r7 = true then
      if IntKind.i64.wrap ((k : Int) + 1) = ((k + 1 : Nat) : Int) then
        some (.inl (k + 1))
      else none
    else
      some (.inr (.inl ()))
  else
    some (.inr (.inr (k, decide ((k : Int) < (a0.length : Int)))))
/-- the same, told the other way round. -/
def eqC {β : Type} (φ : β → β → Option Bool) (a0 a1 : List β) (k : Nat) : Option (Nat ⊕ (Unit ⊕ (Nat × Bool))) :=
  if (k : Int) < (a0.length : Int) then
    (a0[k]?).bind fun y3 =>
    (a1[k]?).bind fun y5 =>
    (φ y3 y5).bind fun r7 =>
    if r7 = true then
      some (.inr (.inl ()))
    else
      if IntKind.i64.wrap ((k : Int) + 1) = ((k + 1 : Nat) : Int) then
        some (.inl (k + 1))
      else none
  else
    some (.inr (.inr (k, decide ((k : Int) < (a0.length : Int)))))
theorem lp_eq2 {β : Type} {B : Nat → Option (Nat ⊕ (Unit ⊕ (Nat × Bool)))} (p : β → β → Bool) (l m : List β) (hlen : l.length = m.length) (hs : ∀ k (h : k < l.length) (h' : k < m.length), B k = if p l[k] m[k] = true then some (.inl (k + 1)) else some (.inr (.inl ())))
    (he : B l.length = some (.inr (.inr (l.length, false)))) : lp B 0 = some (if eqL p l m = true then .inr (l.length, false) else .inl ()) := by
  have hz : (l.zip m).length = l.length := by rw [List.length_zip]; omega
  have := lp_any (B := B) (l.zip m) (fun x => !p x.1 x.2) (fun k => k) (x := .inl ()) (y := .inr (l.length, false))
    (fun k hk hp => by
      have h1 : k < l.length := by omega
      have h2 : k < m.length := by omega
      rw [List.getElem_zip] at hp
      rw [hs k h1 h2, if_pos (by simpa using hp)])
    (fun k hk hp => by
      have h1 : k < l.length := by omega
      have h2 : k < m.length := by omega
      rw [List.getElem_zip] at hp
      rw [hs k h1 h2, if_neg (by simpa using hp)])
    (by rw [hz]; exact he)
  have hall : ((l.zip m).any fun x => !p x.1 x.2) = !(l.zip m).all fun x => p x.1 x.2 := by
    rw [← Bool.not_inj_iff, List.not_any_eq_all_not]; simp
  show lp B 0 = _
  rw [this, hall]
  unfold eqL
  have hl' : (l.length == m.length) = true := by simpa using hlen
  rw [hl', Bool.true_and]
  cases (l.zip m).all fun x => p x.1 x.2 <;> rfl
theorem len_ne {β : Type} (l m : List β) : ((l.length : Int) != (m.length : Int)) = !decide (l.length = m.length) := by rw [Bool.eq_iff_iff]; simp; omega
theorem eq_any {β : Type} (φ : β → β → Option Bool) (p : β → β → Bool) (l m : List β) (hl : l.length ≤ maxLen) (h : ∀ x ∈ l, ∀ y ∈ m, φ x y = some (p x y)) :
    (if ((l.length : Int) != (m.length : Int)) = true then some false else (lp (fun v => eqB φ l m v) 0).bind fun (x2 : (Unit ⊕ (Nat × Bool))) => match x2 with
      | .inl _ => some false
      | .inr _ => some true) = some (eqL p l m) := by
  rw [len_ne]
  by_cases hlen : l.length = m.length
  · rw [lp_eq2 p l m hlen (fun k hk hk' => by
      have hw := wrapS k (by have := maxLen_lt hl; omega)
      simp only [eqB, List.getElem?_eq_getElem hk, List.getElem?_eq_getElem hk', Option.bind_some, h _ (List.getElem_mem hk) _ (List.getElem_mem hk'), hw, if_true]
      rw [if_pos (by omega)]) (by simp [eqB])]
    rw [if_neg (by simp [hlen])]
    cases eqL p l m <;> rfl
  · rw [if_pos (by simp [hlen]), eqL_len hlen]
theorem eq_anyC {β : Type} (φ : β → β → Option Bool) (p : β → β → Bool) (l m : List β) (hl : l.length ≤ maxLen) (h : ∀ x ∈ l, ∀ y ∈ m, φ x y = some (!p x y)) :
    (if ((l.length : Int) != (m.length : Int)) = true then some false else (lp (fun v => eqC φ l m v) 0).bind fun (x2 : (Unit ⊕ (Nat × Bool))) => match x2 with
      | .inl _ => some false
      | .inr _ => some true) = some (eqL p l m) := by
  rw [len_ne]
  by_cases hlen : l.length = m.length
  · rw [lp_eq2 p l m hlen (fun k hk hk' => by
      have hw := wrapS k (by have := maxLen_lt hl; omega)
      simp only [eqC, List.getElem?_eq_getElem hk, List.getElem?_eq_getElem hk', Option.bind_some, h _ (List.getElem_mem hk) _ (List.getElem_mem hk'), hw, if_true]
      rw [if_pos (by omega)]
      cases p l[k] m[k] <;> rfl) (by simp [eqC])]
    rw [if_neg (by simp [hlen])]
    cases eqL p l m <;> rfl
  · rw [if_pos (by simp [hlen]), eqL_len hlen]
def sSt (x y : List UInt8) : Bool := x == y
theorem equal_is (l m : List (List UInt8)) (hl : l.length ≤ maxLen) : F_slices_Equal_string l m = some (eqL sSt l m) := eq_any (fun x y => some (x == y)) sSt l m hl fun _ _ _ _ => rfl
theorem strings_is (l m : List (List UInt8)) (hl : l.length ≤ maxLen) : F_R_sameStrings l m = some (eqL sSt l m) := eq_any (fun x y => some (x == y)) sSt l m hl fun _ _ _ _ => rfl
/-- expressions. -/
noncomputable abbrev NE := N_slices_EqualFunc__show_sameExpr_show_sameExpr
theorem exprsN (m : Nat) (l l' : List TreeExpr) (hl : l.length ≤ maxLen) (h : ∀ x ∈ l, ∀ y, (NE m).f_show_sameExpr x y = some (seE x y)) : (NE (m + 1)).f_slices_EqualFunc__show_sameExpr l l' = some (eqL seE l l') :=
  eq_any (fun x y => (NE m).f_show_sameExpr x y) seE l l' hl fun x hx y _ => h x hx y
theorem exprN : ∀ (k : Nat) (e d : TreeExpr), hE e ≤ k → LnE e → ∀ n, 2 * k ≤ n → (NE n).f_show_sameExpr e d = some (seE e d)
  | 0, e, d, h, _, _, _ => by rw [hE_eq] at h; omega
  | k + 1, e, d, h, hl, n, hn => by
    obtain ⟨m, rfl⟩ : ∃ m, n = m + 2 := ⟨n - 2, by omega⟩
    have hc := exprsN m e.Args d.Args hl.inv.1 fun x hx y => exprN k x y (by have := hEL_mem hx; rw [hE_eq] at h; omega) (hl.inv.2 x hx) m (by omega)
    show FB_show_sameExpr (NE (m + 1)) e d = _
    unfold FB_show_sameExpr D_show_sameExpr_j1 D_show_sameExpr_j2
    rw [hc, seE_eq]
    simp only [Option.bind_some]
    cases (e.Kind == d.Kind) <;> cases (e.N == d.N) <;> cases (e.Name == d.Name) <;> cases eqL seE e.Args d.Args <;> rfl
theorem sameExpr_is (e d : TreeExpr) (h : LnE e) : F_show_sameExpr e d = some (seE e d) := ev_of (2 * hE e) fun n hn => exprN (hE e) e d (Nat.le_refl _) h n hn
theorem sameExprs_is (l m : List TreeExpr) (hl : l.length ≤ maxLen) (h : ∀ x ∈ l, LnE x) : F_slices_EqualFunc__show_sameExpr l m = some (eqL seE l m) := ev_of (2 * hEL l + 1) fun n hn => by
  obtain ⟨j, rfl⟩ : ∃ j, n = j + 1 := ⟨n - 1, by omega⟩
  exact exprsN j l m hl fun x hx y => exprN (hE x) x y (Nat.le_refl _) (h x hx) j (by have := hEL_mem hx; omega)
noncomputable abbrev NR := N_R_sameTreeExpr_R_sameTreeExprs
theorem rexprsN (m : Nat) (l l' : List TreeExpr) (hl : l.length ≤ maxLen) (h : ∀ x ∈ l, ∀ y, (NR m).f_R_sameTreeExpr x y false = some (seE x y)) : (NR (m + 1)).f_R_sameTreeExprs l l' false = some (eqL seE l l') :=
  eq_any (fun x y => (NR m).f_R_sameTreeExpr x y false) seE l l' hl fun x hx y _ => h x hx y
theorem rexprN : ∀ (k : Nat) (e d : TreeExpr), hE e ≤ k → LnE e → ∀ n, 2 * k ≤ n → (NR n).f_R_sameTreeExpr e d false = some (seE e d)
  | 0, e, d, h, _, _, _ => by rw [hE_eq] at h; omega
  | k + 1, e, d, h, hl, n, hn => by
    obtain ⟨m, rfl⟩ : ∃ m, n = m + 2 := ⟨n - 2, by omega⟩
    have hc := rexprsN m e.Args d.Args hl.inv.1 fun x hx y => rexprN k x y (by have := hEL_mem hx; rw [hE_eq] at h; omega) (hl.inv.2 x hx) m (by omega)
    show FB_R_sameTreeExpr (NR (m + 1)) e d false = _
    unfold FB_R_sameTreeExpr D_R_sameTreeExpr_j1 D_R_sameTreeExpr_j2
    rw [hc, seE_eq]
    simp only [Option.bind_some]
    cases (e.Kind == d.Kind) <;> cases (e.N == d.N) <;> cases (e.Name == d.Name) <;> cases eqL seE e.Args d.Args <;> rfl
theorem rsameExpr_is (e d : TreeExpr) (h : LnE e) : F_R_sameTreeExpr e d false = some (seE e d) := ev_of (2 * hE e) fun n hn => rexprN (hE e) e d (Nat.le_refl _) h n hn
theorem rsameExprs_is (l m : List TreeExpr) (hl : l.length ≤ maxLen) (h : ∀ x ∈ l, LnE x) : F_R_sameTreeExprs l m false = some (eqL seE l m) := ev_of (2 * hEL l + 1) fun n hn => by
  obtain ⟨j, rfl⟩ : ∃ j, n = j + 1 := ⟨n - 1, by omega⟩
  exact rexprsN j l m hl fun x hx y => rexprN (hE x) x y (Nat.le_refl _) (h x hx) j (by have := hEL_mem hx; omega)
/-- commands. -/
noncomputable abbrev NT := N_slices_EqualFunc__show_sameStmt_show_sameStmt
theorem stmtsN (m : Nat) (l l' : List TreeStmt) (hl : l.length ≤ maxLen) (h : ∀ x ∈ l, ∀ y, (NT m).f_show_sameStmt x y = some (seS x y)) : (NT (m + 1)).f_slices_EqualFunc__show_sameStmt l l' = some (eqL seS l l') :=
  eq_any (fun x y => (NT m).f_show_sameStmt x y) seS l l' hl fun x hx y _ => h x hx y
theorem stmtN : ∀ (k : Nat) (e d : TreeStmt), hS e ≤ k → LnS e → ∀ n, 2 * k ≤ n → (NT n).f_show_sameStmt e d = some (seS e d)
  | 0, e, d, h, _, _, _ => by rw [hS_eq] at h; omega
  | k + 1, e, d, h, hl, n, hn => by
    obtain ⟨m, rfl⟩ : ∃ m, n = m + 2 := ⟨n - 2, by omega⟩
    have hi := hl.inv
    rw [hS_eq] at h
    have h1 := stmtsN m e.Then d.Then hi.ht fun x hx y => stmtN k x y (by have := hSL_mem hx; omega) (hi.gt x hx) m (by omega)
    have h2 := stmtsN m e.Else d.Else hi.he fun x hx y => stmtN k x y (by have := hSL_mem hx; omega) (hi.ge x hx) m (by omega)
    show FB_show_sameStmt (NT (m + 1)) e d = _
    unfold FB_show_sameStmt D_show_sameStmt_j1 D_show_sameStmt_j2
    rw [h1, h2, sameExpr_is _ _ hi.e, sameExprs_is _ _ hi.ha hi.ga, seS_eq]
    simp only [Option.bind_some]
    cases (e.Kind == d.Kind) <;> cases (e.Name == d.Name) <;> cases (e.Other == d.Other) <;> cases seE e.Expr d.Expr <;> cases eqL seE e.Args d.Args <;> cases eqL seS e.Then d.Then <;> cases eqL seS e.Else d.Else <;> rfl
theorem sameStmts_is (l m : List TreeStmt) (hl : l.length ≤ maxLen) (h : ∀ x ∈ l, LnS x) : F_slices_EqualFunc__show_sameStmt l m = some (eqL seS l m) := ev_of (2 * hSL l + 1) fun n hn => by
  obtain ⟨j, rfl⟩ : ∃ j, n = j + 1 := ⟨n - 1, by omega⟩
  exact stmtsN j l m hl fun x hx y => stmtN (hS x) x y (Nat.le_refl _) (h x hx) j (by have := hSL_mem hx; omega)
theorem rstmtsN : ∀ (n : Nat) (l l' : List TreeStmt), hSL l < n → l.length ≤ maxLen → (∀ x ∈ l, LnS x) → (N_R_sameTreeStmts n).f_R_sameTreeStmts l l' false = some (eqL seS l l')
  | 0, l, l', h, _, _ => by omega
  | n + 1, l, l', h, hl, hg => by
    refine eq_anyC (fun x y => D_R_sameTreeStmts_j1 (N_R_sameTreeStmts n) l l' false 0 x y) seS l l' hl fun x hx y _ => ?_
    have hi := (hg x hx).inv
    have hh := hSL_mem hx
    rw [hS_eq] at hh
    have h1 := rstmtsN n x.Then y.Then (by omega) hi.ht hi.gt
    have h2 := rstmtsN n x.Else y.Else (by omega) hi.he hi.ge
    unfold D_R_sameTreeStmts_j1 D_R_sameTreeStmts_j2 D_R_sameTreeStmts_j3
    rw [h1, h2, rsameExpr_is _ _ hi.e, rsameExprs_is _ _ hi.ha hi.ga, seS_eq]
    have hk : (x.Kind != y.Kind) = !(x.Kind == y.Kind) := rfl
    rw [hk]
    simp only [Option.bind_some]
    cases (x.Kind == y.Kind) <;> cases (x.Name == y.Name) <;> cases (x.Other == y.Other) <;> cases seE x.Expr y.Expr <;> cases eqL seE x.Args y.Args <;> cases eqL seS x.Then y.Then <;> cases eqL seS x.Else y.Else <;> rfl
theorem rsameStmts_is (l m : List TreeStmt) (hl : l.length ≤ maxLen) (h : ∀ x ∈ l, LnS x) : F_R_sameTreeStmts l m false = some (eqL seS l m) := ev_of (hSL l + 1) fun n hn => rstmtsN n l m (by omega) hl h
end Go.Proofs.YtkmmjfjikmeidaaGreatDoor.A
