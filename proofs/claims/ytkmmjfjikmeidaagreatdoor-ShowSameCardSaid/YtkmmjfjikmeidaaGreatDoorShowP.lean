/- whole trees that are the same. -/
import Derived.Test.YtkmmjfjikmeidaaGreatDoorShowS
set_option linter.unusedSectionVars false
set_option linter.unusedVariables false
set_option linter.unusedSimpArgs false
namespace Go.Proofs.YtkmmjfjikmeidaaGreatDoor.A
open Go
theorem sSt_eq : (fun x y : List UInt8 => x == y) = sSt := rfl
theorem seE_refl : ∀ (k : Nat) (e : TreeExpr), hE e ≤ k → seE e e = true
  | 0, e, h => by rw [hE_eq] at h; omega
  | k + 1, e, h => by
    rw [seE_eq, eqL_refl seE e.Args fun x hx => seE_refl k x (by have := hEL_mem hx; rw [hE_eq] at h; omega)]
    simp
theorem seS_refl : ∀ (k : Nat) (e : TreeStmt), hS e ≤ k → seS e e = true
  | 0, e, h => by rw [hS_eq] at h; omega
  | k + 1, e, h => by
    rw [hS_eq] at h
    rw [seS_eq, eqL_refl seS e.Then fun x hx => seS_refl k x (by have := hSL_mem hx; omega), eqL_refl seS e.Else fun x hx => seS_refl k x (by have := hSL_mem hx; omega),
      seE_refl _ _ (Nat.le_refl _), eqL_refl seE e.Args fun x _ => seE_refl _ x (Nat.le_refl _)]
    simp
theorem seP_refl (p : TreePolicy) : seP p p = true := by
  unfold seP
  rw [eqL_refl _ p.Names fun x _ => by simp]
  simp
theorem seD_refl (d : TreeDecl) : seD d d = true := by
  unfold seD
  rw [eqL_refl seP d.Label fun x _ => seP_refl x, eqL_refl _ d.Params fun x _ => by simp, eqL_refl seS d.Body fun x _ => seS_refl _ x (Nat.le_refl _), seE_refl _ _ (Nat.le_refl _)]
  simp
theorem seT_refl (t : Tree) : seT t t = true := by
  unfold seT
  rw [eqL_refl seD t.Decls fun x _ => seD_refl x, eqL_refl seS t.Main fun x _ => seS_refl _ x (Nat.le_refl _)]
  rfl
variable [Lp]
theorem samePolicy_is (p q : TreePolicy) (h : p.Names.length ≤ maxLen) : F_show_samePolicy p q = some (seP p q) := by
  unfold F_show_samePolicy seP
  rw [equal_is _ _ h, sSt_eq]
  cases (p.Owner == q.Owner) <;> cases (p.Write == q.Write) <;> cases eqL sSt p.Names q.Names <;> rfl
theorem policies_is (l m : List TreePolicy) (hl : l.length ≤ maxLen) (h : ∀ p ∈ l, p.Names.length ≤ maxLen) : F_slices_EqualFunc__show_samePolicy l m = some (eqL seP l m) :=
  eq_any F_show_samePolicy seP l m hl fun x hx y _ => samePolicy_is x y (h x hx)
theorem sameDecl_is (d c : TreeDecl) (h : LnD d) : F_show_sameDecl d c = some (seD d c) := by
  unfold F_show_sameDecl D_show_sameDecl_j1 D_show_sameDecl_j2 seD
  rw [policies_is _ _ h.la h.na, equal_is _ _ h.pa, sameStmts_is _ _ h.bl h.bg, sameExpr_is _ _ h.re, sSt_eq]
  simp only [Option.bind_some]
  cases (d.Kind == c.Kind) <;> cases (d.Name == c.Name) <;> cases (d.Other == c.Other) <;> cases (d.Given == c.Given) <;> cases eqL seP d.Label c.Label <;> cases eqL sSt d.Params c.Params <;> cases eqL seS d.Body c.Body <;> cases seE d.Result c.Result <;> rfl
theorem Same_is (t u : Tree) (h : LnT t) : F_show_Same t u = some (seT t u) := by
  unfold F_show_Same seT
  have hd : F_slices_EqualFunc__show_sameDecl t.Decls u.Decls = some (eqL seD t.Decls u.Decls) := eq_any F_show_sameDecl seD t.Decls u.Decls h.dl fun x hx y _ => sameDecl_is x y (h.dg x hx)
  rw [hd, sameStmts_is _ _ h.ml h.mg]
  cases eqL seD t.Decls u.Decls <;> rfl
theorem SameTree_is (t u : Tree) (h : LnT t) : F_R_SameTree t u false = some (seT t u) := by
  unfold F_R_SameTree seT
  rw [len_ne]
  by_cases hlen : t.Decls.length = u.Decls.length
  · rw [if_neg (by simp [hlen])]
    have hB := lp_eq2 (B := fun v => B_R_SameTree_0 t u false v) seD t.Decls u.Decls hlen (fun k hk hk' => by
      have hw := wrapS k (by have := maxLen_lt h.dl; omega)
      have hd := h.dg _ (List.getElem_mem hk)
      generalize hx : t.Decls[k] = x at hd
      generalize hy : u.Decls[k] = y
      have g1 : t.Decls[k]? = some x := by rw [List.getElem?_eq_getElem hk, hx]
      have g2 : u.Decls[k]? = some y := by rw [List.getElem?_eq_getElem hk', hy]
      have hin : x.Label.length = y.Label.length → lp (fun v => B_R_SameTree_1 t u false k x y v) 0 = some (if eqL seP x.Label y.Label = true then .inr (x.Label.length, false) else .inl ()) := fun hl => by
        refine lp_eq2 (B := fun v => B_R_SameTree_1 t u false k x y v) seP x.Label y.Label hl (fun j hj hj' => ?_) (by simp [B_R_SameTree_1])
        have hwj := wrapS j (by have := maxLen_lt hd.la; omega)
        have hn := hd.na _ (List.getElem_mem hj)
        simp only [B_R_SameTree_1, List.getElem?_eq_getElem hj, List.getElem?_eq_getElem hj', Option.bind_some, hwj, if_true]
        rw [if_pos (by omega)]
        unfold D_R_SameTree_j4 D_R_SameTree_j5 seP
        rw [strings_is _ _ hn, sSt_eq]
        simp only [Option.bind_some]
        cases (x.Label[j].Owner == y.Label[j].Owner) <;> cases (x.Label[j].Write == y.Label[j].Write) <;> cases eqL sSt x.Label[j].Names y.Label[j].Names <;> rfl
      simp only [B_R_SameTree_0, g1, g2, Option.bind_some, hw, if_true]
      rw [if_pos (by omega)]
      unfold D_R_SameTree_j1 D_R_SameTree_j2 D_R_SameTree_j3 seD
      rw [strings_is _ _ hd.pa, rsameStmts_is _ _ hd.bl hd.bg, rsameExpr_is _ _ hd.re, sSt_eq, len_ne]
      have hk2 : (x.Kind != y.Kind) = !(x.Kind == y.Kind) := rfl
      rw [hk2]
      simp only [Option.bind_some]
      by_cases hl : x.Label.length = y.Label.length
      · rw [hin hl]
        have : decide (x.Label.length = y.Label.length) = true := by simpa using hl
        rw [this]
        cases (x.Kind == y.Kind) <;> cases (x.Name == y.Name) <;> cases (x.Other == y.Other) <;> cases (x.Given == y.Given) <;> cases eqL seP x.Label y.Label <;> cases eqL sSt x.Params y.Params <;> cases eqL seS x.Body y.Body <;> cases seE x.Result y.Result <;> rfl
      · have : decide (x.Label.length = y.Label.length) = false := by simpa using hl
        rw [this, eqL_len hl]
        cases (x.Kind == y.Kind) <;> cases (x.Name == y.Name) <;> cases (x.Other == y.Other) <;> cases (x.Given == y.Given) <;> rfl)
      (by simp [B_R_SameTree_0])
    rw [hB, rsameStmts_is _ _ h.ml h.mg]
    cases eqL seD t.Decls u.Decls <;> rfl
  · rw [if_pos (by simp [hlen]), eqL_len hlen]; rfl
end Go.Proofs.YtkmmjfjikmeidaaGreatDoor.A
