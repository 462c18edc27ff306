/- label: levels, and the document's answers. -/
import Derived.Test.YtjnhiggknkflfaaRestF
import Derived.Test.YtjnhiggknkflfaaFRestLevels
set_option linter.unusedSectionVars false
set_option linter.unusedVariables false
set_option linter.unusedSimpArgs false
namespace Go.Proofs.Ytjnhiggknkflfaa.A
open Go
variable [Lp]
/-- may one, by these policies? -/
def mayP (m : Nat) (gs : List Grant) (ps : List Policy) (who : Nat) : Bool := ps.all fun p => acts m gs who p.Owner.toNat || p.Names.any fun n => acts m gs who n.toNat
def levelOf (a : Actors) (l : Label) : Level := ⟨(List.range a.Many.toNat).map (mayP a.Many.toNat a.Grants l.Read), (List.range a.Many.toNat).map (mayP a.Many.toNat a.Grants l.Write)⟩
def PolOK (m : Int) (ps : List Policy) : Prop := ps.length ≤ 4 ∧ ∀ p ∈ ps, inRange m p.Owner = true ∧ p.Names.length ≤ 6 ∧ ∀ n ∈ p.Names, inRange m n = true
theorem polOK_of {m : Int} {ps : List Policy} (h : listE m ps = 0) : PolOK m ps := ⟨(listE_ok h).1, fun p hp => policyE_ok ((listE_ok h).2 p hp)⟩
theorem notAny {β : Type} (l : List β) (p : β → Bool) : (!l.any fun x => !p x) = l.all p := by
  induction l with
  | nil => rfl
  | cons x l ih => simp only [List.any_cons, List.all_cons, ← ih]; cases p x <;> simp
section
variable (a : Actors) (hok : checkA a = 0)
include hok
theorem F_of1 (ps : List Policy) (hp : PolOK a.Many ps) : F_label_Of_1 ps a (allRows a.Many.toNat a.Grants) = some ((List.range a.Many.toNat).map (mayP a.Many.toNat a.Grants ps)) := by
  obtain ⟨h1, h2, h3, h4⟩ := checkA_ok hok
  have hin : ∀ (n : Int), inRange a.Many n = true → ∀ who : Nat, who < a.Many.toNat → F_label_Of_1_1_1 n (allRows a.Many.toNat a.Grants) (who : Int) = some (acts a.Many.toNat a.Grants who n.toNat) := by
    intro n hn who hw
    obtain ⟨hn1, hn2⟩ := inRange_iff.1 hn
    simp [F_label_Of_1_1_1, natI_nat, allRows_get hw, natI_nn hn1, row_get (gs := a.Grants) (i := who) (show n.toNat < a.Many.toNat by omega)]
  have hnot : ∀ p ∈ ps, ∀ who : Nat, who < a.Many.toNat → F_label_Of_1_1 p (allRows a.Many.toNat a.Grants) (who : Int) = some (!(acts a.Many.toNat a.Grants who p.Owner.toNat || p.Names.any fun n => acts a.Many.toNat a.Grants who n.toNat)) := by
    intro p hpp who hw
    obtain ⟨ho, hl, hn⟩ := hp.2 p hpp
    obtain ⟨ho1, ho2⟩ := inRange_iff.1 ho
    have hc : F_slices_ContainsFunc__label_Of_1_1_1 p.Names (allRows a.Many.toNat a.Grants) (who : Int) = some (p.Names.any fun n => acts a.Many.toNat a.Grants who n.toNat) :=
      find_any (fun y => F_label_Of_1_1_1 y (allRows a.Many.toNat a.Grants) (who : Int)) _ p.Names (by omega) (fun y hy => hin y (hn y hy) who hw)
    simp only [F_label_Of_1_1, natI_nat, Option.bind_some, allRows_get hw, natI_nn ho1, row_get (gs := a.Grants) (i := who) (show p.Owner.toNat < a.Many.toNat by omega), hc]
    cases acts a.Many.toNat a.Grants who p.Owner.toNat <;> simp
  have hl := lp_all (B := fun v => B_label_Of_1_0 ps a (allRows a.Many.toNat a.Grants) v.1 v.2) a.Many.toNat (fun k => ((List.range k).map (mayP a.Many.toNat a.Grants ps), k)) (x := ((List.range a.Many.toNat).map (mayP a.Many.toNat a.Grants ps), a.Many.toNat, false))
    (fun k hk => by
      have hc : F_slices_ContainsFunc__label_Of_1_1 ps (allRows a.Many.toNat a.Grants) (k : Int) = some (ps.any fun p => !(acts a.Many.toNat a.Grants k p.Owner.toNat || p.Names.any fun n => acts a.Many.toNat a.Grants k n.toNat)) :=
        find_any (fun y => F_label_Of_1_1 y (allRows a.Many.toNat a.Grants) (k : Int)) _ ps (by have := hp.1; omega) (fun y hy => hnot y hy k hk)
      have hr : ((List.range k).map (mayP a.Many.toNat a.Grants ps)).length + [mayP a.Many.toNat a.Grants ps k].length ≤ 1000000000 := by simp; omega
      simp only [B_label_Of_1_0, show (k : Int) < a.Many by omega, if_true, hc, Option.bind_some, wrapS k (by omega), notAny]
      rw [List.range_succ, List.map_append]
      simp only [List.map_cons, List.map_nil]
      exact if_pos hr)
    (by simp only [B_label_Of_1_0, show ¬ ((a.Many.toNat : Nat) : Int) < a.Many by omega, if_false, decide_false])
  have hl' : lp (fun v => B_label_Of_1_0 ps a (allRows a.Many.toNat a.Grants) v.1 v.2) (([] : List Bool), 0) = _ := hl
  simp only [F_label_Of_1, hl', Option.bind_some]
theorem F_of (l : Label) (hf : fitsE a.Many l = 0) : F_label_Of a l = some (levelOf a l) := by
  obtain ⟨hr, hw⟩ := fitsE_ok hf
  simp only [F_label_Of, F_all a hok, Option.bind_some, F_of1 a hok _ (polOK_of hr), F_of1 a hok _ (polOK_of hw), levelOf]
theorem F_may (ps : List Policy) (hp : PolOK a.Many ps) (who : Nat) (hw : who < a.Many.toNat) : F_R_may a (who : Int) ps = some (mayP a.Many.toNat a.Grants ps who) := by
  obtain ⟨h1, h2, h3, h4⟩ := checkA_ok hok
  have hr : ∀ n, inRange a.Many n = true → F_R_ActsFor a (who : Int) n = some (acts a.Many.toNat a.Grants who n.toNat) := fun n hn => by
    have := F_actsFor a hok who n (inRange_iff.2 (by omega)) hn
    simpa using this
  have inner : ∀ (i : Nat) (hi : i < ps.length) (b : Bool), lp (fun v => B_R_may_1 a (who : Int) ps i v.1 v.2) (b, 0) = some (b || ps[i].Names.any (fun n => acts a.Many.toNat a.Grants who n.toNat), ps[i].Names.length, false) := by
    intro i hi b
    obtain ⟨_, hl, hn⟩ := hp.2 _ (List.getElem_mem hi)
    have h := lp_all (B := fun v => B_R_may_1 a (who : Int) ps i v.1 v.2) ps[i].Names.length (fun k => (b || (ps[i].Names.take k).any (fun n => acts a.Many.toNat a.Grants who n.toNat), k)) (x := (b || ps[i].Names.any (fun n => acts a.Many.toNat a.Grants who n.toNat), ps[i].Names.length, false))
      (fun k hk => by
        have hk' : (k : Int) < (ps[i].Names.length : Int) := by omega
        simp only [B_R_may_1, List.getElem?_eq_getElem hi, List.getElem?_eq_getElem hk, Option.bind_some, hk', if_true, hr _ (hn _ (List.getElem_mem hk)), wrapS k (by omega), take_step hk, List.any_append, List.any_cons, List.any_nil]
        cases hq : (b || (ps[i].Names.take k).any (fun n => acts a.Many.toNat a.Grants who n.toNat)) with
        | true =>
          rcases Bool.or_eq_true_iff.1 hq with h | h <;> simp [h]
        | false =>
          obtain ⟨h5, h6⟩ := Bool.or_eq_false_iff.1 hq
          simp [h5, h6])
      (by simp only [B_R_may_1, List.getElem?_eq_getElem hi, Option.bind_some, show ¬ ((ps[i].Names.length : Nat) : Int) < (ps[i].Names.length : Int) by omega, if_false, decide_false, List.take_length])
    simpa using h
  have outer := lp_any (B := fun v => B_R_may_0 a (who : Int) ps v) ps (fun p => !(acts a.Many.toNat a.Grants who p.Owner.toNat || p.Names.any fun n => acts a.Many.toNat a.Grants who n.toNat)) id (x := .inl ()) (y := .inr (ps.length, false))
    (fun i hi hq => by
      obtain ⟨ho, _, _⟩ := hp.2 _ (List.getElem_mem hi)
      have hq' : (acts a.Many.toNat a.Grants who ps[i].Owner.toNat || ps[i].Names.any fun n => acts a.Many.toNat a.Grants who n.toNat) = true := by simpa only [Bool.not_eq_eq_eq_not, Bool.not_false] using hq
      have := hp.1
      simp only [B_R_may_0, id, show (i : Int) < (ps.length : Int) by omega, if_true, List.getElem?_eq_getElem hi, Option.bind_some, hr _ ho, inner i hi, hq', wrapS i (by omega)])
    (fun i hi hq => by
      obtain ⟨ho, _, _⟩ := hp.2 _ (List.getElem_mem hi)
      have hq' : (acts a.Many.toNat a.Grants who ps[i].Owner.toNat || ps[i].Names.any fun n => acts a.Many.toNat a.Grants who n.toNat) = false := by simpa only [Bool.not_eq_eq_eq_not, Bool.not_true] using hq
      simp only [B_R_may_0, id, show (i : Int) < (ps.length : Int) by omega, if_true, List.getElem?_eq_getElem hi, Option.bind_some, hr _ ho, inner i hi, hq', Bool.false_eq_true, if_false])
    (by simp [B_R_may_0])
  have outer' : lp (fun v => B_R_may_0 a (who : Int) ps v) 0 = _ := outer
  simp only [F_R_may, outer', Option.bind_some]
  unfold mayP
  rw [← notAny]
  cases ps.any (fun p => !(acts a.Many.toNat a.Grants who p.Owner.toNat || p.Names.any fun n => acts a.Many.toNat a.Grants who n.toNat)) <;> simp
theorem F_levelOf (l : Label) (hf : fitsE a.Many l = 0) : F_R_LevelOf a l = some (levelOf a l) := by
  obtain ⟨h1, h2, h3, h4⟩ := checkA_ok hok
  obtain ⟨hr, hw⟩ := fitsE_ok hf
  have h := lp_all (B := fun v => B_R_LevelOf_0 a l v.1 v.2.1 v.2.2) a.Many.toNat (fun k => (k, (List.range k).map (mayP a.Many.toNat a.Grants l.Read), (List.range k).map (mayP a.Many.toNat a.Grants l.Write)))
    (x := (a.Many.toNat, false, (List.range a.Many.toNat).map (mayP a.Many.toNat a.Grants l.Read), (List.range a.Many.toNat).map (mayP a.Many.toNat a.Grants l.Write)))
    (fun k hk => by
      have r1 : ((List.range k).map (mayP a.Many.toNat a.Grants l.Read)).length + [mayP a.Many.toNat a.Grants l.Read k].length ≤ 1000000000 := by simp; omega
      have r2 : ((List.range k).map (mayP a.Many.toNat a.Grants l.Write)).length + [mayP a.Many.toNat a.Grants l.Write k].length ≤ 1000000000 := by simp; omega
      simp only [B_R_LevelOf_0, show (k : Int) < a.Many by omega, if_true, F_may a hok _ (polOK_of hr) k hk, F_may a hok _ (polOK_of hw) k hk, Option.bind_some, r1, r2, wrapS k (by omega), List.range_succ, List.map_append, List.map_cons, List.map_nil])
    (by simp only [B_R_LevelOf_0, show ¬ ((a.Many.toNat : Nat) : Int) < a.Many by omega, if_false, decide_false])
  have h' : lp (fun v => B_R_LevelOf_0 a l v.1 v.2.1 v.2.2) (0, ([] : List Bool), ([] : List Bool)) = _ := h
  simp only [F_R_LevelOf, h', Option.bind_some, levelOf]
end
theorem F_level (a : Actors) (l : Label) : F_label_Level a l = some (if labelE a l = 0 then (levelOf a l, 0) else (⟨[], []⟩, labelE a l)) := by
  unfold F_label_Level
  rw [F_labelCheck, Option.bind_some]
  by_cases h : labelE a l = 0
  · have hc : checkA a = 0 ∧ fitsE a.Many l = 0 := by
      unfold labelE at h
      split at h
      · rename_i h1; exact absurd h h1
      · rename_i h1; exact ⟨Classical.not_not.1 h1, h⟩
    simp [h, F_of a hc.1 l hc.2]
  · simp [h]
/-- the document's look at policies. -/
theorem names_loop (a : Actors) (hm : 1 ≤ a.Many ∧ a.Many ≤ 6) (ps : List Policy) (i : Nat) (hi : i < ps.length) (hl : ps[i].Names.length ≤ 6) :
    ∃ z, lp (fun v => B_R_checkPolicies_1 a ps i v) 0 = some (if ps[i].Names.any (fun n => !inRange a.Many n) then .inl () else .inr z) := by
  have h := lp_any (B := fun v => B_R_checkPolicies_1 a ps i v) ps[i].Names (fun n => !inRange a.Many n) id (x := .inl ()) (y := .inr (ps[i].Names.length, false))
    (fun k hk hq => by
      have hq' : inRange a.Many ps[i].Names[k] = true := by simpa using hq
      simp [B_R_checkPolicies_1, hi, hk, F_isActor a _ hm, hq', wrapS k (by omega)])
    (fun k hk hq => by
      have hq' : inRange a.Many ps[i].Names[k] = false := by simpa using hq
      simp [B_R_checkPolicies_1, hi, hk, F_isActor a _ hm, hq'])
    (by simp [B_R_checkPolicies_1, hi])
  exact ⟨_, h⟩
theorem desc_loopR (a : Actors) (ps : List Policy) (i : Nat) (hi : i < ps.length) (h6 : ps[i].Names.length ≤ 6) : ∃ z, lp (fun v => B_R_checkPolicies_2 a ps i v) 1 = some (if desc ps[i].Names then .inl () else .inr z) := by
  by_cases h : ps[i].Names.length = 0
  · refine ⟨(1, false), ?_⟩
    rw [show desc ps[i].Names = false by simp [desc, h]]
    exact lp_end (by simp [B_R_checkPolicies_2, h, hi])
  · refine ⟨(ps[i].Names.length, false), ?_⟩
    exact lp_anyN (B := fun v => B_R_checkPolicies_2 a ps i v) ps[i].Names.length 1 (fun k => decide (ps[i].Names.getD k 0 ≤ ps[i].Names.getD (k - 1) 0)) id (by omega)
      (fun k h1 hk hp => by
        have hp' : ¬ ps[i].Names.getD k 0 ≤ ps[i].Names.getD (k - 1) 0 := by simpa using hp
        obtain ⟨hw, hn⟩ := wrapP k h1 (by omega)
        simp only [B_R_checkPolicies_2, id, List.getElem?_eq_getElem hi, show (k : Int) < (ps[i].Names.length : Int) by omega, if_true, getD_get hk, Option.bind_some, hw, hn, getD_get (show k - 1 < ps[i].Names.length by omega), hp', if_false, wrapS k (by omega)])
      (fun k h1 hk hp => by
        have hp' : ps[i].Names.getD k 0 ≤ ps[i].Names.getD (k - 1) 0 := by simpa using hp
        obtain ⟨hw, hn⟩ := wrapP k h1 (by omega)
        simp only [B_R_checkPolicies_2, id, List.getElem?_eq_getElem hi, show (k : Int) < (ps[i].Names.length : Int) by omega, if_true, getD_get hk, Option.bind_some, hw, hn, getD_get (show k - 1 < ps[i].Names.length by omega), hp'])
      (by simp [B_R_checkPolicies_2, hi])
theorem F_checkPolicies (a : Actors) (hm : 1 ≤ a.Many ∧ a.Many ≤ 6) (ps : List Policy) : F_R_checkPolicies a ps = some (listE a.Many ps) := by
  unfold F_R_checkPolicies listE
  by_cases h4 : 4 < ps.length
  · simp [h4, show (4 : Int) < (ps.length : Int) by omega]
  have h4' : ¬ (4 : Int) < (ps.length : Int) := by omega
  have h := lp_first (B := fun v => B_R_checkPolicies_0 a ps v) ps (fun p => if policyE a.Many p = 5 then some (.inr (.inl ())) else if policyE a.Many p = 2 then some (.inl ()) else if policyE a.Many p = 4 then some (.inr (.inr (.inl ()))) else none) id (y := .inr (.inr (.inr (ps.length, false))))
    (fun i hi hq => by
      have hE : policyE a.Many ps[i] = 0 := by
        unfold policyE at hq ⊢
        split at hq
        · simp at hq
        split at hq
        · simp at hq
        split at hq
        · simp at hq
        split at hq
        · simp at hq
        rename_i h1 h2 h3 h5
        simp [h1, h2, h3, h5]
      have hE0 := hE
      obtain ⟨ho, hl, hn⟩ := policyE_ok hE
      have hany : ps[i].Names.any (fun n => !inRange a.Many n) = false := by
        unfold policyE at hE
        split at hE
        · cases hE
        split at hE
        · cases hE
        split at hE
        · cases hE
        rename_i h1 h2 h3; simpa using h3
      have hdesc : desc ps[i].Names = false := by
        unfold policyE at hE0
        simp only [ho, Bool.true_eq_false, if_false, show ¬ 6 < ps[i].Names.length by omega, hany, Bool.false_eq_true] at hE0
        cases hd : desc ps[i].Names with
        | false => rfl
        | true => rw [hd] at hE0; cases hE0
      obtain ⟨z, hz⟩ := names_loop a hm ps i hi hl
      obtain ⟨z', hz'⟩ := desc_loopR a ps i hi hl
      simp only [hany, hdesc, Bool.false_eq_true, if_false] at hz hz'
      simp only [B_R_checkPolicies_0, id, show (i : Int) < (ps.length : Int) by omega, if_true, List.getElem?_eq_getElem hi, Option.bind_some, F_isActor a _ hm, ho, show ¬ (6 : Int) < (ps[i].Names.length : Int) by omega, if_false, hz, hz', wrapS i (by omega)])
    (fun i hi x hq => by
      unfold policyE at hq
      cases ho : inRange a.Many ps[i].Owner with
      | false =>
        simp [ho] at hq
        subst hq
        simp [B_R_checkPolicies_0, hi, F_isActor a _ hm, ho]
      | true =>
        by_cases h6 : 6 < ps[i].Names.length
        · simp [ho, h6] at hq
          subst hq
          simp [B_R_checkPolicies_0, hi, F_isActor a _ hm, ho, show (6 : Int) < (ps[i].Names.length : Int) by omega]
        · obtain ⟨z, hz⟩ := names_loop a hm ps i hi (by omega)
          obtain ⟨z', hz'⟩ := desc_loopR a ps i hi (by omega)
          have h6' : ¬ (6 : Int) < (ps[i].Names.length : Int) := by omega
          cases hany : ps[i].Names.any (fun n => !inRange a.Many n) with
          | true =>
            simp only [ho, Bool.true_eq_false, if_false, h6, hany, if_true] at hq
            obtain rfl := Option.some.inj hq
            simp only [hany, if_true] at hz
            simp only [B_R_checkPolicies_0, id, show (i : Int) < (ps.length : Int) by omega, if_true, List.getElem?_eq_getElem hi, Option.bind_some, F_isActor a _ hm, ho, h6', if_false, hz]
          | false =>
            simp only [hany, Bool.false_eq_true, if_false] at hz
            cases hd : desc ps[i].Names with
            | true =>
              simp [ho, h6, hany, hd] at hq
              subst hq
              simp only [hd, if_true] at hz'
              simp only [B_R_checkPolicies_0, id, show (i : Int) < (ps.length : Int) by omega, if_true, List.getElem?_eq_getElem hi, Option.bind_some, F_isActor a _ hm, ho, h6', if_false, hz, hz']
            | false => simp [ho, h6, hany, hd] at hq)
    (by simp [B_R_checkPolicies_0])
  have h' : lp (fun v => B_R_checkPolicies_0 a ps v) 0 = _ := h
  simp only [h4', if_false, h4, h', Option.bind_some]
  unfold firstErr
  clear h h' h4 h4'
  have hval : ∀ p, policyE a.Many p = 0 ∨ policyE a.Many p = 5 ∨ policyE a.Many p = 2 ∨ policyE a.Many p = 4 := fun p => by
    unfold policyE; split
    · simp
    split
    · simp
    split
    · simp
    split <;> simp
  have hgen : ∀ (l : List Policy) (n : Nat),
    (match ((l.findSome? fun p => if policyE a.Many p = 5 then some (.inr (.inl ())) else if policyE a.Many p = 2 then some (.inl ()) else if policyE a.Many p = 4 then some (.inr (.inr (.inl ()))) else none).getD (.inr (.inr (.inr (n, false)))) : Unit ⊕ (Unit ⊕ (Unit ⊕ (Nat × Bool)))) with
      | .inl _ => some (2 : Int)
      | .inr (.inl _) => some 5
      | .inr (.inr (.inl _)) => some 4
      | .inr (.inr (.inr _)) => some 0) = some ((l.findSome? fun x => if policyE a.Many x ≠ 0 then some (policyE a.Many x) else none).getD 0) := by
    intro l n
    induction l with
    | nil => rfl
    | cons p l ih =>
      simp only [List.findSome?_cons]
      rcases hval p with h | h | h | h <;> simp only [h]
      · simpa using ih
      · rfl
      · rfl
      · rfl
  exact hgen ps ps.length
theorem F_checkLabel (a : Actors) (hm : 1 ≤ a.Many ∧ a.Many ≤ 6) (l : Label) : F_R_CheckLabel a l = some (fitsE a.Many l) := by
  unfold F_R_CheckLabel fitsE
  rw [F_checkPolicies a hm, F_checkPolicies a hm, Option.bind_some]
  by_cases h : listE a.Many l.Read = 0 <;> simp [h]
theorem F_sameBools (x y : List Bool) (hx : x.length ≤ 1000000000) : F_R_SameBools x y = some (decide (x = y)) := by
  unfold F_R_SameBools
  by_cases hl : x.length = y.length
  · have hne : ((x.length : Int) != (y.length : Int)) = false := by simp [hl]
    have h := lp_any0 (B := fun v => B_R_SameBools_0 x y v) x.length (fun k => on x k != on y k) id (x := .inl ()) (y := .inr (x.length, false))
      (fun k hk hp => by
        have he : on x k = on y k := by simpa using hp
        simp only [B_R_SameBools_0, id, show (k : Int) < (x.length : Int) by omega, if_true, get_on hk, get_on (show k < y.length by omega), Option.bind_some, he, beq_self_eq_true, wrapS k (by omega)])
      (fun k hk hp => by
        have he : (on x k == on y k) = false := by simpa using hp
        simp only [B_R_SameBools_0, id, show (k : Int) < (x.length : Int) by omega, if_true, get_on hk, get_on (show k < y.length by omega), Option.bind_some, he, Bool.false_eq_true, if_false])
      (by simp [B_R_SameBools_0])
    have h' : lp (fun v => B_R_SameBools_0 x y v) 0 = _ := h
    simp only [hne, Bool.false_eq_true, if_false, h', Option.bind_some]
    have hiff : (List.range x.length).any (fun k => on x k != on y k) = !decide (x = y) := by
      rw [Bool.eq_iff_iff]
      simp only [List.any_eq_true, List.mem_range, bne_iff_ne, ne_eq, Bool.not_eq_eq_eq_not, Bool.not_true, decide_eq_false_iff_not]
      constructor
      · rintro ⟨k, _, h1⟩ rfl
        exact h1 rfl
      · intro hne
        apply Classical.byContradiction
        intro hall
        apply hne
        apply List.ext_getElem hl
        intro k h1 h2
        have : on x k = on y k := Classical.byContradiction fun h => hall ⟨k, h1, h⟩
        have e1 := get_on h1
        have e2 := get_on h2
        rw [List.getElem?_eq_getElem h1] at e1
        rw [List.getElem?_eq_getElem h2] at e2
        rw [Option.some.inj e1, Option.some.inj e2, this]
    rw [hiff]
    by_cases he : x = y <;> simp [he]
  · have hne : ((x.length : Int) != (y.length : Int)) = true := by simp; omega
    have : x ≠ y := fun e => hl (by rw [e])
    simp [hne, this]
theorem F_sameLevel (x y : Level) (h1 : x.Readers.length ≤ 1000000000) (h2 : x.Writers.length ≤ 1000000000) : F_R_SameLevel x y = some (decide (x.Readers = y.Readers ∧ x.Writers = y.Writers)) := by
  unfold F_R_SameLevel
  rw [F_sameBools _ _ h1, F_sameBools _ _ h2, Option.bind_some]
  by_cases h : x.Readers = y.Readers <;> simp [h]
/-- levels of n actors. -/
def SizedL (n : Nat) (l : Level) : Prop := l.Readers.length = n ∧ l.Writers.length = n
def sizedE (a : Actors) (l : Level) : Bool := decide ((l.Readers.length : Int) = a.Many ∧ (l.Writers.length : Int) = a.Many)
def readyE (a : Actors) (ls : List Level) : Int := if checkA a ≠ 0 then checkA a else if ls.any (fun l => !sizedE a l) then 1 else 0
theorem F_sized (a : Actors) (l : Level) : F_label_Sized_v2 a l = some (sizedE a l) := by
  unfold F_label_Sized_v2 sizedE
  by_cases h : (l.Readers.length : Int) = a.Many <;> simp [h]
  rw [Bool.eq_iff_iff]; simp
theorem F_ready (a : Actors) (ls : List Level) (hl : ls.length ≤ 1000) : F_label_ready_v2 a ls = some (readyE a ls) := by
  unfold F_label_ready_v2 readyE
  rw [F_check, Option.bind_some]
  have hc : F_slices_ContainsFunc__label_ready_1_v2 ls a = some (ls.any fun l => !sizedE a l) := find_any (fun y => F_label_ready_1_v2 y a) _ ls (by omega) (fun y _ => by simp [F_label_ready_1_v2, F_sized])
  by_cases h : checkA a = 0
  · simp only [h, hc, Option.bind_some]
    cases ls.any (fun l => !sizedE a l) <;> simp
  · simp [h]
def andB (n : Nat) (x y : List Bool) : List Bool := (List.range n).map fun k => on x k && on y k
def orBL (n : Nat) (x y : List Bool) : List Bool := (List.range n).map fun k => on x k || on y k
section
variable {n : Nat} (hn : n ≤ 1000000)
include hn
theorem F_andB {x y : List Bool} (hx : x.length = n) (hy : y.length = n) : F_label_and_v2 x y = some (andB n x y) := by
  have h := lp_all (B := fun v => B_label_and_v2_0 x y v.1 v.2) n (fun k => (andB k x y, k)) (x := (andB n x y, n, false))
    (fun k hk => by
      have r : ∀ b : Bool, (andB k x y).length + [b].length ≤ 1000000000 := fun b => by simp [andB]; omega
      simp only [B_label_and_v2_0, show (k : Int) < (x.length : Int) by omega, if_true, get_on (show k < x.length by omega), get_on (show k < y.length by omega), Option.bind_some, wrapS k (by omega), r,
        show andB (k + 1) x y = andB k x y ++ [on x k && on y k] by simp [andB, List.range_succ]]
      cases on x k <;> simp)
    (by simp [B_label_and_v2_0, hx])
  have h' : lp (fun v => B_label_and_v2_0 x y v.1 v.2) (([] : List Bool), 0) = _ := h
  simp only [F_label_and_v2, h', Option.bind_some]
theorem F_orB {x y : List Bool} (hx : x.length = n) (hy : y.length = n) : F_label_or_v2 x y = some (orBL n x y) := by
  have h := lp_all (B := fun v => B_label_or_v2_0 x y v.1 v.2) n (fun k => (orBL k x y, k)) (x := (orBL n x y, n, false))
    (fun k hk => by
      have r : ∀ b : Bool, (orBL k x y).length + [b].length ≤ 1000000000 := fun b => by simp [orBL]; omega
      simp only [B_label_or_v2_0, show (k : Int) < (x.length : Int) by omega, if_true, get_on (show k < x.length by omega), get_on (show k < y.length by omega), Option.bind_some, wrapS k (by omega), r,
        show orBL (k + 1) x y = orBL k x y ++ [on x k || on y k] by simp [orBL, List.range_succ]]
      cases on x k <;> simp)
    (by simp [B_label_or_v2_0, hx])
  have h' : lp (fun v => B_label_or_v2_0 x y v.1 v.2) (([] : List Bool), 0) = _ := h
  simp only [F_label_or_v2, h', Option.bind_some]
end
end Go.Proofs.Ytjnhiggknkflfaa.A
