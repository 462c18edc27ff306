/- label: what looks at labels answers. -/
import Derived.Test.YtjnhiggknkflfaaFB
import Derived.Test.YtjnhiggknkflfaaRestA
set_option linter.unusedSectionVars false
set_option linter.unusedVariables false
set_option linter.unusedSimpArgs false
namespace Go.Proofs.Ytjnhiggknkflfaa.A
open Go
variable [Lp]
/-- a loop that counts from a place and stops with the same wherever it stops. -/
theorem lp_anyN {α ε : Type} {B : α → Option (α ⊕ ε)} (n s : Nat) (p : Nat → Bool) (f : Nat → α) {x y : ε} (hs : s ≤ n) (h0 : ∀ k, s ≤ k → k < n → p k = false → B (f k) = some (.inl (f (k + 1)))) (h1 : ∀ k, s ≤ k → k < n → p k = true → B (f k) = some (.inr x)) (he : B (f n) = some (.inr y)) :
    lp B (f s) = some (if (List.range' s (n - s)).any p then x else y) := by
  have : ∀ m k, s ≤ k → k + m = n → lp B (f k) = some (if (List.range' k m).any p then x else y) := by
    intro m
    induction m with
    | zero => intro k _ hk; obtain rfl : k = n := by omega
              exact lp_end he
    | succ m ih =>
      intro k hsk hk
      rw [List.range'_succ, List.any_cons]
      cases hp : p k with
      | true => exact lp_end (h1 k hsk (by omega) hp)
      | false => rw [lp_next (h0 k hsk (by omega) hp), ih (k + 1) (by omega) (by omega)]; rfl
  exact this (n - s) s (Nat.le_refl _) (by omega)
theorem lp_any0 {α ε : Type} {B : α → Option (α ⊕ ε)} (n : Nat) (p : Nat → Bool) (f : Nat → α) {x y : ε} (h0 : ∀ k, k < n → p k = false → B (f k) = some (.inl (f (k + 1)))) (h1 : ∀ k, k < n → p k = true → B (f k) = some (.inr x)) (he : B (f n) = some (.inr y)) :
    lp B (f 0) = some (if (List.range n).any p then x else y) := by
  have h := lp_anyN n 0 p f (Nat.zero_le _) (fun k _ => h0 k) (fun k _ => h1 k) he
  rw [List.range_eq_range']; exact h
/-- a loop over a list that stops with what is found first. -/
theorem lp_first {α ε β : Type} {B : α → Option (α ⊕ ε)} (es : List β) (q : β → Option ε) (f : Nat → α) {y : ε} (h0 : ∀ k (h : k < es.length), q es[k] = none → B (f k) = some (.inl (f (k + 1)))) (h1 : ∀ k (h : k < es.length) x, q es[k] = some x → B (f k) = some (.inr x)) (he : B (f es.length) = some (.inr y)) :
    lp B (f 0) = some ((es.findSome? q).getD y) := by
  have : ∀ m k, k + m = es.length → lp B (f k) = some (((es.drop k).findSome? q).getD y) := by
    intro m
    induction m with
    | zero => intro k hk; obtain rfl : k = es.length := by omega
              rw [List.drop_length]; exact lp_end he
    | succ m ih =>
      intro k hk
      have hlt : k < es.length := by omega
      rw [List.drop_eq_getElem_cons hlt, List.findSome?_cons]
      cases hq : q es[k] with
      | some x => exact lp_end (h1 k hlt x hq)
      | none => rw [lp_next (h0 k hlt hq)]; exact ih (k + 1) (by omega)
  exact this es.length 0 (by omega)
/-- do names not rise? -/
def desc (l : List Int) : Bool := (List.range' 1 (l.length - 1)).any fun k => decide (l.getD k 0 ≤ l.getD (k - 1) 0)
theorem getD_get {l : List Int} {k : Nat} (h : k < l.length) : l[k]? = some (l.getD k 0) := by
  rw [List.getD_eq_getElem?_getD, List.getElem?_eq_getElem h]; rfl
theorem wrapP (k : Nat) (h1 : 1 ≤ k) (h : k < 4611686018427387904) : IntKind.i64.wrap ((k : Int) - 1) = (k : Int) - 1 ∧ natI ((k : Int) - 1) = some (k - 1) := by
  refine ⟨wrap64 (by omega) (by omega), ?_⟩
  rw [natI_nn (by omega)]; congr 1; omega
theorem desc_loop (p : Policy) (h6 : p.Names.length ≤ 6) : ∃ z, lp (fun v => B_label_policy_0 p v) 1 = some (if desc p.Names then .inl () else .inr z) := by
  by_cases h : p.Names.length = 0
  · refine ⟨(1, false), ?_⟩
    rw [show desc p.Names = false by simp [desc, h]]
    exact lp_end (by simp [B_label_policy_0, h])
  · refine ⟨(p.Names.length, false), ?_⟩
    exact lp_anyN (B := fun v => B_label_policy_0 p v) p.Names.length 1 (fun k => decide (p.Names.getD k 0 ≤ p.Names.getD (k - 1) 0)) id (by omega)
      (fun k h1 hk hp => by
        have hp' : ¬ p.Names.getD k 0 ≤ p.Names.getD (k - 1) 0 := by simpa using hp
        obtain ⟨hw, hn⟩ := wrapP k h1 (by omega)
        simp only [B_label_policy_0, id, show (k : Int) < (p.Names.length : Int) by omega, if_true, getD_get hk, Option.bind_some, hw, hn, getD_get (show k - 1 < p.Names.length by omega), hp', if_false, wrapS k (by omega)])
      (fun k h1 hk hp => by
        have hp' : p.Names.getD k 0 ≤ p.Names.getD (k - 1) 0 := by simpa using hp
        obtain ⟨hw, hn⟩ := wrapP k h1 (by omega)
        simp only [B_label_policy_0, id, show (k : Int) < (p.Names.length : Int) by omega, if_true, getD_get hk, Option.bind_some, hw, hn, getD_get (show k - 1 < p.Names.length by omega), hp'])
      (by simp [B_label_policy_0])
/-- what is wrong with a policy. -/
def policyE (m : Int) (p : Policy) : Int :=
  if inRange m p.Owner = false then 5 else if 6 < p.Names.length then 2 else if p.Names.any (fun n => !inRange m n) then 5 else if desc p.Names then 4 else 0
theorem policyE_ok {m : Int} {p : Policy} (h : policyE m p = 0) : inRange m p.Owner = true ∧ p.Names.length ≤ 6 ∧ ∀ n ∈ p.Names, inRange m n = true := by
  unfold policyE at h
  split at h
  · cases h
  split at h
  · cases h
  split at h
  · cases h
  rename_i h1 h2 h3
  refine ⟨by simpa using h1, by omega, fun n hn => ?_⟩
  cases hi : inRange m n with
  | true => rfl
  | false => exact absurd (List.any_eq_true.2 ⟨n, hn, by rw [hi]; rfl⟩) h3
theorem F_policy (a : Actors) (p : Policy) : F_label_policy a p = some (policyE a.Many p) := by
  unfold F_label_policy policyE
  rw [F_is, Option.bind_some]
  cases h1 : inRange a.Many p.Owner with
  | false => simp
  | true =>
    by_cases h2 : 6 < p.Names.length
    · simp [h2, show (6 : Int) < (p.Names.length : Int) by omega]
    · have h2' : ¬ (6 : Int) < (p.Names.length : Int) := by omega
      have hc : F_slices_ContainsFunc__label_policy_1 p.Names a = some (p.Names.any (fun n => !inRange a.Many n)) := find_any (fun y => F_label_policy_1 y a) _ p.Names (by omega) (fun y _ => by simp [F_label_policy_1, F_is])
      obtain ⟨z, hz⟩ := desc_loop p (by omega)
      simp only [if_true, h2', if_false, hc, Option.bind_some, hz, h2, Bool.true_eq_false]
      cases p.Names.any (fun n => !inRange a.Many n) with
      | true => simp
      | false => cases desc p.Names <;> simp
def firstErr {β : Type} (f : β → Int) (l : List β) : Int := (l.findSome? fun x => if f x ≠ 0 then some (f x) else none).getD 0
def listE (m : Int) (ps : List Policy) : Int := if 4 < ps.length then 2 else firstErr (policyE m) ps
def fitsE (m : Int) (l : Label) : Int := if listE m l.Read ≠ 0 then listE m l.Read else listE m l.Write
theorem firstErr_zero {β : Type} {f : β → Int} {l : List β} (h : firstErr f l = 0) : ∀ x ∈ l, f x = 0 := by
  unfold firstErr at h
  cases hq : l.findSome? (fun x => if f x ≠ 0 then some (f x) else none) with
  | some y =>
    rw [hq] at h
    obtain ⟨x, _, hx⟩ := List.exists_of_findSome?_eq_some hq
    split at hx
    · rename_i h1
      obtain rfl := Option.some.inj hx
      exact absurd h h1
    · cases hx
  | none =>
    intro x hx
    have := List.findSome?_eq_none_iff.1 hq x hx
    split at this
    · cases this
    · rename_i h1; exact Classical.not_not.1 h1
theorem listE_ok {m : Int} {ps : List Policy} (h : listE m ps = 0) : ps.length ≤ 4 ∧ ∀ p ∈ ps, policyE m p = 0 := by
  unfold listE at h
  split at h
  · cases h
  · exact ⟨by omega, firstErr_zero h⟩
theorem fitsE_ok {m : Int} {l : Label} (h : fitsE m l = 0) : listE m l.Read = 0 ∧ listE m l.Write = 0 := by
  unfold fitsE at h
  split at h
  · rename_i h1; exact absurd h h1
  · rename_i h1; exact ⟨Classical.not_not.1 h1, h⟩
theorem fits_inner (a : Actors) (l : Label) (i : Nat) (ps : List Policy) (h4 : ps.length ≤ 4) : lp (fun v => B_label_Fits_1 a l i ps v) 0 = some (if firstErr (policyE a.Many) ps ≠ 0 then .inl (firstErr (policyE a.Many) ps) else .inr (ps.length, false)) := by
  have h := lp_first (B := fun v => B_label_Fits_1 a l i ps v) ps (fun p => if policyE a.Many p ≠ 0 then some (.inl (policyE a.Many p)) else none) id (y := .inr (ps.length, false))
    (fun k hk hq => by
      have h0 : policyE a.Many ps[k] = 0 := by
        apply Classical.byContradiction
        intro h
        rw [if_pos h] at hq; cases hq
      simp [B_label_Fits_1, hk, F_policy, h0, wrapS k (by omega)])
    (fun k hk x hq => by
      by_cases h : policyE a.Many ps[k] = 0
      · rw [if_neg (by simpa using h)] at hq; cases hq
      · rw [if_pos h] at hq
        obtain rfl := Option.some.inj hq
        simp [B_label_Fits_1, hk, F_policy, h])
    (by simp [B_label_Fits_1])
  have h' : lp (fun v => B_label_Fits_1 a l i ps v) 0 = _ := h
  rw [h']
  congr 1
  unfold firstErr
  have he : (ps.findSome? fun p => if policyE a.Many p ≠ 0 then some ((.inl (policyE a.Many p)) : Int ⊕ (Nat × Bool)) else none) = (ps.findSome? fun p => if policyE a.Many p ≠ 0 then some (policyE a.Many p) else none).map .inl := by
    clear h h' h4
    induction ps with
    | nil => rfl
    | cons p ps ih =>
      simp only [List.findSome?_cons]
      by_cases h : policyE a.Many p ≠ 0
      · simp only [if_pos h]; rfl
      · simp only [if_neg h]; exact ih
  rw [he]
  cases hq : ps.findSome? (fun p => if policyE a.Many p ≠ 0 then some (policyE a.Many p) else none) with
  | none => simp
  | some y =>
    obtain ⟨x, _, hx⟩ := List.exists_of_findSome?_eq_some hq
    have hy : y ≠ 0 := by
      split at hx
      · rename_i h1; obtain rfl := Option.some.inj hx; exact h1
      · cases hx
    simp [hy]
theorem F_fits (a : Actors) (l : Label) : F_label_Fits a l = some (fitsE a.Many l) := by
  have w0 : IntKind.i64.wrap 1 = 1 := by decide
  have w1 : IntKind.i64.wrap 2 = 2 := by decide
  unfold F_label_Fits fitsE listE
  by_cases h1 : 4 < l.Read.length
  · have : lp (fun v => B_label_Fits_0 a l v) 0 = some (.inl ()) := lp_end (by simp [B_label_Fits_0, show (4 : Int) < (l.Read.length : Int) by omega])
    simp [this, h1]
  have h1' : ¬ (4 : Int) < (l.Read.length : Int) := by omega
  have i1 := fits_inner a l 0 l.Read (by omega)
  by_cases e1 : firstErr (policyE a.Many) l.Read = 0
  · have n1 : lp (fun v => B_label_Fits_0 a l v) 0 = lp (fun v => B_label_Fits_0 a l v) 1 := lp_next (by
      simp only [e1, ne_eq, not_true_eq_false, if_false] at i1
      simp [B_label_Fits_0, h1', i1, w0])
    rw [n1]
    by_cases h2 : 4 < l.Write.length
    · have : lp (fun v => B_label_Fits_0 a l v) 1 = some (.inl ()) := lp_end (by simp [B_label_Fits_0, show (4 : Int) < (l.Write.length : Int) by omega])
      simp [this, h1, h2, e1]
    have h2' : ¬ (4 : Int) < (l.Write.length : Int) := by omega
    have i2 := fits_inner a l 1 l.Write (by omega)
    by_cases e2 : firstErr (policyE a.Many) l.Write = 0
    · have n2 : lp (fun v => B_label_Fits_0 a l v) 1 = lp (fun v => B_label_Fits_0 a l v) 2 := lp_next (by
        simp only [e2, ne_eq, not_true_eq_false, if_false] at i2
        simp [B_label_Fits_0, h2', i2, w1])
      have n3 : lp (fun v => B_label_Fits_0 a l v) 2 = some (.inr (.inr (2, false))) := lp_end (by simp [B_label_Fits_0])
      simp [n2, n3, h1, h2, e1, e2]
    · have n2 : lp (fun v => B_label_Fits_0 a l v) 1 = some (.inr (.inl (firstErr (policyE a.Many) l.Write))) := lp_end (by
        simp only [ne_eq, e2, not_false_eq_true, if_true] at i2
        simp [B_label_Fits_0, h2', i2])
      simp [n2, h1, h2, e1]
  · have n1 : lp (fun v => B_label_Fits_0 a l v) 0 = some (.inr (.inl (firstErr (policyE a.Many) l.Read))) := lp_end (by
      simp only [ne_eq, e1, not_false_eq_true, if_true] at i1
      simp [B_label_Fits_0, h1', i1])
    simp [n1, h1, e1]
/-- what is wrong with a label, of these actors. -/
def labelE (a : Actors) (l : Label) : Int := if checkA a ≠ 0 then checkA a else fitsE a.Many l
theorem F_labelCheck (a : Actors) (l : Label) : F_label_Check a l = some (labelE a l) := by
  unfold F_label_Check labelE
  rw [F_check, Option.bind_some]
  by_cases h : checkA a = 0 <;> simp [h, F_fits]
end Go.Proofs.Ytjnhiggknkflfaa.A
