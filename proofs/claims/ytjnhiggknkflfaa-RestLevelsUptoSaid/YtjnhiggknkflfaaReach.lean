/- Who acts for whom, as plain mathematics: what can be reached; rounds of rows; rows that are closed. -/
import Derived.Test.YtjnhiggknkflfaaTypes
set_option linter.unusedSectionVars false
set_option linter.unusedVariables false
set_option linter.unusedSimpArgs false
set_option linter.constructorNameAsVariable false
namespace Go.Proofs.Ytjnhiggknkflfaa.A
open Go

def inRange (m n : Int) : Bool := decide (0 ≤ n ∧ n < m)
def badGrant (m : Int) (g : Grant) : Bool := !inRange m g.Who || !inRange m g.For
def checkA (a : Actors) : Int := if a.Many < 1 ∨ 6 < a.Many then 3 else if 20 < a.Grants.length then 2 else if a.Grants.any (badGrant a.Many) then 5 else 0
theorem checkA_ok {a : Actors} (h : checkA a = 0) : 1 ≤ a.Many ∧ a.Many ≤ 6 ∧ a.Grants.length ≤ 20 ∧ ∀ g ∈ a.Grants, (0 ≤ g.Who ∧ g.Who < a.Many) ∧ 0 ≤ g.For ∧ g.For < a.Many := by
  unfold checkA at h
  split at h
  · cases h
  split at h
  · cases h
  split at h
  · cases h
  rename_i h1 h2 h3
  refine ⟨by omega, by omega, by omega, fun g hg => ?_⟩
  have : ¬ badGrant a.Many g = true := fun hb => h3 (List.any_eq_true.2 ⟨g, hg, hb⟩)
  simpa [badGrant, inRange] using this

/-- who is reached by grants, of naturals. -/
inductive Reach (gs : List Grant) (i : Nat) : Nat → Prop where
  | refl : Reach gs i i
  | step {j : Nat} (g : Grant) (h : Reach gs i j) (hg : g ∈ gs) (hw : g.Who = (j : Int)) : Reach gs i g.For.toNat
/-- a row: is it closed, sound, does it hold its own? -/
def on (row : List Bool) (k : Nat) : Bool := row.getD k false
def Closed (gs : List Grant) (row : List Bool) : Prop := ∀ g ∈ gs, on row g.Who.toNat = true → on row g.For.toNat = true
theorem on_set {row : List Bool} {j k : Nat} (hj : j < row.length) : on (row.set j true) k = (decide (j = k) || on row k) := by
  unfold on
  rw [List.getD_eq_getElem?_getD, List.getD_eq_getElem?_getD, List.getElem?_set]
  by_cases h : j = k
  · subst h; simp [hj]
  · simp [h]
theorem on_lt {row : List Bool} {k : Nat} (h : on row k = true) : k < row.length := by
  apply Classical.byContradiction
  intro hn
  unfold on at h
  rw [List.getD_eq_getElem?_getD, List.getElem?_eq_none (by omega)] at h
  cases h
theorem closed_reach {gs : List Grant} {row : List Bool} {i : Nat} (hc : Closed gs row) (hi : on row i = true) : ∀ k, Reach gs i k → on row k = true := by
  intro k h
  induction h with
  | refl => exact hi
  | step g h hg hw ih => exact hc g hg (by rw [hw]; simpa using ih)
/-- two rows that are closed and sound are one. -/
theorem row_eq {gs : List Grant} {row row' : List Bool} {i : Nat} (hl : row.length = row'.length) (hc : Closed gs row) (hi : on row i = true) (hs : ∀ k, on row k = true → Reach gs i k)
    (hc' : Closed gs row') (hi' : on row' i = true) (hs' : ∀ k, on row' k = true → Reach gs i k) : row = row' := by
  apply List.ext_getElem hl
  intro k h1 h2
  have he : ∀ {r : List Bool} (h : k < r.length), on r k = r[k] := fun {r} h => by unfold on; rw [List.getD_eq_getElem?_getD, List.getElem?_eq_getElem h]; rfl
  rw [← he h1, ← he h2]
  cases hk : on row k with
  | true => exact (closed_reach hc' hi' k (hs k hk)).symm
  | false =>
    cases ha : on row' k with
    | false => rfl
    | true =>
      rw [closed_reach hc hi k (hs' k ha)] at hk; cases hk

/-- one grant; one round of all. -/
def relax1 (row : List Bool) (g : Grant) : List Bool := if on row g.Who.toNat = true then row.set g.For.toNat true else row
def relax (gs : List Grant) (row : List Bool) : List Bool := gs.foldl relax1 row
def rounds (gs : List Grant) : Nat → List Bool → List Bool
  | 0, row => row
  | n + 1, row => relax gs (rounds gs n row)
theorem relax1_len (row : List Bool) (g : Grant) : (relax1 row g).length = row.length := by unfold relax1; split <;> simp
theorem relax_len (gs : List Grant) : ∀ row, (relax gs row).length = row.length := by
  induction gs with
  | nil => intro row; rfl
  | cons g gs ih => intro row; rw [relax, List.foldl_cons]; exact (ih _).trans (relax1_len row g)
theorem rounds_len (gs : List Grant) (row : List Bool) : ∀ n, (rounds gs n row).length = row.length
  | 0 => rfl
  | n + 1 => (relax_len gs _).trans (rounds_len gs row n)
def Good (m : Nat) (gs : List Grant) : Prop := ∀ g ∈ gs, (0 ≤ g.Who ∧ g.Who < m) ∧ 0 ≤ g.For ∧ g.For < m
theorem relax1_on {m : Nat} {row : List Bool} {g : Grant} (hl : row.length = m) (hg : 0 ≤ g.For ∧ g.For < m) (k : Nat) : on (relax1 row g) k = (on row k || (on row g.Who.toNat && decide (g.For.toNat = k))) := by
  unfold relax1
  split
  · rename_i h
    rw [on_set (by omega), h]
    cases on row k <;> simp
  · rename_i h
    simp [h]
theorem relax_mono {m : Nat} {gs : List Grant} (hg : Good m gs) : ∀ row, row.length = m → ∀ k, on row k = true → on (relax gs row) k = true := by
  induction gs with
  | nil => intro row _ k h; exact h
  | cons g gs ih =>
    intro row hl k h
    rw [relax, List.foldl_cons]
    exact ih (fun x hx => hg x (by simp [hx])) _ ((relax1_len row g).trans hl) k (by rw [relax1_on hl (hg g (by simp)).2, h]; rfl)
theorem relax_sound {m : Nat} {i : Nat} {gs gs' : List Grant} (hg : Good m gs) (hsub : ∀ g ∈ gs, g ∈ gs') : ∀ row, row.length = m → (∀ k, on row k = true → Reach gs' i k) → ∀ k, on (relax gs row) k = true → Reach gs' i k := by
  induction gs with
  | nil => intro row _ h k hk; exact h k hk
  | cons g gs ih =>
    intro row hl h k hk
    rw [relax, List.foldl_cons] at hk
    refine ih (fun x hx => hg x (by simp [hx])) (fun x hx => hsub x (by simp [hx])) _ ((relax1_len row g).trans hl) (fun k hk => ?_) k hk
    have hgg := hg g (by simp)
    rw [relax1_on hl hgg.2] at hk
    simp only [Bool.or_eq_true, Bool.and_eq_true, decide_eq_true_eq] at hk
    rcases hk with hk | ⟨hk, rfl⟩
    · exact h k hk
    · exact .step g (h _ hk) (hsub g (by simp)) (by omega)
def cnt (row : List Bool) : Nat := row.countP id
theorem cnt_le (row : List Bool) : cnt row ≤ row.length := List.countP_le_length
theorem cnt_set {row : List Bool} {j : Nat} (hj : j < row.length) (h : on row j = false) : cnt (row.set j true) = cnt row + 1 := by
  induction row generalizing j with
  | nil => simp at hj
  | cons b row ih =>
    cases j with
    | zero =>
      have : b = false := by simpa [on] using h
      subst this
      simp [cnt]
    | succ j =>
      have := ih (j := j) (by simpa using hj) (by simpa [on] using h)
      simp only [cnt, List.set_cons_succ, List.countP_cons] at this ⊢
      omega
theorem set_on {row : List Bool} {j : Nat} (h : on row j = true) : row.set j true = row := by
  apply List.ext_getElem?
  intro k
  rw [List.getElem?_set]
  by_cases hk : j = k
  · subst hk
    have hl := on_lt h
    unfold on at h
    rw [List.getD_eq_getElem?_getD, List.getElem?_eq_getElem hl] at h
    simp only [if_true, if_pos hl, List.getElem?_eq_getElem hl]
    simpa using h.symm
  · rw [if_neg hk]
theorem relax1_cnt {m : Nat} {row : List Bool} {g : Grant} (hl : row.length = m) (hg : 0 ≤ g.For ∧ g.For < m) : cnt row ≤ cnt (relax1 row g) ∧ (on row g.Who.toNat = true → on row g.For.toNat = false → cnt row < cnt (relax1 row g)) := by
  unfold relax1
  split
  · cases hf : on row g.For.toNat with
    | true => rw [set_on hf]; exact ⟨Nat.le_refl _, fun _ h => by cases h⟩
    | false => rw [cnt_set (by omega) hf]; exact ⟨by omega, fun _ _ => by omega⟩
  · rename_i h; exact ⟨Nat.le_refl _, fun h' => absurd h' h⟩
theorem relax_cnt {m : Nat} {gs : List Grant} (hg : Good m gs) : ∀ row, row.length = m → cnt row ≤ cnt (relax gs row) ∧ (cnt row = cnt (relax gs row) → Closed gs row ∧ relax gs row = row) := by
  induction gs with
  | nil => intro row _; exact ⟨Nat.le_refl _, fun _ => ⟨fun g h => by simp at h, rfl⟩⟩
  | cons g gs ih =>
    intro row hl
    obtain ⟨h1, h2⟩ := relax1_cnt (row := row) hl (hg g (by simp)).2
    obtain ⟨h3, h4⟩ := ih (fun x hx => hg x (by simp [hx])) (relax1 row g) ((relax1_len row g).trans hl)
    have e : relax (g :: gs) row = relax gs (relax1 row g) := rfl
    rw [e]
    refine ⟨by omega, fun hc => ?_⟩
    obtain ⟨h5, h6⟩ := h4 (by omega)
    have hsame : relax1 row g = row := by
      unfold relax1
      split
      · rename_i ho
        cases hf : on row g.For.toNat with
        | true => exact set_on hf
        | false => have := h2 ho hf; omega
      · rfl
    rw [hsame] at h5 h6 ⊢
    refine ⟨fun x hx ho => ?_, h6⟩
    rcases List.mem_cons.1 hx with rfl | hx
    · cases hf : on row x.For.toNat with
      | true => rfl
      | false => have := h2 ho hf; rw [hsame] at this; omega
    · exact h5 x hx ho
theorem rounds_cnt {m : Nat} {gs : List Grant} (hg : Good m gs) (row : List Bool) (hl : row.length = m) (h1 : 1 ≤ cnt row) : ∀ n, Closed gs (rounds gs n row) ∨ n + 1 ≤ cnt (rounds gs n row)
  | 0 => .inr h1
  | n + 1 => by
    have hlen := (rounds_len gs row n).trans hl
    obtain ⟨h2, h3⟩ := relax_cnt hg (rounds gs n row) hlen
    by_cases hc : cnt (rounds gs n row) = cnt (relax gs (rounds gs n row))
    · obtain ⟨h4, h5⟩ := h3 hc
      left
      show Closed gs (relax gs (rounds gs n row))
      rw [h5]; exact h4
    · rcases rounds_cnt hg row hl h1 n with h4 | h4
      · -- closed already: a round changes nothing
        exfalso
        apply hc
        have : ∀ (gs' : List Grant), (∀ g ∈ gs', g ∈ gs) → relax gs' (rounds gs n row) = rounds gs n row := by
          intro gs' hs
          induction gs' with
          | nil => rfl
          | cons g gs' ih =>
            rw [relax, List.foldl_cons]
            have : relax1 (rounds gs n row) g = rounds gs n row := by
              unfold relax1
              split
              · rename_i ho; exact set_on (h4 g (hs g (by simp)) ho)
              · rfl
            rw [this]
            exact ih fun x hx => hs x (by simp [hx])
        rw [this gs fun _ h => h]
      · right
        show n + 1 + 1 ≤ cnt (relax gs (rounds gs n row))
        omega
theorem rounds_sound {m i : Nat} {gs : List Grant} (hg : Good m gs) (row : List Bool) (hl : row.length = m) (h : ∀ k, on row k = true → Reach gs i k) : ∀ n k, on (rounds gs n row) k = true → Reach gs i k
  | 0, k, hk => h k hk
  | n + 1, k, hk => relax_sound hg (fun _ h => h) _ ((rounds_len gs row n).trans hl) (rounds_sound hg row hl h n) k hk
theorem rounds_mono {m : Nat} {gs : List Grant} (hg : Good m gs) (row : List Bool) (hl : row.length = m) (k : Nat) (h : on row k = true) : ∀ n, on (rounds gs n row) k = true
  | 0 => h
  | n + 1 => relax_mono hg _ ((rounds_len gs row n).trans hl) k (rounds_mono hg row hl k h n)
def row0 (m i : Nat) : List Bool := (List.replicate m false).set i true
/-- the row of whoever is reached. -/
def reachRow (m : Nat) (gs : List Grant) (i : Nat) : List Bool := rounds gs m (row0 m i)
def acts (m : Nat) (gs : List Grant) (i k : Nat) : Bool := on (reachRow m gs i) k
theorem on_row0 {m i : Nat} (hi : i < m) (k : Nat) : on (row0 m i) k = decide (i = k) := by
  unfold row0
  rw [on_set (by simpa using hi)]
  have : on (List.replicate m false) k = false := by
    unfold on
    rw [List.getD_eq_getElem?_getD, List.getElem?_replicate]
    split <;> rfl
  rw [this, Bool.or_false]
theorem reachRow_len (m : Nat) (gs : List Grant) (i : Nat) : (reachRow m gs i).length = m := (rounds_len _ _ _).trans (by simp [row0])
theorem reachRow_is {m i : Nat} {gs : List Grant} (hg : Good m gs) (hi : i < m) : Closed gs (reachRow m gs i) ∧ on (reachRow m gs i) i = true ∧ ∀ k, on (reachRow m gs i) k = true → Reach gs i k := by
  have hl : (row0 m i).length = m := by simp [row0]
  have hon := fun k => on_row0 (m := m) hi k
  have hcnt : 1 ≤ cnt (row0 m i) := by
    have := cnt_set (row := List.replicate m false) (j := i) (by simpa using hi) (by
      unfold on
      rw [List.getD_eq_getElem?_getD, List.getElem?_replicate]
      split <;> rfl)
    unfold row0
    omega
  refine ⟨?_, rounds_mono hg _ hl i (by rw [hon]; simp) m, rounds_sound hg _ hl (fun k hk => ?_) m⟩
  · rcases rounds_cnt hg _ hl hcnt m with h | h
    · exact h
    · have := cnt_le (rounds gs m (row0 m i))
      rw [rounds_len, hl] at this
      omega
  · rw [hon] at hk
    obtain rfl : i = k := by simpa using hk
    exact .refl
theorem acts_iff {m i k : Nat} {gs : List Grant} (hg : Good m gs) (hi : i < m) : acts m gs i k = true ↔ Reach gs i k :=
  ⟨(reachRow_is hg hi).2.2 k, fun h => closed_reach (reachRow_is hg hi).1 (reachRow_is hg hi).2.1 k h⟩
theorem reach_trans {gs : List Grant} {i j k : Nat} (h : Reach gs i j) (h' : Reach gs j k) : Reach gs i k := by
  induction h' with
  | refl => exact h
  | step g _ hg hw ih => exact .step g ih hg hw
theorem reach_more {gs gs' : List Grant} (hs : ∀ g ∈ gs, g ∈ gs') {i k : Nat} (h : Reach gs i k) : Reach gs' i k := by
  induction h with
  | refl => exact .refl
  | step g _ hg hw ih => exact .step g ih (hs g hg) hw
end Go.Proofs.Ytjnhiggknkflfaa.A
