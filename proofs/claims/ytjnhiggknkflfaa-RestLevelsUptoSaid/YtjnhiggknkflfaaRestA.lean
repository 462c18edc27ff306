/- actors: what the functions of the program and of the document answer. -/
import Derived.Test.YtjnhiggknkflfaaFA
import Derived.Test.YtjnhiggknkflfaaFB
import Derived.Test.YtjnhiggknkflfaaFinds
import Derived.Test.YtjnhiggknkflfaaReach
set_option linter.unusedSectionVars false
set_option linter.unusedVariables false
set_option linter.unusedSimpArgs false
set_option linter.constructorNameAsVariable false
namespace Go.Proofs.Ytjnhiggknkflfaa.A
open Go
variable [Lp]
theorem F_is (a : Actors) (n : Int) : F_actors_Is a n = some (inRange a.Many n) := by
  unfold F_actors_Is inRange
  by_cases h : 0 ≤ n <;> simp [h]
theorem F_between (n x y : Int) : F_R_between n x y = some (decide (x ≤ n ∧ n ≤ y)) := by
  unfold F_R_between
  by_cases h : x ≤ n <;> simp [h]
theorem F_isActor (a : Actors) (n : Int) (h : 1 ≤ a.Many ∧ a.Many ≤ 6) : F_R_IsActor a n = some (inRange a.Many n) := by
  unfold F_R_IsActor
  have e : (0 ≤ n ∧ n ≤ a.Many - 1) ↔ (0 ≤ n ∧ n < a.Many) := by omega
  rw [if_pos (wrap64 (by omega) (by omega)), F_between]
  simp [inRange, e]
theorem F_checkc (a : Actors) (g : Grant) : F_actors_Check_1 g a = some (badGrant a.Many g) := by
  unfold F_actors_Check_1 badGrant
  rw [F_is, F_is]
  cases inRange a.Many g.Who <;> simp
theorem F_check (a : Actors) : F_actors_Check a = some (checkA a) := by
  unfold F_actors_Check checkA
  by_cases h1 : a.Many < 1
  · simp [h1]
  by_cases h2 : 6 < a.Many
  · simp [h1, h2]
  by_cases h3 : 20 < a.Grants.length
  · have h3' : (20 : Int) < (a.Grants.length : Int) := by omega
    simp [h1, h2, h3, h3']
  have h3' : ¬ (20 : Int) < (a.Grants.length : Int) := by omega
  have hc : F_slices_ContainsFunc__actors_Check_1 a.Grants a = some (a.Grants.any (badGrant a.Many)) := find_any (fun y => F_actors_Check_1 y a) (badGrant a.Many) a.Grants (by omega) (fun y _ => F_checkc a y)
  rw [if_neg h1, if_neg h2, if_neg h3', hc]
  cases hb : a.Grants.any (badGrant a.Many) <;> simp [h1, h2, h3]
theorem F_checkActors (a : Actors) : F_R_CheckActors a = some (checkA a) := by
  unfold F_R_CheckActors checkA
  rw [F_between]
  by_cases h : a.Many < 1 ∨ 6 < a.Many
  · have : ¬ (1 ≤ a.Many ∧ a.Many ≤ 6) := by omega
    simp [h, this]
  have hm : 1 ≤ a.Many ∧ a.Many ≤ 6 := by omega
  by_cases h3 : 20 < a.Grants.length
  · have h3' : (20 : Int) < (a.Grants.length : Int) := by omega
    simp [h, hm, h3, h3']
  have h3' : ¬ (20 : Int) < (a.Grants.length : Int) := by omega
  have hi := fun n => F_isActor a n hm
  have hl := lp_any (B := fun v => B_R_CheckActors_0 a v) a.Grants (badGrant a.Many) id (x := .inl ()) (y := .inr (a.Grants.length, false))
    (fun k hk hp => by
      have hb : inRange a.Many a.Grants[k].Who = true ∧ inRange a.Many a.Grants[k].For = true := by simpa [badGrant] using hp
      simp [B_R_CheckActors_0, hk, hi, hb.1, hb.2, wrapS k (by omega)])
    (fun k hk hp => by
      cases hw : inRange a.Many a.Grants[k].Who with
      | true =>
        have hb : inRange a.Many a.Grants[k].For = false := by simpa [badGrant, hw] using hp
        simp [B_R_CheckActors_0, hk, hi, hw, hb]
      | false => simp [B_R_CheckActors_0, hk, hi, hw])
    (by simp [B_R_CheckActors_0])
  have hl' : lp (fun v => B_R_CheckActors_0 a v) 0 = _ := hl
  simp only [hm, and_self, decide_true, Option.bind_some, if_true, h, if_false, h3, h3', hl']
  cases a.Grants.any (badGrant a.Many) <;> simp
theorem get_on {row : List Bool} {k : Nat} (h : k < row.length) : row[k]? = some (on row k) := by
  unfold on; rw [List.getD_eq_getElem?_getD, List.getElem?_eq_getElem h]; rfl
theorem take_step {α : Type} {l : List α} {k : Nat} (h : k < l.length) : l.take (k + 1) = l.take k ++ [l[k]] := by
  rw [List.take_add_one, List.getElem?_eq_getElem h]; rfl
theorem cast_toNat {n : Int} (h : 0 ≤ n) : n = ((n.toNat : Nat) : Int) := by omega
section
variable (a : Actors) (hok : checkA a = 0)
include hok
theorem good_of : Good a.Many.toNat a.Grants := by
  obtain ⟨h1, h2, h3, h4⟩ := checkA_ok hok
  intro g hg
  have := h4 g hg
  omega
theorem F_actsFor (i k : Int) (hi : inRange a.Many i = true) (hk : inRange a.Many k = true) : F_R_ActsFor a i k = some (acts a.Many.toNat a.Grants i.toNat k.toNat) := by
  obtain ⟨h1, h2, h3, h4⟩ := checkA_ok hok
  have hg := good_of a hok
  obtain ⟨hi1, hi2⟩ : 0 ≤ i ∧ i < a.Many := by simpa [inRange] using hi
  obtain ⟨hk1, hk2⟩ : 0 ≤ k ∧ k < a.Many := by simpa [inRange] using hk
  have inner : ∀ (n : Nat) (row : List Bool), row.length = a.Many.toNat → lp (fun v => B_R_ActsFor_1 a k n v.1 v.2) (row, 0) = some (relax a.Grants row, a.Grants.length, false) := by
    intro n row hl
    have h := lp_all (B := fun v => B_R_ActsFor_1 a k n v.1 v.2) a.Grants.length (fun j => (relax (a.Grants.take j) row, j)) (x := (relax a.Grants row, a.Grants.length, false))
      (fun j hj => by
        have hgg := hg _ (List.getElem_mem hj)
        have hlen : (relax (a.Grants.take j) row).length = a.Many.toNat := (relax_len _ _).trans hl
        have e : relax (a.Grants.take (j + 1)) row = relax1 (relax (a.Grants.take j) row) a.Grants[j] := by rw [take_step hj, relax, List.foldl_append]; rfl
        simp only [B_R_ActsFor_1, show (j : Int) < (a.Grants.length : Int) by omega, if_true, List.getElem?_eq_getElem hj, Option.bind_some, natI_nn hgg.1.1, natI_nn hgg.2.1, get_on (row := relax (a.Grants.take j) row) (k := a.Grants[j].Who.toNat) (by omega),
          get_on (row := relax (a.Grants.take j) row) (k := a.Grants[j].For.toNat) (by omega), wrapS j (by omega), e, relax1]
        cases on (relax (a.Grants.take j) row) a.Grants[j].Who.toNat <;> simp)
      (by simp [B_R_ActsFor_1])
    exact h
  have outer := lp_all (B := fun v => B_R_ActsFor_0 a k v.1 v.2) a.Many.toNat (fun n => (rounds a.Grants n (row0 a.Many.toNat i.toNat), n)) (x := (reachRow a.Many.toNat a.Grants i.toNat, a.Many.toNat, false))
    (fun n hn => by
      have hin := inner n (rounds a.Grants n (row0 a.Many.toNat i.toNat)) ((rounds_len _ _ _).trans (by simp [row0]))
      simp only [B_R_ActsFor_0, show (n : Int) < a.Many by omega, if_true, hin, Option.bind_some, wrapS n (by omega)]
      rfl)
    (by simp only [B_R_ActsFor_0, show ¬ ((a.Many.toNat : Nat) : Int) < a.Many by omega, if_false, reachRow, decide_false])
  have outer' : lp (fun v => B_R_ActsFor_0 a k v.1 v.2) ((List.replicate a.Many.toNat false).set i.toNat true, 0) = _ := outer
  have hz : (List.replicate a.Many.toNat false)[i.toNat]? = some false := by rw [List.getElem?_replicate, if_pos (by omega)]
  have hr := get_on (row := reachRow a.Many.toNat a.Grants i.toNat) (k := k.toNat) (by rw [reachRow_len]; omega)
  simp only [F_R_ActsFor, natI_nn (show 0 ≤ a.Many by omega), Option.bind_some, show a.Many.toNat ≤ 1000000000 by omega, if_true, natI_nn hi1, hz, outer', natI_nn hk1, hr, acts]
/-- all rows. -/
def allRows (m : Nat) (gs : List Grant) : List (List Bool) := (List.range m).map (reachRow m gs)
theorem F_all : F_actors_All a = some (allRows a.Many.toNat a.Grants) := by
  obtain ⟨h1, h2, h3, h4⟩ := checkA_ok hok
  have hg := good_of a hok
  -- the grants of one
  have inner : ∀ (out : List (List Bool)) (n : Nat) (row : List Bool) (c : Nat) (y : Int) (left : List Int), left.length ≤ 1000 →
      lp (fun v => B_actors_All_2 a out n row y c v.1 v.2) (left, 0) = some (left ++ (a.Grants.filter (fun g => g.Who == y)).map (·.For), a.Grants.length, false) := by
    intro out n row c y left hll
    have h := lp_all (B := fun v => B_actors_All_2 a out n row y c v.1 v.2) a.Grants.length (fun j => (left ++ ((a.Grants.take j).filter (fun g => g.Who == y)).map (·.For), j))
      (x := (left ++ (a.Grants.filter (fun g => g.Who == y)).map (·.For), a.Grants.length, false))
      (fun j hj => by
        have hfl : ((a.Grants.take j).filter (fun g => g.Who == y)).length ≤ 20 := Nat.le_trans (List.length_filter_le ..) (by simp; omega)
        have hroom : (left ++ ((a.Grants.take j).filter (fun g => g.Who == y)).map (·.For)).length + [a.Grants[j].For].length ≤ 1000000000 := by
          simp only [List.length_append, List.length_map, List.length_singleton]; omega
        simp only [B_actors_All_2, show (j : Int) < (a.Grants.length : Int) by omega, if_true, List.getElem?_eq_getElem hj, Option.bind_some, wrapS j (by omega), hroom]
        rw [take_step hj, List.filter_append, List.map_append, ← List.append_assoc]
        cases ho : (a.Grants[j].Who == y) with
        | true => simp [ho]
        | false => simp [ho])
      (by simp [B_actors_All_2])
    simpa using h
  -- whom one acts for
  have middle : ∀ (out : List (List Bool)) (n : Nat), n < a.Many.toNat → ∃ z2 z3, lp (fun v => B_actors_All_1 a out n v.1 v.2) ([(n : Int)], List.replicate a.Many.toNat false) = some (reachRow a.Many.toNat a.Grants n, z2, z3) := by
    intro out n hn
    have hw := lp_wf (B := fun v => B_actors_All_1 a out n v.1 v.2)
      (fun q => (a.Many.toNat - cnt q.2) * (a.Grants.length + 1) + q.1.length)
      (fun q => q.2.length = a.Many.toNat ∧ (∀ x ∈ q.1, 0 ≤ x ∧ x < a.Many ∧ Reach a.Grants n x.toNat) ∧ (∀ k, on q.2 k = true → Reach a.Grants n k) ∧ (on q.2 n = true ∨ (n : Int) ∈ q.1) ∧
        (∀ g ∈ a.Grants, on q.2 g.Who.toNat = true → on q.2 g.For.toNat = true ∨ g.For ∈ q.1) ∧ (a.Many.toNat - cnt q.2) * (a.Grants.length + 1) + q.1.length ≤ 500)
      (fun r => ∃ z2 z3, r = (reachRow a.Many.toNat a.Grants n, z2, z3))
      (fun ⟨left, row⟩ ⟨hl, hleft, hrow, hself, hcl, hm⟩ => by
        simp only at hl hleft hrow hself hcl hm ⊢
        by_cases hz : 0 < left.length
        · -- one is taken
          right
          have hpos : 0 < (left.length : Int) := by omega
          have hlt : left.length - 1 < left.length := by omega
          have hy := List.getElem?_eq_getElem hlt
          generalize hyy : left[left.length - 1] = y at hy
          have hym : y ∈ left := List.mem_of_getElem? hy
          obtain ⟨hy1, hy2, hy3⟩ := hleft y hym
          have hsplit : left = left.take (left.length - 1) ++ [y] := by
            have := take_step (l := left) (k := left.length - 1) hlt
            rw [hyy, show left.length - 1 + 1 = left.length by omega, List.take_length] at this
            exact this
          have hw1 : IntKind.i64.wrap ((left.length : Int) - 1) = (left.length : Int) - 1 := wrap64 (by omega) (by omega)
          have hn1 : natI ((left.length : Int) - 1) = some (left.length - 1) := by rw [natI_nn (by omega)]; congr 1; omega
          have hgety : row[y.toNat]? = some (on row y.toNat) := get_on (by omega)
          have hsub : ∀ x ∈ left.take (left.length - 1), x ∈ left := fun x hx => List.mem_of_mem_take hx
          have hor : ∀ x ∈ left, x = y ∨ x ∈ left.take (left.length - 1) := by
            intro x hx
            rw [hsplit] at hx
            rcases List.mem_append.1 hx with hx | hx
            · exact .inr hx
            · exact .inl (by simpa using hx)
          have hlen1 : (left.take (left.length - 1)).length = left.length - 1 := by simp
          cases ho : on row y.toNat with
          | true =>
            refine ⟨(left.take (left.length - 1), row), ?_, ⟨hl, fun x hx => hleft x (hsub x hx), hrow, ?_, fun g hg' hw => ?_, ?_⟩, ?_⟩
            · simp only [B_actors_All_1, hpos, if_true, hw1, hn1, Option.bind_some, hy, show left.length - 1 ≤ left.length by omega, natI_nn hy1, hgety, ho]
            · rcases hself with h | h
              · exact .inl h
              · rcases hor _ h with rfl | h
                · left; simpa using ho
                · exact .inr h
            · rcases hcl g hg' hw with h | h
              · exact .inl h
              · rcases hor _ h with h | h
                · left; simp only; rw [h]; exact ho
                · exact .inr h
            · simp only [hlen1]; omega
            · simp only [hlen1]; omega
          | false =>
            have hbl : (left.take (left.length - 1)).length ≤ 1000 := by
              have : left.length ≤ 500 := Nat.le_trans (Nat.le_add_left _ _) hm
              omega
            have hin := inner out n row y.toNat y (left.take (left.length - 1)) hbl
            have hfl : ((a.Grants.filter (fun g => g.Who == y)).map (·.For)).length ≤ a.Grants.length := by rw [List.length_map]; exact List.length_filter_le ..
            have hyr : y.toNat < row.length := by omega
            have hcs := cnt_set hyr ho
            have hcle := cnt_le (row.set y.toNat true)
            rw [List.length_set, hl] at hcle
            have hmeas : (a.Many.toNat - cnt (row.set y.toNat true)) * (a.Grants.length + 1) + (left.take (left.length - 1) ++ (a.Grants.filter (fun g => g.Who == y)).map (·.For)).length < (a.Many.toNat - cnt row) * (a.Grants.length + 1) + left.length := by
              rw [List.length_append, hlen1, hcs]
              have e : a.Many.toNat - cnt row = (a.Many.toNat - (cnt row + 1)) + 1 := by omega
              rw [e, Nat.add_mul]
              omega
            refine ⟨(left.take (left.length - 1) ++ (a.Grants.filter (fun g => g.Who == y)).map (·.For), row.set y.toNat true), ?_, ⟨by simpa using hl, fun x hx => ?_, fun k hk => ?_, ?_, fun g hg' hw => ?_, ?_⟩, hmeas⟩
            · simp only [B_actors_All_1, hpos, if_true, hw1, hn1, Option.bind_some, hy, show left.length - 1 ≤ left.length by omega, natI_nn hy1, hgety, ho, hin, Bool.false_eq_true, if_false]
            · rcases List.mem_append.1 hx with hx | hx
              · exact hleft x (hsub x hx)
              · obtain ⟨g, hg', rfl⟩ := List.mem_map.1 hx
                obtain ⟨hg1, hg2⟩ := List.mem_filter.1 hg'
                have hwy : g.Who = y := by simpa using hg2
                obtain ⟨_, hf1, hf2⟩ := h4 g hg1
                exact ⟨hf1, hf2, .step g hy3 hg1 (by rw [hwy]; exact cast_toNat hy1)⟩
            · simp only at hk
              rw [on_set hyr] at hk
              simp only [Bool.or_eq_true, decide_eq_true_eq] at hk
              rcases hk with rfl | hk
              · exact hy3
              · exact hrow k hk
            · simp only
              rw [on_set hyr]
              rcases hself with h | h
              · left; rw [h]; simp
              · rcases hor _ h with h | h
                · left; rw [← h]; simp
                · exact .inr (List.mem_append_left _ h)
            · simp only at hw ⊢
              rw [on_set hyr] at hw ⊢
              simp only [Bool.or_eq_true, decide_eq_true_eq] at hw ⊢
              rcases hw with hw | hw
              · right
                refine List.mem_append_right _ (List.mem_map.2 ⟨g, List.mem_filter.2 ⟨hg', ?_⟩, rfl⟩)
                obtain ⟨⟨hf1, _⟩, _⟩ := h4 g hg'
                have : g.Who = y := by omega
                simpa using this
              · rcases hcl g hg' hw with h | h
                · exact .inl (.inr h)
                · rcases hor _ h with h | h
                  · left; left; rw [h]
                  · exact .inr (List.mem_append_left _ h)
            · exact Nat.le_trans (Nat.le_of_lt hmeas) hm
        · left
          have hnil : left = [] := List.eq_nil_of_length_eq_zero (by omega)
          subst hnil
          obtain ⟨hc1, hc2, hc3⟩ := reachRow_is hg hn
          have heq : row = reachRow a.Many.toNat a.Grants n := row_eq (hl.trans (reachRow_len ..).symm) (fun g hg' hw => (hcl g hg' hw).resolve_right (by simp)) (hself.resolve_right (by simp)) hrow hc1 hc2 hc3
          exact ⟨(row, [], false), by simp [B_actors_All_1], [], false, by rw [← heq]⟩)
    obtain ⟨r, h5, z2, z3, rfl⟩ := hw ([(n : Int)], List.replicate a.Many.toNat false) ⟨by simp, fun x hx => by
        obtain rfl : x = (n : Int) := by simpa using hx
        exact ⟨by omega, by omega, by simpa using Reach.refl⟩, fun k hk => by
        exfalso
        unfold on at hk
        rw [List.getD_eq_getElem?_getD, List.getElem?_replicate] at hk
        (split at hk <;> cases hk), .inr (by simp), fun g _ hw => by
        exfalso
        simp only at hw
        unfold on at hw
        rw [List.getD_eq_getElem?_getD, List.getElem?_replicate] at hw
        (split at hw <;> cases hw), by
        simp only [List.length_singleton]
        have h6 : (a.Many.toNat - cnt (List.replicate a.Many.toNat false)) * (a.Grants.length + 1) ≤ 6 * 21 := Nat.mul_le_mul (by omega) (by omega)
        omega⟩
    exact ⟨z2, z3, h5⟩
  have outer := lp_all (B := fun v => B_actors_All_0 a v.1 v.2) a.Many.toNat (fun n => ((List.range n).map (reachRow a.Many.toNat a.Grants), n)) (x := (allRows a.Many.toNat a.Grants, a.Many.toNat, false))
      (fun n hn => by
        obtain ⟨z2, z3, hin⟩ := middle ((List.range n).map (reachRow a.Many.toNat a.Grants)) n hn
        simp only [B_actors_All_0, show (n : Int) < a.Many by omega, if_true, natI_nn (show 0 ≤ a.Many by omega), Option.bind_some, show a.Many.toNat ≤ 1000000000 by omega, hin, wrapS n (by omega),
          show ((List.range n).map (reachRow a.Many.toNat a.Grants)).length + [reachRow a.Many.toNat a.Grants n].length ≤ 1000000000 by simp; omega, List.range_succ, List.map_append, List.map_cons, List.map_nil])
      (by simp only [B_actors_All_0, show ¬ ((a.Many.toNat : Nat) : Int) < a.Many by omega, if_false, allRows, decide_false])
  have outer' : lp (fun v => B_actors_All_0 a v.1 v.2) (([] : List (List Bool)), 0) = _ := outer
  simp only [F_actors_All, outer', Option.bind_some]
end
theorem allRows_get {m : Nat} {gs : List Grant} {i : Nat} (h : i < m) : (allRows m gs)[i]? = some (reachRow m gs i) := by
  unfold allRows; rw [List.getElem?_map, List.getElem?_range h]; rfl
theorem row_get {m : Nat} {gs : List Grant} {i k : Nat} (h : k < m) : (reachRow m gs i)[k]? = some (acts m gs i k) := get_on (by rw [reachRow_len]; exact h)
theorem inRange_iff {m n : Int} : inRange m n = true ↔ 0 ≤ n ∧ n < m := by simp [inRange]
end Go.Proofs.Ytjnhiggknkflfaa.A
