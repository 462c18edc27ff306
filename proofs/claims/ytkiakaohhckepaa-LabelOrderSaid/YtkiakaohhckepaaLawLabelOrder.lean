/- LabelOrder: levels are ordered; what both flow to join flows to, what flows to both flows to meet. For every input; nothing is assumed. -/
import Derived.Test.YtkiakaohhckepaaLabelH
import Derived.Test.YtkiakaohhckepaaFLabelOrder
import Derived.Test.YtkiakaohhckepaaLabelOrderRow
set_option linter.unusedSectionVars false
set_option linter.unusedVariables false
set_option linter.unusedSimpArgs false
namespace Go.Proofs.Ytkiakaohhckepaa.A
open Go
variable [Lp]
theorem underB_iff {n : Nat} {l m : Level} : underB n l m = true ↔ ∀ k, k < n → (on m.Readers k = true → on l.Readers k = true) ∧ (on l.Writers k = true → on m.Writers k = true) := by
  unfold underB impB
  simp only [Bool.and_eq_true, List.all_eq_true, List.mem_range, Bool.or_eq_true, Bool.not_eq_eq_eq_not, Bool.not_true]
  constructor
  · rintro ⟨h1, h2⟩ k hk
    exact ⟨fun h => (h1 k hk).resolve_left (by simp [h]), fun h => (h2 k hk).resolve_left (by simp [h])⟩
  · intro h
    refine ⟨fun k hk => ?_, fun k hk => ?_⟩
    · cases hq : on m.Readers k with
      | false => exact .inl rfl
      | true => exact .inr ((h k hk).1 hq)
    · cases hq : on l.Writers k with
      | false => exact .inl rfl
      | true => exact .inr ((h k hk).2 hq)
theorem on_map {n k : Nat} (f : Nat → Bool) (h : k < n) : on ((List.range n).map f) k = f k := by
  unfold on
  rw [List.getD_eq_getElem?_getD, List.getElem?_map, List.getElem?_range h]; rfl
theorem on_and {n k : Nat} {x y : List Bool} (h : k < n) : on (andB n x y) k = (on x k && on y k) := on_map _ h
theorem on_or {n k : Nat} {x y : List Bool} (h : k < n) : on (orB n x y) k = (on x k || on y k) := on_map _ h
theorem row_ext {x y : List Bool} (hl : x.length = y.length) (h : ∀ k, k < x.length → on x k = on y k) : x = y := by
  apply List.ext_getElem hl
  intro k h1 h2
  have e1 := get_on h1
  have e2 := get_on h2
  rw [List.getElem?_eq_getElem h1] at e1
  rw [List.getElem?_eq_getElem h2] at e2
  rw [Option.some.inj e1, Option.some.inj e2, h k h1]
section
variable {n : Nat} {l m x : Level}
theorem under_refl : underB n l l = true := underB_iff.2 fun k _ => ⟨id, id⟩
theorem under_trans (h : underB n l m = true) (h' : underB n m x = true) : underB n l x = true :=
  underB_iff.2 fun k hk => ⟨fun hx => (underB_iff.1 h k hk).1 ((underB_iff.1 h' k hk).1 hx), fun hx => (underB_iff.1 h' k hk).2 ((underB_iff.1 h k hk).2 hx)⟩
theorem under_same (hl : SizedL n l) (hm : SizedL n m) (h : underB n l m = true) (h' : underB n m l = true) : l.Readers = m.Readers ∧ l.Writers = m.Writers := by
  refine ⟨row_ext (hl.1.trans hm.1.symm) fun k hk => ?_, row_ext (hl.2.trans hm.2.symm) fun k hk => ?_⟩
  · rw [Bool.eq_iff_iff]
    have hk' : k < n := by rw [← hl.1]; exact hk
    exact ⟨(underB_iff.1 h' k hk').1, (underB_iff.1 h k hk').1⟩
  · rw [Bool.eq_iff_iff]
    have hk' : k < n := by rw [← hl.2]; exact hk
    exact ⟨(underB_iff.1 h k hk').2, (underB_iff.1 h' k hk').2⟩
theorem under_join1 : underB n l (joinL n l m) = true := underB_iff.2 fun k hk => ⟨fun h => by rw [joinL, on_and hk] at h; exact (Bool.and_eq_true_iff.1 h).1, fun h => by rw [joinL, on_or hk, h]; rfl⟩
theorem under_join2 : underB n m (joinL n l m) = true := underB_iff.2 fun k hk => ⟨fun h => by rw [joinL, on_and hk] at h; exact (Bool.and_eq_true_iff.1 h).2, fun h => by rw [joinL, on_or hk, h, Bool.or_true]⟩
theorem under_meet1 : underB n (meetL n l m) l = true := underB_iff.2 fun k hk => ⟨fun h => by rw [meetL, on_or hk, h]; rfl, fun h => by rw [meetL, on_and hk] at h; exact (Bool.and_eq_true_iff.1 h).1⟩
theorem under_meet2 : underB n (meetL n l m) m = true := underB_iff.2 fun k hk => ⟨fun h => by rw [meetL, on_or hk, h, Bool.or_true], fun h => by rw [meetL, on_and hk] at h; exact (Bool.and_eq_true_iff.1 h).2⟩
theorem join_under : underB n (joinL n l m) x = (underB n l x && underB n m x) := by
  rw [Bool.eq_iff_iff, Bool.and_eq_true]
  constructor
  · exact fun h => ⟨under_trans under_join1 h, under_trans under_join2 h⟩
  · rintro ⟨h1, h2⟩
    refine underB_iff.2 fun k hk => ⟨fun h => ?_, fun h => ?_⟩
    · rw [joinL, on_and hk, (underB_iff.1 h1 k hk).1 h, (underB_iff.1 h2 k hk).1 h]; rfl
    · rw [joinL, on_or hk] at h
      rcases Bool.or_eq_true_iff.1 h with h | h
      · exact (underB_iff.1 h1 k hk).2 h
      · exact (underB_iff.1 h2 k hk).2 h
theorem under_meet : underB n x (meetL n l m) = (underB n x l && underB n x m) := by
  rw [Bool.eq_iff_iff, Bool.and_eq_true]
  constructor
  · exact fun h => ⟨under_trans h under_meet1, under_trans h under_meet2⟩
  · rintro ⟨h1, h2⟩
    refine underB_iff.2 fun k hk => ⟨fun h => ?_, fun h => ?_⟩
    · rw [meetL, on_or hk] at h
      rcases Bool.or_eq_true_iff.1 h with h | h
      · exact (underB_iff.1 h1 k hk).1 h
      · exact (underB_iff.1 h2 k hk).1 h
    · rw [meetL, on_and hk, (underB_iff.1 h1 k hk).2 h, (underB_iff.1 h2 k hk).2 h]; rfl
end
section
theorem order_flows {a : Actors} (hok : checkA a = 0) {x y : Level} (hx : SizedL a.Many.toNat x) (hy : SizedL a.Many.toNat y) : F_L_LabelOrder_1 x y a = some (underB a.Many.toNat x y) := by
  have hm := many_of hok
  have h1 : sizedE a x = true := decide_eq_true ⟨by have := hx.1; omega, by have := hx.2; omega⟩
  have h2 : sizedE a y = true := decide_eq_true ⟨by have := hy.1; omega, by have := hy.2; omega⟩
  have hr : readyE a [x, y] = 0 := by simp [readyE, hok, h1, h2]
  unfold F_L_LabelOrder_1
  rw [F_flows, hr]
  cases underB a.Many.toNat x y <;> simp
theorem law_LabelOrder (a : Actors) (l m x : Level) : F_L_LabelOrder a l m x = some true := by
  unfold F_L_LabelOrder
  simp only [F_join, F_meet, F_begunL, F_right, Option.bind_some, if_true, D_L_LabelOrder_d3]
  by_cases hr : readyE a [l, m] = 0
  · by_cases hx : readyE a [x] = 0
    · obtain ⟨hok, hs⟩ := readyE_ok hr
      obtain ⟨_, hs'⟩ := readyE_ok hx
      have sl := hs l (by simp)
      have sm := hs m (by simp)
      have sx := hs' x (by simp)
      have sj := sized_join a.Many.toNat l m
      have sk := sized_meet a.Many.toNat l m
      have hmany := many_of hok
      have hsame : F_R_SameLevel l m = some (decide (l.Readers = m.Readers ∧ l.Writers = m.Writers)) := F_sameLevel l m (by rw [sl.1]; omega) (by rw [sl.2]; omega)
      simp only [hr, hx, if_true, order_flows hok sl sl, order_flows hok sl sj, order_flows hok sm sj, order_flows hok sk sl, order_flows hok sk sm, order_flows hok sl sm, order_flows hok sm sx, order_flows hok sl sx, order_flows hok sm sl,
        order_flows hok sj sx, order_flows hok sx sk, order_flows hok sx sl, order_flows hok sx sm, hsame, Option.bind_some, under_refl, under_join1, under_join2, under_meet1, under_meet2, join_under, under_meet]
      have ht := under_trans (n := a.Many.toNat) (l := l) (m := m) (x := x)
      have he := under_same sl sm
      cases h1 : underB a.Many.toNat l m with
      | false => cases h3 : underB a.Many.toNat l x <;> cases h4 : underB a.Many.toNat m x <;> cases h5 : underB a.Many.toNat x l <;> cases h6 : underB a.Many.toNat x m <;> simp
      | true =>
        cases h2 : underB a.Many.toNat m l with
        | false =>
          cases h4 : underB a.Many.toNat m x with
          | false => cases h3 : underB a.Many.toNat l x <;> cases h5 : underB a.Many.toNat x l <;> cases h6 : underB a.Many.toNat x m <;> simp
          | true => rw [ht h1 h4]; cases h5 : underB a.Many.toNat x l <;> cases h6 : underB a.Many.toNat x m <;> simp
        | true =>
          have hd : decide (l.Readers = m.Readers ∧ l.Writers = m.Writers) = true := decide_eq_true (he h1 h2)
          rw [hd]
          cases h4 : underB a.Many.toNat m x with
          | false => cases h3 : underB a.Many.toNat l x <;> cases h5 : underB a.Many.toNat x l <;> cases h6 : underB a.Many.toNat x m <;> simp
          | true => rw [ht h1 h4]; cases h5 : underB a.Many.toNat x l <;> cases h6 : underB a.Many.toNat x m <;> simp
    · simp [hr, hx]
  · simp [hr]
end
end Go.Proofs.Ytkiakaohhckepaa.A
namespace Go.Proofs.Ytkiakaohhckepaa
open A Go
/-- LabelOrder, as it is given. -/
theorem labelOrder_proved : Rows.LabelOrderSaid := by
  obtain ⟨L⟩ := lp_exists
  refine row_LabelOrder fun ys hg => ?_
  obtain ⟨a, l, m, x, _, _, _, _, rfl⟩ := hg
  exact lift_L_LabelOrder a l m x true (law_LabelOrder a l m x)
end Go.Proofs.Ytkiakaohhckepaa
