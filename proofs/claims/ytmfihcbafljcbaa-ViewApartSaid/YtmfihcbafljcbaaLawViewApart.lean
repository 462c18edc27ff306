/- ViewApart: Apart answers just what the document says, whatever two lists it is handed. For every input; nothing is assumed. -/
import Derived.Test.YtmfihcbafljcbaaFL
import Derived.Test.YtmfihcbafljcbaaFinds
import Derived.Test.YtmfihcbafljcbaaDec
import Derived.Test.YtmfihcbafljcbaaViewApartRow
set_option linter.unusedSectionVars false
set_option linter.unusedVariables false
set_option linter.unusedSimpArgs false
namespace Go.Proofs.Ytmfihcbafljcbaa.A
open Go
section
variable [Lp]
/-- both loops stop at the same place. -/
theorem apart_both (a b : List Event) (ha : a.length ≤ 9223372036854775807) : ∀ k i, a.length - i = k → i ≤ a.length → i ≤ b.length →
    ∃ j x, lp (B_R_ApartOf_0 a b) i = some (x, j) ∧ j ≤ a.length ∧ j ≤ b.length ∧ (if j = a.length ∧ j = b.length then ∃ y, lp (B_view_Apart_0 a b) i = some (.inr y) else lp (B_view_Apart_0 a b) i = some (.inl j)) := by
  intro k
  induction k using Nat.strongRecOn with
  | ind k ih =>
    intro i hk h1 h2
    by_cases h3 : i < a.length
    · have hm : (i : Int) < (if (b.length : Int) > (a.length : Int) then (b.length : Int) else (a.length : Int)) := by split <;> omega
      by_cases h4 : i < b.length
      · by_cases he : ((a[i].Kind == b[i].Kind) && ((a[i].At == b[i].At) && ((a[i].Which == b[i].Which) && ((a[i].Value == b[i].Value) && true)))) = true
        · have hw : IntKind.i64.wrap ((i : Int) + 1) = ((i + 1 : Nat) : Int) := wrapS i (by omega)
          have e1 : B_R_ApartOf_0 a b i = some (.inl (i + 1)) := by
            simp only [B_R_ApartOf_0, if_pos (show (i : Int) < (a.length : Int) by omega), if_pos (show (i : Int) < (b.length : Int) by omega), List.getElem?_eq_getElem h3, List.getElem?_eq_getElem h4, Option.bind_some, he, if_true, hw]
          have e2 : B_view_Apart_0 a b i = some (.inl (i + 1)) := by
            simp only [B_view_Apart_0, if_pos hm, if_neg (show ¬ (a.length : Int) ≤ (i : Int) by omega), if_neg (show ¬ (b.length : Int) ≤ (i : Int) by omega), List.getElem?_eq_getElem h3, List.getElem?_eq_getElem h4, Option.bind_some, he, if_true, hw]
          rw [lp_next e1, lp_next e2]
          exact ih (a.length - (i + 1)) (by omega) (i + 1) rfl (by omega) (by omega)
        · have e1 : lp (B_R_ApartOf_0 a b) i = some (_, i) := lp_end (by
            simp only [B_R_ApartOf_0, if_pos (show (i : Int) < (a.length : Int) by omega), if_pos (show (i : Int) < (b.length : Int) by omega), List.getElem?_eq_getElem h3, List.getElem?_eq_getElem h4, Option.bind_some, if_neg he]; rfl)
          have e2 : lp (B_view_Apart_0 a b) i = some (.inl i) := lp_end (by
            simp only [B_view_Apart_0, if_pos hm, if_neg (show ¬ (a.length : Int) ≤ (i : Int) by omega), if_neg (show ¬ (b.length : Int) ≤ (i : Int) by omega), List.getElem?_eq_getElem h3, List.getElem?_eq_getElem h4, Option.bind_some, if_neg he])
          exact ⟨i, _, e1, h1, h2, by rw [if_neg (by omega)]; exact e2⟩
      · have e1 : lp (B_R_ApartOf_0 a b) i = some (false, i) := lp_end (by
          simp only [B_R_ApartOf_0, if_pos (show (i : Int) < (a.length : Int) by omega), if_neg (show ¬ (i : Int) < (b.length : Int) by omega)])
        have e2 : lp (B_view_Apart_0 a b) i = some (.inl i) := lp_end (by
          simp only [B_view_Apart_0, if_pos hm, if_neg (show ¬ (a.length : Int) ≤ (i : Int) by omega), if_pos (show (b.length : Int) ≤ (i : Int) by omega)])
        exact ⟨i, _, e1, h1, h2, by rw [if_neg (by omega)]; exact e2⟩
    · have e1 : lp (B_R_ApartOf_0 a b) i = some (false, i) := lp_end (by
        simp only [B_R_ApartOf_0, if_neg (show ¬ (i : Int) < (a.length : Int) by omega)])
      by_cases h4 : i < b.length
      · have e2 : lp (B_view_Apart_0 a b) i = some (.inl i) := lp_end (by
          simp only [B_view_Apart_0, if_pos (show (i : Int) < (if (b.length : Int) > (a.length : Int) then (b.length : Int) else (a.length : Int)) by split <;> omega), if_pos (show (a.length : Int) ≤ (i : Int) by omega)])
        exact ⟨i, _, e1, h1, h2, by rw [if_neg (by omega)]; exact e2⟩
      · have e2 : lp (B_view_Apart_0 a b) i = some (.inr _) := lp_end (by
          simp only [B_view_Apart_0, if_neg (show ¬ (i : Int) < (if (b.length : Int) > (a.length : Int) then (b.length : Int) else (a.length : Int)) by split <;> omega)]; rfl)
        exact ⟨i, _, e1, h1, h2, by rw [if_pos (by omega)]; exact ⟨_, e2⟩⟩
theorem law_ViewApart (a b : List Event) (ha : a.length ≤ 9223372036854775807) : F_L_ViewApart a b = some true := by
  obtain ⟨j, x, h1, h2, h3, h4⟩ := apart_both a b ha _ 0 rfl (Nat.zero_le _) (Nat.zero_le _)
  unfold F_L_ViewApart F_L_viewBegun F_view_Apart F_R_ApartOf
  simp only [Option.bind_some, if_true, h1]
  split at h4
  · rename_i hj
    obtain ⟨y, h4⟩ := h4
    simp [h4, hj.1.symm, hj.2.symm]
  · rename_i hj
    simp only [h4, Option.bind_some]
    by_cases hja : j = a.length
    · have hjb : j ≠ b.length := fun e => hj ⟨hja, e⟩
      rw [if_pos (by simp [hja]), if_neg (by simp; omega)]
      simp
    · rw [if_neg (by simp; omega)]
      simp
end
end Go.Proofs.Ytmfihcbafljcbaa.A
namespace Go.Proofs.Ytmfihcbafljcbaa
open A Go
/-- ViewApart, as it is given. -/
theorem viewApart_proved : Rows.ViewApartSaid := by
  obtain ⟨L⟩ := lp_exists
  refine row_ViewApart fun ys hg => ?_
  obtain ⟨a, b, ha, hb, rfl⟩ := hg
  exact lift_L_ViewApart a b true (law_ViewApart a b (Nat.le_trans ha.1 (by decide)))
end Go.Proofs.Ytmfihcbafljcbaa
