/- LabelMore: with one policy more fewer may read, or have written; who owns may always. For every input; nothing is assumed. -/
import Derived.Test.YtkiakaohhckepaaLabelH
import Derived.Test.YtkiakaohhckepaaFLabelMore
import Derived.Test.YtkiakaohhckepaaLabelMoreRow
set_option linter.unusedSectionVars false
set_option linter.unusedVariables false
set_option linter.unusedSimpArgs false
namespace Go.Proofs.Ytkiakaohhckepaa.A
open Go
section
variable [Lp]
theorem map_get? {n k : Nat} (f : Nat → Bool) (h : k < n) : ((List.range n).map f)[k]? = some (f k) := by
  rw [List.getElem?_map, List.getElem?_range h]; rfl
theorem mayP_more (m : Nat) (gs : List Grant) (ps : List Policy) (p : Policy) (who : Nat) : mayP m gs (ps ++ [p]) who = (mayP m gs ps who && (acts m gs who p.Owner.toNat || p.Names.any fun n => acts m gs who n.toNat)) := by
  simp [mayP, List.all_append]
theorem law_LabelMore (a : Actors) (l : Label) (p : Policy) : F_L_LabelMore a l p = some true := by
  unfold F_L_LabelMore
  simp only [F_level, F_begunL, Option.bind_some, if_true]
  by_cases h : labelE a l = 0
  · have hc : checkA a = 0 ∧ fitsE a.Many l = 0 := by
      unfold labelE at h
      split at h
      · rename_i h1; exact absurd h h1
      · rename_i h1; exact ⟨Classical.not_not.1 h1, h⟩
    obtain ⟨hok, hf⟩ := hc
    have hm := many_of hok
    obtain ⟨l1, l2⟩ := fitsE_ok hf
    have hr := (listE_ok l1).1
    have hw := (listE_ok l2).1
    have r1 : ([] : List Policy).length + l.Read.length ≤ 1000000000 := by simp; omega
    have r2 : (([] : List Policy) ++ l.Read).length + [p].length ≤ 1000000000 := by simp; omega
    have r3 : ([] : List Policy).length + l.Write.length ≤ 1000000000 := by simp; omega
    have r4 : (([] : List Policy) ++ l.Write).length + [p].length ≤ 1000000000 := by simp; omega
    have r5 : l.Read.length + [p].length ≤ 1000000000 := by simp; omega
    have r6 : l.Write.length + [p].length ≤ 1000000000 := by simp; omega
    simp only [h, if_true, r1, r2, r3, r4, r5, r6, List.nil_append, Option.bind_some]
    by_cases h' : labelE a ⟨l.Read ++ [p], l.Write ++ [p]⟩ = 0
    · have hf' : fitsE a.Many ⟨l.Read ++ [p], l.Write ++ [p]⟩ = 0 := by
        unfold labelE at h'
        rwa [if_neg (by simpa using hok)] at h'
      obtain ⟨q1, _⟩ := fitsE_ok hf'
      have hp := policyE_ok ((listE_ok q1).2 p (by simp))
      have hbr : ∀ f : Nat → Bool, ((((List.range a.Many.toNat).map f).length : Int) != a.Many) = false := fun f => by simp; omega
      obtain ⟨ho1, ho2⟩ := inRange_iff.1 hp.1
      have hacts : ∀ k : Nat, k < a.Many.toNat → F_R_ActsFor a (k : Int) p.Owner = some (acts a.Many.toNat a.Grants k p.Owner.toNat) := fun k hk => by
        have := F_actsFor a hok k p.Owner (inRange_iff.2 (by omega)) hp.1
        simpa using this
      have hl := lp_all (B := fun v => B_L_LabelMore_0 a p (levelOf a l, 0) (levelOf a ⟨l.Read ++ [p], l.Write ++ [p]⟩, 0) v) a.Many.toNat id (x := (a.Many.toNat, false))
        (fun k hk => by
          simp only [B_L_LabelMore_0, id, show (k : Int) < a.Many by omega, if_true, levelOf, map_get? _ hk, Option.bind_some, mayP_more, hacts k hk, wrapS k (by omega)]
          cases mayP a.Many.toNat a.Grants l.Read k <;> cases mayP a.Many.toNat a.Grants l.Write k <;> cases acts a.Many.toNat a.Grants k p.Owner.toNat <;> cases (p.Names.any fun n => acts a.Many.toNat a.Grants k n.toNat) <;> simp)
        (by simp only [B_L_LabelMore_0, id, show ¬ ((a.Many.toNat : Nat) : Int) < a.Many by omega, if_false, decide_false])
      have hl' : lp (fun v => B_L_LabelMore_0 a p (levelOf a l, 0) (levelOf a ⟨l.Read ++ [p], l.Write ++ [p]⟩, 0) v) 0 = _ := hl
      simp only [h', if_true, hl', Option.bind_some]
      simp only [levelOf, hbr]
      simp
    · have hb : (labelE a ⟨l.Read ++ [p], l.Write ++ [p]⟩ != 0) = true := bne_iff_ne.2 h'
      simp only [h', if_false, hb, if_true]
      simp
  · simp [h]
end
end Go.Proofs.Ytkiakaohhckepaa.A
namespace Go.Proofs.Ytkiakaohhckepaa
open A Go
/-- LabelMore, as it is given. -/
theorem labelMore_proved : Rows.LabelMoreSaid := by
  obtain ⟨L⟩ := lp_exists
  refine row_LabelMore fun ys hg => ?_
  obtain ⟨a, l, p, _, _, _, rfl⟩ := hg
  exact lift_L_LabelMore a l p true (law_LabelMore a l p)
end Go.Proofs.Ytkiakaohhckepaa
