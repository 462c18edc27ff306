/- ActorsTell: all calls of actors answer just what the document says, errors too, whatever they are handed. For every input; nothing is assumed. -/
import Derived.Test.YtkiakaohhckepaaActsF
import Derived.Test.YtkiakaohhckepaaFActorsTell
import Derived.Test.YtkiakaohhckepaaActorsTellRow
set_option linter.unusedSectionVars false
set_option linter.constructorNameAsVariable false
namespace Go.Proofs.Ytkiakaohhckepaa.A
open Go
section
variable [Lp]
theorem tell_loop (a : Actors) (e : Int) (hok : checkA a = 0) : ∃ z, lp (fun v => B_L_ActorsTell_0 a (allRows a.Many.toNat a.Grants, e) v) 0 = some z := by
  obtain ⟨h1, h2, h3, h4⟩ := checkA_ok hok
  have hr : ∀ {i k : Nat}, i < a.Many.toNat → k < a.Many.toNat → F_R_ActsFor a i k = some (acts a.Many.toNat a.Grants i k) := fun {i k} hi hk => by
    have := F_actsFor a hok i k (inRange_iff.2 (by omega)) (inRange_iff.2 (by omega))
    simpa using this
  have inner : ∀ i, i < a.Many.toNat → lp (fun v => B_L_ActorsTell_1 a (allRows a.Many.toNat a.Grants, e) i v) 0 = some (a.Many.toNat, false) := fun i hi =>
    lp_all (B := fun v => B_L_ActorsTell_1 a (allRows a.Many.toNat a.Grants, e) i v) a.Many.toNat id
      (fun k hk => by simp [B_L_ActorsTell_1, show (k : Int) < a.Many by omega, allRows_get hi, row_get hk, hr hi hk, wrapS k (by omega)])
      (by simp only [B_L_ActorsTell_1, id, show ¬ ((a.Many.toNat : Nat) : Int) < a.Many by omega, if_false, decide_false])
  exact ⟨_, lp_all (B := fun v => B_L_ActorsTell_0 a (allRows a.Many.toNat a.Grants, e) v) a.Many.toNat id
      (fun i hi => by
        have hm : (((reachRow a.Many.toNat a.Grants i).length : Int) != a.Many) = false := by rw [reachRow_len]; simp; omega
        simp [B_L_ActorsTell_0, show (i : Int) < a.Many by omega, allRows_get hi, hm, inner i hi, wrapS i (by omega)])
      (x := (a.Many.toNat, false)) (by simp only [B_L_ActorsTell_0, id, show ¬ ((a.Many.toNat : Nat) : Int) < a.Many by omega, if_false, decide_false])⟩
theorem law_ActorsTell (a : Actors) (who other : Int) : F_L_ActorsTell a who other = some true := by
  unfold F_L_ActorsTell
  simp only [F_for, F_acts, F_checkActors, F_begunA, F_check, Option.bind_some]
  by_cases hok : checkA a = 0
  · obtain ⟨h1, h2, h3, h4⟩ := checkA_ok hok
    obtain ⟨z, hz⟩ := tell_loop a 0 hok
    have hlen : (((allRows a.Many.toNat a.Grants).length : Int) != a.Many) = false := by simp [allRows]; omega
    have hi := fun n => F_isActor a n ⟨h1, h2⟩
    cases hw : inRange a.Many who with
    | false => simp [hok, hi, hw, actsA, hz, hlen]
    | true =>
      cases ho : inRange a.Many other with
      | false => simp [hok, hi, hw, ho, actsA, hz, hlen]
      | true => simp [hok, hi, hw, ho, actsA, hz, hlen, F_actsFor a hok who other hw ho]
  · simp [hok, actsA]
end
end Go.Proofs.Ytkiakaohhckepaa.A
namespace Go.Proofs.Ytkiakaohhckepaa
open A Go
/-- ActorsTell, as it is given. -/
theorem actorsTell_proved : Rows.ActorsTellSaid := by
  obtain ⟨L⟩ := lp_exists
  refine row_ActorsTell fun ys hg => ?_
  obtain ⟨a, who, other, _, _, _, rfl⟩ := hg
  exact lift_L_ActorsTell a who other true (law_ActorsTell a who other)
end Go.Proofs.Ytkiakaohhckepaa
