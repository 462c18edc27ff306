/- ActorsClosed: who acts for one who acts for another one acts for that one; and with more grants nobody acts for fewer. For every input; nothing is assumed. -/
import Derived.Test.YtkiakaohhckepaaActsF
import Derived.Test.YtkiakaohhckepaaFActorsClosed
import Derived.Test.YtkiakaohhckepaaActorsClosedRow
set_option linter.unusedSectionVars false
set_option linter.unusedVariables false
set_option linter.unusedSimpArgs false
namespace Go.Proofs.Ytkiakaohhckepaa.A
open Go
section
variable [Lp]
theorem allRows_len (m : Nat) (gs : List Grant) : (allRows m gs).length = m := by simp [allRows]
theorem acts_refl {m i : Nat} {gs : List Grant} (hg : Good m gs) (hi : i < m) : acts m gs i i = true := (acts_iff hg hi).2 .refl
theorem acts_trans {m i j k : Nat} {gs : List Grant} (hg : Good m gs) (hi : i < m) (hj : j < m) (h : acts m gs i j = true) (h' : acts m gs j k = true) : acts m gs i k = true :=
  (acts_iff hg hi).2 (reach_trans ((acts_iff hg hi).1 h) ((acts_iff hg hj).1 h'))
theorem closed_loop (a : Actors) (g : Grant) (e : Int) (hok : checkA a = 0) : ∃ z, lp (fun v => B_L_ActorsClosed_0 a g (allRows a.Many.toNat a.Grants, e) v) 0 = some z := by
  obtain ⟨h1, h2, h3, h4⟩ := checkA_ok hok
  have hg := good_of a hok
  generalize hm : a.Many.toNat = m at *
  have hl := allRows_len m a.Grants
  have l2 : ∀ i k, i < m → k < m → lp (fun v => B_L_ActorsClosed_2 a g (allRows m a.Grants, e) i k v) 0 = some (m, false) := fun i k hi hk =>
    lp_all (B := fun v => B_L_ActorsClosed_2 a g (allRows m a.Grants, e) i k v) m id
      (fun n hn => by
        have hne : (((reachRow m a.Grants i).length : Int) != (m : Int)) = false := by rw [reachRow_len]; simp
        have ht := acts_trans hg hi hk (k := n)
        simp only [B_L_ActorsClosed_2, hl, id, show (n : Int) < (m : Int) by omega, if_true, allRows_get hi, allRows_get hk, Option.bind_some, hne, Bool.false_eq_true, if_false, row_get hi, row_get hk, row_get hn, acts_refl hg hi, wrapS n (by omega)]
        cases h5 : acts m a.Grants i k with
        | false => simp
        | true =>
          cases h6 : acts m a.Grants k n with
          | false => simp
          | true => simp [ht h5 h6])
      (by simp [B_L_ActorsClosed_2, hl])
  have l1 : ∀ i, i < m → lp (fun v => B_L_ActorsClosed_1 a g (allRows m a.Grants, e) i v) 0 = some (m, false) := fun i hi =>
    lp_all (B := fun v => B_L_ActorsClosed_1 a g (allRows m a.Grants, e) i v) m id
      (fun k hk => by simp [B_L_ActorsClosed_1, hl, hk, l2 i k hi hk, wrapS k (by omega)])
      (by simp [B_L_ActorsClosed_1, hl])
  exact ⟨_, lp_all (B := fun v => B_L_ActorsClosed_0 a g (allRows m a.Grants, e) v) m id
      (fun i hi => by simp [B_L_ActorsClosed_0, hl, hi, l1 i hi, wrapS i (by omega)])
      (x := (m, false)) (by simp [B_L_ActorsClosed_0, hl])⟩
theorem more_loop (m : Nat) (gs gs' : List Grant) (e e' : Int) (hm : m ≤ 6) (hg : Good m gs) (hg' : Good m gs') (hs : ∀ g ∈ gs, g ∈ gs') : ∃ z, lp (fun v => B_L_ActorsClosed_3 (allRows m gs, e) (allRows m gs', e') v) 0 = some z := by
  have hl := allRows_len m gs
  have l2 : ∀ i, i < m → lp (fun v => B_L_ActorsClosed_4 (allRows m gs, e) (allRows m gs', e') i v) 0 = some (m, false) := fun i hi =>
    lp_all (B := fun v => B_L_ActorsClosed_4 (allRows m gs, e) (allRows m gs', e') i v) m id
      (fun k hk => by
        have hmore : acts m gs i k = true → acts m gs' i k = true := fun h => (acts_iff hg' hi).2 (reach_more hs ((acts_iff hg hi).1 h))
        simp only [B_L_ActorsClosed_4, hl, id, show (k : Int) < (m : Int) by omega, if_true, allRows_get hi, Option.bind_some, row_get hk, wrapS k (by omega)]
        cases h5 : acts m gs i k with
        | false => simp
        | true => simp [hmore h5])
      (by simp [B_L_ActorsClosed_4, hl])
  exact ⟨_, lp_all (B := fun v => B_L_ActorsClosed_3 (allRows m gs, e) (allRows m gs', e') v) m id
      (fun i hi => by simp [B_L_ActorsClosed_3, hl, hi, l2 i hi, wrapS i (by omega)])
      (x := (m, false)) (by simp [B_L_ActorsClosed_3, hl])⟩
theorem law_ActorsClosed (a : Actors) (g : Grant) : F_L_ActorsClosed a g = some true := by
  unfold F_L_ActorsClosed
  simp only [F_for, F_begunA, Option.bind_some, if_true]
  by_cases hok : checkA a = 0
  · obtain ⟨h1, h2, h3, h4⟩ := checkA_ok hok
    obtain ⟨z, hz⟩ := closed_loop a g 0 hok
    have hr1 : ([] : List Grant).length + a.Grants.length ≤ 1000000000 := by simp; omega
    have hr2 : (([] : List Grant) ++ a.Grants).length + [g].length ≤ 1000000000 := by simp; omega
    by_cases hb : checkA ⟨a.Many, ([] ++ a.Grants) ++ [g]⟩ = 0
    · obtain ⟨z', hz'⟩ := more_loop a.Many.toNat a.Grants (([] ++ a.Grants) ++ [g]) 0 0 (by omega) (good_of a hok) (good_of _ hb) (fun x hx => by simp [hx])
      simp only [hok, hb, if_true, hz, hr1, hr2, hz', Option.bind_some]
      rfl
    · simp only [hok, hb, if_true, if_false, hz, hr1, hr2, Option.bind_some]
      have hb' : (checkA ⟨a.Many, ([] ++ a.Grants) ++ [g]⟩ != 0) = true := bne_iff_ne.2 hb
      simp only [hb', if_true]
      rfl
  · simp [hok]
end
end Go.Proofs.Ytkiakaohhckepaa.A
namespace Go.Proofs.Ytkiakaohhckepaa
open A Go
/-- ActorsClosed, as it is given. -/
theorem actorsClosed_proved : Rows.ActorsClosedSaid := by
  obtain ⟨L⟩ := lp_exists
  refine row_ActorsClosed fun ys hg => ?_
  obtain ⟨a, g, _, _, rfl⟩ := hg
  exact lift_L_ActorsClosed a g true (law_ActorsClosed a g)
end Go.Proofs.Ytkiakaohhckepaa
