/- label: flows, joins, meets; the document's. -/
import Derived.Test.YtkiakaohhckepaaLabelG
set_option linter.unusedSectionVars false
set_option linter.unusedVariables false
set_option linter.unusedSimpArgs false
namespace Go.Proofs.Ytkiakaohhckepaa.A
open Go
variable [Lp]
def underB (n : Nat) (l m : Level) : Bool := impB n m.Readers l.Readers && impB n l.Writers m.Writers
def joinL (n : Nat) (l m : Level) : Level := ⟨andB n l.Readers m.Readers, orB n l.Writers m.Writers⟩
def meetL (n : Nat) (l m : Level) : Level := ⟨orB n l.Readers m.Readers, andB n l.Writers m.Writers⟩
theorem readyE_ok {a : Actors} {ls : List Level} (h : readyE a ls = 0) : checkA a = 0 ∧ ∀ l ∈ ls, SizedL a.Many.toNat l := by
  unfold readyE at h
  split at h
  · rename_i h1; exact absurd h h1
  · rename_i h1
    split at h
    · cases h
    · rename_i h2
      refine ⟨Classical.not_not.1 h1, fun l hl => ?_⟩
      have : ¬ sizedE a l = false := fun he => h2 (List.any_eq_true.2 ⟨l, hl, by rw [he]; rfl⟩)
      have hs : sizedE a l = true := by simpa using this
      unfold sizedE at hs
      obtain ⟨h3, h4⟩ := of_decide_eq_true hs
      exact ⟨by omega, by omega⟩
theorem many_of {a : Actors} (h : checkA a = 0) : a.Many.toNat ≤ 6 ∧ 1 ≤ a.Many.toNat ∧ ((a.Many.toNat : Nat) : Int) = a.Many := by
  obtain ⟨h1, h2, _⟩ := checkA_ok h
  omega
section
variable {n : Nat} (hn : n ≤ 1000000) {l m : Level} (hl : SizedL n l) (hm : SizedL n m)
include hn hl hm
theorem F_under : F_label_Under l m = some (underB n l m) := by
  unfold F_label_Under underB
  rw [F_impB hn hm.1 hl.1, F_impB hn hl.2 hm.2, Option.bind_some]
  cases impB n m.Readers l.Readers <;> simp
theorem F_both : F_label_Both l m = some (joinL n l m) := by
  simp only [F_label_Both, F_andB hn hl.1 hm.1, F_orB hn hl.2 hm.2, Option.bind_some, joinL]
theorem F_flowsTo : F_R_FlowsTo l m = some (underB n l m) := by
  obtain ⟨h1, h2⟩ := hl
  obtain ⟨h3, h4⟩ := hm
  have h := lp_any0 (B := fun v => B_R_FlowsTo_0 l m v) n (fun k => !((!on m.Readers k || on l.Readers k) && (!on l.Writers k || on m.Writers k))) id (x := .inl ()) (y := .inr (n, false))
    (fun k hk hp => by
      simp only [B_R_FlowsTo_0, id, show (k : Int) < (l.Readers.length : Int) by omega, if_true, get_on (show k < l.Readers.length by omega), get_on (show k < l.Writers.length by omega), get_on (show k < m.Readers.length by omega), get_on (show k < m.Writers.length by omega), Option.bind_some, wrapS k (by omega)]
      revert hp
      cases on m.Readers k <;> cases on l.Readers k <;> cases on l.Writers k <;> cases on m.Writers k <;> simp)
    (fun k hk hp => by
      simp only [B_R_FlowsTo_0, id, show (k : Int) < (l.Readers.length : Int) by omega, if_true, get_on (show k < l.Readers.length by omega), get_on (show k < l.Writers.length by omega), get_on (show k < m.Readers.length by omega), get_on (show k < m.Writers.length by omega), Option.bind_some, wrapS k (by omega)]
      revert hp
      cases on m.Readers k <;> cases on l.Readers k <;> cases on l.Writers k <;> cases on m.Writers k <;> simp)
    (by simp [B_R_FlowsTo_0, h1])
  have h' : lp (fun v => B_R_FlowsTo_0 l m v) 0 = _ := h
  simp only [F_R_FlowsTo, h', Option.bind_some]
  have e : underB n l m = !(List.range n).any (fun k => !((!on m.Readers k || on l.Readers k) && (!on l.Writers k || on m.Writers k))) := by
    rw [notAny]
    unfold underB impB
    rw [Bool.eq_iff_iff]
    simp only [Bool.and_eq_true, List.all_eq_true]
    exact ⟨fun ⟨h1, h2⟩ x hx => ⟨h1 x hx, h2 x hx⟩, fun h => ⟨fun x hx => (h x hx).1, fun x hx => (h x hx).2⟩⟩
  rw [e]
  cases (List.range n).any (fun k => !((!on m.Readers k || on l.Readers k) && (!on l.Writers k || on m.Writers k))) <;> simp
theorem F_joinLevels : F_R_JoinLevels l m = some (joinL n l m) := by
  obtain ⟨h1, h2⟩ := hl
  obtain ⟨h3, h4⟩ := hm
  have h := lp_all (B := fun v => B_R_JoinLevels_0 l m v.1 v.2.1 v.2.2) n (fun k => (k, andB k l.Readers m.Readers, orB k l.Writers m.Writers)) (x := (n, false, andB n l.Readers m.Readers, orB n l.Writers m.Writers))
    (fun k hk => by
      have r1 : ∀ b : Bool, (andB k l.Readers m.Readers).length + [b].length ≤ 1000000000 := fun b => by simp [andB]; omega
      have r2 : ∀ b : Bool, (orB k l.Writers m.Writers).length + [b].length ≤ 1000000000 := fun b => by simp [orB]; omega
      simp only [B_R_JoinLevels_0, show (k : Int) < (l.Readers.length : Int) by omega, if_true, get_on (show k < l.Readers.length by omega), get_on (show k < l.Writers.length by omega), get_on (show k < m.Readers.length by omega), get_on (show k < m.Writers.length by omega), Option.bind_some, wrapS k (by omega), r1, r2,
        show andB (k + 1) l.Readers m.Readers = andB k l.Readers m.Readers ++ [on l.Readers k && on m.Readers k] by simp [andB, List.range_succ], show orB (k + 1) l.Writers m.Writers = orB k l.Writers m.Writers ++ [on l.Writers k || on m.Writers k] by simp [orB, List.range_succ]]
      cases on l.Readers k <;> cases on l.Writers k <;> simp)
    (by simp [B_R_JoinLevels_0, h1])
  have h' : lp (fun v => B_R_JoinLevels_0 l m v.1 v.2.1 v.2.2) (0, ([] : List Bool), ([] : List Bool)) = _ := h
  simp only [F_R_JoinLevels, h', Option.bind_some, joinL]
theorem F_meetLevels : F_R_MeetLevels l m = some (meetL n l m) := by
  obtain ⟨h1, h2⟩ := hl
  obtain ⟨h3, h4⟩ := hm
  have h := lp_all (B := fun v => B_R_MeetLevels_0 l m v.1 v.2.1 v.2.2) n (fun k => (k, orB k l.Readers m.Readers, andB k l.Writers m.Writers)) (x := (n, false, orB n l.Readers m.Readers, andB n l.Writers m.Writers))
    (fun k hk => by
      have r1 : ∀ b : Bool, (orB k l.Readers m.Readers).length + [b].length ≤ 1000000000 := fun b => by simp [orB]; omega
      have r2 : ∀ b : Bool, (andB k l.Writers m.Writers).length + [b].length ≤ 1000000000 := fun b => by simp [andB]; omega
      simp only [B_R_MeetLevels_0, show (k : Int) < (l.Readers.length : Int) by omega, if_true, get_on (show k < l.Readers.length by omega), get_on (show k < l.Writers.length by omega), get_on (show k < m.Readers.length by omega), get_on (show k < m.Writers.length by omega), Option.bind_some, wrapS k (by omega), r1, r2,
        show orB (k + 1) l.Readers m.Readers = orB k l.Readers m.Readers ++ [on l.Readers k || on m.Readers k] by simp [orB, List.range_succ], show andB (k + 1) l.Writers m.Writers = andB k l.Writers m.Writers ++ [on l.Writers k && on m.Writers k] by simp [andB, List.range_succ]]
      cases on l.Readers k <;> cases on l.Writers k <;> simp)
    (by simp [B_R_MeetLevels_0, h1])
  have h' : lp (fun v => B_R_MeetLevels_0 l m v.1 v.2.1 v.2.2) (0, ([] : List Bool), ([] : List Bool)) = _ := h
  simp only [F_R_MeetLevels, h', Option.bind_some, meetL]
end
theorem sized_join (n : Nat) (l m : Level) : SizedL n (joinL n l m) := by simp [SizedL, joinL, andB, orB]
theorem sized_meet (n : Nat) (l m : Level) : SizedL n (meetL n l m) := by simp [SizedL, meetL, andB, orB]
theorem sized_level (a : Actors) (l : Label) : SizedL a.Many.toNat (levelOf a l) := by simp [SizedL, levelOf]
def L0 : Level := ⟨[], []⟩
theorem F_right (a : Actors) (l : Level) : F_label_Right a l = some (readyE a [l]) := by simp [F_label_Right, F_ready]
theorem F_flows (a : Actors) (l m : Level) : F_label_Flows a l m = some (if readyE a [l, m] = 0 then (underB a.Many.toNat l m, 0) else (false, readyE a [l, m])) := by
  unfold F_label_Flows
  rw [F_ready a _ (by simp), Option.bind_some]
  by_cases h : readyE a [l, m] = 0
  · obtain ⟨hok, hs⟩ := readyE_ok h
    have hm := many_of hok
    simp [h, F_under (n := a.Many.toNat) (by omega) (hs l (by simp)) (hs m (by simp))]
  · simp [h]
theorem F_join (a : Actors) (l m : Level) : F_label_Join a l m = some (if readyE a [l, m] = 0 then (joinL a.Many.toNat l m, 0) else (L0, readyE a [l, m])) := by
  unfold F_label_Join
  rw [F_ready a _ (by simp), Option.bind_some]
  by_cases h : readyE a [l, m] = 0
  · obtain ⟨hok, hs⟩ := readyE_ok h
    have hm := many_of hok
    simp [h, F_both (n := a.Many.toNat) (by omega) (hs l (by simp)) (hs m (by simp))]
  · simp [h, L0]
theorem F_meet (a : Actors) (l m : Level) : F_label_Meet a l m = some (if readyE a [l, m] = 0 then (meetL a.Many.toNat l m, 0) else (L0, readyE a [l, m])) := by
  unfold F_label_Meet
  rw [F_ready a _ (by simp), Option.bind_some]
  by_cases h : readyE a [l, m] = 0
  · obtain ⟨hok, hs⟩ := readyE_ok h
    have hm := many_of hok
    simp [h, F_orB (n := a.Many.toNat) (by omega) (hs l (by simp)).1 (hs m (by simp)).1, F_andB (n := a.Many.toNat) (by omega) (hs l (by simp)).2 (hs m (by simp)).2, meetL]
  · simp [h, L0]
theorem F_checkLevel (a : Actors) (l : Level) : F_R_CheckLevel a l = some (if sizedE a l = true then 0 else 1) := by
  unfold F_R_CheckLevel sizedE
  by_cases h : (l.Readers.length : Int) = a.Many
  · by_cases h2 : (l.Writers.length : Int) = a.Many <;> simp [h, h2]
  · simp [h]
/-- a level beside an errno. -/
theorem F_levelIs (x want : Level) (e w : Int) (hx : x.Readers.length ≤ 1000000000 ∧ x.Writers.length ≤ 1000000000) (h : e = w) (h1 : w ≠ 0 → x = L0) (h2 : w = 0 → x = want) : F_L_levelIs x e w want = some true := by
  unfold F_L_levelIs
  subst h
  by_cases hw : e = 0
  · have := h2 hw
    subst this
    have := F_sameLevel x x hx.1 hx.2
    simp [hw, D_L_levelIs_d0, this]
  · have := h1 hw
    subst this
    have := F_sameLevel L0 ⟨[], []⟩ (by simp [L0]) (by simp [L0])
    simp [L0] at this
    simp [hw, D_L_levelIs_d0, L0, this]
theorem F_begunL : F_L_labelBegun = some true := by
  unfold F_L_labelBegun F_L_two F_L_secret
  simp only [Option.bind_some, F_level, F_flows, F_join, F_meet, F_labelCheck, F_right]
  have e1 : labelE ⟨2, [⟨1, 0⟩]⟩ ⟨[⟨1, []⟩], []⟩ = 0 := by decide
  have e2 : labelE ⟨2, [⟨1, 0⟩]⟩ ⟨[], []⟩ = 0 := by decide
  have l1 : levelOf ⟨2, [⟨1, 0⟩]⟩ ⟨[⟨1, []⟩], []⟩ = ⟨[false, true], [true, true]⟩ := rfl
  have l2 : levelOf ⟨2, [⟨1, 0⟩]⟩ ⟨[], []⟩ = ⟨[true, true], [true, true]⟩ := rfl
  simp only [e1, e2, l1, l2, if_true]
  have r1 : readyE ⟨2, [⟨1, 0⟩]⟩ [⟨[true, true], [true, true]⟩, ⟨[false, true], [true, true]⟩] = 0 := by decide
  have r2 : readyE ⟨2, [⟨1, 0⟩]⟩ [⟨[false, true], [true, true]⟩, ⟨[true, true], [true, true]⟩] = 0 := by decide
  have r3 : readyE ⟨2, [⟨1, 0⟩]⟩ [⟨[false, true], [true, true]⟩] = 0 := by decide
  have j1 : joinL (2 : Int).toNat ⟨[false, true], [true, true]⟩ ⟨[true, true], [true, true]⟩ = ⟨[false, true], [true, true]⟩ := rfl
  have j2 : meetL (2 : Int).toNat ⟨[false, true], [true, true]⟩ ⟨[true, true], [true, true]⟩ = ⟨[true, true], [true, true]⟩ := rfl
  have u1 : underB (2 : Int).toNat ⟨[true, true], [true, true]⟩ ⟨[false, true], [true, true]⟩ = true := rfl
  have u2 : underB (2 : Int).toNat ⟨[false, true], [true, true]⟩ ⟨[true, true], [true, true]⟩ = false := rfl
  simp only [r1, r2, r3, j1, j2, u1, u2, if_true, F_sameLevel ⟨[false, true], [true, true]⟩ _ (by decide) (by decide), F_sameLevel ⟨[true, true], [true, true]⟩ _ (by decide) (by decide),
    F_sameBools [false, true] [false, true] (by decide), F_sameBools [true, true] [true, true] (by decide), Option.bind_some]
  simp [F_sameLevel, F_sameBools]
end Go.Proofs.Ytkiakaohhckepaa.A
