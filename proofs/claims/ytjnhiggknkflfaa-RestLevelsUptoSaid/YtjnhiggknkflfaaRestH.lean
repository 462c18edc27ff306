/- label: joins and meets of levels. -/
import Derived.Test.YtjnhiggknkflfaaRestG
set_option linter.unusedSectionVars false
set_option linter.unusedVariables false
set_option linter.unusedSimpArgs false
namespace Go.Proofs.Ytjnhiggknkflfaa.A
open Go
variable [Lp]
def joinL (n : Nat) (l m : Level) : Level := ⟨andB n l.Readers m.Readers, orBL n l.Writers m.Writers⟩
def meetL (n : Nat) (l m : Level) : Level := ⟨orBL n l.Readers m.Readers, andB n l.Writers m.Writers⟩
theorem readyE_ok {a : Actors} {ls : List Level} (h : readyE a ls = 0) : checkA a = 0 ∧ ∀ l ∈ ls, SizedL a.Many.toNat l := by
  unfold readyE at h
  split at h
  · rename_i h1; exact absurd h h1
  · rename_i h1
    split at h
    · cases h
    · rename_i h2
      refine ⟨Classical.not_not.1 h1, fun l hl => ?_⟩
      have : ¬ sizedE a l = false := fun he => h2 (List.any_eq_true.2 ⟨l, hl, by rw [he]; rfl⟩)
      have hs : sizedE a l = true := by simpa using this
      unfold sizedE at hs
      obtain ⟨h3, h4⟩ := of_decide_eq_true hs
      exact ⟨by omega, by omega⟩
theorem many_of {a : Actors} (h : checkA a = 0) : a.Many.toNat ≤ 6 ∧ 1 ≤ a.Many.toNat ∧ ((a.Many.toNat : Nat) : Int) = a.Many := by
  obtain ⟨h1, h2, _⟩ := checkA_ok h
  omega
section
variable {n : Nat} (hn : n ≤ 1000000) {l m : Level} (hl : SizedL n l) (hm : SizedL n m)
include hn hl hm
theorem F_both : F_label_Both_v2 l m = some (joinL n l m) := by
  simp only [F_label_Both_v2, F_andB hn hl.1 hm.1, F_orB hn hl.2 hm.2, Option.bind_some, joinL]
end
theorem sized_join (n : Nat) (l m : Level) : SizedL n (joinL n l m) := by simp [SizedL, joinL, andB, orBL]
theorem sized_meet (n : Nat) (l m : Level) : SizedL n (meetL n l m) := by simp [SizedL, meetL, andB, orBL]
theorem sized_level (a : Actors) (l : Label) : SizedL a.Many.toNat (levelOf a l) := by simp [SizedL, levelOf]
def L0 : Level := ⟨[], []⟩
theorem F_join (a : Actors) (l m : Level) : F_label_Join_v2 a l m = some (if readyE a [l, m] = 0 then (joinL a.Many.toNat l m, 0) else (L0, readyE a [l, m])) := by
  unfold F_label_Join_v2
  rw [F_ready a _ (by simp), Option.bind_some]
  by_cases h : readyE a [l, m] = 0
  · obtain ⟨hok, hs⟩ := readyE_ok h
    have hm := many_of hok
    simp [h, F_both (n := a.Many.toNat) (by omega) (hs l (by simp)) (hs m (by simp))]
  · simp [h, L0]
theorem F_meet (a : Actors) (l m : Level) : F_label_Meet_v2 a l m = some (if readyE a [l, m] = 0 then (meetL a.Many.toNat l m, 0) else (L0, readyE a [l, m])) := by
  unfold F_label_Meet_v2
  rw [F_ready a _ (by simp), Option.bind_some]
  by_cases h : readyE a [l, m] = 0
  · obtain ⟨hok, hs⟩ := readyE_ok h
    have hm := many_of hok
    simp [h, F_orB (n := a.Many.toNat) (by omega) (hs l (by simp)).1 (hs m (by simp)).1, F_andB (n := a.Many.toNat) (by omega) (hs l (by simp)).2 (hs m (by simp)).2, meetL]
  · simp [h, L0]
/-- a level beside an errno. -/
theorem F_levelIs (x want : Level) (e w : Int) (hx : x.Readers.length ≤ 1000000000 ∧ x.Writers.length ≤ 1000000000) (h : e = w) (h1 : w ≠ 0 → x = L0) (h2 : w = 0 → x = want) : F_L_levelIs x e w want = some true := by
  unfold F_L_levelIs
  subst h
  by_cases hw : e = 0
  · have := h2 hw
    subst this
    have := F_sameLevel x x hx.1 hx.2
    simp [hw, D_L_levelIs_d0, this]
  · have := h1 hw
    subst this
    have := F_sameLevel L0 ⟨[], []⟩ (by simp [L0]) (by simp [L0])
    simp [L0] at this
    simp [hw, D_L_levelIs_d0, L0, this]
theorem F_begunL : F_L_labelBegun = some true := rfl
end Go.Proofs.Ytjnhiggknkflfaa.A
