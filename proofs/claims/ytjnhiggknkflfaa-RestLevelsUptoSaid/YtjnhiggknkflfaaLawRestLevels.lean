/- RestLevels: levels that came, and were changed, change nothing that was handed in, nor what comes next. For every input of bulk at most 1048576. -/
import Derived.Test.YtjnhiggknkflfaaRestH
import Derived.Test.YtjnhiggknkflfaaRestLevelsRow
set_option linter.unusedSectionVars false
set_option linter.unusedVariables false
set_option linter.unusedSimpArgs false
namespace Go.Proofs.Ytjnhiggknkflfaa.A
open Go
section
variable [Lp]
theorem bulk_bools : ∀ l : List Bool, AV.bulkL (l.map AV.b) = l.length
  | [] => rfl
  | x :: l => by
    rw [List.map_cons, AV.bulkL, bulk_bools l, List.length_cons]
    show 1 + l.length = _
    omega
/-- it is not too long for any machine. -/
def Fair (l : Level) : Prop := l.Readers.length ≤ 1000000000 ∧ l.Writers.length ≤ 1000000000
theorem F_own (l : Level) (h : Fair l) : F_L_RestLevels_1 l = some l := by
  unfold F_L_RestLevels_1
  simp only [List.length_nil, Nat.zero_add, h.1, h.2, if_true, List.nil_append]
theorem rest_loop (a : Actors) (l m : Level) (b : Label) (hl : Fair l) (hm : Fair m) (w : Int) (u v : List Bool)
    (hw : ∀ n e, F_label_Level a b = some (n, e) → F_L_levelIs n e w ⟨u, v⟩ = some true) : D_L_RestLevels_d2 a l m b l m w u v = some () := by
  obtain ⟨r, hr⟩ : ∃ r, F_label_Level a b = some r := ⟨_, F_level a b⟩
  have hs : ∀ x : Level, Fair x → F_R_SameLevel x x = some true := fun x hx => by rw [F_sameLevel x x hx.1 hx.2]; simp
  have h := lp_all (B := fun i => B_L_RestLevels_0 a l m b l m w u v i) 2 id (x := (2, false))
    (fun k hk => by
      have hk' : (k : Int) < 2 := by omega
      simp only [B_L_RestLevels_0, id, hk', if_true, F_join, F_meet, Option.bind_some, hr, hs l hl, hs m hm, hw r.1 r.2 hr, wrapS k (by omega)])
    (by simp only [B_L_RestLevels_0, id]; rfl)
  have h' : lp (fun i => B_L_RestLevels_0 a l m b l m w u v i) 0 = _ := h
  simp only [D_L_RestLevels_d2, h', Option.bind_some]
theorem law_RestLevels (a : Actors) (l m : Level) (b : Label) (hl : Fair l) (hm : Fair m) : F_L_RestLevels a l m b = some true := by
  have hz : ∀ e : Int, e ≠ 0 → F_L_levelIs ⟨[], []⟩ e e ⟨[], []⟩ = some true := fun e he => F_levelIs ⟨[], []⟩ ⟨[], []⟩ e e (by simp) rfl (fun _ => rfl) (fun h => absurd h he)
  unfold F_L_RestLevels
  simp only [F_begunL, F_own l hl, F_own m hm, F_checkActors, Option.bind_some, if_true]
  by_cases hok : checkA a = 0
  · have hn := many_of hok
    obtain ⟨h1, h2, _⟩ := checkA_ok hok
    simp only [hok, beq_self_eq_true, if_true, F_checkLabel a ⟨h1, h2⟩, Option.bind_some]
    have hE : labelE a b = fitsE a.Many b := by simp [labelE, hok]
    by_cases hf : fitsE a.Many b = 0
    · obtain ⟨s1, s2⟩ := sized_level a b
      have := rest_loop a l m b hl hm (fitsE a.Many b) (levelOf a b).Readers (levelOf a b).Writers (fun n e hr => by
        rw [F_level, hE, if_pos hf] at hr
        obtain ⟨rfl, rfl⟩ := Prod.mk.inj (Option.some.inj hr)
        rw [hf]
        exact F_levelIs (levelOf a b) _ 0 0 (by omega) rfl (fun h => absurd rfl h) (fun _ => rfl))
      simp only [D_L_RestLevels_d1, hf, beq_self_eq_true, if_true, F_levelOf a hok b hf, Option.bind_some] at this ⊢
      simp only [this, Option.bind_some]
    · have hb : (fitsE a.Many b == 0) = false := by simpa using hf
      have := rest_loop a l m b hl hm (fitsE a.Many b) [] [] (fun n e hr => by
        rw [F_level, hE, if_neg hf] at hr
        obtain ⟨rfl, rfl⟩ := Prod.mk.inj (Option.some.inj hr)
        exact hz _ hf)
      simp only [D_L_RestLevels_d1, hb, Bool.false_eq_true, if_false, this, Option.bind_some]
  · have hb : (checkA a == 0) = false := by simpa using hok
    have hE : labelE a b = checkA a := by simp [labelE, hok]
    have := rest_loop a l m b hl hm (checkA a) [] [] (fun n e hr => by
      rw [F_level, hE, if_neg hok] at hr
      obtain ⟨rfl, rfl⟩ := Prod.mk.inj (Option.some.inj hr)
      exact hz _ hok)
    simp only [D_L_RestLevels_d1, hb, Bool.false_eq_true, if_false, this, Option.bind_some]
end
end Go.Proofs.Ytjnhiggknkflfaa.A
namespace Go.Proofs.Ytjnhiggknkflfaa
open A Go
/-- RestLevels, as it is given, of what is not too large. -/
theorem restLevels_proved : Rows.RestLevelsUptoSaid := by
  obtain ⟨L⟩ := lp_exists
  refine rowU_RestLevels fun ys hg hb => ?_
  obtain ⟨a, l, m, b, _, _, _, _, rfl⟩ := hg
  simp only [AV.bulkL, AV.bulk, bulk_bools] at hb
  exact lift_L_RestLevels a l m b true (law_RestLevels a l m b ⟨by omega, by omega⟩ ⟨by omega, by omega⟩)
end Go.Proofs.Ytjnhiggknkflfaa
