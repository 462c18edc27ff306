/- TokenPlaces: each token stands where it is told, one behind the other. For every input; nothing is assumed. -/
import Derived.Test.YthfllmkfgdknkaaTokL
import Derived.Test.YthfllmkfgdknkaaFTokenPlaces
import Derived.Test.YthfllmkfgdknkaaTokenPlacesRow
set_option linter.unusedSectionVars false
set_option linter.unusedVariables false
set_option linter.unusedSimpArgs false
namespace Go.Proofs.Ythfllmkfgdknkaa.A
open Go
/-- tokens that stand in a text, one behind the other, from a place on. -/
def chain (s : List UInt8) : Int → List Token → Prop
  | _, [] => True
  | p, t :: r => ¬ t.At < p ∧ 0 < t.Text.length ∧ (∃ k : Nat, t.At = (k : Int) ∧ k + t.Text.length ≤ s.length ∧ (s.take (k + t.Text.length)).drop k = t.Text) ∧ chain s (t.At + (t.Text.length : Int)) r
theorem chain_mono (s : List UInt8) {p q : Int} (h : q ≤ p) : ∀ {l : List Token}, chain s p l → chain s q l
  | [], _ => trivial
  | t :: r, ⟨h1, h2⟩ => ⟨by omega, h2⟩
theorem scanF_chain (s : List UInt8) : ∀ (n a : Nat), a ≤ s.length → chain s a (scanF n a (s.drop a)).1
  | 0, _, _ => trivial
  | n + 1, a, ha => by
    have hle := skipL_le (s.drop a) false
    rw [List.length_drop] at hle
    cases h : (s.drop a).drop (skipL false (s.drop a)) with
    | nil => rw [scanF_end h]; trivial
    | cons c q =>
      have hlen : (c :: q).length = s.length - a - skipL false (s.drop a) := by rw [← h, List.length_drop, List.length_drop]
      have hcq : c :: q = s.drop (a + skipL false (s.drop a)) := by rw [← h, List.drop_drop]
      by_cases hE : tokE (tokAt (c :: q)).1 (tokAt (c :: q)).2 c = 0
      · have hp : 0 < (tokAt (c :: q)).2 := tokAt_pos (by
          intro h0
          unfold tokE at hE
          rw [if_pos h0] at hE; cases hE)
        have ht := tokAt_le (c :: q)
        have htl : ((c :: q).take (tokAt (c :: q)).2).length = (tokAt (c :: q)).2 := by rw [List.length_take]; omega
        have ih := scanF_chain s n (a + skipL false (s.drop a) + (tokAt (c :: q)).2) (by simp only [List.length_cons] at *; omega)
        have e : (c :: q).drop (tokAt (c :: q)).2 = s.drop (a + skipL false (s.drop a) + (tokAt (c :: q)).2) := by rw [hcq, List.drop_drop]
        rw [scanF_tok h hE]
        split
        · trivial
        · refine ⟨by show ¬ ((a + skipL false (s.drop a) : Nat) : Int) < a; omega, by show 0 < ((c :: q).take (tokAt (c :: q)).2).length; omega, ⟨a + skipL false (s.drop a), rfl, ?_, ?_⟩, ?_⟩
          · show a + skipL false (s.drop a) + ((c :: q).take (tokAt (c :: q)).2).length ≤ _
            rw [htl]; simp only [List.length_cons] at *; omega
          · show (s.take (a + skipL false (s.drop a) + ((c :: q).take (tokAt (c :: q)).2).length)).drop _ = (c :: q).take (tokAt (c :: q)).2
            rw [htl, List.drop_take, ← hcq, Nat.add_sub_cancel_left]
          · show chain s (((a + skipL false (s.drop a) : Nat) : Int) + (((c :: q).take (tokAt (c :: q)).2).length : Int)) _
            rw [htl, e]
            exact chain_mono s (by omega) ih
      · rw [scanF_bad h hE]; trivial
theorem scanS_chain (s : List UInt8) : chain s 0 (scanS s).1 := by
  unfold scanS
  split
  · trivial
  · have := scanF_chain s (s.length + 1) 0 (Nat.zero_le _)
    exact chain_mono s (by omega) this
variable [Lp]
theorem places_loop (s : List UInt8) (hs : s.length ≤ 6000) (r1 : List Token × Int × Int) (hl : r1.1.length ≤ 10000) : ∀ (rest : List Token) (p : Int) (k : Nat), r1.1.drop k = rest → k ≤ r1.1.length → chain s p rest →
    ∃ x, lp (fun v => B_L_TokenPlaces_0 s r1 v.1 v.2) (p, k) = some x
  | [], p, k, hk, hkl, _ => by
    have : r1.1.length - k = 0 := by rw [← List.length_drop, hk]; rfl
    exact ⟨_, lp_end (x := (p, k, decide ((k : Int) < (r1.1.length : Int)))) (by
      show B_L_TokenPlaces_0 s r1 p k = _
      unfold B_L_TokenPlaces_0
      rw [if_neg (by omega)])⟩
  | t :: rest, p, k, hk, hkl, hc => by
    obtain ⟨h1, h2, ⟨j, h3, h4, h5⟩, h6⟩ := hc
    have hlt : k < r1.1.length := by
      have : r1.1.length - k = rest.length + 1 := by rw [← List.length_drop, hk]; rfl
      omega
    have hg : r1.1[k]? = some t := by
      have : (r1.1.drop k)[0]? = some t := by rw [hk]; rfl
      simpa using this
    have hk' : r1.1.drop (k + 1) = rest := by
      rw [← List.drop_drop, hk]; rfl
    obtain ⟨x, hx⟩ := places_loop s hs r1 hl rest (t.At + (t.Text.length : Int)) (k + 1) hk' hlt h6
    refine ⟨x, ?_⟩
    rw [lp_next (w := (t.At + (t.Text.length : Int), k + 1)), hx]
    show B_L_TokenPlaces_0 s r1 p k = _
    unfold B_L_TokenPlaces_0
    have hz : ((t.Text.length : Int) == 0) = false := by simp; intro h; rw [h] at h2; simp at h2
    have e1 : natI t.At = some j := by rw [h3]; exact natI_nat j
    have e2 : natI (t.At + (t.Text.length : Int)) = some (j + t.Text.length) := by rw [h3]; exact_mod_cast natI_nat (j + t.Text.length)
    rw [if_pos (by omega), hg, Option.bind_some, if_neg h1, hz, if_neg (by simp), if_pos (wrapI (by omega) (by omega)), if_neg (by omega), e1, Option.bind_some, e2, Option.bind_some, if_pos (by omega), if_pos h4, h5,
      if_pos (by simp), if_pos (wrapS k (by omega))]
theorem law_TokenPlaces (s : List UInt8) : F_L_TokenPlaces s = some true := by
  unfold F_L_TokenPlaces
  simp only [F_scan, F_begunT, Option.bind_some, if_true]
  by_cases he : (scanS s).2.2 = 0
  · have hs : s.length ≤ 6000 := by
      by_cases h : 6000 < s.length
      · unfold scanS at he; rw [if_pos h] at he; exact absurd he (by decide)
      · omega
    obtain ⟨x, hx⟩ := places_loop s hs (scanS s) (Nat.le_trans (scanS_len s) (by decide)) _ 0 0 rfl (Nat.zero_le _) (scanS_chain s)
    rw [he]
    simp only [bne_self_eq_false, Bool.false_eq_true, if_false]
    rw [hx]; rfl
  · have hb : ((scanS s).2.2 != 0) = true := by simpa using he
    rw [if_pos hb]
    have : (scanS s).1 = [] := by
      unfold scanS at he ⊢
      split
      · rfl
      · rename_i h; rw [if_neg h] at he; exact scanF_err he
    rw [this]; rfl
end Go.Proofs.Ythfllmkfgdknkaa.A
namespace Go.Proofs.Ythfllmkfgdknkaa
open A Go
/-- TokenPlaces, as it is given. -/
theorem tokenPlaces_proved : Rows.TokenPlacesSaid := by
  obtain ⟨L⟩ := lp_exists
  refine row_TokenPlaces fun ys hg => ?_
  obtain ⟨s, _, rfl⟩ := hg
  exact lift_L_TokenPlaces s true (law_TokenPlaces s)
end Go.Proofs.Ythfllmkfgdknkaa
