/- tokens: what must be in any case; are tokens the same? -/
import Derived.Test.YthfllmkfgdknkaaTokR
import Derived.Test.YthfllmkfgdknkaaFTB
set_option linter.unusedSectionVars false
set_option linter.unusedVariables false
set_option linter.unusedSimpArgs false
namespace Go.Proofs.Ythfllmkfgdknkaa.A
open Go
theorem scanF_len : ∀ (n a : Nat) (r : List UInt8), (scanF n a r).1.length ≤ r.length
  | 0, _, _ => Nat.zero_le _
  | n + 1, a, r => by
    have hle := skipL_le r false
    cases h : r.drop (skipL false r) with
    | nil => rw [scanF_end h]; exact Nat.zero_le _
    | cons c q =>
      have hlen : (c :: q).length = r.length - skipL false r := by rw [← h, List.length_drop]
      by_cases hE : tokE (tokAt (c :: q)).1 (tokAt (c :: q)).2 c = 0
      · have hp : 0 < (tokAt (c :: q)).2 := tokAt_pos (by
          intro h0
          unfold tokE at hE
          rw [if_pos h0] at hE; cases hE)
        have ih := scanF_len n (a + skipL false r + (tokAt (c :: q)).2) ((c :: q).drop (tokAt (c :: q)).2)
        rw [List.length_drop] at ih
        rw [scanF_tok h hE]
        have ht := tokAt_le (c :: q)
        split
        · exact Nat.zero_le _
        · simp only [List.length_cons] at *; omega
      · rw [scanF_bad h hE]; exact Nat.zero_le _
theorem scanS_len (s : List UInt8) : (scanS s).1.length ≤ 6000 := by
  unfold scanS
  split
  · exact Nat.zero_le _
  · exact Nat.le_trans (scanF_len _ _ _) (by omega)
variable [Lp]
def sameT (at_ : Bool) (x y : Token) : Bool := x.Kind == y.Kind && (x.Text == y.Text && (!at_ || x.At == y.At))
theorem F_same (l m : List Token) (at_ : Bool) (hl : l.length ≤ 1000000000) (hlm : l.length = m.length) : F_R_SameTokens l m at_ = some ((l.zip m).all fun p => sameT at_ p.1 p.2) := by
  unfold F_R_SameTokens
  have hne : ((l.length : Int) != (m.length : Int)) = false := by simp [hlm]
  have hz : (l.zip m).length = l.length := by simp [hlm]
  have h := lp_any (B := fun v => B_R_SameTokens_0 l m at_ v) (l.zip m) (fun p => !sameT at_ p.1 p.2) id (x := .inl ()) (y := .inr (l.length, false))
    (fun k hk hp => by
      have hk1 : k < l.length := by omega
      have hk2 : k < m.length := by omega
      have hp' : sameT at_ l[k] m[k] = true := by simpa using hp
      simp only [B_R_SameTokens_0, id, show (k : Int) < (l.length : Int) by omega, if_true, List.getElem?_eq_getElem hk1, List.getElem?_eq_getElem hk2, Option.bind_some, wrapS k (by omega)]
      unfold sameT at hp'
      simp only [Bool.and_eq_true, Bool.or_eq_true, beq_iff_eq] at hp'
      obtain ⟨h1, h2, h3⟩ := hp'
      cases at_ with
      | false => simp [h1, h2]
      | true =>
        have h4 : l[k].At = m[k].At := by simpa using h3
        simp [h1, h2, h4])
    (fun k hk hp => by
      have hk1 : k < l.length := by omega
      have hk2 : k < m.length := by omega
      have hp' : sameT at_ l[k] m[k] = false := by simpa using hp
      simp only [B_R_SameTokens_0, id, show (k : Int) < (l.length : Int) by omega, if_true, List.getElem?_eq_getElem hk1, List.getElem?_eq_getElem hk2, Option.bind_some, wrapS k (by omega)]
      unfold sameT at hp'
      by_cases h1 : l[k].Kind = m[k].Kind
      · by_cases h2 : l[k].Text = m[k].Text
        · cases at_ with
          | false => simp [h1, h2] at hp'
          | true =>
            have h4 : ¬ l[k].At = m[k].At := by simpa [h1, h2] using hp'
            simp [h1, h2, h4]
        · simp [h1, h2]
      · simp [h1])
    (by rw [hz]; simp only [B_R_SameTokens_0, id, show ¬ (l.length : Int) < (l.length : Int) by omega, if_false, decide_false])
  have h' : lp (fun v => B_R_SameTokens_0 l m at_ v) 0 = _ := h
  simp only [hne, Bool.false_eq_true, if_false, h', Option.bind_some]
  have e : ((l.zip m).all fun p => sameT at_ p.1 p.2) = !(l.zip m).any fun p => !sameT at_ p.1 p.2 := by
    generalize l.zip m = q
    clear h h' hz
    induction q with
    | nil => rfl
    | cons x q ih => simp only [List.all_cons, List.any_cons, ih]; cases sameT at_ x.1 x.2 <;> simp
  rw [e]
  cases (l.zip m).any (fun p => !sameT at_ p.1 p.2) <;> rfl
theorem F_same_self (l : List Token) (at_ : Bool) (hl : l.length ≤ 1000000000) : F_R_SameTokens l l at_ = some true := by
  rw [F_same l l at_ hl rfl]
  congr 1
  rw [List.all_eq_true]
  rintro ⟨x, y⟩ hx
  have : x = y := by
    clear hl
    induction l with
    | nil => cases hx
    | cons z l ih =>
      rcases List.mem_cons.1 hx with h | h
      · cases h; rfl
      · exact ih h
  subst this
  simp [sameT]
theorem F_begunT : F_L_tokenBegun = some true := by
  unfold F_L_tokenBegun
  rw [F_scan]
  have h1 : scanS [97, 98, 32, 61, 61, 32, 55, 59, 35, 120] = ([⟨1, 0, [97, 98]⟩, ⟨3, 3, [61, 61]⟩, ⟨2, 6, [55]⟩, ⟨3, 7, [59]⟩], 0, 0) := rfl
  rw [h1]
  have one : ∀ (k : Int) (t : List UInt8) (r : List Token × Int × Int), scanS t = r → F_token_one k t = (if (r.2.2 == 0) = true then if ((r.1.length : Int) == 1) = true then (r.1[0]?).bind fun (y5 : Token) => if (y5.Kind == k) = true then some (y5.Text == t) else some false else some false else some false) := fun k t r h => by
    unfold F_token_one; rw [F_scan, h]; rfl
  have o1 : F_token_one 1 [97, 98] = some true := by rw [one 1 [97, 98] ([⟨1, 0, [97, 98]⟩], 0, 0) (rfl)]; rfl
  have o2 : F_token_one 3 [61, 61] = some true := by rw [one 3 [61, 61] ([⟨3, 0, [61, 61]⟩], 0, 0) (rfl)]; rfl
  have o3 : F_token_one 2 [55] = some true := by rw [one 2 [55] ([⟨2, 0, [55]⟩], 0, 0) (rfl)]; rfl
  have o4 : F_token_one 3 [59] = some true := by rw [one 3 [59] ([⟨3, 0, [59]⟩], 0, 0) (rfl)]; rfl
  have hj : F_token_Join [⟨1, 0, [97, 98]⟩, ⟨3, 3, [61, 61]⟩, ⟨2, 6, [55]⟩, ⟨3, 7, [59]⟩] = some ([97, 98, 32, 61, 61, 32, 55, 32, 59], 0) := by
    unfold F_token_Join
    rw [lp_next (w := ([[97, 98]], 3, 1)) (by simp [B_token_Join_0, o1]; decide), lp_next (w := ([[97, 98], [61, 61]], 6, 2)) (by simp [B_token_Join_0, o2]; decide),
      lp_next (w := ([[97, 98], [61, 61], [55]], 8, 3)) (by simp [B_token_Join_0, o3]; decide), lp_next (w := ([[97, 98], [61, 61], [55], [59]], 10, 4)) (by simp [B_token_Join_0, o4]; decide),
      lp_end (x := .inr ([[97, 98], [61, 61], [55], [59]], 10, 4, false)) (by simp [B_token_Join_0])]
    have : joinS [[97, 98], [61, 61], [55], [59]] [32] = some [97, 98, 32, 61, 61, 32, 55, 32, 59] := rfl
    simp [this]
  simp only [Option.bind_some, hj]
  rfl
end Go.Proofs.Ythfllmkfgdknkaa.A
