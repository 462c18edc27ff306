/- token.Scan answers as scanS says. -/
import Derived.Test.YthfllmkfgdknkaaTokS
import Derived.Test.YthfllmkfgdknkaaFT
set_option linter.unusedSectionVars false
set_option linter.unusedVariables false
set_option linter.unusedSimpArgs false
namespace Go.Proofs.Ythfllmkfgdknkaa.A
open Go
theorem nb35 (n : Nat) : ((n : Int) == 35) = (n == 35) := by rw [Bool.eq_iff_iff]; simp; omega
theorem nb32 (n : Nat) : ((n : Int) == 32) = (n == 32) := by rw [Bool.eq_iff_iff]; simp; omega
theorem nb9 (n : Nat) : ((n : Int) == 9) = (n == 9) := by rw [Bool.eq_iff_iff]; simp; omega
theorem nb10 (n : Nat) : ((n : Int) == 10) = (n == 10) := by rw [Bool.eq_iff_iff]; simp; omega
theorem nb61 (n : Nat) : ((n : Int) == 61) = (n == 61) := by rw [Bool.eq_iff_iff]; simp; omega
theorem nb48 (n : Nat) : ((n : Int) == 48) = (n == 48) := by rw [Bool.eq_iff_iff]; simp; omega
theorem nn10 (n : Nat) : ((n : Int) != 10) = (n != 10) := by rw [bne, bne, nb10]
def nlC (c : UInt8) : Bool := c.toNat != 10
theorem skip_true : ∀ r : List UInt8, skipL true r = runL nlC r + skipL false (r.drop (runL nlC r))
  | [] => rfl
  | c :: r => by
    rw [runL_cons]
    simp only [skipL]
    cases h : nlC c with
    | true =>
      have h' : (c.toNat != 10) = true := h
      rw [h', skip_true r]
      simp only [if_true]
      rw [show 1 + runL nlC r = runL nlC r + 1 by omega, List.drop_succ_cons]; omega
    | false =>
      have h' : (c.toNat != 10) = false := h
      have h10 : c.toNat = 10 := by simpa using h'
      simp [h', skipL, h10, wsC]
theorem skip_idem : ∀ (r : List UInt8) (b : Bool), skipL false (r.drop (skipL b r)) = 0
  | [], b => by cases b <;> rfl
  | c :: r, true => by
    simp only [skipL]
    rw [show 1 + skipL (c.toNat != 10) r = skipL (c.toNat != 10) r + 1 by omega, List.drop_succ_cons]
    exact skip_idem r _
  | c :: r, false => by
    simp only [skipL]
    by_cases h : (c.toNat == 35) = true
    · rw [if_pos h, show 1 + skipL true r = skipL true r + 1 by omega, List.drop_succ_cons]; exact skip_idem r _
    rw [if_neg h]
    by_cases h2 : wsC c = true
    · rw [if_pos h2, show 1 + skipL false r = skipL false r + 1 by omega, List.drop_succ_cons]; exact skip_idem r _
    · rw [if_neg h2, List.drop_zero]
      simp only [skipL, if_neg h, if_neg h2]
variable [Lp]
theorem get_u8 {s : List UInt8} {k : Nat} (h : k < s.length) : s[k]? = some s[k] := List.getElem?_eq_getElem h
section
variable (s : List UInt8) (hs : s.length ≤ 6000)
include hs
theorem skip_inner (c0 : Scanner) (h0 : c0.s = s) (k : Nat) (hk : k ≤ s.length) : ∃ x, lp (fun v => B_token_scanner_skip_1 c0 v) (k : Int) = some x ∧ (match x with
    | .inl (_, z) => z = ((k + runL nlC (s.drop k) : Nat) : Int)
    | .inr z => z = ((k + runL nlC (s.drop k) : Nat) : Int)) := by
  have h := lp_run (B := fun v => B_token_scanner_skip_1 c0 v) s nlC (fun k => (k : Int)) (fun k => .inl (false, (k : Int))) (.inr (s.length : Int)) 0
    (fun k hk _ hp => by
      have hp' : (s[k].toNat != 10) = true := hp
      simp only [B_token_scanner_skip_1, h0, show (k : Int) < (s.length : Int) by omega, if_true, natI_nat, Option.bind_some, get_u8 hk, nn10, hp', wrapA k (by omega)]
      rfl)
    (fun k hk _ hp => by
      have hp' : (s[k].toNat != 10) = false := hp
      simp only [B_token_scanner_skip_1, h0, show (k : Int) < (s.length : Int) by omega, if_true, natI_nat, Option.bind_some, get_u8 hk, nn10, hp', Bool.false_eq_true, if_false])
    (by simp only [B_token_scanner_skip_1, h0, show ¬ (s.length : Int) < (s.length : Int) by omega, if_false]) k (Nat.zero_le _) hk
  refine ⟨_, h, ?_⟩
  have hle := runL_le nlC (s.drop k)
  rw [List.length_drop] at hle
  by_cases hlt : k + runL nlC (s.drop k) < s.length
  · rw [if_pos hlt]
  · rw [if_neg hlt]
    show (s.length : Int) = _
    omega
theorem F_skip (k0 : Nat) (hk0 : k0 ≤ s.length) : F_token_scanner_skip ⟨s, (k0 : Int)⟩ = some ⟨s, ((k0 + skipL false (s.drop k0) : Nat) : Int)⟩ := by
  have key : ∀ n k, s.length - k < n → k ≤ s.length → ∃ x, lp (fun v => B_token_scanner_skip_0 ⟨s, (k0 : Int)⟩ v) (k : Int) = some x ∧ (match x with
      | .inl (_, z) => z = ((k + skipL false (s.drop k) : Nat) : Int)
      | .inr (_, z) => z = ((k + skipL false (s.drop k) : Nat) : Int)) := by
    intro n
    induction n with
    | zero => intro k h; omega
    | succ n ih =>
      intro k hn hk
      by_cases hlt : k < s.length
      · have hL : (k : Int) < (s.length : Int) := by omega
        have hd : s.drop k = s[k] :: s.drop (k + 1) := List.drop_eq_getElem_cons hlt
        by_cases h35 : (s[k].toNat == 35) = true
        · -- a note
          have h1 : s[k].toNat = 35 := by simpa using h35
          obtain ⟨x, hx, hxe⟩ := skip_inner s hs ⟨s, (k0 : Int)⟩ rfl k hk
          have hrun : runL nlC (s.drop k) = 1 + runL nlC (s.drop (k + 1)) := by rw [hd, runL_cons, if_pos (by simp [nlC, h1])]
          have hle := runL_le nlC (s.drop k)
          rw [List.length_drop] at hle
          have hstep : B_token_scanner_skip_0 ⟨s, (k0 : Int)⟩ (k : Int) = some (.inl ((k + runL nlC (s.drop k) : Nat) : Int)) := by
            have h32 : (s[k].toNat == 32) = false := by rw [h1]; rfl
            have h9 : (s[k].toNat == 9) = false := by rw [h1]; rfl
            have h10 : (s[k].toNat == 10) = false := by rw [h1]; rfl
            simp only [B_token_scanner_skip_0, D_token_scanner_skip_d1, hL, if_true, natI_nat, Option.bind_some, get_u8 hlt, nb32, nb9, nb10, nb35, h32, h9, h10, h35, Bool.false_eq_true, if_false, hx]
            cases x with
            | inl y => obtain ⟨y1, y2⟩ := y; simp only [Option.bind_some] at hxe ⊢; rw [hxe]
            | inr y => simp only [Option.bind_some] at hxe ⊢; rw [hxe]
          obtain ⟨x', hx', hxe'⟩ := ih (k + runL nlC (s.drop k)) (by omega) (by omega)
          refine ⟨x', by rw [lp_next hstep]; exact hx', ?_⟩
          have e : k + runL nlC (s.drop k) + skipL false (s.drop (k + runL nlC (s.drop k))) = k + skipL false (s.drop k) := by
            have h2 : skipL false (s.drop k) = 1 + skipL true (s.drop (k + 1)) := by rw [hd]; simp only [skipL, h35, if_true]
            have h3 := skip_true (s.drop (k + 1))
            rw [List.drop_drop] at h3
            rw [h2, h3, hrun, show k + (1 + runL nlC (s.drop (k + 1))) = k + 1 + runL nlC (s.drop (k + 1)) by omega]
            omega
          rw [e] at hxe'
          exact hxe'
        · have h35' : (s[k].toNat == 35) = false := by simpa using h35
          by_cases hw : wsC s[k] = true
          · have h2 : skipL false (s.drop k) = 1 + skipL false (s.drop (k + 1)) := by rw [hd]; simp only [skipL, h35', Bool.false_eq_true, if_false, hw, if_true]
            have hstep : B_token_scanner_skip_0 ⟨s, (k0 : Int)⟩ (k : Int) = some (.inl ((k + 1 : Nat) : Int)) := by
              unfold wsC at hw
              simp only [B_token_scanner_skip_0, D_token_scanner_skip_d1, hL, if_true, natI_nat, Option.bind_some, get_u8 hlt, nb32, nb9, nb10, nb35, h35', wrapA k (by omega)]
              cases h32 : (s[k].toNat == 32) with
              | true => simp
              | false =>
                cases h9 : (s[k].toNat == 9) with
                | true => simp
                | false =>
                  have h10 : (s[k].toNat == 10) = true := by simpa [h32, h9] using hw
                  simp [h10]
            obtain ⟨x', hx', hxe'⟩ := ih (k + 1) (by omega) (by omega)
            refine ⟨x', by rw [lp_next hstep]; exact hx', ?_⟩
            rw [show k + 1 + skipL false (s.drop (k + 1)) = k + skipL false (s.drop k) by rw [h2]; omega] at hxe'
            exact hxe'
          · have h2 : skipL false (s.drop k) = 0 := by rw [hd]; simp only [skipL, h35', Bool.false_eq_true, if_false, hw]
            have hstep : B_token_scanner_skip_0 ⟨s, (k0 : Int)⟩ (k : Int) = some (.inr (.inl (false, (k : Int)))) := by
              have hw' : ((s[k].toNat == 32) = false ∧ (s[k].toNat == 9) = false) ∧ (s[k].toNat == 10) = false := by
                unfold wsC at hw
                simpa only [Bool.or_eq_true, not_or, Bool.not_eq_true] using hw
              simp only [B_token_scanner_skip_0, D_token_scanner_skip_d1, hL, if_true, natI_nat, Option.bind_some, get_u8 hlt, nb32, nb9, nb10, nb35, h35', hw'.1.1, hw'.1.2, hw'.2, Bool.false_eq_true, if_false]
            refine ⟨_, lp_end hstep, ?_⟩
            rw [h2]; rfl
      · obtain rfl : k = s.length := by omega
        refine ⟨.inr (false, (s.length : Int)), lp_end (by simp only [B_token_scanner_skip_0, show ¬ (s.length : Int) < (s.length : Int) by omega, if_false, decide_false]), ?_⟩
        rw [List.drop_length]; rfl
  obtain ⟨x, hx, hxe⟩ := key (s.length - k0 + 1) k0 (by omega) hk0
  unfold F_token_scanner_skip
  have hx' : lp (fun v => B_token_scanner_skip_0 ⟨s, (k0 : Int)⟩ v) ({ s := s, at_ := (k0 : Int) } : Scanner).at_ = some x := hx
  rw [hx']
  cases x with
  | inl y => obtain ⟨y1, y2⟩ := y; simp only [Option.bind_some] at hxe ⊢; rw [hxe]
  | inr y => obtain ⟨y1, y2⟩ := y; simp only [Option.bind_some] at hxe ⊢; rw [hxe]
theorem F_letter (c : UInt8) : F_token_letter (c.toNat : Int) = some (letC c) := by
  unfold F_token_letter letC
  by_cases h : 97 ≤ c.toNat
  · have : (97 : Int) ≤ (c.toNat : Int) := by omega
    rw [if_pos this]; congr 1; rw [Bool.eq_iff_iff]; simp; omega
  · have : ¬ (97 : Int) ≤ (c.toNat : Int) := by omega
    rw [if_neg this]; congr 1; rw [Bool.eq_iff_iff]; simp; omega
theorem F_digit (c : UInt8) : F_token_digit (c.toNat : Int) = some (digC c) := by
  unfold F_token_digit digC
  by_cases h : 48 ≤ c.toNat
  · have : (48 : Int) ≤ (c.toNat : Int) := by omega
    rw [if_pos this]; congr 1; rw [Bool.eq_iff_iff]; simp; omega
  · have : ¬ (48 : Int) ≤ (c.toNat : Int) := by omega
    rw [if_neg this]; congr 1; rw [Bool.eq_iff_iff]; simp; omega
theorem F_alnum (c : UInt8) : F_token_scanner_token_1 (c.toNat : Int) = some (alnC c) := by
  unfold F_token_scanner_token_1 alnC
  rw [F_letter s hs, F_digit s hs, Option.bind_some]
  cases letC c <;> simp
theorem take_run {k n : Nat} : (s.take (k + n)).drop k = (s.drop k).take n := by
  rw [List.drop_take]; congr 1; omega
theorem F_run1 (k : Nat) (hk : k ≤ s.length) : F_token_scanner_run__token_scanner_token_1 ⟨s, (k : Int)⟩ = some ((s.drop k).take (runL alnC (s.drop k)), ⟨s, ((k + runL alnC (s.drop k) : Nat) : Int)⟩) := by
  have h := lp_run (B := fun v => B_token_scanner_run__token_scanner_token_1_0 ⟨s, (k : Int)⟩ v) s alnC (fun k => (k : Int)) (fun k => .inl (false, (k : Int))) (.inr (s.length : Int)) 0
    (fun j hj _ hp => by
      simp only [B_token_scanner_run__token_scanner_token_1_0, show (j : Int) < (s.length : Int) by omega, if_true, natI_nat, Option.bind_some, get_u8 hj, F_alnum s hs, hp, wrapA j (by omega)]
      rfl)
    (fun j hj _ hp => by
      simp only [B_token_scanner_run__token_scanner_token_1_0, show (j : Int) < (s.length : Int) by omega, if_true, natI_nat, Option.bind_some, get_u8 hj, F_alnum s hs, hp, Bool.false_eq_true, if_false])
    (by simp only [B_token_scanner_run__token_scanner_token_1_0, show ¬ (s.length : Int) < (s.length : Int) by omega, if_false]) k (Nat.zero_le _) hk
  have hle := runL_le alnC (s.drop k)
  rw [List.length_drop] at hle
  have hD : D_token_scanner_run__token_scanner_token_1_d1 ⟨s, (k : Int)⟩ ((k + runL alnC (s.drop k) : Nat) : Int) = some ((s.drop k).take (runL alnC (s.drop k)), ((k + runL alnC (s.drop k) : Nat) : Int)) := by
    simp only [D_token_scanner_run__token_scanner_token_1_d1, natI_nat, Option.bind_some, show k ≤ k + runL alnC (s.drop k) by omega, show k + runL alnC (s.drop k) ≤ s.length by omega, if_true, take_run s hs]
  have h' : lp (fun v => B_token_scanner_run__token_scanner_token_1_0 ⟨s, (k : Int)⟩ v) ({ s := s, at_ := (k : Int) } : Scanner).at_ = _ := h
  unfold F_token_scanner_run__token_scanner_token_1
  rw [h']
  by_cases hlt : k + runL alnC (s.drop k) < s.length
  · simp only [if_pos hlt, Option.bind_some, hD]
  · have e : (s.length : Int) = ((k + runL alnC (s.drop k) : Nat) : Int) := by omega
    simp only [if_neg hlt, Option.bind_some, e, hD]
theorem F_run2 (k : Nat) (hk : k ≤ s.length) : F_token_scanner_run__token_digit ⟨s, (k : Int)⟩ = some ((s.drop k).take (runL digC (s.drop k)), ⟨s, ((k + runL digC (s.drop k) : Nat) : Int)⟩) := by
  have h := lp_run (B := fun v => B_token_scanner_run__token_digit_0 ⟨s, (k : Int)⟩ v) s digC (fun k => (k : Int)) (fun k => .inl (false, (k : Int))) (.inr (s.length : Int)) 0
    (fun j hj _ hp => by
      simp only [B_token_scanner_run__token_digit_0, show (j : Int) < (s.length : Int) by omega, if_true, natI_nat, Option.bind_some, get_u8 hj, F_digit s hs, hp, wrapA j (by omega)]
      rfl)
    (fun j hj _ hp => by
      simp only [B_token_scanner_run__token_digit_0, show (j : Int) < (s.length : Int) by omega, if_true, natI_nat, Option.bind_some, get_u8 hj, F_digit s hs, hp, Bool.false_eq_true, if_false])
    (by simp only [B_token_scanner_run__token_digit_0, show ¬ (s.length : Int) < (s.length : Int) by omega, if_false]) k (Nat.zero_le _) hk
  have hle := runL_le digC (s.drop k)
  rw [List.length_drop] at hle
  have hD : D_token_scanner_run__token_digit_d1 ⟨s, (k : Int)⟩ ((k + runL digC (s.drop k) : Nat) : Int) = some ((s.drop k).take (runL digC (s.drop k)), ((k + runL digC (s.drop k) : Nat) : Int)) := by
    simp only [D_token_scanner_run__token_digit_d1, natI_nat, Option.bind_some, show k ≤ k + runL digC (s.drop k) by omega, show k + runL digC (s.drop k) ≤ s.length by omega, if_true, take_run s hs]
  have h' : lp (fun v => B_token_scanner_run__token_digit_0 ⟨s, (k : Int)⟩ v) ({ s := s, at_ := (k : Int) } : Scanner).at_ = _ := h
  unfold F_token_scanner_run__token_digit
  rw [h']
  by_cases hlt : k + runL digC (s.drop k) < s.length
  · simp only [if_pos hlt, Option.bind_some, hD]
  · have e : (s.length : Int) = ((k + runL digC (s.drop k) : Nat) : Int) := by omega
    simp only [if_neg hlt, Option.bind_some, e, hD]
/-- the token that begins at k. -/
theorem F_token (k : Nat) (hk : k < s.length) : ∃ t sc, F_token_scanner_token ⟨s, (k : Int)⟩ = some (t, tokE (tokAt (s.drop k)).1 (tokAt (s.drop k)).2 s[k], sc) ∧ t.At = (k : Int) ∧
    (tokE (tokAt (s.drop k)).1 (tokAt (s.drop k)).2 s[k] = 0 → t = ⟨(tokAt (s.drop k)).1, (k : Int), (s.drop k).take (tokAt (s.drop k)).2⟩ ∧ sc = ⟨s, ((k + (tokAt (s.drop k)).2 : Nat) : Int)⟩) := by
  have hL : (k : Int) < (s.length : Int) := by omega
  have hd : s.drop k = s[k] :: s.drop (k + 1) := List.drop_eq_getElem_cons hk
  have hT : tokAt (s.drop k) = tokC s[k] (s.drop (k + 1)) := by rw [hd]; rfl
  have hsign : F_token_scanner_sign ⟨s, (k : Int)⟩ = some (s[k].toNat : Int) := by
    simp only [F_token_scanner_sign, hL, if_true, natI_nat, Option.bind_some, get_u8 hk]
  unfold F_token_scanner_token
  simp only [hsign, Option.bind_some, F_letter s hs, F_digit s hs]
  rw [hT]
  unfold tokC
  cases g1 : letC s[k] with
  | true =>
    have hr : runL alnC (s.drop k) = 1 + runL alnC (s.drop (k + 1)) := by rw [hd, runL_cons, if_pos (by simp [alnC, g1])]
    have hlen : ((s.drop k).take (runL alnC (s.drop k))).length = 1 + runL alnC (s.drop (k + 1)) := by
      rw [List.length_take, Nat.min_eq_left (runL_le _ _), hr]
    simp only [if_true, F_run1 s hs k (by omega), Option.bind_some, hlen]
    by_cases h12 : 12 < 1 + runL alnC (s.drop (k + 1))
    · rw [if_pos (by omega)]
      have hE : tokE 1 (1 + runL alnC (s.drop (k + 1))) s[k] = 2 := by simp [tokE, h12]
      exact ⟨_, _, by rw [hE], rfl, fun h => by rw [hE] at h; cases h⟩
    · rw [if_neg (by omega)]
      have hE : tokE 1 (1 + runL alnC (s.drop (k + 1))) s[k] = 0 := by simp [tokE, h12]
      exact ⟨_, _, by rw [hE], rfl, fun _ => by rw [hr]; exact ⟨rfl, rfl⟩⟩
  | false =>
    simp only [Bool.false_eq_true, if_false]
    cases g2 : digC s[k] with
    | true =>
      have hr : runL digC (s.drop k) = 1 + runL digC (s.drop (k + 1)) := by rw [hd, runL_cons, if_pos g2]
      have hlen : ((s.drop k).take (runL digC (s.drop k))).length = 1 + runL digC (s.drop (k + 1)) := by
        rw [List.length_take, Nat.min_eq_left (runL_le _ _), hr]
      simp only [if_true, F_run2 s hs k (by omega), Option.bind_some, hlen, nb48]
      by_cases h7 : 7 < 1 + runL digC (s.drop (k + 1))
      · rw [if_pos (by omega)]
        have hE : tokE 2 (1 + runL digC (s.drop (k + 1))) s[k] = 2 := by simp [tokE, h7]
        exact ⟨_, _, by rw [hE], rfl, fun h => by rw [hE] at h; cases h⟩
      rw [if_neg (by omega)]
      by_cases h1 : 1 < 1 + runL digC (s.drop (k + 1))
      · rw [if_pos (by omega)]
        cases h48 : (s[k].toNat == 48) with
        | true =>
          have hE : tokE 2 (1 + runL digC (s.drop (k + 1))) s[k] = 1 := by
            have : s[k].toNat = 48 := by simpa using h48
            simp [tokE, h7, h1, this]
          rw [if_pos rfl]
          exact ⟨_, _, by rw [hE], rfl, fun h => by rw [hE] at h; cases h⟩
        | false =>
          have hE : tokE 2 (1 + runL digC (s.drop (k + 1))) s[k] = 0 := by
            have : ¬ s[k].toNat = 48 := by simpa using h48
            simp [tokE, h7, this]
          rw [if_neg Bool.false_ne_true]
          exact ⟨_, _, by rw [hE], rfl, fun _ => by rw [hr]; exact ⟨rfl, rfl⟩⟩
      · rw [if_neg (by omega)]
        have hE : tokE 2 (1 + runL digC (s.drop (k + 1))) s[k] = 0 := by simp [tokE, h7, h1]
        exact ⟨_, _, by rw [hE], rfl, fun _ => by rw [hr]; exact ⟨rfl, rfl⟩⟩
    | false =>
      simp only [Bool.false_eq_true, if_false, natI_nat, Option.bind_some, show k ≤ s.length by omega, if_true, List.take_length]
      have hpre : F_strings_HasPrefix (s.drop k) [61, 61] = some (s[k].toNat == 61 && twoC (s.drop (k + 1))) := by
        unfold F_strings_HasPrefix F_internal_stringslite_HasPrefix
        rw [hd]
        cases hr : s.drop (k + 1) with
        | nil => simp [twoC]
        | cons d r =>
          have e1 : (s[k] == (61 : UInt8)) = (s[k].toNat == 61) := by rw [Bool.eq_iff_iff]; simp [← UInt8.toNat_inj]
          have e2 : (d == (61 : UInt8)) = (d.toNat == 61) := by rw [Bool.eq_iff_iff]; simp [← UInt8.toNat_inj]
          simp only [List.length_cons, List.length_nil, show ((0 + 1 + 1 : Nat) : Int) ≤ ((r.length + 1 + 1 : Nat) : Int) by omega, if_true, show 0 + 1 + 1 ≤ r.length + 1 + 1 by omega, Option.bind_some, List.take_succ_cons, List.take_zero, List.drop_zero, twoC]
          show some ((s[k] == 61) && ((d == 61) && true)) = _
          rw [e1, e2, Bool.and_true]
      rw [hpre]
      simp only [Option.bind_some]
      cases g3 : (s[k].toNat == 61 && twoC (s.drop (k + 1))) with
      | true =>
        rw [if_pos rfl, if_pos (by rw [wrapI (by omega) (by omega)])]
        have h61 : s[k].toNat = 61 ∧ twoC (s.drop (k + 1)) = true := by simpa using g3
        refine ⟨_, _, rfl, rfl, fun _ => ⟨?_, by simp⟩⟩
        rw [hd]
        cases hr : s.drop (k + 1) with
        | nil => rw [hr] at h61; exact absurd h61.2 (by simp [twoC])
        | cons d r =>
          rw [hr] at h61
          have e1 : s[k] = 61 := by rw [← UInt8.toNat_inj]; exact h61.1
          have e2 : d = 61 := by rw [← UInt8.toNat_inj]; simpa [twoC] using h61.2
          rw [e1, e2]; rfl
      | false =>
        rw [if_neg Bool.false_ne_true]
        have hidx : indexByteS [123, 125, 40, 41, 59, 58, 33, 44, 61, 43, 45, 42, 60] (s[k].toNat : Int) = some (Lib.indexByte signL s[k]) := by
          unfold indexByteS signL
          simp
        rw [hidx]
        simp only [Option.bind_some, Bool.false_eq_true, if_false]
        have hany := indexByte_any signL s[k]
        cases g4 : signL.any (· == s[k]) with
        | true =>
          rw [g4] at hany
          have h0 := of_decide_eq_true hany
          have h128 : s[k].toNat < 128 := by
            obtain ⟨x, hx, hxe⟩ := List.any_eq_true.1 g4
            have : x = s[k] := by simpa using hxe
            subst this
            simp only [signL, List.mem_cons, List.not_mem_nil, or_false] at hx
            rcases hx with h | h | h | h | h | h | h | h | h | h | h | h | h <;> rw [h] <;> decide
          rw [if_pos h0, if_pos (by omega), if_pos (by rw [wrapI (by omega) (by omega)])]
          refine ⟨_, _, rfl, rfl, fun _ => ⟨?_, rfl⟩⟩
          rw [hd]
          show (⟨3, (k : Int), [UInt8.ofNat ((s[k].toNat : Int)).toNat]⟩ : Token) = ⟨3, (k : Int), [s[k]]⟩
          congr 2
          simp
        | false =>
          rw [g4] at hany
          have h0 := of_decide_eq_false hany
          rw [if_neg h0]
          exact ⟨_, _, rfl, rfl, fun h => by cases h⟩
end
/-- all tokens. -/
theorem scan_loop (s : List UInt8) (hs : s.length ≤ 6000) : ∀ (n p : Nat) (acc : List Token), p ≤ s.length → s.length - p < n → acc.length ≤ 10000 → acc.length + (s.length - p) ≤ 10000 →
    ∃ X, lp (fun v => B_token_Scan_0 s v.1 v.2.1 v.2.2) (acc, s, ((p + skipL false (s.drop p) : Nat) : Int)) = some X ∧
      (if (scanF n p (s.drop p)).2.2 ≠ 0 then ∃ z, X = .inl ((scanF n p (s.drop p)).2.1, (scanF n p (s.drop p)).2.2, z) else ∃ z, X = .inr (acc ++ (scanF n p (s.drop p)).1, z)) := by
  intro n
  induction n with
  | zero => intro p acc h1 h2; omega
  | succ n ih =>
    intro p acc hp hn ha1 ha2
    have hle := skipL_le (s.drop p) false
    rw [List.length_drop] at hle
    generalize hkk : p + skipL false (s.drop p) = k
    have hdd : (s.drop p).drop (skipL false (s.drop p)) = s.drop k := by rw [List.drop_drop, hkk]
    by_cases hlt : k < s.length
    · have hd : s.drop k = s[k] :: s.drop (k + 1) := List.drop_eq_getElem_cons hlt
      obtain ⟨t, sc, hF, hAt, hT⟩ := F_token s hs k hlt
      have hpos : tokE (tokAt (s.drop k)).1 (tokAt (s.drop k)).2 s[k] = 0 → 0 < (tokAt (s.drop k)).2 := fun h => tokAt_pos (by
        intro h0
        unfold tokE at h
        rw [if_pos h0] at h; cases h)
      have hTle := tokAt_le (s.drop k)
      rw [List.length_drop] at hTle
      have hcq := hdd.trans hd
      by_cases hE : tokE (tokAt (s.drop k)).1 (tokAt (s.drop k)).2 s[k] = 0
      · obtain ⟨rfl, rfl⟩ := hT hE
        have hp0 := hpos hE
        have hsk := F_skip s hs (k + (tokAt (s.drop k)).2) (by omega)
        have hstep : B_token_Scan_0 s acc s (k : Int) = some (.inl (acc ++ [⟨(tokAt (s.drop k)).1, (k : Int), (s.drop k).take (tokAt (s.drop k)).2⟩], s, ((k + (tokAt (s.drop k)).2 + skipL false (s.drop (k + (tokAt (s.drop k)).2)) : Nat) : Int))) := by
          simp only [B_token_Scan_0, show (k : Int) < (s.length : Int) by omega, if_true, hF, Option.bind_some, hE, bne_self_eq_false, Bool.false_eq_true, if_false, show acc.length + [(⟨(tokAt (s.drop k)).1, (k : Int), (s.drop k).take (tokAt (s.drop k)).2⟩ : Token)].length ≤ 1000000000 by simp; omega, hsk]
        obtain ⟨X, hX, hXe⟩ := ih (k + (tokAt (s.drop k)).2) (acc ++ [⟨(tokAt (s.drop k)).1, (k : Int), (s.drop k).take (tokAt (s.drop k)).2⟩]) (by omega) (by omega) (by simp; omega) (by simp; omega)
        refine ⟨X, by rw [lp_next hstep]; exact hX, ?_⟩
        have hS := scanF_tok (n := n) (a := p) hcq (by rw [← hd]; exact hE)
        rw [← hd, hkk, List.drop_drop] at hS
        rw [hS]
        generalize scanF n (k + (tokAt (s.drop k)).2) (s.drop (k + (tokAt (s.drop k)).2)) = R at hXe ⊢
        obtain ⟨ts, q, e⟩ := R
        by_cases he : e = 0
        · subst he
          simpa using hXe
        · simpa [he] using hXe
      · have hS := scanF_bad (n := n) (a := p) hcq (by rw [← hd]; exact hE)
        rw [← hd, hkk] at hS
        rw [hS]
        simp only [ne_eq, hE, not_false_eq_true, if_true]
        refine ⟨.inl (t.At, tokE (tokAt (s.drop k)).1 (tokAt (s.drop k)).2 s[k], acc), lp_end ?_, acc, ?_⟩
        · have hb : (tokE (tokAt (s.drop k)).1 (tokAt (s.drop k)).2 s[k] != 0) = true := bne_iff_ne.2 hE
          simp only [B_token_Scan_0, show (k : Int) < (s.length : Int) by omega, if_true, hF, Option.bind_some, hb]
        · rw [hAt]
    · have hk : k = s.length := by omega
      have hd : s.drop k = [] := by rw [hk, List.drop_length]
      rw [scanF_end (hdd.trans hd)]
      simp only [ne_eq, not_true_eq_false, if_false, List.append_nil]
      refine ⟨.inr (acc, false, s, (k : Int)), lp_end (by simp only [B_token_Scan_0, show ¬ (k : Int) < (s.length : Int) by omega, if_false, decide_false]), _, rfl⟩
theorem F_scan (s : List UInt8) : F_token_Scan s = some (scanS s) := by
  unfold F_token_Scan scanS
  by_cases h : 6000 < s.length
  · rw [if_pos (by omega), if_pos h]
  · rw [if_neg (by omega), if_neg h]
    have hs : s.length ≤ 6000 := by omega
    have hsk := F_skip s hs 0 (by omega)
    obtain ⟨X, hX, hXe⟩ := scan_loop s hs (s.length + 1) 0 [] (by omega) (by omega) (by simp) (by simp; omega)
    have hsk' : F_token_scanner_skip ⟨s, 0⟩ = _ := hsk
    rw [hsk']
    simp only [Option.bind_some]
    rw [hX]
    simp only [Option.bind_some, List.drop_zero] at hXe ⊢
    by_cases he : (scanF (s.length + 1) 0 s).2.2 = 0
    · rw [if_neg (by simpa using he)] at hXe
      obtain ⟨⟨z1, z2, z3⟩, rfl⟩ := hXe
      simp only [List.nil_append]
      have hpos : (scanF (s.length + 1) 0 s).2.1 = 0 := scanF_ok he
      generalize scanF (s.length + 1) 0 s = R at he hpos ⊢
      obtain ⟨a, b, c⟩ := R
      simp only at he hpos
      subst he; subst hpos
      rfl
    · rw [if_pos he] at hXe
      obtain ⟨z, rfl⟩ := hXe
      have hnil : (scanF (s.length + 1) 0 s).1 = [] := scanF_err he
      generalize scanF (s.length + 1) 0 s = R at he hnil ⊢
      obtain ⟨a, b, c⟩ := R
      simp only at he hnil
      subst hnil
      rfl
end Go.Proofs.Ythfllmkfgdknkaa.A
