/- The document's scan answers as scanS says. -/
import Derived.Test.YthfllmkfgdknkaaTokP
import Derived.Test.YthfllmkfgdknkaaFR
set_option linter.unusedSectionVars false
set_option linter.unusedVariables false
set_option linter.unusedSimpArgs false
namespace Go.Proofs.Ythfllmkfgdknkaa.A
open Go
theorem nbN (n m : Nat) : ((n : Int) == (m : Int)) = (n == m) := by rw [Bool.eq_iff_iff]; simp; omega
theorem u8eq (c d : UInt8) : (c.toNat == d.toNat) = (c == d) := by rw [Bool.eq_iff_iff]; simp [← UInt8.toNat_inj]
theorem tokAt_kind (r : List UInt8) : (tokAt r).1 = 0 ∨ (tokAt r).1 = 1 ∨ (tokAt r).1 = 2 ∨ (tokAt r).1 = 3 := by
  cases r with
  | nil => exact .inl rfl
  | cons c r =>
    show (tokC c r).1 = 0 ∨ (tokC c r).1 = 1 ∨ (tokC c r).1 = 2 ∨ (tokC c r).1 = 3
    unfold tokC
    by_cases g1 : letC c = true
    · rw [if_pos g1]; exact .inr (.inl rfl)
    rw [if_neg g1]
    by_cases g2 : digC c = true
    · rw [if_pos g2]; exact .inr (.inr (.inl rfl))
    rw [if_neg g2]
    by_cases g3 : (c.toNat == 61 && twoC r) = true
    · rw [if_pos g3]; exact .inr (.inr (.inr rfl))
    rw [if_neg g3]
    by_cases g4 : signL.any (· == c) = true
    · rw [if_pos g4]; exact .inr (.inr (.inr rfl))
    · rw [if_neg g4]; exact .inl rfl
theorem skip_zero {c : UInt8} {r : List UInt8} (h : skipL false (c :: r) = 0) : (c.toNat == 35) = false ∧ ((c.toNat == 32) = false ∧ (c.toNat == 9) = false) ∧ (c.toNat == 10) = false := by
  simp only [skipL] at h
  cases h35 : (c.toNat == 35) with
  | true => rw [h35] at h; simp at h
  | false =>
    rw [h35] at h
    cases hw : wsC c with
    | true => rw [hw] at h; simp at h
    | false =>
      refine ⟨rfl, ?_⟩
      unfold wsC at hw
      simpa only [Bool.or_eq_false_iff] using hw
variable [Lp]
theorem R_between (n x y : Int) : F_R_between n x y = some (decide (x ≤ n ∧ n ≤ y)) := by
  unfold F_R_between
  by_cases h : x ≤ n <;> simp [h]
theorem R_letter (c : UInt8) : F_R_isLetter (c.toNat : Int) = some (letC c) := by
  unfold F_R_isLetter letC
  rw [wrapB _ (u8lt c), R_between, Option.bind_some]
  congr 1; rw [Bool.eq_iff_iff]; simp; omega
theorem R_digit (c : UInt8) : F_R_isDigit (c.toNat : Int) = some (digC c) := by
  unfold F_R_isDigit digC
  rw [wrapB _ (u8lt c), R_between, Option.bind_some]
  congr 1; rw [Bool.eq_iff_iff]; simp; omega
section
variable (s : List UInt8) (hs : s.length ≤ 6000)
include hs
theorem R_tokenAt (k : Nat) (hk : k < s.length) : F_R_TokenAt s (k : Int) = some ((tokAt (s.drop k)).1, ((tokAt (s.drop k)).2 : Int)) := by
  have hd : s.drop k = s[k] :: s.drop (k + 1) := List.drop_eq_getElem_cons hk
  have hT : tokAt (s.drop k) = tokC s[k] (s.drop (k + 1)) := by rw [hd]; rfl
  unfold F_R_TokenAt
  simp only [natI_nat, Option.bind_some, get_u8 hk, R_letter, R_digit, nb61]
  rw [hT]
  unfold tokC
  have hj : ∀ j, k ≤ j → (k : Int) + ((j - k : Nat) : Int) = (j : Int) := fun j h => by omega
  cases g1 : letC s[k] with
  | true =>
    have h := lp_run (B := fun v => B_R_TokenAt_0 s (k : Int) v) s alnC (fun j => j - k) (fun j => .inl (j - k, false)) (.inr (s.length - k)) (k + 1)
      (fun j hj1 hlo hp => by
        simp only [B_R_TokenAt_0, hj j (by omega), wrapI (show -1000000000 < (j : Int) by omega) (by omega), if_true, show (j : Int) < (s.length : Int) by omega, natI_nat, Option.bind_some, get_u8 hj1, R_letter, R_digit, wrapS (j - k) (by omega),
          show j - k + 1 = j + 1 - k by omega]
        unfold alnC at hp
        cases hl : letC s[j] with
        | true => simp
        | false =>
          have : digC s[j] = true := by simpa [hl] using hp
          simp [this])
      (fun j hj1 hlo hp => by
        unfold alnC at hp
        obtain ⟨h1, h2⟩ := Bool.or_eq_false_iff.1 hp
        simp only [B_R_TokenAt_0, hj j (by omega), wrapI (show -1000000000 < (j : Int) by omega) (by omega), if_true, show (j : Int) < (s.length : Int) by omega, natI_nat, Option.bind_some, get_u8 hj1, R_letter, R_digit, h1, h2, Bool.false_eq_true, if_false])
      (by simp only [B_R_TokenAt_0, hj s.length (by omega), wrapI (show -1000000000 < (s.length : Int) by omega) (by omega), if_true, show ¬ (s.length : Int) < (s.length : Int) by omega, if_false]) (k + 1) (Nat.le_refl _) (by omega)
    have h' := h
    rw [show k + 1 - k = 1 by omega] at h'
    have hle := runL_le alnC (s.drop (k + 1))
    rw [List.length_drop] at hle
    simp only [if_true, h']
    by_cases hlt : k + 1 + runL alnC (s.drop (k + 1)) < s.length
    · simp only [if_pos hlt, Option.bind_some]
      rw [show k + 1 + runL alnC (s.drop (k + 1)) - k = 1 + runL alnC (s.drop (k + 1)) by omega]
    · simp only [if_neg hlt, Option.bind_some]
      rw [show s.length - k = 1 + runL alnC (s.drop (k + 1)) by omega]
  | false =>
    simp only [Bool.false_eq_true, if_false]
    cases g2 : digC s[k] with
    | true =>
      have h := lp_run (B := fun v => B_R_TokenAt_1 s (k : Int) v) s digC (fun j => j - k) (fun j => .inl (j - k, false)) (.inr (s.length - k)) (k + 1)
        (fun j hj1 hlo hp => by
          simp only [B_R_TokenAt_1, hj j (by omega), wrapI (show -1000000000 < (j : Int) by omega) (by omega), if_true, show (j : Int) < (s.length : Int) by omega, natI_nat, Option.bind_some, get_u8 hj1, R_digit, hp, wrapS (j - k) (by omega),
            show j - k + 1 = j + 1 - k by omega])
        (fun j hj1 hlo hp => by
          simp only [B_R_TokenAt_1, hj j (by omega), wrapI (show -1000000000 < (j : Int) by omega) (by omega), if_true, show (j : Int) < (s.length : Int) by omega, natI_nat, Option.bind_some, get_u8 hj1, R_digit, hp, Bool.false_eq_true, if_false])
        (by simp only [B_R_TokenAt_1, hj s.length (by omega), wrapI (show -1000000000 < (s.length : Int) by omega) (by omega), if_true, show ¬ (s.length : Int) < (s.length : Int) by omega, if_false]) (k + 1) (Nat.le_refl _) (by omega)
      have h' := h
      rw [show k + 1 - k = 1 by omega] at h'
      have hle := runL_le digC (s.drop (k + 1))
      rw [List.length_drop] at hle
      simp only [if_true, h']
      by_cases hlt : k + 1 + runL digC (s.drop (k + 1)) < s.length
      · simp only [if_pos hlt, Option.bind_some]
        rw [show k + 1 + runL digC (s.drop (k + 1)) - k = 1 + runL digC (s.drop (k + 1)) by omega]
      · simp only [if_neg hlt, Option.bind_some]
        rw [show s.length - k = 1 + runL digC (s.drop (k + 1)) by omega]
    | false =>
      simp only [Bool.false_eq_true, if_false]
      have hD : D_R_TokenAt_d0 s[k] = some (if signL.any (· == s[k]) = true then .inl () else .inr ()) := by
        have hB : ∀ v : Nat, B_R_TokenAt_2 s[k] v = (if (v : Int) < ((signL.length : Nat) : Int) then (signL[v]?).bind fun (c20 : UInt8) => if ((c20.toNat : Int) == (s[k].toNat : Int)) = true then some (.inr (.inl ())) else
            if IntKind.i64.wrap ((v : Int) + 1) = ((v + 1 : Nat) : Int) then some (.inl (v + 1)) else none else some (.inr (.inr (v, decide ((v : Int) < ((signL.length : Nat) : Int)))))) := fun v => rfl
        have h := lp_any (B := fun v => B_R_TokenAt_2 s[k] v) signL (· == s[k]) id (x := .inl ()) (y := .inr (signL.length, false))
          (fun j hj1 hp => by
            have hj2 : j < 13 := hj1
            have hp' : (signL[j] == s[k]) = false := hp
            simp only [hB, id, show (j : Int) < ((signL.length : Nat) : Int) by omega, if_true, List.getElem?_eq_getElem hj1, Option.bind_some, nbN, u8eq, wrapS j (by omega)]
            exact if_neg (fun h => Bool.false_ne_true (hp.symm.trans h)))
          (fun j hj1 hp => by
            have hp' : (signL[j] == s[k]) = true := hp
            simp only [hB, id, show (j : Int) < ((signL.length : Nat) : Int) by omega, if_true, List.getElem?_eq_getElem hj1, Option.bind_some, nbN, u8eq]
            exact if_pos hp')
          (by simp only [hB, id, show ¬ (signL.length : Int) < (signL.length : Int) by omega, if_false, decide_false])
        have h' : lp (fun v => B_R_TokenAt_2 s[k] v) 0 = _ := h
        unfold D_R_TokenAt_d0
        rw [h']
        cases signL.any (· == s[k]) <;> rfl
      cases g61 : (s[k].toNat == 61) with
      | false =>
        simp only [Bool.false_eq_true, if_false, Bool.false_and, hD, Option.bind_some]
        cases signL.any (· == s[k]) <;> rfl
      | true =>
        have hw : IntKind.i64.wrap ((k : Int) + 1) = (k : Int) + 1 := wrapA k (by omega)
        simp only [if_true, hw, Bool.true_and]
        by_cases hk1 : k + 1 < s.length
        · have hd1 : s.drop (k + 1) = s[k + 1] :: s.drop (k + 2) := List.drop_eq_getElem_cons hk1
          have hn : natI ((k : Int) + 1) = some (k + 1) := by rw [natI_nn (by omega)]; congr 1
          rw [hd1]
          simp only [show (k : Int) + 1 < (s.length : Int) by omega, if_true, hn, Option.bind_some, get_u8 hk1, nb61, twoC]
          by_cases hb : (s[k + 1].toNat == 61) = true
          · simp only [hb, if_true]; rfl
          · simp only [hb, if_false, hD, Option.bind_some]
            cases signL.any (· == s[k]) <;> rfl
        · have hd1 : s.drop (k + 1) = [] := List.drop_eq_nil_of_le (by omega)
          rw [hd1]
          simp only [show ¬ (k : Int) + 1 < (s.length : Int) by omega, if_false, twoC, Bool.false_eq_true, hD, Option.bind_some]
          cases signL.any (· == s[k]) <;> rfl
theorem ref_skip (acc : List Token) : ∀ m k note, k + m = s.length → ∃ note', lp (fun v => B_R_ScanOf_0 s v.1 v.2.1 v.2.2) (note, (k : Int), acc) = lp (fun v => B_R_ScanOf_0 s v.1 v.2.1 v.2.2) (note', ((k + skipL note (s.drop k) : Nat) : Int), acc) ∧
    (k + skipL note (s.drop k) < s.length → note' = false) := by
  intro m
  induction m with
  | zero =>
    intro k note hk
    obtain rfl : k = s.length := by omega
    rw [List.drop_length]
    exact ⟨note, by cases note <;> rfl, fun h => by cases note <;> simp [skipL] at h⟩
  | succ m ih =>
    intro k note hk
    have hlt : k < s.length := by omega
    have hd : s.drop k = s[k] :: s.drop (k + 1) := List.drop_eq_getElem_cons hlt
    have hL : (k : Int) < (s.length : Int) := by omega
    have hc1 : (k : Int) + 1 = ((k + 1 : Nat) : Int) := by omega
    rw [hd]
    cases note with
    | true =>
      obtain ⟨n', h1, h2⟩ := ih (k + 1) (s[k].toNat != 10) (by omega)
      refine ⟨n', ?_, fun h => h2 (by simp only [skipL] at h; omega)⟩
      rw [lp_next (w := (s[k].toNat != 10, ((k + 1 : Nat) : Int), acc)) (by simp only [B_R_ScanOf_0, hL, if_true, natI_nat, Option.bind_some, get_u8 hlt, nn10, wrapA k (by omega)]; rfl), h1]
      simp only [skipL]
      rw [show k + 1 + skipL (s[k].toNat != 10) (s.drop (k + 1)) = k + (1 + skipL (s[k].toNat != 10) (s.drop (k + 1))) by omega]
    | false =>
      simp only [skipL]
      cases h35 : (s[k].toNat == 35) with
      | true =>
        have h10 : (s[k].toNat != 10) = true := by
          have : s[k].toNat = 35 := by simpa using h35
          rw [this]; rfl
        obtain ⟨n', h1, h2⟩ := ih (k + 1) true (by omega)
        refine ⟨n', ?_, fun h => h2 (by simp only [if_true] at h; omega)⟩
        rw [lp_next (w := (true, ((k + 1 : Nat) : Int), acc)) (by simp only [B_R_ScanOf_0, hL, if_true, Bool.false_eq_true, if_false, natI_nat, Option.bind_some, get_u8 hlt, nn10, nb35, h35, h10, wrapA k (by omega)]; rfl), h1]
        simp only [if_true]
        rw [show k + 1 + skipL true (s.drop (k + 1)) = k + (1 + skipL true (s.drop (k + 1))) by omega]
      | false =>
        cases hw : wsC s[k] with
        | true =>
          obtain ⟨n', h1, h2⟩ := ih (k + 1) false (by omega)
          refine ⟨n', ?_, fun h => h2 (by simp only [Bool.false_eq_true, if_false, if_true] at h; omega)⟩
          rw [lp_next (w := (false, ((k + 1 : Nat) : Int), acc)) (by
            unfold wsC at hw
            simp only [B_R_ScanOf_0, hL, if_true, Bool.false_eq_true, if_false, natI_nat, Option.bind_some, get_u8 hlt, nb35, nb32, nb9, nb10, h35, wrapA k (by omega)]
            cases h32 : (s[k].toNat == 32) with
            | true => rfl
            | false =>
              cases h9 : (s[k].toNat == 9) with
              | true => rfl
              | false =>
                have h10 : (s[k].toNat == 10) = true := by simpa [h32, h9] using hw
                rw [h10]; rfl), h1]
          simp only [Bool.false_eq_true, if_false, if_true]
          rw [show k + 1 + skipL false (s.drop (k + 1)) = k + (1 + skipL false (s.drop (k + 1))) by omega]
        | false => exact ⟨false, by simp, fun _ => rfl⟩
theorem ref_loop : ∀ (n p : Nat) (acc : List Token), p ≤ s.length → s.length - p < n → acc.length + (s.length - p) ≤ 10000 →
    ∃ X, lp (fun v => B_R_ScanOf_0 s v.1 v.2.1 v.2.2) (false, (p : Int), acc) = some X ∧
      (if (scanF n p (s.drop p)).2.2 ≠ 0 then (∃ z, X = .inl ((scanF n p (s.drop p)).2.1, z) ∧ (scanF n p (s.drop p)).2.2 = 1) ∨ (∃ z, X = .inr (.inl ((scanF n p (s.drop p)).2.1, z)) ∧ (scanF n p (s.drop p)).2.2 = 2)
        else ∃ z, X = .inr (.inr (acc ++ (scanF n p (s.drop p)).1, z))) := by
  intro n
  induction n with
  | zero => intro p acc h1 h2; omega
  | succ n ih =>
    intro p acc hp hn ha2
    have hle := skipL_le (s.drop p) false
    rw [List.length_drop] at hle
    obtain ⟨note', hsk, hnote⟩ := ref_skip s hs acc (s.length - p) p false (by omega)
    generalize hkk : p + skipL false (s.drop p) = k at hsk hnote
    have hdd : (s.drop p).drop (skipL false (s.drop p)) = s.drop k := by rw [List.drop_drop, hkk]
    have hidem := skip_idem (s.drop p) false
    rw [hdd] at hidem
    rw [hsk]
    by_cases hlt : k < s.length
    · have hd : s.drop k = s[k] :: s.drop (k + 1) := List.drop_eq_getElem_cons hlt
      obtain rfl := hnote hlt
      rw [hd] at hidem
      obtain ⟨c35, ⟨c32, c9⟩, c10⟩ := skip_zero hidem
      have hpos : tokE (tokAt (s.drop k)).1 (tokAt (s.drop k)).2 s[k] = 0 → 0 < (tokAt (s.drop k)).2 := fun h => tokAt_pos (by
        intro h0
        unfold tokE at h
        rw [if_pos h0] at h; cases h)
      have hTle := tokAt_le (s.drop k)
      rw [List.length_drop] at hTle
      have hcq := hdd.trans hd
      have hL : (k : Int) < (s.length : Int) := by omega
      have hadd : (k : Int) + ((tokAt (s.drop k)).2 : Int) = ((k + (tokAt (s.drop k)).2 : Nat) : Int) := by omega
      have hwr : IntKind.i64.wrap ((k + (tokAt (s.drop k)).2 : Nat) : Int) = ((k + (tokAt (s.drop k)).2 : Nat) : Int) := wrapI (by omega) (by omega)
      have htext : (s.take (k + (tokAt (s.drop k)).2)).drop k = (s.drop k).take (tokAt (s.drop k)).2 := take_run s hs
      have hbase : B_R_ScanOf_0 s false (k : Int) acc = (if ((tokAt (s.drop k)).1 == 0) = true then some (.inr (.inl ((k : Int), acc))) else
          if tokE (tokAt (s.drop k)).1 (tokAt (s.drop k)).2 s[k] = 0 then some (.inl (false, ((k + (tokAt (s.drop k)).2 : Nat) : Int), acc ++ [⟨(tokAt (s.drop k)).1, (k : Int), (s.drop k).take (tokAt (s.drop k)).2⟩])) else
          if tokE (tokAt (s.drop k)).1 (tokAt (s.drop k)).2 s[k] = 1 then some (.inr (.inl ((k : Int), acc))) else some (.inr (.inr (.inl ((k : Int), acc))))) := by
        simp only [B_R_ScanOf_0, hL, if_true, Bool.false_eq_true, if_false, natI_nat, Option.bind_some, get_u8 hlt, nb35, nb32, nb9, nb10, c35, c32, c9, c10, R_tokenAt s hs k hlt, hadd, hwr, show k ≤ k + (tokAt (s.drop k)).2 by omega, show k + (tokAt (s.drop k)).2 ≤ s.length by omega, htext,
          D_R_ScanOf_d5, D_R_ScanOf_d6, show ∀ t : Token, acc.length + [t].length ≤ 1000000000 from fun t => by simp; omega]
        have hfirst : 0 < (tokAt (s.drop k)).2 → ((s.drop k).take (tokAt (s.drop k)).2)[0]? = some s[k] := fun h => by
          rw [List.getElem?_take_of_lt h, hd]; rfl
        have hpos' := tokAt_pos (r := s.drop k)
        have hkind := tokAt_kind (s.drop k)
        clear htext hwr hadd hTle hpos ih
        revert hfirst hpos' hkind
        generalize (s.drop k).take (tokAt (s.drop k)).2 = tx
        generalize (tokAt (s.drop k)).1 = kd
        generalize (tokAt (s.drop k)).2 = m
        intro hfirst hpos' hkind
        rcases hkind with rfl | rfl | rfl | rfl
        · simp
        · by_cases h12 : 12 < m
          · have h12' : (12 : Int) < (m : Int) := by omega
            simp [tokE, h12, h12']
          · have h12' : ¬ (12 : Int) < (m : Int) := by omega
            simp [tokE, h12, h12']
        · have hf := hfirst (hpos' (by simp))
          by_cases h7 : 7 < m
          · have h7' : (7 : Int) < (m : Int) := by omega
            simp [tokE, h7, h7']
          · have h7' : ¬ (7 : Int) < (m : Int) := by omega
            by_cases h1 : 1 < m
            · have h1' : (1 : Int) < (m : Int) := by omega
              simp only [hf, Option.bind_some, nb48]
              by_cases h48 : s[k].toNat = 48
              · simp [tokE, h7, h7', h1, h1', h48]
              · simp [tokE, h7, h7', h1, h1', h48]
            · have h1' : ¬ (1 : Int) < (m : Int) := by omega
              simp [tokE, h7, h7', h1, h1']
        · simp [tokE]
      by_cases hE : tokE (tokAt (s.drop k)).1 (tokAt (s.drop k)).2 s[k] = 0
      · have hp0 := hpos hE
        have hkd : ((tokAt (s.drop k)).1 == 0) = false := by
          have : (tokAt (s.drop k)).1 ≠ 0 := by
            intro h0
            unfold tokE at hE
            rw [if_pos h0] at hE; cases hE
          simpa using this
        rw [hkd, if_neg Bool.false_ne_true, if_pos hE] at hbase
        obtain ⟨X, hX, hXe⟩ := ih (k + (tokAt (s.drop k)).2) (acc ++ [⟨(tokAt (s.drop k)).1, (k : Int), (s.drop k).take (tokAt (s.drop k)).2⟩]) (by omega) (by omega) (by simp; omega)
        refine ⟨X, by rw [lp_next hbase]; exact hX, ?_⟩
        have hS := scanF_tok (n := n) (a := p) hcq (by rw [← hd]; exact hE)
        rw [← hd, hkk, List.drop_drop] at hS
        rw [hS]
        generalize scanF n (k + (tokAt (s.drop k)).2) (s.drop (k + (tokAt (s.drop k)).2)) = R at hXe ⊢
        obtain ⟨ts, q, e⟩ := R
        by_cases he : e = 0
        · subst he
          simpa using hXe
        · simpa [he] using hXe
      · have hS := scanF_bad (n := n) (a := p) hcq (by rw [← hd]; exact hE)
        rw [← hd, hkk] at hS
        rw [hS]
        simp only [ne_eq, hE, not_false_eq_true, if_true]
        by_cases hE1 : tokE (tokAt (s.drop k)).1 (tokAt (s.drop k)).2 s[k] = 1
        · have : B_R_ScanOf_0 s false (k : Int) acc = some (.inr (.inl ((k : Int), acc))) := by
            by_cases hz : ((tokAt (s.drop k)).1 == 0) = true
            · rw [hbase, if_pos hz]
            · rw [hbase, if_neg hz, if_neg hE, if_pos hE1]
          exact ⟨_, lp_end this, .inl ⟨acc, rfl, hE1⟩⟩
        · have hkd : ((tokAt (s.drop k)).1 == 0) = false := by
            have : (tokAt (s.drop k)).1 ≠ 0 := by
              intro h0
              unfold tokE at hE1
              rw [if_pos h0] at hE1; exact hE1 rfl
            simpa using this
          rw [hkd, if_neg Bool.false_ne_true, if_neg hE, if_neg hE1] at hbase
          refine ⟨_, lp_end hbase, .inr ⟨acc, rfl, ?_⟩⟩
          unfold tokE at hE hE1 ⊢
          split at hE1
          · exact absurd rfl hE1
          · rename_i h0
            rw [if_neg h0]
            split at hE1
            · rename_i h1; rw [if_pos h1]
            · rename_i h1
              split at hE1
              · exact absurd rfl hE1
              · rename_i h2
                rw [if_neg h0, if_neg h1, if_neg h2] at hE; exact absurd rfl hE
    · have hk : k = s.length := by omega
      have hd : s.drop k = [] := by rw [hk, List.drop_length]
      rw [scanF_end (hdd.trans hd)]
      simp only [ne_eq, not_true_eq_false, if_false, List.append_nil]
      exact ⟨.inr (.inr (acc, note', (k : Int), false)), lp_end (by simp only [B_R_ScanOf_0, show ¬ (k : Int) < (s.length : Int) by omega, if_false, decide_false]), _, rfl⟩
end
theorem R_scan (s : List UInt8) : F_R_ScanOf s = some (scanS s) := by
  unfold F_R_ScanOf scanS
  by_cases h : 6000 < s.length
  · rw [if_pos (by omega), if_pos h]
  · rw [if_neg (by omega), if_neg h]
    have hs : s.length ≤ 6000 := by omega
    obtain ⟨X, hX, hXe⟩ := ref_loop s hs (s.length + 1) 0 [] (by omega) (by omega) (by simp; omega)
    have hX' : lp (fun v => B_R_ScanOf_0 s v.1 v.2.1 v.2.2) (false, 0, ([] : List Token)) = some X := hX
    rw [hX']
    simp only [Option.bind_some, List.drop_zero] at hXe ⊢
    by_cases he : (scanF (s.length + 1) 0 s).2.2 = 0
    · rw [if_neg (by simpa using he)] at hXe
      obtain ⟨⟨z1, z2, z3⟩, rfl⟩ := hXe
      simp only [List.nil_append]
      have hpos : (scanF (s.length + 1) 0 s).2.1 = 0 := scanF_ok he
      generalize scanF (s.length + 1) 0 s = R at he hpos ⊢
      obtain ⟨a, b, c⟩ := R
      simp only at he hpos
      subst he; subst hpos
      rfl
    · rw [if_pos he] at hXe
      have hnil : (scanF (s.length + 1) 0 s).1 = [] := scanF_err he
      generalize scanF (s.length + 1) 0 s = R at he hnil hXe ⊢
      obtain ⟨a, b, c⟩ := R
      simp only at he hnil hXe
      subst hnil
      rcases hXe with ⟨z, rfl, rfl⟩ | ⟨z, rfl, rfl⟩ <;> rfl
end Go.Proofs.Ythfllmkfgdknkaa.A
