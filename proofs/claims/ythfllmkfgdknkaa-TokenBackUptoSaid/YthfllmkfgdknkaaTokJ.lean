/- tokens joined: the program's Join and the document's are the same plain function. -/
import Derived.Test.YthfllmkfgdknkaaTokL
set_option linter.unusedSectionVars false
set_option linter.unusedVariables false
set_option linter.unusedSimpArgs false
namespace Go.Proofs.Ythfllmkfgdknkaa.A
open Go
/-- is a text just one token of a kind? -/
def isT (k : Int) : List UInt8 → Bool
  | [] => false
  | c :: q => decide ((c :: q).length ≤ 6000) && (decide (k ≠ 0) && (decide ((tokAt (c :: q)).1 = k) && (decide ((tokAt (c :: q)).2 = (c :: q).length) && decide (tokE k (c :: q).length c = 0))))
theorem isT_iff {k : Int} {c : UInt8} {q : List UInt8} : isT k (c :: q) = true ↔ (c :: q).length ≤ 6000 ∧ k ≠ 0 ∧ (tokAt (c :: q)).1 = k ∧ (tokAt (c :: q)).2 = (c :: q).length ∧ tokE k (c :: q).length c = 0 := by
  unfold isT
  rw [Bool.and_eq_true, Bool.and_eq_true, Bool.and_eq_true, Bool.and_eq_true, decide_eq_true_eq, decide_eq_true_eq, decide_eq_true_eq, decide_eq_true_eq, decide_eq_true_eq]
theorem skip_tok {c : UInt8} {q : List UInt8} (h : (tokAt (c :: q)).1 ≠ 0) : skipL false (c :: q) = 0 := by
  have h' : (tokC c q).1 ≠ 0 := h
  have h35 : c.toNat ≠ 35 := by
    intro e
    unfold tokC letC digC signL at h'
    have hc : c = 35 := by rw [← UInt8.toNat_inj]; exact e
    subst hc
    simp at h'
  have hw : wsC c = false := by
    rw [Bool.eq_false_iff]
    intro hw
    have : c = 32 ∨ c = 9 ∨ c = 10 := by
      unfold wsC at hw
      simp only [Bool.or_eq_true, beq_iff_eq] at hw
      rcases hw with (h | h) | h
      · left; rw [← UInt8.toNat_inj]; exact h
      · right; left; rw [← UInt8.toNat_inj]; exact h
      · right; right; rw [← UInt8.toNat_inj]; exact h
    unfold tokC letC digC signL at h'
    rcases this with rfl | rfl | rfl <;> simp at h'
  unfold skipL
  simp [h35, hw]
theorem scan_isT {k : Int} {t : List UInt8} (h : isT k t = true) : scanS t = ([⟨k, 0, t⟩], 0, 0) := by
  cases t with
  | nil => cases h
  | cons c q =>
    obtain ⟨h1, h2, h3, h4, h5⟩ := isT_iff.1 h
    have hs := skip_tok (c := c) (q := q) (by rw [h3]; exact h2)
    unfold scanS
    rw [if_neg (by omega), scanF_tok (c := c) (q := q) (by rw [hs]; rfl) (by rw [h3, h4]; exact h5), h4, List.drop_length, h3, hs, List.take_length]
    rw [List.length_cons, scanF_end (show ([] : List UInt8).drop (skipL false []) = [] from rfl)]
    rfl
theorem isT_scan {k : Int} {t : List UInt8} {x : Token} (h0 : (scanS t).2.2 = 0) (h1 : (scanS t).1 = [x]) (h2 : x.Kind = k) (h3 : x.Text = t) : isT k t = true := by
  unfold scanS at h0 h1
  split at h0
  · exact absurd h0 (by decide)
  · rename_i hl
    rw [if_neg hl] at h1
    cases h : t.drop (skipL false t) with
    | nil => rw [scanF_end h] at h1; cases h1
    | cons c q =>
      have hlen : (c :: q).length = t.length - skipL false t := by rw [← h, List.length_drop]
      by_cases hE : tokE (tokAt (c :: q)).1 (tokAt (c :: q)).2 c = 0
      · rw [scanF_tok h hE] at h1
        split at h1
        · cases h1
        · obtain ⟨h4, h5⟩ := List.cons.inj h1
          subst h4
          have h6 : (c :: q).take (tokAt (c :: q)).2 = t := h3
          have h7 := congrArg List.length h6
          rw [List.length_take] at h7
          have ht := tokAt_le (c :: q)
          have hne : t.length ≠ 0 := by
            intro e
            rw [e] at hlen
            simp at hlen
          have hsk : skipL false t = 0 := by omega
          rw [hsk, List.drop_zero] at h
          subst h
          have h8 : (tokAt (c :: q)).1 = k := h2
          refine isT_iff.2 ⟨by omega, ?_, h8, by omega, ?_⟩
          · intro e
            rw [h8, e] at hE
            exact absurd hE (by simp [tokE])
          · rw [h8] at hE
            rw [show (tokAt (c :: q)).2 = (c :: q).length by omega] at hE
            exact hE
      · rw [scanF_bad h hE] at h1; cases h1
variable [Lp]
theorem F_one (k : Int) (t : List UInt8) : F_token_one k t = some (isT k t) := by
  unfold F_token_one
  rw [F_scan, Option.bind_some]
  cases hT : isT k t with
  | true => rw [scan_isT hT]; simp
  | false =>
    by_cases h0 : (scanS t).2.2 = 0
    · cases h1 : (scanS t).1 with
      | nil => simp [h0]
      | cons x r =>
        cases r with
        | cons y r => simp [h0]; omega
        | nil =>
          simp only [h0, beq_self_eq_true, if_true, List.length_cons, List.length_nil, List.getElem?_cons_zero, Option.bind_some]
          by_cases h2 : x.Kind = k
          · by_cases h3 : x.Text = t
            · rw [isT_scan h0 h1 h2 h3] at hT; cases hT
            · simp [h2, h3]
          · simp [h2]
    · simp [h0]
theorem R_isToken (k : Int) (t : List UInt8) : F_R_IsToken k t = some (isT k t) := by
  cases t with
  | nil => rfl
  | cons c q =>
    unfold F_R_IsToken
    have hne : ((c :: q) == ([] : List UInt8)) = false := rfl
    rw [hne]
    simp only [Bool.false_eq_true, if_false]
    by_cases hl : 6000 < ((c :: q).length : Int)
    · rw [if_pos hl]
      have : isT k (c :: q) = false := by rw [Bool.eq_false_iff]; intro h; have := (isT_iff.1 h).1; omega
      rw [this]
    rw [if_neg hl]
    by_cases hk : k = 0
    · subst hk
      have : isT 0 (c :: q) = false := by rw [Bool.eq_false_iff]; intro h; exact (isT_iff.1 h).2.1 rfl
      rw [this]; rfl
    have hk' : (k == 0) = false := by simpa using hk
    rw [hk']
    simp only [Bool.false_eq_true, if_false]
    have hr := R_tokenAt (c :: q) (by omega) 0 (by simp)
    rw [show ((0 : Nat) : Int) = 0 from rfl] at hr
    rw [hr, Option.bind_some, List.drop_zero]
    by_cases h1 : (tokAt (c :: q)).1 = k
    · have e1 : ((tokAt (c :: q)).1 == k) = true := by simpa using h1
      simp only [e1, if_true]
      by_cases h2 : (tokAt (c :: q)).2 = (c :: q).length
      · have e2 : (((tokAt (c :: q)).2 : Int) == ((c :: q).length : Int)) = true := by rw [h2]; simp
        simp only [e2, if_true, h1, h2]
        have goal : isT k (c :: q) = decide (tokE k (c :: q).length c = 0) := by
          rw [Bool.eq_iff_iff, isT_iff, decide_eq_true_eq]
          exact ⟨fun h => h.2.2.2.2, fun h => ⟨by omega, hk, h1, h2, h⟩⟩
        rw [goal]
        generalize hn : (c :: q).length = n
        have hg : (c :: q)[0]? = some c := rfl
        rw [hg]
        unfold tokE
        rw [if_neg hk]
        by_cases k1 : k = 1
        · subst k1
          by_cases g : 12 < n
          · have : (12 : Int) < (n : Int) := by omega
            simp [g, this]
          · have : ¬ (12 : Int) < (n : Int) := by omega
            simp [g, this]
        · have e3 : (k == 1) = false := by simpa using k1
          by_cases k2 : k = 2
          · subst k2
            by_cases g : 7 < n
            · have : (7 : Int) < (n : Int) := by omega
              simp [g, this]
            · have g' : ¬ (7 : Int) < (n : Int) := by omega
              by_cases g1 : 1 < n
              · have g1' : (1 : Int) < (n : Int) := by omega
                by_cases g2 : c.toNat = 48
                · simp [g, g', g1, g1', g2]
                · have : ¬ (c.toNat : Int) = 48 := by omega
                  simp [g, g', g1, g1', g2, this]
              · have g1' : ¬ (1 : Int) < (n : Int) := by omega
                simp [g, g', g1, g1']
          · simp [k1, k2]
      · have e2 : (((tokAt (c :: q)).2 : Int) == ((c :: q).length : Int)) = false := by simp; intro e; exact h2 (by simp; omega)
        simp only [e2, Bool.false_eq_true, if_false]
        have : isT k (c :: q) = false := by rw [Bool.eq_false_iff]; intro h; exact h2 (isT_iff.1 h).2.2.2.1
        rw [this]
    · have e1 : ((tokAt (c :: q)).1 == k) = false := by simpa using h1
      simp only [e1, Bool.false_eq_true, if_false]
      have : isT k (c :: q) = false := by rw [Bool.eq_false_iff]; intro h; exact h1 (isT_iff.1 h).2.2.1
      rw [this]
/-- how long all texts are, and one for each. -/
def wsum (l : List Token) : Nat := (l.map fun t => 1 + t.Text.length).sum
theorem wsum_cons (t : Token) (l : List Token) : wsum (t :: l) = 1 + t.Text.length + wsum l := by simp [wsum]
theorem wsum_append (l m : List Token) : wsum (l ++ m) = wsum l + wsum m := by simp [wsum]
theorem wsum_len : ∀ l : List Token, l.length ≤ wsum l
  | [] => Nat.le_refl _
  | t :: l => by have := wsum_len l; rw [wsum_cons, List.length_cons]; omega
theorem wsum_take (l : List Token) (k : Nat) : wsum (l.take k) ≤ wsum l := by
  have := wsum_append (l.take k) (l.drop k)
  rw [List.take_append_drop] at this
  omega
theorem take_s {l : List Token} {k : Nat} (h : k < l.length) : l.take (k + 1) = l.take k ++ [l[k]] := by
  rw [List.take_add_one, List.getElem?_eq_getElem h]; rfl
theorem wsum_take_succ {l : List Token} {k : Nat} (h : k < l.length) : wsum (l.take (k + 1)) = wsum (l.take k) + (1 + l[k].Text.length) := by
  rw [take_s h, wsum_append, wsum_cons]; rfl
def textsT (l : List Token) : List (List UInt8) := l.map Token.Text
/-- what is joined, or what is wrong. -/
def joinT (l : List Token) : List UInt8 × Int := if (l.any fun t => !isT t.Kind t.Text) = true then ([], 1) else if 6001 < wsum l then ([], 2) else (Lib.join (textsT l) [32], 0)
theorem join_len (l : List Token) : (Lib.join (textsT l) [32]).length ≤ wsum l := by
  cases l with
  | nil => exact Nat.zero_le _
  | cons t r =>
    rw [textsT, List.map_cons, Lib.join_length]
    have : ∀ r : List Token, Lib.lens (r.map Token.Text) + r.length = wsum r := by
      intro r
      induction r with
      | nil => rfl
      | cons x r ih => simp only [wsum_cons, List.map_cons, Lib.lens, List.length_cons] at *; simp at *; omega
    have := this r
    have h2 : Lib.lens (t.Text :: r.map Token.Text) = t.Text.length + Lib.lens (r.map Token.Text) := by simp [Lib.lens]
    rw [h2, wsum_cons, List.length_map]
    simp only [List.length_cons, List.length_nil]
    omega
theorem F_join (l : List Token) (hl : wsum l ≤ 1048576) : F_token_Join l = some (joinT l) := by
  have hn := wsum_len l
  unfold F_token_Join
  have h := lp_any (B := fun v => B_token_Join_0 l v.1 v.2.1 v.2.2) l (fun t => !isT t.Kind t.Text) (fun k => (textsT (l.take k), (wsum (l.take k) : Int), k)) (x := .inl ()) (y := .inr (textsT l, (wsum l : Int), l.length, false))
    (fun k hk hp => by
      have hp' : isT l[k].Kind l[k].Text = true := by simpa using hp
      have hw := wsum_take_succ hk
      have hw2 := wsum_take l (k + 1)
      have hlen : (textsT (l.take k)).length ≤ 1048576 := by simp [textsT]; omega
      have e1 : IntKind.i64.wrap (1 + (l[k].Text.length : Int)) = 1 + (l[k].Text.length : Int) := wrapI (by omega) (by omega)
      have e2 : IntKind.i64.wrap ((wsum (l.take k) : Int) + (1 + (l[k].Text.length : Int))) = (wsum (l.take k) : Int) + (1 + (l[k].Text.length : Int)) := wrapI (by omega) (by omega)
      simp only [B_token_Join_0, show (k : Int) < (l.length : Int) by omega, if_true, List.getElem?_eq_getElem hk, Option.bind_some, F_one, hp', e1, e2, wrapS k (by omega)]
      have ht : textsT (l.take k) ++ [l[k].Text] = textsT (l.take (k + 1)) := by rw [take_s hk, textsT, textsT, List.map_append]; rfl
      rw [if_pos (by simp; omega), hw, ht]
      simp)
    (fun k hk hp => by
      have hp' : isT l[k].Kind l[k].Text = false := by simpa using hp
      simp only [B_token_Join_0, show (k : Int) < (l.length : Int) by omega, if_true, List.getElem?_eq_getElem hk, Option.bind_some, F_one, hp', Bool.false_eq_true, if_false])
    (by simp only [B_token_Join_0, List.take_length, show ¬ (l.length : Int) < (l.length : Int) by omega, if_false, decide_false])
  have h' : lp (fun v => B_token_Join_0 l v.1 v.2.1 v.2.2) (([] : List (List UInt8)), 0, 0) = _ := h
  rw [h', Option.bind_some]
  unfold joinT
  by_cases ha : (l.any fun t => !isT t.Kind t.Text) = true
  · rw [if_pos ha, if_pos ha]
  · rw [if_neg ha, if_neg ha]
    simp only
    by_cases hw : 6001 < wsum l
    · rw [if_pos (by omega), if_pos hw]
    · rw [if_neg (by omega), if_neg hw]
      have hj : joinS (textsT l) [32] = some (Lib.join (textsT l) [32]) := by
        unfold joinS
        have := join_len l
        rw [if_pos ⟨by simp [textsT]; omega, by omega⟩]
      rw [hj]; rfl
/-- what the document's text is after some tokens. -/
def stS (l : List Token) : Nat → List UInt8
  | 0 => []
  | k + 1 => if wsum (l.take (k + 1)) ≤ 6001 then (if 0 < k then stS l k ++ [32] else stS l k) ++ (l[k]?.map Token.Text).getD [] else stS l k
theorem stS_join (l : List Token) : ∀ k, k ≤ l.length → wsum (l.take k) ≤ 6001 → stS l k = Lib.join (textsT (l.take k)) [32]
  | 0, _, _ => rfl
  | k + 1, hk, hw => by
    have hk' : k < l.length := hk
    have hs := wsum_take_succ hk'
    have ih := stS_join l k (by omega) (by omega)
    unfold stS
    rw [if_pos hw, ih, List.getElem?_eq_getElem hk', take_s hk']
    cases h : l.take k with
    | nil =>
      have : k = 0 := by
        have := congrArg List.length h
        rw [List.length_take, List.length_nil] at this
        omega
      subst this
      simp [textsT, Lib.join_one, Lib.join_nil]
    | cons x r =>
      have : 0 < k := by
        have := congrArg List.length h
        rw [List.length_take, List.length_cons] at this
        omega
      rw [if_pos this]
      simp only [textsT, List.cons_append, List.map_cons, List.map_append, List.map_nil, Lib.join_cons, Lib.joinTail, List.flatten_append, List.flatten_cons, List.flatten_nil, List.append_assoc, Option.map_some, Option.getD_some, List.append_nil]
theorem stS_len (l : List Token) : ∀ k, k ≤ l.length → (stS l k).length ≤ 10000
  | 0, _ => Nat.zero_le _
  | k + 1, hk => by
    by_cases hw : wsum (l.take (k + 1)) ≤ 6001
    · rw [stS_join l _ hk hw]
      have := join_len (l.take (k + 1))
      omega
    · have ih := stS_len l k (by omega)
      unfold stS
      rw [if_neg hw]; exact ih
theorem R_join (l : List Token) (hl : wsum l ≤ 1048576) : F_R_JoinOf l = some (joinT l) := by
  have hn := wsum_len l
  unfold F_R_JoinOf
  have h := lp_any (B := fun v => B_R_JoinOf_0 l v.1 v.2.1 v.2.2) l (fun t => !isT t.Kind t.Text) (fun k => (stS l k, (wsum (l.take k) : Int) - 1, k)) (x := .inl ()) (y := .inr (stS l l.length, (wsum l : Int) - 1, l.length, false))
    (fun k hk hp => by
      have hp' : isT l[k].Kind l[k].Text = true := by simpa using hp
      have hw := wsum_take_succ hk
      have hw2 := wsum_take l (k + 1)
      have hst := stS_len l k (by omega)
      have e1 : IntKind.i64.wrap (1 + (l[k].Text.length : Int)) = 1 + (l[k].Text.length : Int) := wrapI (by omega) (by omega)
      have e2 : IntKind.i64.wrap ((wsum (l.take k) : Int) - 1 + (1 + (l[k].Text.length : Int))) = (wsum (l.take k) : Int) - 1 + (1 + (l[k].Text.length : Int)) := wrapI (by omega) (by omega)
      have e3 : (wsum (l.take k) : Int) - 1 + (1 + (l[k].Text.length : Int)) = (wsum (l.take (k + 1)) : Int) - 1 := by omega
      simp only [B_R_JoinOf_0, show (k : Int) < (l.length : Int) by omega, if_true, List.getElem?_eq_getElem hk, Option.bind_some, R_isToken, hp', e1, e2, wrapS k (by omega)]
      rw [e3]
      simp only [stS, List.getElem?_eq_getElem hk, Option.map_some, Option.getD_some]
      by_cases hle : wsum (l.take (k + 1)) ≤ 6001
      · rw [if_pos (by omega), if_pos hle]
        by_cases h0 : 0 < k
        · rw [if_pos (by omega), if_pos (by simp; omega), if_pos h0]
          unfold D_R_JoinOf_d2
          rw [List.getElem?_eq_getElem hk, Option.bind_some, if_pos (by simp; omega)]
          rfl
        · rw [if_neg (by omega), if_neg h0]
          unfold D_R_JoinOf_d2
          rw [List.getElem?_eq_getElem hk, Option.bind_some, if_pos (by omega)]
          rfl
      · rw [if_neg (by omega), if_neg hle])
    (fun k hk hp => by
      have hp' : isT l[k].Kind l[k].Text = false := by simpa using hp
      simp only [B_R_JoinOf_0, show (k : Int) < (l.length : Int) by omega, if_true, List.getElem?_eq_getElem hk, Option.bind_some, R_isToken, hp', Bool.false_eq_true, if_false])
    (by simp only [B_R_JoinOf_0, List.take_length, show ¬ (l.length : Int) < (l.length : Int) by omega, if_false, decide_false])
  have h' : lp (fun v => B_R_JoinOf_0 l v.1 v.2.1 v.2.2) (([] : List UInt8), -1, 0) = _ := h
  rw [h', Option.bind_some]
  unfold joinT
  by_cases ha : (l.any fun t => !isT t.Kind t.Text) = true
  · rw [if_pos ha, if_pos ha]
  · rw [if_neg ha, if_neg ha]
    simp only
    by_cases hw : 6001 < wsum l
    · rw [if_pos (by omega), if_pos hw]
    · rw [if_neg (by omega), if_neg hw, stS_join l l.length (Nat.le_refl _) (by rw [List.take_length]; omega), List.take_length]
end Go.Proofs.Ythfllmkfgdknkaa.A
