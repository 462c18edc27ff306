/- TokenBack: what is joined is scanned as it was, but for where tokens begin; and what is scanned is joined to what is scanned so. -/
import Derived.Test.YthfllmkfgdknkaaTokJ
import Derived.Test.YthfllmkfgdknkaaFTokenBack
import Derived.Test.YthfllmkfgdknkaaTokenBackRow
set_option linter.unusedSectionVars false
set_option linter.unusedVariables false
set_option linter.unusedSimpArgs false
namespace Go.Proofs.Ythfllmkfgdknkaa.A
open Go
/-- what may stand behind a token: nothing, or a blank. -/
def restOK : List UInt8 → Bool
  | [] => true
  | d :: _ => d == 32
theorem runL_app {p : UInt8 → Bool} (h32 : p 32 = false) : ∀ {q rest : List UInt8}, runL p q = q.length → restOK rest = true → runL p (q ++ rest) = q.length
  | [], rest, _, hr => by
    cases rest with
    | nil => rfl
    | cons d r =>
      have : d = 32 := by simpa [restOK] using hr
      subst this
      rw [List.nil_append, runL_cons, h32]; rfl
  | c :: q, rest, h, hr => by
    rw [runL_cons] at h
    cases hc : p c with
    | false => rw [hc] at h; simp at h
    | true =>
      rw [hc] at h
      simp only [if_true, List.length_cons] at h
      have ih := runL_app h32 (q := q) (by omega) hr
      rw [List.cons_append, runL_cons, hc, if_pos rfl, ih, List.length_cons]; omega
theorem twoC_rest {rest : List UInt8} (hr : restOK rest = true) : twoC rest = false := by
  cases rest with
  | nil => rfl
  | cons d r =>
    have : d = 32 := by simpa [restOK] using hr
    subst this
    rfl
theorem tokAt_app {c : UInt8} {q rest : List UInt8} (h : (tokAt (c :: q)).2 = (c :: q).length) (hr : restOK rest = true) : tokAt ((c :: q) ++ rest) = tokAt (c :: q) := by
  have h' : (tokC c q).2 = q.length + 1 := h
  show tokC c (q ++ rest) = tokC c q
  unfold tokC at h' ⊢
  by_cases g1 : letC c = true
  · rw [if_pos g1] at h' ⊢
    rw [if_pos g1]
    have : runL alnC q = q.length := by have : 1 + runL alnC q = q.length + 1 := h'; omega
    rw [runL_app (by rfl) this hr, this]
  rw [if_neg g1] at h' ⊢
  rw [if_neg g1]
  by_cases g2 : digC c = true
  · rw [if_pos g2] at h' ⊢
    rw [if_pos g2]
    have : runL digC q = q.length := by have : 1 + runL digC q = q.length + 1 := h'; omega
    rw [runL_app (by rfl) this hr, this]
  rw [if_neg g2] at h' ⊢
  rw [if_neg g2]
  have ht : twoC (q ++ rest) = twoC q := by
    cases q with
    | nil => rw [List.nil_append, twoC_rest hr]; rfl
    | cons d q => rfl
  rw [ht]
theorem runL_take {p : UInt8 → Bool} : ∀ q : List UInt8, runL p (q.take (runL p q)) = runL p q
  | [] => rfl
  | c :: q => by
    rw [runL_cons]
    cases hc : p c with
    | false => rfl
    | true =>
      simp only [if_true]
      rw [show 1 + runL p q = runL p q + 1 by omega, List.take_succ_cons, runL_cons, hc, if_pos rfl, runL_take q]; omega
theorem tokAt_take {r : List UInt8} (h : (tokAt r).1 ≠ 0) : tokAt (r.take (tokAt r).2) = tokAt r := by
  cases r with
  | nil => exact absurd rfl h
  | cons c q =>
    have h' : (tokC c q).1 ≠ 0 := h
    show tokAt ((c :: q).take (tokC c q).2) = tokC c q
    unfold tokC at h' ⊢
    by_cases g1 : letC c = true
    · rw [if_pos g1] at h' ⊢
      rw [show 1 + runL alnC q = runL alnC q + 1 by omega]
      show tokC c (q.take (runL alnC q)) = _
      unfold tokC
      rw [if_pos g1, runL_take]; rw [Nat.add_comm]
    rw [if_neg g1] at h' ⊢
    by_cases g2 : digC c = true
    · rw [if_pos g2] at h' ⊢
      rw [show 1 + runL digC q = runL digC q + 1 by omega]
      show tokC c (q.take (runL digC q)) = _
      unfold tokC
      rw [if_neg g1, if_pos g2, runL_take]; rw [Nat.add_comm]
    rw [if_neg g2] at h' ⊢
    by_cases g3 : (c.toNat == 61 && twoC q) = true
    · rw [if_pos g3] at h' ⊢
      show tokC c (q.take 1) = _
      have g3' : (c.toNat == 61 && twoC (q.take 1)) = true := by
        cases q with
        | nil => exact g3
        | cons d q => exact g3
      unfold tokC
      rw [if_neg g1, if_neg g2, if_pos g3']
    rw [if_neg g3] at h' ⊢
    by_cases g4 : signL.any (· == c) = true
    · rw [if_pos g4] at h' ⊢
      show tokC c [] = _
      unfold tokC
      rw [if_neg g1, if_neg g2, if_neg (by simp [twoC]), if_pos g4]
    · rw [if_neg g4] at h'; exact absurd rfl h'
variable [Lp]
/-- blanks, a token, what stands behind it. -/
theorem scan_step {k : Int} {t : List UInt8} (ht : isT k t = true) {rest : List UInt8} (hr : restOK rest = true) (sp : Bool) (n a : Nat) {r : List UInt8} (he : r = (if sp = true then [32] else []) ++ (t ++ rest)) :
    ∃ a', scanF (n + 1) a r = if (scanF n a' rest).2.2 ≠ 0 then ([], (scanF n a' rest).2.1, (scanF n a' rest).2.2) else (⟨k, ((a + (if sp = true then 1 else 0) : Nat) : Int), t⟩ :: (scanF n a' rest).1, 0, 0) := by
  subst he
  cases t with
  | nil => cases ht
  | cons c q =>
    obtain ⟨h1, h2, h3, h4, h5⟩ := isT_iff.1 ht
    have hap := tokAt_app (rest := rest) h4 hr
    have hsk : skipL false ((c :: q) ++ rest) = 0 := skip_tok (q := q ++ rest) (by
      show (tokAt ((c :: q) ++ rest)).1 ≠ 0
      rw [hap, h3]; exact h2)
    have hs : skipL false ((if sp = true then [32] else []) ++ ((c :: q) ++ rest)) = if sp = true then 1 else 0 := by
      cases sp with
      | false => simpa using hsk
      | true =>
        show skipL false (32 :: ((c :: q) ++ rest)) = 1
        rw [skipL, hsk]; rfl
    have hd : ((if sp = true then [32] else []) ++ ((c :: q) ++ rest)).drop (skipL false ((if sp = true then [32] else []) ++ ((c :: q) ++ rest))) = c :: (q ++ rest) := by
      rw [hs]
      cases sp <;> rfl
    have hap' : tokAt (c :: (q ++ rest)) = tokAt (c :: q) := hap
    refine ⟨a + (if sp = true then 1 else 0) + (c :: q).length, ?_⟩
    rw [scanF_tok hd (by rw [hap', h3, h4]; exact h5), hap', h3, h4, hs]
    have e1 : (c :: (q ++ rest)).drop (c :: q).length = rest := by
      rw [← List.cons_append, List.drop_left]
    have e2 : (c :: (q ++ rest)).take (c :: q).length = c :: q := by
      rw [← List.cons_append, List.take_left]
    rw [e1, e2]
def sameAll (l m : List Token) : Prop := l.length = m.length ∧ ((l.zip m).all fun p => sameT false p.1 p.2) = true
def validL (l : List Token) : Prop := ∀ t ∈ l, isT t.Kind t.Text = true
theorem tail_rest (l : List (List UInt8)) : restOK (Lib.joinTail [32] l) = true := by
  cases l <;> rfl
theorem scan_tail : ∀ (l : List Token), validL l → ∀ n a, (Lib.joinTail [32] (textsT l)).length < n → ∃ m, scanF n a (Lib.joinTail [32] (textsT l)) = (m, 0, 0) ∧ sameAll l m
  | [], _, n + 1, a, _ => ⟨[], scanF_end (by rfl), rfl, rfl⟩
  | t :: l, hv, n + 1, a, hn => by
    have e : Lib.joinTail [32] (textsT (t :: l)) = [32] ++ (t.Text ++ Lib.joinTail [32] (textsT l)) := by
      simp [Lib.joinTail, textsT]
    rw [e] at hn ⊢
    obtain ⟨a', ha⟩ := scan_step (hv t (by simp)) (tail_rest (textsT l)) true n a (r := [32] ++ (t.Text ++ Lib.joinTail [32] (textsT l))) rfl
    obtain ⟨m, h1, h2, h3⟩ := scan_tail l (fun x hx => hv x (by simp [hx])) n a' (by simp at hn; omega)
    rw [h1] at ha
    refine ⟨_, ha, by simp [h2], ?_⟩
    rw [List.zip_cons_cons, List.all_cons, h3]
    simp [sameT]
theorem scan_join (l : List Token) (hv : validL l) (hw : wsum l ≤ 6001) : ∃ m, scanS (Lib.join (textsT l) [32]) = (m, 0, 0) ∧ sameAll l m := by
  cases l with
  | nil => exact ⟨[], rfl, rfl, rfl⟩
  | cons t l =>
    have e : Lib.join (textsT (t :: l)) [32] = t.Text ++ Lib.joinTail [32] (textsT l) := by
      rw [textsT, List.map_cons, Lib.join_cons]; rfl
    have hlen : (t.Text ++ Lib.joinTail [32] (textsT l)).length + 1 = wsum (t :: l) := by
      have : ∀ r : List Token, (Lib.joinTail [32] (textsT r)).length = wsum r := by
        intro r
        induction r with
        | nil => rfl
        | cons x r ih => rw [wsum_cons, ← ih]; simp [Lib.joinTail, textsT]; omega
      rw [List.length_append, this, wsum_cons]; omega
    rw [e]
    unfold scanS
    rw [if_neg (by omega)]
    obtain ⟨a', ha⟩ := scan_step (hv t (by simp)) (tail_rest (textsT l)) false (t.Text ++ Lib.joinTail [32] (textsT l)).length 0 (r := t.Text ++ Lib.joinTail [32] (textsT l)) rfl
    have hpos : 0 < t.Text.length := by
      have := hv t (by simp)
      cases h : t.Text with
      | nil => rw [h] at this; cases this
      | cons c q => simp
    obtain ⟨m, h1, h2, h3⟩ := scan_tail l (fun x hx => hv x (by simp [hx])) (t.Text ++ Lib.joinTail [32] (textsT l)).length a' (by rw [List.length_append]; omega)
    rw [h1] at ha
    refine ⟨_, ha, by simp [h2], ?_⟩
    rw [List.zip_cons_cons, List.all_cons, h3]
    simp [sameT]
theorem scanF_valid : ∀ (n a : Nat) (r : List UInt8), r.length ≤ 6000 → validL (scanF n a r).1 ∧ wsum (scanF n a r).1 ≤ 2 * r.length
  | 0, _, _, _ => ⟨(fun _ h => by cases h), Nat.zero_le _⟩
  | n + 1, a, r, hr => by
    have hle := skipL_le r false
    cases h : r.drop (skipL false r) with
    | nil => rw [scanF_end h]; exact ⟨(fun _ h => by cases h), Nat.zero_le _⟩
    | cons c q =>
      have hlen : (c :: q).length = r.length - skipL false r := by rw [← h, List.length_drop]
      by_cases hE : tokE (tokAt (c :: q)).1 (tokAt (c :: q)).2 c = 0
      · have hk : (tokAt (c :: q)).1 ≠ 0 := by
          intro h0
          unfold tokE at hE
          rw [if_pos h0] at hE; cases hE
        have hp : 0 < (tokAt (c :: q)).2 := tokAt_pos hk
        have ht := tokAt_le (c :: q)
        have hdl : ((c :: q).drop (tokAt (c :: q)).2).length = (c :: q).length - (tokAt (c :: q)).2 := by rw [List.length_drop]
        have htl : ((c :: q).take (tokAt (c :: q)).2).length = (tokAt (c :: q)).2 := by rw [List.length_take]; omega
        obtain ⟨i1, i2⟩ := scanF_valid n (a + skipL false r + (tokAt (c :: q)).2) ((c :: q).drop (tokAt (c :: q)).2) (by omega)
        rw [scanF_tok h hE]
        split
        · exact ⟨(fun _ h => by cases h), Nat.zero_le _⟩
        · constructor
          · intro t ht'
            rcases List.mem_cons.1 ht' with rfl | ht'
            · have hta := tokAt_take hk
              have e : (c :: q).take (tokAt (c :: q)).2 = c :: q.take ((tokAt (c :: q)).2 - 1) := by
                cases hN : (tokAt (c :: q)).2 with
                | zero => omega
                | succ N => rfl
              show isT (tokAt (c :: q)).1 ((c :: q).take (tokAt (c :: q)).2) = true
              rw [e] at hta htl ⊢
              refine isT_iff.2 ⟨by omega, hk, by rw [hta], by rw [hta, htl], by rw [htl]; exact hE⟩
            · exact i1 t ht'
          · show wsum (_ :: _) ≤ _
            rw [wsum_cons]
            show 1 + ((c :: q).take (tokAt (c :: q)).2).length + _ ≤ _
            omega
      · rw [scanF_bad h hE]; exact ⟨(fun _ h => by cases h), Nat.zero_le _⟩
theorem joinT_ok {l : List Token} (h : (joinT l).2 = 0) : validL l ∧ wsum l ≤ 6001 ∧ (joinT l).1 = Lib.join (textsT l) [32] := by
  unfold joinT at h ⊢
  by_cases ha : (l.any fun t => !isT t.Kind t.Text) = true
  · rw [if_pos ha] at h; exact absurd h (by decide)
  · rw [if_neg ha] at h ⊢
    by_cases hw : 6001 < wsum l
    · rw [if_pos hw] at h; exact absurd h (by decide)
    · rw [if_neg hw]
      refine ⟨fun t ht => ?_, by omega, rfl⟩
      have h1 : (l.any fun t => !isT t.Kind t.Text) = false := by simpa using ha
      have := List.any_eq_false.1 h1 t ht
      simpa using this
theorem D_back (s : List UInt8) : D_L_TokenBack_d1 s = some true := by
  unfold D_L_TokenBack_d1
  rw [F_scan, Option.bind_some]
  by_cases he : (scanS s).2.2 = 0
  · have hs : s.length ≤ 6000 := by
      by_cases h : 6000 < s.length
      · unfold scanS at he; rw [if_pos h] at he; exact absurd he (by decide)
      · omega
    have hv : validL (scanS s).1 ∧ wsum (scanS s).1 ≤ 2 * s.length := by
      unfold scanS
      rw [if_neg (by omega)]
      exact scanF_valid _ _ _ hs
    rw [he]
    simp only [bne_self_eq_false, Bool.false_eq_true, if_false]
    rw [F_join _ (by omega), Option.bind_some]
    by_cases hj : (joinT (scanS s).1).2 = 0
    · obtain ⟨h1, h2, h3⟩ := joinT_ok hj
      rw [hj]
      simp only [bne_self_eq_false, Bool.false_eq_true, if_false]
      obtain ⟨m, h4, h5, h6⟩ := scan_join _ h1 h2
      have hl := wsum_len (scanS s).1
      rw [F_scan, h3, h4, Option.bind_some]
      simp only [beq_self_eq_true, if_true]
      rw [F_same _ _ false (by omega) h5, h6]; rfl
    · have hb : ((joinT (scanS s).1).2 != 0) = true := by simpa using hj
      rw [if_pos hb]
      unfold joinT at hj ⊢
      by_cases ha : ((scanS s).1.any fun t => !isT t.Kind t.Text) = true
      · obtain ⟨t, ht1, ht2⟩ := List.any_eq_true.1 ha
        rw [hv.1 t ht1] at ht2; cases ht2
      · rw [if_neg ha] at hj ⊢
        by_cases hw : 6001 < wsum (scanS s).1
        · rw [if_pos hw]; rfl
        · rw [if_neg hw] at hj; exact absurd rfl hj
  · have hb : ((scanS s).2.2 != 0) = true := by simpa using he
    rw [if_pos hb]
    have : (scanS s).1 = [] := by
      unfold scanS at he ⊢
      split
      · rfl
      · rename_i h; rw [if_neg h] at he; exact scanF_err he
    rw [this]; rfl
theorem law_TokenBack (l : List Token) (s : List UInt8) (h : wsum l ≤ 1048576) : F_L_TokenBack l s = some true := by
  unfold F_L_TokenBack
  rw [F_begunT, Option.bind_some, if_pos rfl, F_join l h, Option.bind_some, D_back]
  by_cases hj : (joinT l).2 = 0
  · obtain ⟨h1, h2, h3⟩ := joinT_ok hj
    obtain ⟨m, h4, h5, h6⟩ := scan_join _ h1 h2
    have hl := wsum_len l
    rw [hj, if_pos (by rfl), F_scan, h3, h4, Option.bind_some]
    simp only [bne_self_eq_false, Bool.false_eq_true, if_false]
    rw [F_same _ _ false (by omega) h5, h6]; rfl
  · rw [if_neg (by simpa using hj)]; rfl
theorem bulk_tokens : ∀ l : List Token, AV.bulkL (l.map eToken) = wsum l
  | [] => rfl
  | t :: l => by
    rw [List.map_cons, wsum_cons, AV.bulkL, bulk_tokens l]
    show (0 + (0 + (t.Text.length + 1 + 0))) + wsum l = _
    omega
end Go.Proofs.Ythfllmkfgdknkaa.A
namespace Go.Proofs.Ythfllmkfgdknkaa
open A Go
/-- TokenBack, where what comes is of bulk at most 1048576. -/
theorem tokenBack_proved : Rows.TokenBackUptoSaid := by
  obtain ⟨L⟩ := lp_exists
  refine rowU_TokenBack fun ys hg hb => ?_
  obtain ⟨l, s, _, _, rfl⟩ := hg
  have h1 : AV.bulkL (l.map eToken) + 1 + ((s.length + 1) + 0) ≤ 1048576 := hb
  rw [bulk_tokens] at h1
  exact lift_L_TokenBack l s true (law_TokenBack l s (by omega))
end Go.Proofs.Ythfllmkfgdknkaa
