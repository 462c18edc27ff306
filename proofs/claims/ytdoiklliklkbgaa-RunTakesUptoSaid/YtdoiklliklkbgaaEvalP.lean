/- Expressions: the program's functions answer as plain mathematics says. -/
import Derived.Test.YtdoiklliklkbgaaEvalS
import Derived.Test.YtdoiklliklkbgaaFE
set_option linter.unusedSectionVars false
set_option linter.unusedVariables false
set_option linter.unusedSimpArgs false
set_option linter.constructorNameAsVariable false
namespace Go.Proofs.Ytdoiklliklkbgaa.A
open Go
variable [Lp]
def fst1 {β γ : Type} : (Int × β) ⊕ (Int × γ) → Int
  | .inl p => p.1
  | .inr p => p.1
theorem w64 {n : Int} (h1 : -9223372036854775808 ≤ n) (h2 : n ≤ 9223372036854775807) : IntKind.i64.wrap n = n := wrap64 (by omega) (by omega)
theorem w64s {k : Nat} (h : k < 9223372036854775807) : IntKind.i64.wrap ((k : Int) + 1) = ((k + 1 : Nat) : Int) := wrapS k h
theorem size_N (n : Nat) : ∀ (e : ExprT) (m : Int), sz e ≤ n → 0 ≤ m → m ≤ 15 → (N_scope_size n).f_scope_size e m = some (min (sz e : Int) (m + 1)) := by
  induction n with
  | zero => intro e m h; have := sz_pos e; omega
  | succ n ih =>
    intro e m h hm hm15
    show FB_scope_size (N_scope_size n) e m = _
    unfold FB_scope_size
    have he := sz_eq e
    obtain ⟨x, hx, hQ⟩ := lp_wf (B := fun v => B_scope_size_0 (N_scope_size n) e m v.1 v.2) (fun v => e.Args.length - v.2)
      (fun v => v.2 ≤ e.Args.length ∧ v.1 = min (1 + (szL (e.Args.take v.2) : Int)) (m + 1) ∧ (v.2 : Int) < v.1 + 1) (fun x => fst1 x = min (sz e : Int) (m + 1)) (by
        rintro ⟨v, k⟩ ⟨hk, hv, hkv⟩
        simp only at hk hv hkv ⊢
        have ht := szL_take e.Args k
        unfold B_scope_size_0
        by_cases hlt : k < e.Args.length
        · rw [if_pos (by omega), List.getElem?_eq_getElem hlt, Option.bind_some]
          by_cases hmv : m < v
          · rw [if_pos hmv]
            exact .inl ⟨_, rfl, by simp only [fst1]; omega⟩
          · rw [if_neg hmv, if_pos (w64 (by omega) (by omega)), ih _ _ (by have := sz_arg hlt; omega) (by omega) (by omega), Option.bind_some]
            have hs := szL_take_succ hlt
            have hp := sz_pos e.Args[k]
            rw [if_pos (w64 (by omega) (by omega)), if_pos (w64s (by omega))]
            exact .inr ⟨_, rfl, ⟨by simp only; omega, by simp only; omega, by simp only; omega⟩, by simp only; omega⟩
        · rw [if_neg (by omega)]
          have hl : e.Args.take k = e.Args := List.take_of_length_le (by omega)
          rw [hl] at hv
          exact .inl ⟨_, rfl, by simp only [fst1]; omega⟩) (1, 0) ⟨Nat.zero_le _, by simp [szL]; omega, by simp⟩
    rw [hx, Option.bind_some]
    rcases x with ⟨a, b, c, d⟩ | ⟨a, b, c⟩
    · exact congrArg some hQ
    · exact congrArg some hQ
theorem size_is {e : ExprT} {m : Int} (h0 : 0 ≤ m) (h : m ≤ 15) : F_scope_size e m = some (min (sz e : Int) (m + 1)) :=
  ev_of (sz e) fun n hn => size_N n e m hn h0 h
theorem part_is (e : ExprT) (v : Int) : F_scope_part e v = some (partS v e) := by
  have j1 : ∀ w : Nat, w = (if 2 < e.Kind then 2 else 0) → D_scope_part_j1 e v w = some (decide ((e.Kind = 1 ∧ (e.N < -9999999 ∨ 9999999 < e.N)) ∨ (2 < e.Kind ∧ e.N ≠ 0))) := by
    intro w hw
    unfold D_scope_part_j1 D_scope_part_j2
    by_cases h2 : 2 < e.Kind
    · rw [if_pos h2] at hw
      subst hw
      have h1 : ¬ e.Kind = 1 := by omega
      by_cases hn : e.N = 0 <;> simp [h1, h2, hn]
    · rw [if_neg h2] at hw
      subst hw
      by_cases h1 : e.Kind = 1
      · by_cases h3 : e.N < -9999999
        · simp [h1, h3]
        · by_cases h4 : 9999999 < e.N <;> simp [h1, h3, h4]
      · simp [h1, h2]
  have d1 : ∀ w : Nat, w = (if 2 < e.Kind then 2 else 0) → ¬ (e.Kind < 1 ∨ 7 < e.Kind) → ((D_scope_part_d1 e v w).bind fun (x4 : (Unit ⊕ (Unit ⊕ (Unit ⊕ Unit)))) => match x4 with
      | .inl () => some (1 : Int)
      | .inr (.inl ()) => some 3
      | .inr (.inr (.inl ())) => some 5
      | .inr (.inr (.inr ())) => some 0) = some (partS v e) := by
    intro w hw hk
    unfold D_scope_part_d1 partS
    rw [if_neg hk, ← hw]
    by_cases hl : e.Args.length = w
    · rw [j1 w hw, if_neg (show ¬ ((e.Args.length : Int) != (w : Int)) = true by simp [hl]), if_neg (show ¬ e.Args.length ≠ w from fun h => h hl), Option.bind_some]
      by_cases hc : (e.Kind = 1 ∧ (e.N < -9999999 ∨ 9999999 < e.N)) ∨ (2 < e.Kind ∧ e.N ≠ 0)
      · rw [if_pos hc, decide_eq_true hc]; rfl
      · rw [if_neg hc, decide_eq_false hc, if_neg (by decide)]
        by_cases h2 : e.Kind = 2
        · by_cases h3 : e.N < 0
          · simp [h2, h3]
          · by_cases h4 : v ≤ e.N <;> simp [h2, h3, h4]
        · simp [h2]
    · rw [if_pos (show ((e.Args.length : Int) != (w : Int)) = true by simp; omega), if_pos (show e.Args.length ≠ w from hl)]; rfl
  unfold F_scope_part
  by_cases h1 : e.Kind < 1
  · rw [if_pos h1]; simp [partS, h1]
  rw [if_neg h1]
  by_cases h7 : 7 < e.Kind
  · rw [if_pos h7]; simp [partS, h7]
  rw [if_neg h7]
  by_cases h2 : 2 < e.Kind
  · rw [if_pos h2]
    exact d1 2 (by rw [if_pos h2]) (by omega)
  · rw [if_neg h2]
    exact d1 0 (by rw [if_neg h2]) (by omega)
theorem ferr_cons (v : Int) (e : ExprT) : ferr v (allP e) = if partS v e ≠ 0 then partS v e else ferr v (allPL e.Args) := by rw [allP_eq, ferr]
theorem parts_N (v : Int) (n : Nat) : ∀ (e : ExprT), sz e ≤ n → sz e ≤ 15 → (N_scope_parts n).f_scope_parts e v = some (ferr v (allP e)) := by
  induction n with
  | zero => intro e h; have := sz_pos e; omega
  | succ n ih =>
    intro e h h15
    show FB_scope_parts (N_scope_parts n) e v = _
    unfold FB_scope_parts
    rw [part_is, Option.bind_some, ferr_cons]
    have he := sz_eq e
    have hlen := szL_len e.Args
    by_cases hp : partS v e = 0
    · rw [if_neg (by simp [hp]), if_neg (by simp [hp])]
      obtain ⟨x, hx, hQ⟩ := lp_wf (B := fun k => B_scope_parts_0 (N_scope_parts n) e v k) (fun k => e.Args.length - k)
        (fun k => k ≤ e.Args.length ∧ ferr v (allPL (e.Args.take k)) = 0) (fun x => (match x with
          | .inl y => y
          | .inr _ => 0) = ferr v (allPL e.Args)) (by
          rintro k ⟨hk, hv⟩
          unfold B_scope_parts_0
          by_cases hlt : k < e.Args.length
          · rw [if_pos (by omega), List.getElem?_eq_getElem hlt, Option.bind_some, ih _ (by have := sz_arg hlt; omega) (by have := sz_arg hlt; omega), Option.bind_some]
            have hs := allPL_take_succ hlt
            have hf := ferr_append v (allPL (e.Args.take k)) (allP e.Args[k])
            rw [← hs, if_neg (by simp [hv])] at hf
            by_cases h0 : ferr v (allP e.Args[k]) = 0
            · rw [if_neg (by simp [h0]), if_pos (w64s (by omega))]
              exact .inr ⟨_, rfl, ⟨by omega, by rw [hf, h0]⟩, by omega⟩
            · rw [if_pos (by simp [h0])]
              refine .inl ⟨_, rfl, ?_⟩
              have hd : allPL e.Args = allPL (e.Args.take (k + 1)) ++ allPL (e.Args.drop (k + 1)) := by rw [← allPL_append, List.take_append_drop]
              rw [hd, ferr_append, hf, if_pos h0]
          · rw [if_neg (by omega)]
            have hl : e.Args.take k = e.Args := List.take_of_length_le (by omega)
            rw [hl] at hv
            exact .inl ⟨_, rfl, hv.symm⟩) 0 ⟨Nat.zero_le _, by simp [allPL, ferr]⟩
      rw [hx, Option.bind_some]
      rcases x with a | ⟨a, b⟩
      · exact congrArg some hQ
      · exact congrArg some hQ
    · rw [if_pos (by simp [hp]), if_pos hp]
theorem parts_is {e : ExprT} {v : Int} (h : sz e ≤ 15) : F_scope_parts e v = some (ferr v (allP e)) := ev_of (sz e) fun n hn => parts_N v n e hn h
/-- what is wrong with an expression. -/
def exprS (v : Int) (e : ExprT) : Int := if 15 < sz e then 2 else ferr v (allP e)
theorem expr_is (e : ExprT) (v : Int) : F_scope_Expr e v = some (exprS v e) := by
  unfold F_scope_Expr exprS
  rw [size_is (by decide) (by decide), Option.bind_some]
  by_cases h : 15 < sz e
  · rw [if_pos (by omega), if_pos h]
  · rw [if_neg (by omega), if_neg h, parts_is (by omega)]; rfl
theorem number_is (n : Int) : F_run_number n = some (numB n) := by
  unfold F_run_number numB
  by_cases h : -2147483648 ≤ n <;> simp [h]
theorem truth_is (b : Bool) : F_run_truth b = some (if b = true then 1 else 0) := by cases b <;> rfl
theorem numB_iff {n : Int} : numB n = true ↔ -2147483648 ≤ n ∧ n ≤ 2147483647 := by simp [numB]
theorem mul_num {a b : Int} (ha : numB a = true) (hb : numB b = true) : -4611686018427387904 ≤ a * b ∧ a * b ≤ 4611686018427387904 := by
  rw [numB_iff] at ha hb
  have h : (a * b).natAbs ≤ 2147483648 * 2147483648 := by
    rw [Int.natAbs_mul]
    exact Nat.mul_le_mul (by omega) (by omega)
  omega
theorem allP_arg {e : ExprT} {k : Nat} (hk : k < e.Args.length) {x : ExprT} (hx : x ∈ allP e.Args[k]) : x ∈ allP e := by
  rw [allP_eq]
  exact List.mem_cons_of_mem _ (allPL_mem (List.getElem_mem hk) hx)
theorem value_N {vs : List Int} (hv : ∀ x ∈ vs, numB x = true) (n : Nat) : ∀ (e : ExprT), sz e ≤ n → (∀ x ∈ allP e, partS vs.length x = 0) → (N_run_Value n).f_run_Value e vs = some (valS vs e) := by
  induction n with
  | zero => intro e h; have := sz_pos e; omega
  | succ n ih =>
    intro e h hok
    show FB_run_Value (N_run_Value n) e vs = _
    unfold FB_run_Value D_run_Value_d1
    have hp : partS vs.length e = 0 := hok e (by rw [allP_eq]; simp)
    obtain ⟨p1, p2, p3, p4, p5⟩ := partS_ok hp
    rw [valS_eq, valL_map]
    unfold opS
    by_cases k1 : e.Kind = 1
    · rw [if_pos (by simp [k1]), if_pos k1]
    rw [if_neg (by simp [k1]), if_neg k1]
    by_cases k2 : e.Kind = 2
    · have h3 := p5 k2
      have h4 : e.N.toNat < vs.length := by omega
      rw [if_pos (by simp [k2]), if_pos k2, natI_nn h3.1, Option.bind_some, List.getElem?_eq_getElem h4, List.getD_eq_getElem?_getD, List.getElem?_eq_getElem h4]; rfl
    rw [if_neg (by simp [k2]), if_neg k2]
    have hl : e.Args.length = 2 := by rw [p2, if_pos (by omega)]
    have h0 : 0 < e.Args.length := by omega
    have h1 : 1 < e.Args.length := by omega
    have g0 := sz_arg h0
    have g1 := sz_arg h1
    have q0 : ∀ x ∈ allP e.Args[0], partS vs.length x = 0 := fun x hx => hok x (allP_arg h0 hx)
    have q1 : ∀ x ∈ allP e.Args[1], partS vs.length x = 0 := fun x hx => hok x (allP_arg h1 hx)
    have n0 := val_num hv _ e.Args[0] (Nat.le_refl _) q0
    have n1 := val_num hv _ e.Args[1] (Nat.le_refl _) q1
    rw [List.getElem?_eq_getElem h0, Option.bind_some, ih _ (by omega) q0, Option.bind_some, List.getElem?_eq_getElem h1, Option.bind_some, ih _ (by omega) q1, Option.bind_some]
    have e0 : (e.Args.map (valS vs)).getD 0 0 = valS vs e.Args[0] := by rw [List.getD_eq_getElem?_getD, List.getElem?_map, List.getElem?_eq_getElem h0]; rfl
    have e1 : (e.Args.map (valS vs)).getD 1 0 = valS vs e.Args[1] := by rw [List.getD_eq_getElem?_getD, List.getElem?_map, List.getElem?_eq_getElem h1]; rfl
    rw [e0, e1]
    generalize valS vs e.Args[0] = a at *
    generalize valS vs e.Args[1] = b at *
    have hm := mul_num n0 n1
    rw [numB_iff] at n0 n1
    have hww : ∀ w, IntKind.i64.wrap (IntKind.i32.wrap w) = w32 w := fun w => wrap_num (w32_num w)
    simp only [Option.bind_some, truth_is, hww]
    by_cases k3 : e.Kind = 3
    · rw [if_pos (by simp [k3]), if_pos k3, if_pos (w64 (by omega) (by omega))]
    rw [if_neg (by simp [k3]), if_neg k3]
    by_cases k4 : e.Kind = 4
    · rw [if_pos (by simp [k4]), if_pos k4, if_pos (w64 (by omega) (by omega))]
    rw [if_neg (by simp [k4]), if_neg k4]
    by_cases k5 : e.Kind = 5
    · rw [if_pos (by simp [k5]), if_pos k5, if_pos (w64 (by omega) (by omega))]
    rw [if_neg (by simp [k5]), if_neg k5]
    by_cases k6 : e.Kind = 6
    · rw [if_pos (by simp [k6]), if_pos k6]
      by_cases hab : a < b
      · simp only [hab, decide_true, if_true]; rfl
      · simp only [hab, decide_false, if_false]; rfl
    rw [if_neg (by simp [k6]), if_neg k6]
    have k7 : e.Kind = 7 := by omega
    rw [if_pos (by simp [k7]), if_pos k7]
    by_cases hab : a = b
    · simp only [hab, beq_self_eq_true, if_true]; rfl
    · have : (a == b) = false := by simp [hab]
      simp only [hab, this, if_false]; rfl
theorem value_is {vs : List Int} {e : ExprT} (hv : ∀ x ∈ vs, numB x = true) (hok : ∀ x ∈ allP e, partS vs.length x = 0) : F_run_Value e vs = some (valS vs e) :=
  ev_of (sz e) fun n hn => value_N hv n e hn hok
end Go.Proofs.Ytdoiklliklkbgaa.A
