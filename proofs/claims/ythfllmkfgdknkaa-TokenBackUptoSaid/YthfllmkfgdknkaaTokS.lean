/- Tokens, as plain mathematics: what is skipped, which token begins, what is scanned. -/
import Derived.Test.YthfllmkfgdknkaaFinds
import Derived.Test.YthfllmkfgdknkaaTypes
import Derived.Test.YthfllmkfgdknkaaAbsO
set_option linter.unusedSectionVars false
set_option linter.unusedVariables false
set_option linter.unusedSimpArgs false
namespace Go.Proofs.Ythfllmkfgdknkaa.A
open Go
def wsC (c : UInt8) : Bool := c.toNat == 32 || c.toNat == 9 || c.toNat == 10
def letC (c : UInt8) : Bool := decide (97 ≤ c.toNat ∧ c.toNat ≤ 122)
def digC (c : UInt8) : Bool := decide (48 ≤ c.toNat ∧ c.toNat ≤ 57)
def alnC (c : UInt8) : Bool := letC c || digC c
def signL : List UInt8 := [123, 125, 40, 41, 59, 58, 33, 44, 61, 43, 45, 42, 60]
/-- how much is skipped; in a note, or not. -/
def skipL : Bool → List UInt8 → Nat
  | _, [] => 0
  | true, c :: r => 1 + skipL (c.toNat != 10) r
  | false, c :: r => if c.toNat == 35 then 1 + skipL true r else if wsC c then 1 + skipL false r else 0
theorem skipL_le : ∀ (r : List UInt8) (b : Bool), skipL b r ≤ r.length
  | [], b => by cases b <;> simp [skipL]
  | c :: r, true => by have := skipL_le r (c.toNat != 10); simp only [skipL, List.length_cons]; omega
  | c :: r, false => by
    have h1 := skipL_le r true
    have h2 := skipL_le r false
    simp only [skipL, List.length_cons]
    split
    · omega
    · split <;> omega
def runL (p : UInt8 → Bool) (r : List UInt8) : Nat := (r.takeWhile p).length
theorem runL_cons (p : UInt8 → Bool) (c : UInt8) (r : List UInt8) : runL p (c :: r) = if p c then 1 + runL p r else 0 := by
  unfold runL
  cases h : p c <;> simp [h]; omega
theorem runL_le (p : UInt8 → Bool) (r : List UInt8) : runL p r ≤ r.length := by
  unfold runL; exact (List.takeWhile_sublist p).length_le
def twoC (r : List UInt8) : Bool := match r with
  | d :: _ => d.toNat == 61
  | [] => false
def tokC (c : UInt8) (r : List UInt8) : Int × Nat := if letC c = true then (1, 1 + runL alnC r) else if digC c = true then (2, 1 + runL digC r) else if (c.toNat == 61 && twoC r) = true then (3, 2) else if signL.any (· == c) = true then (3, 1) else (0, 0)
/-- the token that begins here: its kind, how long it is. -/
def tokAt : List UInt8 → Int × Nat
  | [] => (0, 0)
  | c :: r => tokC c r
/-- what is wrong with it. -/
def tokE (k : Int) (n : Nat) (c : UInt8) : Int := if k = 0 then 1 else if k = 1 ∧ 12 < n ∨ k = 2 ∧ 7 < n then 2 else if k = 2 ∧ 1 < n ∧ c.toNat = 48 then 1 else 0
theorem tokAt_le (r : List UInt8) : (tokAt r).2 ≤ r.length := by
  cases r with
  | nil => simp [tokAt]
  | cons c r =>
    have h1 := runL_le alnC r
    have h2 := runL_le digC r
    show (tokC c r).2 ≤ _
    unfold tokC
    rw [List.length_cons]
    by_cases g1 : letC c = true
    · rw [if_pos g1]; show 1 + runL alnC r ≤ _; omega
    rw [if_neg g1]
    by_cases g2 : digC c = true
    · rw [if_pos g2]; show 1 + runL digC r ≤ _; omega
    rw [if_neg g2]
    by_cases g3 : (c.toNat == 61 && twoC r) = true
    · rw [if_pos g3]
      cases r with
      | nil => simp [twoC] at g3
      | cons d r => show 2 ≤ _; simp
    rw [if_neg g3]
    by_cases g4 : signL.any (· == c) = true
    · rw [if_pos g4]; show 1 ≤ _; omega
    · rw [if_neg g4]; show 0 ≤ _; omega
theorem tokAt_pos {r : List UInt8} (h : (tokAt r).1 ≠ 0) : 0 < (tokAt r).2 := by
  cases r with
  | nil => simp [tokAt] at h
  | cons c r =>
    have h' : (tokC c r).1 ≠ 0 := h
    show 0 < (tokC c r).2
    unfold tokC at h' ⊢
    by_cases g1 : letC c = true
    · rw [if_pos g1]; show 0 < 1 + runL alnC r; omega
    rw [if_neg g1] at h' ⊢
    by_cases g2 : digC c = true
    · rw [if_pos g2]; show 0 < 1 + runL digC r; omega
    rw [if_neg g2] at h' ⊢
    by_cases g3 : (c.toNat == 61 && twoC r) = true
    · rw [if_pos g3]; show 0 < 2; omega
    rw [if_neg g3] at h' ⊢
    by_cases g4 : signL.any (· == c) = true
    · rw [if_pos g4]; show 0 < 1; omega
    · rw [if_neg g4] at h'; exact absurd rfl h'
/-- all tokens from a place on. -/
def scanF : Nat → Nat → List UInt8 → List Token × Int × Int
  | 0, _, _ => ([], 0, 0)
  | n + 1, at_, r => match r.drop (skipL false r) with
    | [] => ([], 0, 0)
    | c :: q => if tokE (tokAt (c :: q)).1 (tokAt (c :: q)).2 c ≠ 0 then ([], ((at_ + skipL false r : Nat) : Int), tokE (tokAt (c :: q)).1 (tokAt (c :: q)).2 c)
      else match scanF n (at_ + skipL false r + (tokAt (c :: q)).2) ((c :: q).drop (tokAt (c :: q)).2) with
        | (ts, p, e) => if e ≠ 0 then ([], p, e) else (⟨(tokAt (c :: q)).1, ((at_ + skipL false r : Nat) : Int), (c :: q).take (tokAt (c :: q)).2⟩ :: ts, 0, 0)
def scanS (s : List UInt8) : List Token × Int × Int := if 6000 < s.length then ([], 0, 2) else scanF (s.length + 1) 0 s
theorem scanF_ok : ∀ {n a : Nat} {r : List UInt8}, (scanF n a r).2.2 = 0 → (scanF n a r).2.1 = 0
  | 0, _, _, _ => rfl
  | n + 1, a, r, h => by
    unfold scanF at h ⊢
    split at h
    · rfl
    · rename_i c q hq
      split at h
      · rename_i hE; exact absurd h hE
      · rename_i hE
        rw [if_neg hE]
        split at h
        rename_i ts p e hR
        by_cases he : e ≠ 0
        · rw [if_pos he] at h; exact absurd h he
        · simp only [if_neg he]
theorem scanF_err : ∀ {n a : Nat} {r : List UInt8}, (scanF n a r).2.2 ≠ 0 → (scanF n a r).1 = []
  | 0, _, _, _ => rfl
  | n + 1, a, r, h => by
    unfold scanF at h ⊢
    split at h
    · rfl
    · rename_i c q hq
      split at h
      · rename_i hE; rw [if_pos hE]
      · rename_i hE
        rw [if_neg hE]
        split at h
        rename_i ts p e hR
        by_cases he : e ≠ 0
        · simp only [if_pos he]
        · rw [if_neg he] at h; exact absurd rfl h
theorem scanF_end {n a : Nat} {r : List UInt8} (h : r.drop (skipL false r) = []) : scanF (n + 1) a r = ([], 0, 0) := by
  unfold scanF; rw [h]
theorem scanF_bad {n a : Nat} {r : List UInt8} {c : UInt8} {q : List UInt8} (h : r.drop (skipL false r) = c :: q) (hE : tokE (tokAt (c :: q)).1 (tokAt (c :: q)).2 c ≠ 0) : scanF (n + 1) a r = ([], ((a + skipL false r : Nat) : Int), tokE (tokAt (c :: q)).1 (tokAt (c :: q)).2 c) := by
  unfold scanF; rw [h]; simp only [if_pos hE]
theorem scanF_tok {n a : Nat} {r : List UInt8} {c : UInt8} {q : List UInt8} (h : r.drop (skipL false r) = c :: q) (hE : tokE (tokAt (c :: q)).1 (tokAt (c :: q)).2 c = 0) :
    scanF (n + 1) a r = if (scanF n (a + skipL false r + (tokAt (c :: q)).2) ((c :: q).drop (tokAt (c :: q)).2)).2.2 ≠ 0 then ([], (scanF n (a + skipL false r + (tokAt (c :: q)).2) ((c :: q).drop (tokAt (c :: q)).2)).2.1, (scanF n (a + skipL false r + (tokAt (c :: q)).2) ((c :: q).drop (tokAt (c :: q)).2)).2.2)
      else (⟨(tokAt (c :: q)).1, ((a + skipL false r : Nat) : Int), (c :: q).take (tokAt (c :: q)).2⟩ :: (scanF n (a + skipL false r + (tokAt (c :: q)).2) ((c :: q).drop (tokAt (c :: q)).2)).1, 0, 0) := by
  rw [show scanF (n + 1) a r = (match r.drop (skipL false r) with
    | [] => (([], 0, 0) : List Token × Int × Int)
    | c :: q => if tokE (tokAt (c :: q)).1 (tokAt (c :: q)).2 c ≠ 0 then ([], ((a + skipL false r : Nat) : Int), tokE (tokAt (c :: q)).1 (tokAt (c :: q)).2 c)
      else match scanF n (a + skipL false r + (tokAt (c :: q)).2) ((c :: q).drop (tokAt (c :: q)).2) with
        | (ts, p, e) => if e ≠ 0 then ([], p, e) else (⟨(tokAt (c :: q)).1, ((a + skipL false r : Nat) : Int), (c :: q).take (tokAt (c :: q)).2⟩ :: ts, 0, 0)) from rfl, h]
  simp only [if_neg (show ¬ tokE (tokAt (c :: q)).1 (tokAt (c :: q)).2 c ≠ 0 from fun h => h hE)]
theorem u8lt (c : UInt8) : c.toNat < 256 := c.toNat_lt
theorem wrapB (n : Nat) (h : n < 256) : IntKind.i64.wrap (n : Int) = n := wrap64 (by omega) (by omega)
theorem wrapA (n : Nat) (h : n < 100000) : IntKind.i64.wrap ((n : Int) + 1) = (n : Int) + 1 := wrap64 (by omega) (by omega)
theorem wrapI {n : Int} (h1 : -1000000000 < n) (h2 : n < 1000000000) : IntKind.i64.wrap n = n := wrap64 (by omega) (by omega)
variable [Lp]
/-- a loop that runs along a text. -/
theorem lp_run {α ε : Type} {B : α → Option (α ⊕ ε)} (s : List UInt8) (p : UInt8 → Bool) (f : Nat → α) (x1 : Nat → ε) (x2 : ε) (lo : Nat)
    (h1 : ∀ k (h : k < s.length), lo ≤ k → p s[k] = true → B (f k) = some (.inl (f (k + 1)))) (h2 : ∀ k (h : k < s.length), lo ≤ k → p s[k] = false → B (f k) = some (.inr (x1 k))) (h3 : B (f s.length) = some (.inr x2)) :
    ∀ k, lo ≤ k → k ≤ s.length → lp B (f k) = some (if k + runL p (s.drop k) < s.length then x1 (k + runL p (s.drop k)) else x2) := by
  have : ∀ m k, lo ≤ k → k + m = s.length → lp B (f k) = some (if k + runL p (s.drop k) < s.length then x1 (k + runL p (s.drop k)) else x2) := by
    intro m
    induction m with
    | zero =>
      intro k hlo hk
      obtain rfl : k = s.length := by omega
      rw [List.drop_length]
      simp only [runL, List.takeWhile_nil, List.length_nil, Nat.add_zero, Nat.lt_irrefl, if_false]
      exact lp_end h3
    | succ m ih =>
      intro k hlo hk
      have hlt : k < s.length := by omega
      rw [List.drop_eq_getElem_cons hlt, runL_cons]
      cases hp : p s[k] with
      | true =>
        rw [lp_next (h1 k hlt hlo hp), ih (k + 1) (by omega) (by omega)]
        simp only [if_true]
        rw [show k + (1 + runL p (s.drop (k + 1))) = k + 1 + runL p (s.drop (k + 1)) by omega]
      | false =>
        simp only [Bool.false_eq_true, if_false, Nat.add_zero, hlt, if_true]
        exact lp_end (h2 k hlt hlo hp)
  exact fun k hlo hk => this (s.length - k) k hlo (by omega)
theorem indexByte_any : ∀ (l : List UInt8) (c : UInt8), decide (0 ≤ Lib.indexByte l c) = l.any (· == c)
  | [], c => by simp [Lib.indexByte]
  | b :: l, c => by
    have ih := indexByte_any l c
    have hm : -1 ≤ Lib.indexByte l c := by
      clear ih
      induction l with
      | nil => simp [Lib.indexByte]
      | cons d l ih =>
        unfold Lib.indexByte
        split
        · omega
        split
        · omega
        · omega
    unfold Lib.indexByte
    rw [List.any_cons]
    cases hb : (b == c) with
    | true => simp
    | false =>
      rw [Bool.false_or, ← ih]
      simp only [Bool.false_eq_true, if_false]
      by_cases h : Lib.indexByte l c = -1
      · simp [h]
      · have : (Lib.indexByte l c == -1) = false := by simpa using h
        simp only [this, Bool.false_eq_true, if_false]
        rw [Bool.eq_iff_iff]; simp; omega
end Go.Proofs.Ythfllmkfgdknkaa.A
