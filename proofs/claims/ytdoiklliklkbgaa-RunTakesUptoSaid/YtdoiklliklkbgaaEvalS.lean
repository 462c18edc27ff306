/- Expressions: how great they are, their parts, what is wrong, what they come to; as plain mathematics. -/
import Derived.Test.YtdoiklliklkbgaaFinds
import Derived.Test.YtdoiklliklkbgaaTypes
set_option linter.unusedSectionVars false
set_option linter.unusedVariables false
set_option linter.unusedSimpArgs false
namespace Go.Proofs.Ytdoiklliklkbgaa.A
open Go
mutual
/-- how many parts. -/
def sz : ExprT → Nat
  | ⟨_, _, as⟩ => 1 + szL as
def szL : List ExprT → Nat
  | [] => 0
  | x :: r => sz x + szL r
end
mutual
/-- all parts, the whole one first. -/
def allP : ExprT → List ExprT
  | ⟨k, n, as⟩ => ⟨k, n, as⟩ :: allPL as
def allPL : List ExprT → List ExprT
  | [] => []
  | x :: r => allP x ++ allPL r
end
def w32 (n : Int) : Int := IntKind.i32.wrap n
def opS (k n : Int) (vs l : List Int) : Int :=
  if k = 1 then n else if k = 2 then vs.getD n.toNat 0 else
    if k = 3 then w32 (l.getD 0 0 + l.getD 1 0) else if k = 4 then w32 (l.getD 0 0 - l.getD 1 0) else if k = 5 then w32 (l.getD 0 0 * l.getD 1 0) else
      if k = 6 then (if l.getD 0 0 < l.getD 1 0 then 1 else 0) else if k = 7 then (if l.getD 0 0 = l.getD 1 0 then 1 else 0) else 0
mutual
/-- what it comes to. -/
def valS (vs : List Int) : ExprT → Int
  | ⟨k, n, as⟩ => opS k n vs (valL vs as)
def valL (vs : List Int) : List ExprT → List Int
  | [] => []
  | x :: r => valS vs x :: valL vs r
end
theorem sz_eq (e : ExprT) : sz e = 1 + szL e.Args := by cases e; rw [sz]
theorem allP_eq (e : ExprT) : allP e = e :: allPL e.Args := by cases e; rw [allP]
theorem valS_eq (vs : List Int) (e : ExprT) : valS vs e = opS e.Kind e.N vs (valL vs e.Args) := by cases e; rw [valS]
theorem valL_map (vs : List Int) : ∀ l, valL vs l = l.map (valS vs)
  | [] => by rw [valL]; rfl
  | x :: r => by rw [valL, valL_map vs r]; rfl
theorem sz_pos (e : ExprT) : 0 < sz e := by rw [sz_eq]; omega
theorem szL_append : ∀ l m : List ExprT, szL (l ++ m) = szL l + szL m
  | [], m => by simp [szL]
  | x :: l, m => by rw [List.cons_append, szL, szL, szL_append l m]; omega
theorem szL_mem : ∀ {l : List ExprT} {x : ExprT}, x ∈ l → sz x ≤ szL l
  | y :: l, x, h => by
    rw [szL]
    rcases List.mem_cons.1 h with rfl | h
    · omega
    · have := szL_mem h; omega
theorem szL_take_succ {l : List ExprT} {k : Nat} (h : k < l.length) : szL (l.take (k + 1)) = szL (l.take k) + sz l[k] := by
  rw [List.take_add_one, List.getElem?_eq_getElem h, szL_append]
  simp [szL]
theorem szL_take (l : List ExprT) (k : Nat) : szL (l.take k) ≤ szL l := by
  have := szL_append (l.take k) (l.drop k)
  rw [List.take_append_drop] at this
  omega
theorem sz_arg {e : ExprT} {k : Nat} (h : k < e.Args.length) : sz e.Args[k] < sz e := by
  have := szL_mem (List.getElem_mem h)
  rw [sz_eq e]; omega
theorem szL_len : ∀ l : List ExprT, l.length ≤ szL l
  | [] => Nat.zero_le _
  | x :: l => by have := szL_len l; have := sz_pos x; rw [szL, List.length_cons]; omega
mutual
theorem allP_len : ∀ e : ExprT, (allP e).length = sz e
  | ⟨k, n, as⟩ => by rw [allP, sz, List.length_cons, allPL_len as]; omega
theorem allPL_len : ∀ l : List ExprT, (allPL l).length = szL l
  | [] => by rw [allPL, szL]; rfl
  | x :: r => by rw [allPL, szL, List.length_append, allP_len x, allPL_len r]
end
theorem allPL_append : ∀ l m : List ExprT, allPL (l ++ m) = allPL l ++ allPL m
  | [], m => by simp [allPL]
  | x :: l, m => by rw [List.cons_append, allPL, allPL, allPL_append l m, List.append_assoc]
theorem allPL_take_succ {l : List ExprT} {k : Nat} (h : k < l.length) : allPL (l.take (k + 1)) = allPL (l.take k) ++ allP l[k] := by
  rw [List.take_add_one, List.getElem?_eq_getElem h, allPL_append]
  simp [allPL]
theorem allPL_mem : ∀ {l : List ExprT} {x y : ExprT}, x ∈ l → y ∈ allP x → y ∈ allPL l
  | z :: l, x, y, h, hy => by
    rw [allPL]
    rcases List.mem_cons.1 h with rfl | h
    · exact List.mem_append_left _ hy
    · exact List.mem_append_right _ (allPL_mem h hy)
/-- what is wrong with a part by itself. -/
def partS (v : Int) (e : ExprT) : Int :=
  if e.Kind < 1 ∨ 7 < e.Kind then 7 else if e.Args.length ≠ (if 2 < e.Kind then 2 else 0) then 1 else
    if (e.Kind = 1 ∧ (e.N < -9999999 ∨ 9999999 < e.N)) ∨ (2 < e.Kind ∧ e.N ≠ 0) then 3 else if e.Kind = 2 ∧ (e.N < 0 ∨ v ≤ e.N) then 5 else 0
theorem partS_ok {v : Int} {e : ExprT} (h : partS v e = 0) : (1 ≤ e.Kind ∧ e.Kind ≤ 7) ∧ e.Args.length = (if 2 < e.Kind then 2 else 0) ∧ (e.Kind = 1 → -9999999 ≤ e.N ∧ e.N ≤ 9999999) ∧ (2 < e.Kind → e.N = 0) ∧ (e.Kind = 2 → 0 ≤ e.N ∧ e.N < v) := by
  unfold partS at h
  by_cases h1 : e.Kind < 1 ∨ 7 < e.Kind
  · rw [if_pos h1] at h; exact absurd h (by decide)
  rw [if_neg h1] at h
  by_cases h2 : e.Args.length ≠ (if 2 < e.Kind then 2 else 0)
  · rw [if_pos h2] at h; exact absurd h (by decide)
  rw [if_neg h2] at h
  by_cases h3 : (e.Kind = 1 ∧ (e.N < -9999999 ∨ 9999999 < e.N)) ∨ (2 < e.Kind ∧ e.N ≠ 0)
  · rw [if_pos h3] at h; exact absurd h (by decide)
  rw [if_neg h3] at h
  by_cases h4 : e.Kind = 2 ∧ (e.N < 0 ∨ v ≤ e.N)
  · rw [if_pos h4] at h; exact absurd h (by decide)
  exact ⟨by omega, Decidable.not_not.1 h2, fun k => by omega, fun k => by omega, fun k => by omega⟩
/-- the first thing that is wrong. -/
def ferr (v : Int) : List ExprT → Int
  | [] => 0
  | x :: r => if partS v x ≠ 0 then partS v x else ferr v r
theorem ferr_append (v : Int) : ∀ l m : List ExprT, ferr v (l ++ m) = if ferr v l ≠ 0 then ferr v l else ferr v m
  | [], m => by simp [ferr]
  | x :: l, m => by
    rw [List.cons_append, ferr, ferr, ferr_append v l m]
    by_cases h : partS v x = 0
    · simp [h]
    · simp [h]
theorem ferr_ok {v : Int} : ∀ {l : List ExprT}, ferr v l = 0 → ∀ x ∈ l, partS v x = 0
  | y :: l, h, x, hx => by
    rw [ferr] at h
    by_cases hy : partS v y = 0
    · rw [if_neg (by simpa using hy)] at h
      rcases List.mem_cons.1 hx with rfl | hx
      · exact hy
      · exact ferr_ok h x hx
    · rw [if_pos hy] at h; exact absurd h hy
/-- is it a number of a run? -/
def numB (n : Int) : Bool := decide (-2147483648 ≤ n ∧ n ≤ 2147483647)
theorem w32_num (n : Int) : numB (w32 n) = true := by
  simp [numB, w32, IntKind.wrap, IntKind.bits, IntKind.signed]; omega
theorem w32_of {n : Int} (h : numB n = true) : w32 n = n := by
  simp [numB] at h
  simp [w32, IntKind.wrap, IntKind.bits, IntKind.signed]; omega
theorem wrap_num {n : Int} (h : numB n = true) : IntKind.i64.wrap n = n := by
  simp [numB] at h
  exact wrap64 (by omega) (by omega)
/-- an expression that is right comes to a number of a run, if all variables are such. -/
theorem val_num {vs : List Int} (hv : ∀ x ∈ vs, numB x = true) : ∀ (n : Nat) (e : ExprT), sz e ≤ n → (∀ x ∈ allP e, partS vs.length x = 0) → numB (valS vs e) = true
  | 0, e, h, _ => by have := sz_pos e; omega
  | n + 1, e, h, hok => by
    have hp : partS vs.length e = 0 := hok e (by rw [allP_eq]; simp)
    rw [valS_eq]
    unfold opS
    obtain ⟨p1, p2, p3, p4, p5⟩ := partS_ok hp
    by_cases k1 : e.Kind = 1
    · rw [if_pos k1]
      have := p3 k1
      simp [numB]; omega
    rw [if_neg k1]
    by_cases k2 : e.Kind = 2
    · rw [if_pos k2]
      have h3 := p5 k2
      have h4 : e.N.toNat < vs.length := by omega
      rw [List.getD_eq_getElem?_getD, List.getElem?_eq_getElem h4]
      exact hv _ (List.getElem_mem h4)
    rw [if_neg k2]
    split
    · exact w32_num _
    split
    · exact w32_num _
    split
    · exact w32_num _
    split
    · split <;> rfl
    split
    · split <;> rfl
    · rfl
end Go.Proofs.Ytdoiklliklkbgaa.A
