/- How the abstract run is reckoned: which definitions simp opens. -/
import Derived.Test.YtmfihcbafljcbaaCode
import Derived.Test.YtmfihcbafljcbaaPath3
set_option linter.unusedSectionVars false
set_option linter.unusedVariables false
set_option linter.unusedSimpArgs false
set_option linter.constructorNameAsVariable false
namespace Go.Proofs.Ytmfihcbafljcbaa.A
open Go
abbrev E0 : Env := ⟨0, false⟩
abbrev H0 : HP := fun _ => none
attribute [simp] fget bget bset St.fset St.ev St.keep keepF keepB put execOps execG execOp doPre doPre1 St.elems natOf pick bop bopI AV.cl AV.nc run_sq run_bl run_ite run_sk run_ex run_rt run_rg run_dg run_lpk kept AV.pure AV.pureL AV.copy AV.copyL AV.one isBor
  St.result St.resAll St.resV St.fin1 St.finL argFr asB asG goOn inBlock St.box St.setBox AV.deep AV.noK AV.noKL elemAt tup AV.deepL doCall St.lend St.lendAll AV.off AV.offL AV.bor St.dropB St.rowAt St.putAt Pl.mine consume frz bndOf putCells
  execD execD1 patchL coreL view lightOk isU okRes Patch.app bsets dput effect freeOf
theorem lend_pure (dp : Nat) (st : St) {x : AV} (h : x.pure = true) : st.lend dp x = some (x, []) := by
  cases x <;> simp only [St.lend, h, if_true] <;> simp [AV.pure] at h
theorem lendAll_pure (dp : Nat) (st : St) : ∀ {xs : List AV}, AV.pureL xs = true → st.lendAll dp xs = some (xs, [])
  | [], _ => rfl
  | x :: xs, h => by
    simp only [AV.pureL, Bool.and_eq_true] at h
    simp only [St.lendAll, lend_pure dp st h.1, lendAll_pure dp st h.2, Option.bind_some, List.nil_append]
theorem all_lendy : ∀ {xs : List AV}, AV.pureL xs = true → xs.all AV.lendy = true
  | [], _ => rfl
  | x :: xs, h => by
    simp only [AV.pureL, Bool.and_eq_true] at h
    simp only [List.all_cons, Bool.and_eq_true]
    exact ⟨by cases x <;> first | rfl | exact h.1, all_lendy h.2⟩
theorem bind_left {α β : Type} {x y : Option α} {f : α → Option β} (h : x = y) : x.bind f = y.bind f := by rw [h]
attribute [congr] bind_left
/-- a call that is told by a bounded run. -/
theorem call_of_exec {G : Prg} {Ω : Orc} {E : Env} {f : FuncId} {args : List AV} {hp : HP} {r : AEnd × HP} (n : Nat) (h : callF G (exec G Ω n) E f args hp = some r) : call G Ω E f args hp = some r := by
  obtain ⟨fn, h1, h2⟩ := Option.bind_eq_some_iff.1 h
  obtain ⟨q, h3, h4⟩ := Option.bind_eq_some_iff.1 h2
  exact Option.bind_eq_some_iff.2 ⟨fn, h1, Option.bind_eq_some_iff.2 ⟨q, run_ge n _ _ _ _ h3, h4⟩⟩
/-- the value that a call hands back, where it is a bool. -/
def retB : Option (AEnd × HP) → Option Bool
  | some (.ret (.b x), _) => some x
  | _ => none
theorem pureL_map {α : Type} (e : α → AV) (h : ∀ a, (e a).pure = true) (l : List α) : AV.pureL (l.map e) = true :=
  pureL_of fun x hx => by
    obtain ⟨a, _, rfl⟩ := List.mem_map.1 hx
    exact h a
theorem pureL_append {l m : List AV} (h : AV.pureL l = true) (h' : AV.pureL m = true) : AV.pureL (l ++ m) = true :=
  pureL_of fun x hx => (List.mem_append.1 hx).elim (pureL_mem h x) (pureL_mem h' x)
@[simp] theorem pureL_i (l : List Int) : AV.pureL (l.map (AV.i .i64)) = true := pureL_map _ (fun _ => rfl) l
@[simp] theorem pureL_b (l : List Bool) : AV.pureL (l.map AV.b) = true := pureL_map _ (fun _ => rfl) l
theorem wrapN (n : Nat) (h : n < 4611686018427387904) : IntKind.i64.wrap (n : Int) = n := wrap64 (by omega) (by omega)
theorem wrapN1 (n : Nat) (h : n < 4611686018427387904) : IntKind.i64.wrap ((n : Int) + 1) = (n : Int) + 1 := wrap64 (by omega) (by omega)
theorem allB {α : Type} (e : α → AV) (p : AV → Bool) (h : ∀ a, p (e a) = true) (l : List α) : (l.map e).all p = true := by
  simp [List.all_map, h]

/-- a loop that counts: what stops it first; else its end. -/
def firstOf {α : Type} (stop : Nat → Option α) (fin : α) : Nat → Nat → α
  | _, 0 => fin
  | k, n + 1 => match stop k with
    | some r => r
    | none => firstOf stop fin (k + 1) n
theorem loop_nat {G : Prg} {Ω : Orc} {E : Env} (l : LoopC) (n : Nat) (hn : n < 4611686018427387904) (S : Nat → St) (stop : Nat → Option (AExit × St)) (fin : AExit × St)
    (hk : ∀ k, (S k).keep l.kf l.kb = S k) (hend : run G Ω E l.x (S n) = some fin ∧ fin.1 ≠ .nrm)
    (step : ∀ k, k < n → IntKind.i64.wrap ((k : Int) + 1) = (k : Int) + 1 → match stop k with
      | some r => run G Ω E l.x (S k) = some r ∧ r.1 ≠ .nrm
      | none => (run G Ω E l.x (S k)).bind (kept l) = some (S (k + 1))) :
    lpAt G Ω E l (S 0) = some (firstOf stop fin 0 n) := by
  have : ∀ m k, k + m = n → lpAt G Ω E l (S k) = some (firstOf stop fin k m) := by
    intro m
    induction m with
    | zero =>
      intro k hkn
      obtain rfl : k = n := by omega
      exact lpAt_end (by rw [hk]; exact hend.1) hend.2
    | succ m ih =>
      intro k hkn
      have hs := step k (by omega) (wrapN1 k (by omega))
      simp only [firstOf]
      cases hq : stop k with
      | none =>
        rw [hq] at hs
        rw [lpAt_step (by rw [hk]; exact hs)]
        exact ih (k + 1) (by omega)
      | some r =>
        rw [hq] at hs
        exact lpAt_end (by rw [hk]; exact hs.1) hs.2
  exact this n 0 (by omega)
/-- a loop that counts to its end. -/
theorem loop_all {G : Prg} {Ω : Orc} {E : Env} (l : LoopC) (n : Nat) (hn : n < 4611686018427387904) (S : Nat → St) (fin : AExit × St)
    (hk : ∀ k, (S k).keep l.kf l.kb = S k) (hend : run G Ω E l.x (S n) = some fin ∧ fin.1 ≠ .nrm)
    (step : ∀ k, k < n → IntKind.i64.wrap ((k : Int) + 1) = (k : Int) + 1 → (run G Ω E l.x (S k)).bind (kept l) = some (S (k + 1))) :
    lpAt G Ω E l (S 0) = some fin := by
  have h := loop_nat l n hn S (fun _ => none) fin hk hend (fun k hk hw => step k hk hw)
  rw [h]
  congr 1
  have : ∀ m k, firstOf (fun _ => none) fin k m = fin := by
    intro m
    induction m with
    | zero => intro k; rfl
    | succ m ih => intro k; exact ih (k + 1)
  exact this n 0
/-- a loop that comes to its end, by something that becomes less. -/
theorem loop_wf {α : Type} {G : Prg} {Ω : Orc} {E : Env} (l : LoopC) (S : α → St) (m : α → Nat) (Inv : α → Prop) (Q : AExit × St → Prop) (hk : ∀ a, (S a).keep l.kf l.kb = S a)
    (step : ∀ a, Inv a → (∃ r, run G Ω E l.x (S a) = some r ∧ r.1 ≠ .nrm ∧ Q r) ∨ ∃ a', (run G Ω E l.x (S a)).bind (kept l) = some (S a') ∧ Inv a' ∧ m a' < m a) :
    ∀ a, Inv a → ∃ r, lpAt G Ω E l (S a) = some r ∧ Q r := by
  have : ∀ n a, m a < n → Inv a → ∃ r, lpAt G Ω E l (S a) = some r ∧ Q r := by
    intro n
    induction n with
    | zero => intro a h; omega
    | succ n ih =>
      intro a h hi
      rcases step a hi with ⟨r, h1, h2, h3⟩ | ⟨a', h1, h2, h3⟩
      · exact ⟨r, lpAt_end (by rw [hk]; exact h1) h2, h3⟩
      · rw [lpAt_step (by rw [hk]; exact h1)]
        exact ih a' (by omega) h2
  exact fun a => this (m a + 1) a (Nat.lt_succ_self _)
/-- a loop that stops at the first that fits. -/
theorem firstOf_find {α β : Type} (l : List β) (p : Nat → β → Option α) (fin : α) (stop : Nat → Option α) (h : ∀ k x, l[k]? = some x → stop k = p k x) :
    ∀ k m, k + m = l.length → firstOf stop fin k m = (((l.drop k).zipIdx k).findSome? (fun x => p x.2 x.1)).getD fin := by
  intro k m
  induction m generalizing k with
  | zero =>
    intro hk
    rw [List.drop_eq_nil_of_le (by omega)]
    rfl
  | succ m ih =>
    intro hk
    have hlt : k < l.length := by omega
    rw [List.drop_eq_getElem_cons hlt, List.zipIdx_cons, List.findSome?_cons, firstOf, h k l[k] (List.getElem?_eq_getElem hlt)]
    cases p k l[k] with
    | some r => rfl
    | none => exact ih (k + 1) (by omega)
/-- a loop that stops with the same wherever it stops. -/
theorem firstOf_any {α β : Type} (l : List β) (p : β → Bool) (r fin : α) (stop : Nat → Option α) (h : ∀ k x, l[k]? = some x → stop k = if p x then some r else none) :
    firstOf stop fin 0 l.length = if l.any p then r else fin := by
  have : ∀ k m, k + m = l.length → firstOf stop fin k m = if (l.drop k).any p then r else fin := by
    intro k m
    induction m generalizing k with
    | zero =>
      intro hk
      rw [List.drop_eq_nil_of_le (by omega)]
      rfl
    | succ m ih =>
      intro hk
      have hlt : k < l.length := by omega
      rw [List.drop_eq_getElem_cons hlt, List.any_cons, firstOf, h k l[k] (List.getElem?_eq_getElem hlt)]
      cases p l[k] with
      | true => rfl
      | false => simpa using ih (k + 1) (by omega)
  simpa using this 0 l.length (by omega)
/-- a loop over a list that stops with the same wherever it stops. -/
theorem loop_any {β : Type} {G : Prg} {Ω : Orc} {E : Env} (l : LoopC) (es : List β) (p : β → Bool) (hn : es.length < 4611686018427387904) (S : Nat → St) (r fin : AExit × St)
    (hk : ∀ k, (S k).keep l.kf l.kb = S k) (hend : run G Ω E l.x (S es.length) = some fin ∧ fin.1 ≠ .nrm)
    (step : ∀ (k : Nat) (hk : k < es.length), IntKind.i64.wrap ((k : Int) + 1) = (k : Int) + 1 →
      (p es[k] = true → run G Ω E l.x (S k) = some r) ∧ (p es[k] = false → (run G Ω E l.x (S k)).bind (kept l) = some (S (k + 1)))) (hr : r.1 ≠ .nrm) :
    lpAt G Ω E l (S 0) = some (if es.any p then r else fin) := by
  rw [loop_nat l es.length hn S (fun k => if (es[k]?).any p then some r else none) fin hk hend (fun k hk hw => by
    obtain ⟨h1, h2⟩ := step k hk hw
    rw [List.getElem?_eq_getElem hk]
    cases hp : p es[k] with
    | true => simp only [Option.any_some, hp, if_true]; exact ⟨h1 hp, hr⟩
    | false => simp only [Option.any_some, hp]; exact h2 hp)]
  rw [firstOf_any es p r fin _ (fun k x hx => by simp [hx])]
abbrev I (n : Int) : AV := .i .i64 n
abbrev Z0 : Prop := (0 : Nat) = 0
abbrev T0 : Prop := true = true
abbrev F0 : Prop := false = false
/-- lists of lists, as values. -/
def eLs {α : Type} (t : TypeId) (e : α → AV) (l : List α) : AV := .l t (l.map e)
theorem map_get {α : Type} (e : α → AV) {l : List α} {j : Nat} {x : α} (h : l[j]? = some x) : (l.map e)[j]? = some (e x) := by rw [List.getElem?_map, h]; rfl
theorem map_getE {α : Type} (e : α → AV) {l : List α} {j : Nat} {x : α} {v : AV} (h : l[j]? = some x) (hv : e x = v) : (l.map e)[j]? = some v := by rw [map_get e h, hv]
theorem map_set {α : Type} (e : α → AV) (l : List α) (j : Nat) (x : α) : (l.map e).set j (e x) = (l.set j x).map e := (List.map_set ..).symm
theorem map_take {α : Type} (e : α → AV) (l : List α) (j : Nat) : (l.map e).take j = (l.take j).map e := (List.map_take ..).symm
theorem map_sub {α : Type} (e : α → AV) (l : List α) (i j : Nat) : ((l.map e).drop i).take j = ((l.drop i).take j).map e := by rw [List.map_take, List.map_drop]
theorem map_take_drop {α : Type} (e : α → AV) (l : List α) (i j : Nat) : ((l.map e).take j).drop i = ((l.take j).drop i).map e := by rw [List.map_drop, List.map_take]
theorem map_drop_all {α : Type} (e : α → AV) (l : List α) (i : Nat) : ((l.map e).take (l.map e).length).drop i = (l.drop i).map e := by rw [List.take_length, List.map_drop]
theorem map_len {α : Type} (e : α → AV) (l : List α) : ((l.map e).length : Int) = ((l.length : Nat) : Int) := by rw [List.length_map]
theorem all_nc {α : Type} (e : α → AV) {n : Nat} (h : ∀ a, (e a).nc = n) (l : List α) : ((l.map e).all fun x => x.nc == n) = true := by
  rw [List.all_map]
  exact List.all_eq_true.2 fun x _ => beq_iff_eq.2 (h x)
theorem room1 {n b : Nat} (h : n ≤ 1000000000) (hb : b ≤ 100000) : n * b ≤ 140737488355328 := Nat.le_trans (Nat.mul_le_mul h hb) (by decide)
theorem room2 {n : Nat} (h : n ≤ 1000000000) : n ≤ maxLen := Nat.le_trans h (by decide)
theorem room3 {α : Type} {e : α → AV} {l m : List α} {b : Nat} (h : l.length + m.length ≤ 1000000000) (hb : b ≤ 100000) : ((l.map e).length + (m.map e).length) * b ≤ 140737488355328 := by
  rw [List.length_map, List.length_map]; exact room1 h hb
theorem room4 {α : Type} {e : α → AV} {l m : List α} (h : l.length + m.length ≤ 1000000000) : (l.map e).length + (m.map e).length ≤ maxLen := by
  rw [List.length_map, List.length_map]; exact room2 h
theorem upd_upd (hp : HP) (k : Key) (a b : List AV) : upd (upd hp k a) k b = upd hp k b := by
  funext k'; simp only [upd]; split <;> rfl
theorem upd_same (hp : HP) (k : Key) (a : List AV) : upd hp k a k = some a := by simp [upd]
theorem off_b (ts : List TypeId) (l : List Bool) : AV.offL ts (l.map AV.b) = true := by
  induction l with
  | nil => rfl
  | cons x l ih => simp only [List.map_cons, AV.offL, ih, Bool.and_true]; rfl
theorem off_i (ts : List TypeId) (k : IntKind) (l : List Int) : AV.offL ts (l.map (AV.i k)) = true := by
  induction l with
  | nil => rfl
  | cons x l ih => simp only [List.map_cons, AV.offL, ih, Bool.and_true]; rfl
end Go.Proofs.Ytmfihcbafljcbaa.A
