/- Plain functions: loops as least fixed points, and how what they answer is told of the abstract run. -/
import Derived.Test.YtmfihcbafljcbaaBase
set_option linter.unusedSectionVars false
set_option linter.unusedVariables false
set_option linter.unusedSimpArgs false
set_option linter.constructorNameAsVariable false
namespace Go.Proofs.Ytmfihcbafljcbaa.A
open Go
/-- a loop of at most n rounds. -/
def lpN {α ε : Type} (B : α → Option (α ⊕ ε)) : Nat → α → Option ε
  | 0, _ => none
  | n + 1, v => match B v with
    | some (.inl w) => lpN B n w
    | some (.inr x) => some x
    | none => none
class Lp where
  run : {α ε : Type} → (α → Option (α ⊕ ε)) → α → Option ε
  sound : ∀ {α ε : Type} {B : α → Option (α ⊕ ε)} {v : α} {x : ε}, run B v = some x → ∃ n, lpN B n v = some x
  told : ∀ {α ε : Type} {B : α → Option (α ⊕ ε)} {v : α} {x : ε} (n : Nat), lpN B n v = some x → run B v = some x
abbrev lp [Lp] {α ε : Type} (B : α → Option (α ⊕ ε)) (v : α) : Option ε := Lp.run B v
theorem lp_sound [Lp] {α ε : Type} {B : α → Option (α ⊕ ε)} {v : α} {x : ε} (h : lp B v = some x) : ∃ n, lpN B n v = some x := Lp.sound h
theorem lp_of [Lp] {α ε : Type} {B : α → Option (α ⊕ ε)} {v : α} {x : ε} (n : Nat) (h : lpN B n v = some x) : lp B v = some x := Lp.told n h
theorem lpN_mono {α ε : Type} {B : α → Option (α ⊕ ε)} : ∀ {n : Nat} {v : α} {x : ε}, lpN B n v = some x → lpN B (n + 1) v = some x
  | 0, _, _, h => by cases h
  | n + 1, v, x, h => by
    rw [lpN] at h ⊢
    split at h
    · exact lpN_mono h
    · exact h
    · exact h
theorem lpN_le {α ε : Type} {B : α → Option (α ⊕ ε)} {n m : Nat} {v : α} {x : ε} (hm : n ≤ m) (h : lpN B n v = some x) : lpN B m v = some x := by
  induction hm with
  | refl => exact h
  | step _ ih => exact lpN_mono ih
theorem lpN_det {α ε : Type} {B : α → Option (α ⊕ ε)} {n m : Nat} {v : α} {x y : ε} (h : lpN B n v = some x) (h' : lpN B m v = some y) : x = y := by
  have h1 := lpN_le (Nat.le_max_left n m) h
  rw [lpN_le (Nat.le_max_right n m) h'] at h1
  exact (Option.some.inj h1).symm
theorem lp_exists : Nonempty Lp := by
  refine ⟨⟨fun {α ε} B v => open Classical in if h : ∃ n, (lpN B n v).isSome then lpN B h.choose v else none, fun {α ε B v x} h => ?_, fun {α ε B v x} n h => ?_⟩⟩
  · split at h
    · rename_i hn; exact ⟨_, h⟩
    · cases h
  · have hn : ∃ n, (lpN B n v).isSome := ⟨n, by rw [h]; rfl⟩
    rw [dif_pos hn]
    have := hn.choose_spec
    obtain ⟨y, hy⟩ := Option.isSome_iff_exists.1 this
    rw [hy, lpN_det hy h]
variable [Lp]
section
variable {α ε : Type} {B : α → Option (α ⊕ ε)}
theorem lp_end {v : α} {x : ε} (h : B v = some (.inr x)) : lp B v = some x := lp_of 1 (by rw [lpN, h])
theorem lp_next {v w : α} (h : B v = some (.inl w)) : lp B v = lp B w := by
  cases hw : lp B w with
  | some x => obtain ⟨n, hn⟩ := lp_sound hw; exact lp_of (n + 1) (by rw [lpN, h]; exact hn)
  | none =>
    cases hv : lp B v with
    | none => rfl
    | some x =>
      obtain ⟨n, hn⟩ := lp_sound hv
      cases n with
      | zero => cases hn
      | succ n => rw [lpN, h] at hn; rw [lp_of n hn] at hw; cases hw
end
/-- what a round's answer says of the abstract run. -/
def bodyOK {α ε : Type} (E : Env) (l : LoopC) (S : α → St) (X : ε → AExit × St) (v : α) : α ⊕ ε → Prop
  | .inl w => (run G Ω0 E l.x (S v)).bind (kept l) = some (S w)
  | .inr x => run G Ω0 E l.x (S v) = some (X x) ∧ (X x).1 ≠ .nrm
theorem lp_lift {α ε : Type} {E : Env} {B : α → Option (α ⊕ ε)} (l : LoopC) (S : α → St) (X : ε → AExit × St) (hk : ∀ v, (S v).keep l.kf l.kb = S v) (hb : ∀ v o, B v = some o → bodyOK E l S X v o) {v : α} {x : ε} (h : lp B v = some x) : lpAt G Ω0 E l (S v) = some (X x) := by
  obtain ⟨n, hn⟩ := lp_sound h
  clear h
  induction n generalizing v with
  | zero => cases hn
  | succ n ih =>
    rw [lpN] at hn
    split at hn
    · rename_i w hw
      rw [lpAt_step (by rw [hk]; exact hb v _ hw)]
      exact ih hn
    · rename_i y hy
      obtain rfl := Option.some.inj hn
      obtain ⟨h1, h2⟩ := hb v _ hy
      exact lpAt_end (by rw [hk]; exact h1) h2
    · cases hn
/-- all boxes in sight. -/
def boxes (dp : Nat) (bx : List (Nat × List AV)) (hp : HP) : HP := fun k => if k.dp = dp then bget bx k.d else hp k
theorem upd_ne {hp : HP} {k k' : Key} {cs : List AV} (h : k ≠ k') : upd hp k' cs k = hp k := by simp only [upd, if_neg h]
theorem upd_swap {hp : HP} {k k' : Key} {a b c : List AV} (h : k ≠ k') : upd (upd (upd hp k a) k' b) k c = upd (upd hp k c) k' b := by
  funext q
  simp only [upd]
  by_cases h1 : q = k
  · subst h1; simp [h]
  · simp [h1]
theorem upd_deep {h h' : HP} {k k' : Key} {c d : List AV} (hn : k' ≠ k) (e : upd h k c = h') : upd (upd h k' d) k c = upd h' k' d := by
  subst e
  funext q
  simp only [upd]
  by_cases h1 : q = k
  · subst h1; simp [Ne.symm hn]
  · simp [h1]
theorem upd_out {dp : Nat} {bx : List (Nat × List AV)} {hp : HP} {k : Key} {c : List AV} (h : k.dp ≠ dp) : upd (boxes dp bx hp) k c = boxes dp bx (upd hp k c) := by
  funext q
  simp only [upd, boxes]
  by_cases h1 : q = k
  · subst h1; simp [h]
  · simp [h1]
theorem bget_bsetL {bx : List (Nat × List AV)} {d d' : Nat} {c : List AV} (h : (bget bx d).isSome = true) : bget (bset bx d c) d' = if d' = d then some c else bget bx d' := by
  induction bx with
  | nil => simp [bget] at h
  | cons x bx ih =>
    obtain ⟨k, cs⟩ := x
    by_cases hk : k = d
    · subst hk
      by_cases hd : d' = k
      · subst hd; simp [bset, bget]
      · have : ¬ k = d' := fun e => hd e.symm
        simp [bset, bget, hd, this]
    · have h2 : (bget bx d).isSome = true := by simpa [bget, hk] using h
      have := ih h2
      by_cases hd : k = d'
      · subst hd
        simp [bset, bget, hk]
      · simp [bset, bget, hk, hd, this]
theorem upd_own {dp : Nat} {bx : List (Nat × List AV)} {hp : HP} {d : Nat} {c : List AV} (h : (bget bx d).isSome = true) : upd (boxes dp bx hp) ⟨dp, d⟩ c = boxes dp (bset bx d c) hp := by
  funext q
  obtain ⟨qd, q'⟩ := q
  simp only [upd, boxes, bget_bsetL h, Key.mk.injEq]
  by_cases h1 : qd = dp
  · simp [h1]
  · simp [h1]
theorem upd_own' {dp : Nat} {bx bx1 : List (Nat × List AV)} {hp : HP} {d : Nat} {c : List AV} (h : (bget bx d).isSome = true) (hb : bset bx d c = bx1) : upd (boxes dp bx hp) ⟨dp, d⟩ c = boxes dp bx1 hp := hb ▸ upd_own h
theorem upd_out' {dp : Nat} {bx : List (Nat × List AV)} {hp hp1 : HP} {k : Key} {c : List AV} (h : k.dp ≠ dp) (hh : upd hp k c = hp1) : upd (boxes dp bx hp) k c = boxes dp bx hp1 := hh ▸ upd_out h
theorem upd_more {H H1 H2 : HP} {k : Key} {c : List AV} (h : H = H1) (h' : upd H1 k c = H2) : upd H k c = H2 := h ▸ h'
def nodupB : List Nat → Bool
  | [] => true
  | x :: l => l.all (fun y => x != y) && nodupB l
theorem nodup_of : ∀ {l : List Nat}, nodupB l = true → l.Nodup
  | [], _ => List.nodup_nil
  | x :: l, h => by
    simp only [nodupB, Bool.and_eq_true, List.all_eq_true, bne_iff_ne, ne_eq] at h
    exact List.nodup_cons.2 ⟨fun hm => h.1 x hm rfl, nodup_of h.2⟩
theorem backB_boxes {dp : Nat} {bx bx' : List (Nat × List AV)} {hp : HP} (h : bx'.map Prod.fst = bx.map Prod.fst) (hn0 : nodupB (bx.map Prod.fst) = true) : backB dp (boxes dp bx' hp) bx = bx' := by
  have hn := nodup_of hn0
  clear hn0
  have key : ∀ (l l' : List (Nat × List AV)), l'.map Prod.fst = l.map Prod.fst → (l.map Prod.fst).Nodup → (∀ x ∈ l', bget bx' x.1 = some x.2) → backB dp (boxes dp bx' hp) l = l' := by
    intro l
    induction l with
    | nil => intro l' hl _ _; cases l' with
      | nil => rfl
      | cons _ _ => cases hl
    | cons y l ih =>
      intro l' hl hnd hg
      cases l' with
      | nil => cases hl
      | cons x l' =>
        simp only [List.map_cons, List.cons.injEq] at hl
        obtain ⟨d, cs⟩ := y
        obtain ⟨d', cs'⟩ := x
        obtain ⟨rfl, hl⟩ := hl
        have h1 := hg (d', cs') (by simp)
        simp only [backB, boxes, if_true, h1]
        rw [ih l' hl (List.nodup_cons.1 hnd).2 fun x hx => hg x (by simp [hx])]
  refine key bx bx' h hn fun x hx => ?_
  have hn' : (bx'.map Prod.fst).Nodup := by rw [h]; exact hn
  clear key h hn
  induction bx' with
  | nil => cases hx
  | cons y bx' ih =>
    obtain ⟨d, cs⟩ := y
    rcases List.mem_cons.1 hx with rfl | hx
    · simp [bget]
    · have hne : ¬ d = x.1 := fun e => (List.nodup_cons.1 hn').1 (List.mem_map.2 ⟨x, hx, e.symm⟩)
      simp only [bget, if_neg hne]
      exact ih hx (List.nodup_cons.1 hn').2
def LowHP (dp : Nat) (hp : HP) : Prop := ∀ k : Key, ¬ k.dp < dp → hp k = none
theorem low_none (dp : Nat) : LowHP dp (fun _ => none) := fun _ _ => rfl
theorem low_upd {dp : Nat} {hp : HP} {k : Key} {c : List AV} (hk : k.dp < dp) (h : LowHP dp hp) : LowHP dp (upd hp k c) := by
  intro q hq
  have : q ≠ k := fun e => by subst e; exact hq hk
  rw [upd_ne this]; exact h q hq
theorem low_boxes {dp : Nat} {bx : List (Nat × List AV)} {hp : HP} (h : LowHP dp hp) : LowHP (dp + 1) (boxes dp bx hp) := by
  intro q hq
  simp only [boxes, if_neg (show ¬ q.dp = dp by omega)]
  exact h q (by omega)
theorem boxes_low {dp : Nat} {bx : List (Nat × List AV)} {hp : HP} (h : LowHP dp hp) : (fun k : Key => if k.dp < dp then boxes dp bx hp k else none) = hp := by
  funext q
  by_cases h1 : q.dp < dp
  · simp only [if_pos h1, boxes, if_neg (show ¬ q.dp = dp by omega)]
  · rw [if_neg h1, h q h1]
theorem key_ne {dp d d' : Nat} (h : d ≠ d') : (⟨dp, d⟩ : Key) ≠ ⟨dp, d'⟩ := fun e => h (congrArg Key.d e)
theorem key_out {dp d : Nat} {k : Key} (h : k.dp < dp) : k ≠ ⟨dp, d⟩ := fun e => by subst e; exact Nat.lt_irrefl _ h
theorem key_own {dp d : Nat} {k : Key} (h : k.dp < dp) : (⟨dp, d⟩ : Key) ≠ k := fun e => key_out h e.symm
theorem call_at {E : Env} {f : FuncId} {ys : List AV} {h1 h1' h2 h2' : HP} {x : AV} (e1 : h1 = h1') (e2 : h2 = h2') (h : call G Ω0 E f ys h1 = some (.ret x, h2)) : call G Ω0 E f ys h1' = some (.ret x, h2') := e1 ▸ e2 ▸ h
theorem iteP {R : Type} {c : Prop} [Decidable c] {A B : Option R} {r : R} {P : Prop} (h : (if c then A else B) = some r) (h1 : c → A = some r → P) (h2 : ¬ c → B = some r → P) : P := by
  by_cases hc : c
  · exact h1 hc (by rwa [if_pos hc] at h)
  · exact h2 hc (by rwa [if_neg hc] at h)
theorem iteB {R : Type} {c : Bool} {A B : Option R} {r : R} {P : Prop} (h : (if c = true then A else B) = some r) (h1 : c = true → A = some r → P) (h2 : c = false → B = some r → P) : P := by
  cases c with
  | true => exact h1 rfl h
  | false => exact h2 rfl h
theorem bindP {Q R : Type} {m : Option Q} {k : Q → Option R} {r : R} {P : Prop} (h : m.bind k = some r) (h1 : ∀ x, m = some x → k x = some r → P) : P := by
  obtain ⟨x, h2, h3⟩ := Option.bind_eq_some_iff.1 h
  exact h1 x h2 h3
def natI (n : Int) : Option Nat := if 0 ≤ n then some n.toNat else none
theorem natI_eq {n : Int} {j : Nat} (h : natI n = some j) : n = (j : Int) := by
  unfold natI at h; split at h
  · obtain rfl := Option.some.inj h; omega
  · cases h
theorem natI_nat (n : Nat) : natI (n : Int) = some n := by simp [natI]
theorem natI_nn {n : Int} (h : 0 ≤ n) : natI n = some n.toNat := by simp [natI, h]
theorem natP {R : Type} {n : Int} {k : Nat → Option R} {r : R} {P : Prop} (h : (natI n).bind k = some r) (h1 : ∀ j : Nat, n = (j : Int) → k j = some r → P) : P :=
  bindP h fun j hj h => h1 j (natI_eq hj) h
theorem asrtP {R : Type} {c : Prop} [Decidable c] {A : Option R} {r : R} {P : Prop} (h : (if c then A else none) = some r) (h1 : c → A = some r → P) : P :=
  iteP h h1 fun _ h => by cases h
theorem noneO {R : Type} {r : R} {P : Prop} (h : (none : Option R) = some r) : P := by cases h
theorem ne_ret : AExit.ret ≠ .nrm := by intro h; cases h
theorem ne_ex (n : Nat) : AExit.ex n ≠ .nrm := by intro h; cases h
theorem leafO {R : Type} {P : R → Prop} {a r : R} (h : some a = some r) (h1 : P a) : P r := Option.some.inj h ▸ h1

def bodyY {α ε : Type} (S : α → St) (X : ε → AExit × St) : α ⊕ ε → St ⊕ (AExit × St)
  | .inl w => .inl (S w)
  | .inr x => .inr (X x)
/-- what comes of a thing that is there. -/
theorem exB {Q R : Type} {m : Option Q} {k : Q → Option R} {r : R} {T : Q → Prop} (h : m.bind k = some r) (h1 : ∀ x, m = some x → k x = some r → T x) : ∃ x, T x := by
  obtain ⟨x, h2, h3⟩ := Option.bind_eq_some_iff.1 h
  exact ⟨x, h1 x h2 h3⟩
theorem natE {R : Type} {n : Int} {k : Nat → Option R} {r : R} {T : Nat → Prop} (h : (natI n).bind k = some r) (h1 : ∀ j : Nat, n = (j : Int) → k j = some r → T j) : ∃ j, T j :=
  exB h fun j hj h => h1 j (natI_eq hj) h
theorem orP {R : Type} {c : Prop} [Decidable c] {A B : Option R} {r : R} {T S : Prop} (h : (if c then A else B) = some r) (h1 : c → A = some r → T) (h2 : ¬ c → B = some r → S) : T ∨ S :=
  iteP h (fun hc h => .inl (h1 hc h)) fun hc h => .inr (h2 hc h)
theorem orB {R : Type} {c : Bool} {A B : Option R} {r : R} {T S : Prop} (h : (if c = true then A else B) = some r) (h1 : c = true → A = some r → T) (h2 : c = false → B = some r → S) : T ∨ S :=
  iteB h (fun hc h => .inl (h1 hc h)) fun hc h => .inr (h2 hc h)
/-- several ends of a part: the first one, or one of the others. -/
theorem sum2 {b0 b1 R : Type} {m : Option (b0 ⊕ b1)} {K : b0 ⊕ b1 → Option R} {r : R} {T0 : b0 → Prop} {T1 : b1 → Prop} (h : m.bind K = some r) (p0 : ∀ a, m = some (.inl a) → K (.inl a) = some r → T0 a) (p1 : ∀ a, m = some (.inr a) → K (.inr a) = some r → T1 a) : (∃ a, T0 a) ∨ (∃ a, T1 a) := by
  obtain ⟨x, h2, h3⟩ := Option.bind_eq_some_iff.1 h
  match x, h2, h3 with
  | .inl a, h2, h3 => exact .inl ⟨a, p0 a h2 h3⟩
  | .inr a, h2, h3 => exact .inr (⟨a, p1 a h2 h3⟩)
theorem sum3 {b0 b1 b2 R : Type} {m : Option (b0 ⊕ (b1 ⊕ b2))} {K : b0 ⊕ (b1 ⊕ b2) → Option R} {r : R} {T0 : b0 → Prop} {T1 : b1 → Prop} {T2 : b2 → Prop} (h : m.bind K = some r) (p0 : ∀ a, m = some (.inl a) → K (.inl a) = some r → T0 a) (p1 : ∀ a, m = some (.inr (.inl a)) → K (.inr (.inl a)) = some r → T1 a) (p2 : ∀ a, m = some (.inr (.inr a)) → K (.inr (.inr a)) = some r → T2 a) : (∃ a, T0 a) ∨ (∃ a, T1 a) ∨ (∃ a, T2 a) := by
  obtain ⟨x, h2, h3⟩ := Option.bind_eq_some_iff.1 h
  match x, h2, h3 with
  | .inl a, h2, h3 => exact .inl ⟨a, p0 a h2 h3⟩
  | .inr (.inl a), h2, h3 => exact .inr (.inl ⟨a, p1 a h2 h3⟩)
  | .inr (.inr a), h2, h3 => exact .inr (.inr (⟨a, p2 a h2 h3⟩))
theorem sum4 {b0 b1 b2 b3 R : Type} {m : Option (b0 ⊕ (b1 ⊕ (b2 ⊕ b3)))} {K : b0 ⊕ (b1 ⊕ (b2 ⊕ b3)) → Option R} {r : R} {T0 : b0 → Prop} {T1 : b1 → Prop} {T2 : b2 → Prop} {T3 : b3 → Prop} (h : m.bind K = some r) (p0 : ∀ a, m = some (.inl a) → K (.inl a) = some r → T0 a) (p1 : ∀ a, m = some (.inr (.inl a)) → K (.inr (.inl a)) = some r → T1 a) (p2 : ∀ a, m = some (.inr (.inr (.inl a))) → K (.inr (.inr (.inl a))) = some r → T2 a) (p3 : ∀ a, m = some (.inr (.inr (.inr a))) → K (.inr (.inr (.inr a))) = some r → T3 a) : (∃ a, T0 a) ∨ (∃ a, T1 a) ∨ (∃ a, T2 a) ∨ (∃ a, T3 a) := by
  obtain ⟨x, h2, h3⟩ := Option.bind_eq_some_iff.1 h
  match x, h2, h3 with
  | .inl a, h2, h3 => exact .inl ⟨a, p0 a h2 h3⟩
  | .inr (.inl a), h2, h3 => exact .inr (.inl ⟨a, p1 a h2 h3⟩)
  | .inr (.inr (.inl a)), h2, h3 => exact .inr (.inr (.inl ⟨a, p2 a h2 h3⟩))
  | .inr (.inr (.inr a)), h2, h3 => exact .inr (.inr (.inr (⟨a, p3 a h2 h3⟩)))
theorem sum5 {b0 b1 b2 b3 b4 R : Type} {m : Option (b0 ⊕ (b1 ⊕ (b2 ⊕ (b3 ⊕ b4))))} {K : b0 ⊕ (b1 ⊕ (b2 ⊕ (b3 ⊕ b4))) → Option R} {r : R} {T0 : b0 → Prop} {T1 : b1 → Prop} {T2 : b2 → Prop} {T3 : b3 → Prop} {T4 : b4 → Prop} (h : m.bind K = some r) (p0 : ∀ a, m = some (.inl a) → K (.inl a) = some r → T0 a) (p1 : ∀ a, m = some (.inr (.inl a)) → K (.inr (.inl a)) = some r → T1 a) (p2 : ∀ a, m = some (.inr (.inr (.inl a))) → K (.inr (.inr (.inl a))) = some r → T2 a) (p3 : ∀ a, m = some (.inr (.inr (.inr (.inl a)))) → K (.inr (.inr (.inr (.inl a)))) = some r → T3 a) (p4 : ∀ a, m = some (.inr (.inr (.inr (.inr a)))) → K (.inr (.inr (.inr (.inr a)))) = some r → T4 a) : (∃ a, T0 a) ∨ (∃ a, T1 a) ∨ (∃ a, T2 a) ∨ (∃ a, T3 a) ∨ (∃ a, T4 a) := by
  obtain ⟨x, h2, h3⟩ := Option.bind_eq_some_iff.1 h
  match x, h2, h3 with
  | .inl a, h2, h3 => exact .inl ⟨a, p0 a h2 h3⟩
  | .inr (.inl a), h2, h3 => exact .inr (.inl ⟨a, p1 a h2 h3⟩)
  | .inr (.inr (.inl a)), h2, h3 => exact .inr (.inr (.inl ⟨a, p2 a h2 h3⟩))
  | .inr (.inr (.inr (.inl a))), h2, h3 => exact .inr (.inr (.inr (.inl ⟨a, p3 a h2 h3⟩)))
  | .inr (.inr (.inr (.inr a))), h2, h3 => exact .inr (.inr (.inr (.inr (⟨a, p4 a h2 h3⟩))))
theorem sum6 {b0 b1 b2 b3 b4 b5 R : Type} {m : Option (b0 ⊕ (b1 ⊕ (b2 ⊕ (b3 ⊕ (b4 ⊕ b5)))))} {K : b0 ⊕ (b1 ⊕ (b2 ⊕ (b3 ⊕ (b4 ⊕ b5)))) → Option R} {r : R} {T0 : b0 → Prop} {T1 : b1 → Prop} {T2 : b2 → Prop} {T3 : b3 → Prop} {T4 : b4 → Prop} {T5 : b5 → Prop} (h : m.bind K = some r) (p0 : ∀ a, m = some (.inl a) → K (.inl a) = some r → T0 a) (p1 : ∀ a, m = some (.inr (.inl a)) → K (.inr (.inl a)) = some r → T1 a) (p2 : ∀ a, m = some (.inr (.inr (.inl a))) → K (.inr (.inr (.inl a))) = some r → T2 a) (p3 : ∀ a, m = some (.inr (.inr (.inr (.inl a)))) → K (.inr (.inr (.inr (.inl a)))) = some r → T3 a) (p4 : ∀ a, m = some (.inr (.inr (.inr (.inr (.inl a))))) → K (.inr (.inr (.inr (.inr (.inl a))))) = some r → T4 a) (p5 : ∀ a, m = some (.inr (.inr (.inr (.inr (.inr a))))) → K (.inr (.inr (.inr (.inr (.inr a))))) = some r → T5 a) : (∃ a, T0 a) ∨ (∃ a, T1 a) ∨ (∃ a, T2 a) ∨ (∃ a, T3 a) ∨ (∃ a, T4 a) ∨ (∃ a, T5 a) := by
  obtain ⟨x, h2, h3⟩ := Option.bind_eq_some_iff.1 h
  match x, h2, h3 with
  | .inl a, h2, h3 => exact .inl ⟨a, p0 a h2 h3⟩
  | .inr (.inl a), h2, h3 => exact .inr (.inl ⟨a, p1 a h2 h3⟩)
  | .inr (.inr (.inl a)), h2, h3 => exact .inr (.inr (.inl ⟨a, p2 a h2 h3⟩))
  | .inr (.inr (.inr (.inl a))), h2, h3 => exact .inr (.inr (.inr (.inl ⟨a, p3 a h2 h3⟩)))
  | .inr (.inr (.inr (.inr (.inl a)))), h2, h3 => exact .inr (.inr (.inr (.inr (.inl ⟨a, p4 a h2 h3⟩))))
  | .inr (.inr (.inr (.inr (.inr a)))), h2, h3 => exact .inr (.inr (.inr (.inr (.inr (⟨a, p5 a h2 h3⟩)))))
theorem sum7 {b0 b1 b2 b3 b4 b5 b6 R : Type} {m : Option (b0 ⊕ (b1 ⊕ (b2 ⊕ (b3 ⊕ (b4 ⊕ (b5 ⊕ b6))))))} {K : b0 ⊕ (b1 ⊕ (b2 ⊕ (b3 ⊕ (b4 ⊕ (b5 ⊕ b6))))) → Option R} {r : R} {T0 : b0 → Prop} {T1 : b1 → Prop} {T2 : b2 → Prop} {T3 : b3 → Prop} {T4 : b4 → Prop} {T5 : b5 → Prop} {T6 : b6 → Prop} (h : m.bind K = some r) (p0 : ∀ a, m = some (.inl a) → K (.inl a) = some r → T0 a) (p1 : ∀ a, m = some (.inr (.inl a)) → K (.inr (.inl a)) = some r → T1 a) (p2 : ∀ a, m = some (.inr (.inr (.inl a))) → K (.inr (.inr (.inl a))) = some r → T2 a) (p3 : ∀ a, m = some (.inr (.inr (.inr (.inl a)))) → K (.inr (.inr (.inr (.inl a)))) = some r → T3 a) (p4 : ∀ a, m = some (.inr (.inr (.inr (.inr (.inl a))))) → K (.inr (.inr (.inr (.inr (.inl a))))) = some r → T4 a) (p5 : ∀ a, m = some (.inr (.inr (.inr (.inr (.inr (.inl a)))))) → K (.inr (.inr (.inr (.inr (.inr (.inl a)))))) = some r → T5 a) (p6 : ∀ a, m = some (.inr (.inr (.inr (.inr (.inr (.inr a)))))) → K (.inr (.inr (.inr (.inr (.inr (.inr a)))))) = some r → T6 a) : (∃ a, T0 a) ∨ (∃ a, T1 a) ∨ (∃ a, T2 a) ∨ (∃ a, T3 a) ∨ (∃ a, T4 a) ∨ (∃ a, T5 a) ∨ (∃ a, T6 a) := by
  obtain ⟨x, h2, h3⟩ := Option.bind_eq_some_iff.1 h
  match x, h2, h3 with
  | .inl a, h2, h3 => exact .inl ⟨a, p0 a h2 h3⟩
  | .inr (.inl a), h2, h3 => exact .inr (.inl ⟨a, p1 a h2 h3⟩)
  | .inr (.inr (.inl a)), h2, h3 => exact .inr (.inr (.inl ⟨a, p2 a h2 h3⟩))
  | .inr (.inr (.inr (.inl a))), h2, h3 => exact .inr (.inr (.inr (.inl ⟨a, p3 a h2 h3⟩)))
  | .inr (.inr (.inr (.inr (.inl a)))), h2, h3 => exact .inr (.inr (.inr (.inr (.inl ⟨a, p4 a h2 h3⟩))))
  | .inr (.inr (.inr (.inr (.inr (.inl a))))), h2, h3 => exact .inr (.inr (.inr (.inr (.inr (.inl ⟨a, p5 a h2 h3⟩)))))
  | .inr (.inr (.inr (.inr (.inr (.inr a))))), h2, h3 => exact .inr (.inr (.inr (.inr (.inr (.inr (⟨a, p6 a h2 h3⟩))))))
theorem sum8 {b0 b1 b2 b3 b4 b5 b6 b7 R : Type} {m : Option (b0 ⊕ (b1 ⊕ (b2 ⊕ (b3 ⊕ (b4 ⊕ (b5 ⊕ (b6 ⊕ b7)))))))} {K : b0 ⊕ (b1 ⊕ (b2 ⊕ (b3 ⊕ (b4 ⊕ (b5 ⊕ (b6 ⊕ b7)))))) → Option R} {r : R} {T0 : b0 → Prop} {T1 : b1 → Prop} {T2 : b2 → Prop} {T3 : b3 → Prop} {T4 : b4 → Prop} {T5 : b5 → Prop} {T6 : b6 → Prop} {T7 : b7 → Prop} (h : m.bind K = some r) (p0 : ∀ a, m = some (.inl a) → K (.inl a) = some r → T0 a) (p1 : ∀ a, m = some (.inr (.inl a)) → K (.inr (.inl a)) = some r → T1 a) (p2 : ∀ a, m = some (.inr (.inr (.inl a))) → K (.inr (.inr (.inl a))) = some r → T2 a) (p3 : ∀ a, m = some (.inr (.inr (.inr (.inl a)))) → K (.inr (.inr (.inr (.inl a)))) = some r → T3 a) (p4 : ∀ a, m = some (.inr (.inr (.inr (.inr (.inl a))))) → K (.inr (.inr (.inr (.inr (.inl a))))) = some r → T4 a) (p5 : ∀ a, m = some (.inr (.inr (.inr (.inr (.inr (.inl a)))))) → K (.inr (.inr (.inr (.inr (.inr (.inl a)))))) = some r → T5 a) (p6 : ∀ a, m = some (.inr (.inr (.inr (.inr (.inr (.inr (.inl a))))))) → K (.inr (.inr (.inr (.inr (.inr (.inr (.inl a))))))) = some r → T6 a) (p7 : ∀ a, m = some (.inr (.inr (.inr (.inr (.inr (.inr (.inr a))))))) → K (.inr (.inr (.inr (.inr (.inr (.inr (.inr a))))))) = some r → T7 a) : (∃ a, T0 a) ∨ (∃ a, T1 a) ∨ (∃ a, T2 a) ∨ (∃ a, T3 a) ∨ (∃ a, T4 a) ∨ (∃ a, T5 a) ∨ (∃ a, T6 a) ∨ (∃ a, T7 a) := by
  obtain ⟨x, h2, h3⟩ := Option.bind_eq_some_iff.1 h
  match x, h2, h3 with
  | .inl a, h2, h3 => exact .inl ⟨a, p0 a h2 h3⟩
  | .inr (.inl a), h2, h3 => exact .inr (.inl ⟨a, p1 a h2 h3⟩)
  | .inr (.inr (.inl a)), h2, h3 => exact .inr (.inr (.inl ⟨a, p2 a h2 h3⟩))
  | .inr (.inr (.inr (.inl a))), h2, h3 => exact .inr (.inr (.inr (.inl ⟨a, p3 a h2 h3⟩)))
  | .inr (.inr (.inr (.inr (.inl a)))), h2, h3 => exact .inr (.inr (.inr (.inr (.inl ⟨a, p4 a h2 h3⟩))))
  | .inr (.inr (.inr (.inr (.inr (.inl a))))), h2, h3 => exact .inr (.inr (.inr (.inr (.inr (.inl ⟨a, p5 a h2 h3⟩)))))
  | .inr (.inr (.inr (.inr (.inr (.inr (.inl a)))))), h2, h3 => exact .inr (.inr (.inr (.inr (.inr (.inr (.inl ⟨a, p6 a h2 h3⟩))))))
  | .inr (.inr (.inr (.inr (.inr (.inr (.inr a)))))), h2, h3 => exact .inr (.inr (.inr (.inr (.inr (.inr (.inr (⟨a, p7 a h2 h3⟩)))))))
theorem exI {α : Type} {P : α → Prop} (a : α) (h : P a) : ∃ x, P x := ⟨a, h⟩
theorem lY {R V : Type} {Y : R → V} {a r : R} (h : some a = some r) : Y a = Y r := by rw [Option.some.inj h]
/-- a round of a loop, by its ways. -/
theorem bodyT {α ε : Type} {E : Env} {l : LoopC} {S : α → St} {X : ε → AExit × St} {v : α} {o : α ⊕ ε} {T : Prop} (a : AT) (h : T) (he : T = cW G Ω0 E l.x (S v) a fun e s _ => bodyV l.kf l.kb e s = bodyY S X o) : bodyOK E l S X v o := by
  obtain ⟨e, s, _, h1, h2⟩ := cW_ex l.x (he ▸ h)
  cases o with
  | inl w =>
    cases e with
    | nrm =>
      have h3 : s.keep l.kf l.kb = S w := Sum.inl.inj h2
      show (run G Ω0 E l.x (S v)).bind (kept l) = some (S w)
      rw [h1, ← h3]; rfl
    | ret => cases h2
    | ex id => cases h2
  | inr x =>
    cases e with
    | nrm => cases h2
    | ret =>
      have h3 : (AExit.ret, s) = X x := Sum.inr.inj h2
      exact ⟨by rw [h1, h3], by rw [← h3]; exact ne_ret⟩
    | ex id =>
      have h3 : (AExit.ex id, s) = X x := Sum.inr.inj h2
      exact ⟨by rw [h1, h3], by rw [← h3]; exact ne_ex _⟩
@[elab_as_elim] theorem lf {R : Type} {a : R} {P : R → Prop} {r : R} (h : some a = some r) (h1 : P a) : P r := Option.some.inj h ▸ h1
/-- one's box is handed on. -/
theorem cO {E : Env} {f : FuncId} {ys : List AV} {x : AV} {dp : Nat} {bx : List (Nat × List AV)} {hp : HP} {k : Key} {c c' : List AV} (hk : k.dp < dp) (h : call G Ω0 E f ys (upd (boxes dp bx (upd hp k c)) k c) = some (.ret x, upd (boxes dp bx (upd hp k c)) k c')) : call G Ω0 E f ys (boxes dp bx (upd hp k c)) = some (.ret x, boxes dp bx (upd hp k c')) :=
  call_at (upd_out' (Nat.ne_of_lt hk) (upd_upd ..)) (upd_out' (Nat.ne_of_lt hk) (upd_upd ..)) h
/-- a loop that counts: each round told by its number. -/
theorem lp_all {α ε : Type} {B : α → Option (α ⊕ ε)} (n : Nat) (f : Nat → α) {x : ε} (hs : ∀ k, k < n → B (f k) = some (.inl (f (k + 1)))) (he : B (f n) = some (.inr x)) : lp B (f 0) = some x := by
  have : ∀ m k, k + m = n → lp B (f k) = some x := by
    intro m
    induction m with
    | zero => intro k hk; obtain rfl : k = n := by omega
              exact lp_end he
    | succ m ih => intro k hk; rw [lp_next (hs k (by omega))]; exact ih (k + 1) (by omega)
  exact this n 0 (by omega)
/-- a loop over a list that stops with the same wherever it stops. -/
theorem lp_any {α ε β : Type} {B : α → Option (α ⊕ ε)} (es : List β) (p : β → Bool) (f : Nat → α) {x y : ε} (hs : ∀ k (h : k < es.length), p es[k] = false → B (f k) = some (.inl (f (k + 1)))) (hx : ∀ k (h : k < es.length), p es[k] = true → B (f k) = some (.inr x)) (he : B (f es.length) = some (.inr y)) : lp B (f 0) = some (if es.any p then x else y) := by
  have : ∀ m k, k + m = es.length → lp B (f k) = some (if (es.drop k).any p then x else y) := by
    intro m
    induction m with
    | zero =>
      intro k hk
      obtain rfl : k = es.length := by omega
      rw [List.drop_length]
      exact lp_end he
    | succ m ih =>
      intro k hk
      have hlt : k < es.length := by omega
      rw [List.drop_eq_getElem_cons hlt, List.any_cons]
      cases hp : p es[k] with
      | true => exact lp_end (hx k hlt hp)
      | false => rw [lp_next (hs k hlt hp), ih (k + 1) (by omega)]; rfl
  exact this es.length 0 (by omega)
/-- a loop whose something becomes less. -/
theorem lp_wf {α ε : Type} {B : α → Option (α ⊕ ε)} (m : α → Nat) (Inv : α → Prop) (Q : ε → Prop) (step : ∀ a, Inv a → (∃ x, B a = some (.inr x) ∧ Q x) ∨ ∃ b, B a = some (.inl b) ∧ Inv b ∧ m b < m a) : ∀ a, Inv a → ∃ x, lp B a = some x ∧ Q x := by
  have : ∀ n a, m a < n → Inv a → ∃ x, lp B a = some x ∧ Q x := by
    intro n
    induction n with
    | zero => intro a h; omega
    | succ n ih =>
      intro a h hi
      rcases step a hi with ⟨x, h1, h2⟩ | ⟨b, h1, h2, h3⟩
      · exact ⟨x, lp_end h1, h2⟩
      · rw [lp_next h1]; exact ih b (by omega) h2
  exact fun a => this (m a + 1) a (Nat.lt_succ_self _)
theorem growO_of {t : TypeId} {n : Int} (h : 0 ≤ n ∧ n ≤ 1000000) : growO t [.n, .i .i64 n] = some (.o t []) := by
  simp [growO, h.1, h.2]
theorem room5 {l m : List UInt8} (h : l.length + m.length ≤ 1000000000) : (l.map byteAV).length + m.length ≤ 140737488355328 ∧ (l.map byteAV).length + m.length ≤ maxLen := by
  rw [List.length_map]
  exact ⟨by omega, Nat.le_trans h (by decide)⟩
theorem bytes_cons {x : Int} {l : List AV} {m : List UInt8} (h : 0 ≤ x ∧ x < 256) (e : l = m.map byteAV) : AV.i .u8 x :: l = (UInt8.ofNat x.toNat :: m).map byteAV := by
  subst e
  have h2 : x.toNat < 256 := by omega
  simp only [List.map_cons, byteAV, List.cons.injEq, AV.i.injEq, true_and, and_true]
  rw [UInt8.toNat_ofNat_of_lt' (by simpa using h2)]
  omega
theorem bytesOf_map : ∀ l : List UInt8, bytesOf (l.map byteAV) = some l
  | [] => rfl
  | c :: l => by
    have h1 : (0 : Int) ≤ (c.toNat : Int) ∧ (c.toNat : Int) < 256 := ⟨by omega, by have := c.toNat_lt; omega⟩
    simp only [List.map_cons, byteAV, bytesOf, if_pos h1, Int.toNat_natCast, UInt8.ofNat_toNat]
    rw [bytesOf_map l]; rfl
theorem c2b {E : Env} {f : FuncId} {ys : List AV} {dp : Nat} {bx bx' : List (Nat × List AV)} {hp hp' : HP} {y : AEnd} (_ : call G Ω0 E f ys (boxes dp bx hp) = some (y, boxes dp bx' hp')) (h : bx'.map Prod.fst = bx.map Prod.fst) (hn : nodupB (bx.map Prod.fst) = true) : backB dp (boxes dp bx' hp') bx = bx' := backB_boxes h hn
theorem c2l {E : Env} {f : FuncId} {ys : List AV} {dp : Nat} {bx bx' : List (Nat × List AV)} {hp hp' : HP} {y : AEnd} (_ : call G Ω0 E f ys (boxes dp bx hp) = some (y, boxes dp bx' hp')) (hz : LowHP dp hp') : (fun k : Key => if k.dp < dp then boxes dp bx' hp' k else none) = hp' := boxes_low hz
theorem g1 {x y : Bool} (h : x = y) : (x == true) = (y == true) := congrArg (fun z => z == true) h
theorem g0 {x y : Bool} (h : x = y) : (x == false) = (y == false) := congrArg (fun z => z == false) h
theorem off_map {α : Type} {ts : List TypeId} {f : α → AV} (h : ∀ x, (f x).off ts = true) : ∀ l : List α, AV.offL ts (l.map f) = true
  | [] => rfl
  | x :: l => by simp only [List.map_cons, AV.offL, h x, off_map h l, Bool.and_self]
theorem off_mapI (ts : List TypeId) (k : IntKind) (l : List Int) : AV.offL ts (l.map (AV.i k)) = true := off_map (fun _ => by simp only [AV.off]) l
theorem off_mapB (ts : List TypeId) (l : List Bool) : AV.offL ts (l.map AV.b) = true := off_map (fun _ => by simp only [AV.off]) l
theorem off_mapS (ts : List TypeId) (l : List (List UInt8)) : AV.offL ts (l.map AV.s) = true := off_map (fun _ => by simp only [AV.off]) l
theorem only_map {α : Type} {t : TypeId} {f : α → AV} (h : ∀ x, AV.onlyT t (f x) = true) : ∀ l : List α, AV.onlyTL t (l.map f) = true
  | [] => rfl
  | x :: l => by simp only [List.map_cons, AV.onlyTL, h x, only_map h l, Bool.and_self]
theorem only_mapB (t : TypeId) (l : List Bool) : AV.onlyTL t (l.map AV.b) = true := only_map (fun _ => by simp only [AV.onlyT]) l
theorem spoil_of (t t1 t2 : TypeId) (l m : List Bool) : spoilO t [.a [.l t1 (l.map AV.b), .l t2 (m.map AV.b)]] = some .u := by
  have h : ∀ l : List Bool, (l.map AV.b).all isBool = true := fun l => by simp [isBool]
  simp only [spoilO, h, Bool.and_self, if_true]
/-- what comes of a family in the end. -/
noncomputable def ev {α : Type} (x : Nat → Option α) : Option α := open Classical in if h : ∃ r, ∃ n0, ∀ n, n0 ≤ n → x n = some r then some (Classical.choose h) else none
theorem ev_some {α : Type} {x : Nat → Option α} {r : α} (h : ev x = some r) : ∃ n, x n = some r := by
  unfold ev at h
  split at h
  · rename_i hex
    obtain ⟨n0, hn⟩ := Classical.choose_spec hex
    exact ⟨n0, by rw [hn n0 (Nat.le_refl _)]; exact h⟩
  · cases h
theorem ev_of {α : Type} {x : Nat → Option α} {r : α} (n0 : Nat) (h : ∀ n, n0 ≤ n → x n = some r) : ev x = some r := by
  unfold ev
  have hex : ∃ r, ∃ n0, ∀ n, n0 ≤ n → x n = some r := ⟨r, n0, h⟩
  rw [dif_pos hex]
  obtain ⟨n1, h1⟩ := Classical.choose_spec hex
  have := h1 (max n0 n1) (Nat.le_max_right _ _)
  rw [h (max n0 n1) (Nat.le_max_left _ _)] at this
  exact this.symm
end Go.Proofs.Ytmfihcbafljcbaa.A
