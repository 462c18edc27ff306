/- Calls of functions that change nothing; every operation. -/
import Derived.Test.YtmfihcbafljcbaaAbsP
import Derived.RangeFuncOwn
set_option linter.unusedSectionVars false
set_option linter.unusedVariables false
set_option linter.unusedSimpArgs false
set_option linter.constructorNameAsVariable false
namespace Go.Proofs.Ytmfihcbafljcbaa.A
open Go
variable [Base]

/-- a function of the program that has a body. -/
def bodied (P : Program) (f : FuncId) : Prop := ∃ fn, P.funcs[f]? = some fn ∧ fn.body.isNone = false ∧ (fn.name == "runtime.NumGoroutine") = false
/-- what a call comes to that changes nothing. -/
def CallOK (P : Program) (f : FuncId) (ys : List AV) (x : AV) : Prop :=
  bodied P f ∧ ∀ (w : World) (I : Nat → Prop) (κ : Key → Nat) (cargs : Array Value), Base.n0 ≤ w.heap.size ∧ Lay w I → (∀ b, I b → b < w.heap.size) → cargs.size = ys.length → (∀ (i : Nat) (y : AV), ys[i]? = some y → VR w I κ y (cargs.getD i undef)) →
    Calls P f cargs w fun e w' => ∃ v I', e = .returned v ∧ VR w' I' κ x v ∧ w.heap.size ≤ w'.heap.size ∧ (∀ b, b < w.heap.size → w'.heap[b]? = w.heap[b]?) ∧ (∀ b, I b → I' b) ∧ (∀ b, I' b → I b ∨ w.heap.size ≤ b) ∧ (∀ b, I' b → b < w'.heap.size) ∧ w'.os = w.os ∧ w'.output = w.output
/-- what a function at a depth may write, of what it sees. -/
def cxOf (P : Program) (W : Nat → Prop) (dp : Nat) : Cx := ⟨P, W, ⟨dp, false⟩, 0⟩
/-- boxes in sight, and who owns what. -/
structure HpOK (P : Program) (W : Nat → Prop) (dp : Nat) (hp : HP) (w : World) (σ : Sp) : Prop where
  bx : ∀ k cs, hp k = some cs → k.dp < dp → ∃ vs T, BoxAt (cxOf P W dp) w σ k cs vs T
  deep : ∀ k cs, hp k = some cs → k.dp ≠ dp → k.dp < dp ∧ ∀ c ∈ cs, c.deep k.dp = true
  own : ∀ b l, σ.ow b = some l → b < w.heap.size
  imm : ∀ b, σ.I b → b < w.heap.size ∧ σ.ow b = none
  lay : Lay w σ.I
/-- what a call comes to that may change the boxes in sight. -/
def CallOK2 (P : Program) (dp : Nat) (f : FuncId) (ys : List AV) (hp : HP) (x : AV) (hp' : HP) : Prop :=
  x.pure = true ∧ bodied P f ∧ ∀ (W : Nat → Prop) (w : World) (σ : Sp) (cargs : Array Value), (∀ b, w.heap.size ≤ b → W b ∧ Base.n0 ≤ b) → HpOK P W dp hp w σ → cargs.size = ys.length →
    (∀ (i : Nat) (y : AV), ys[i]? = some y → VR w σ.I σ.κ y (cargs.getD i undef)) →
    Calls P f cargs w fun e w' => ∃ v σ', e = .returned v ∧ VR w' σ'.I σ'.κ x v ∧ Stp (cxOf P W dp) w σ w' σ' ∧ HpOK P W dp hp' w' σ'
/-- what a call comes to that makes a box and hands it back. -/
def CallOKn (P : Program) (dp : Nat) (f : FuncId) (ys : List AV) (hp : HP) (cs : List AV) (hp' : HP) : Prop :=
  cs.all newCell = true ∧ bodied P f ∧ ∀ (W : Nat → Prop) (w : World) (σ : Sp) (cargs : Array Value), (∀ b, w.heap.size ≤ b → W b ∧ Base.n0 ≤ b) → HpOK P W dp hp w σ → cargs.size = ys.length →
    (∀ (i : Nat) (y : AV), ys[i]? = some y → VR w σ.I σ.κ y (cargs.getD i undef)) →
    Calls P f cargs w fun e w' => ∃ σ' kk vs T, e = .returned (.pointer (some ⟨σ'.κ kk, 0, none⟩)) ∧ kk.dp = dp ∧ BoxAt (cxOf P W dp) w' σ' kk cs vs T ∧ Stp (cxOf P W dp) w σ w' σ' ∧ HpOK P W dp hp' w' σ'
/-- what a function may write that sees boxes and changes none: what is new. -/
def cxR (P : Program) (w : World) (dp : Nat) : Cx := ⟨P, fun b => w.heap.size ≤ b, ⟨dp, true⟩, 0⟩
/-- boxes in sight that may not be changed. -/
structure HpR (P : Program) (dp : Nat) (hp : HP) (w : World) (σ : Sp) : Prop where
  bx : ∀ k cs, hp k = some cs → k.dp < dp → ∃ vs T, BoxAt (cxR P w dp) w σ k cs vs T
  deep : ∀ k cs, hp k = some cs → k.dp ≠ dp → k.dp < dp ∧ ∀ c ∈ cs, c.deep k.dp = true
  own : ∀ b l, σ.ow b = some l → b < w.heap.size
  imm : ∀ b, σ.I b → b < w.heap.size ∧ σ.ow b = none
  lay : Lay w σ.I
/-- what a call comes to that sees boxes and changes none. -/
def CallOKr (P : Program) (dp : Nat) (f : FuncId) (ys : List AV) (hp : HP) (x : AV) : Prop :=
  x.pure = true ∧ bodied P f ∧ ∀ (w : World) (σ : Sp) (cargs : Array Value), Base.n0 ≤ w.heap.size → HpR P dp hp w σ → cargs.size = ys.length →
    (∀ (i : Nat) (y : AV), ys[i]? = some y → VR w σ.I σ.κ y (cargs.getD i undef)) →
    Calls P f cargs w fun e w' => ∃ v I', e = .returned v ∧ VR w' I' σ.κ x v ∧ w.heap.size ≤ w'.heap.size ∧ (∀ b, b < w.heap.size → w'.heap[b]? = w.heap[b]?) ∧ (∀ b, σ.I b → I' b) ∧ (∀ b, I' b → σ.I b ∨ w.heap.size ≤ b) ∧ (∀ b, I' b → b < w'.heap.size) ∧ w'.os = w.os ∧ w'.output = w.output
/-- what a call comes to that makes an empty row. -/
def RowOK (P : Program) (f : FuncId) (ys : List AV) (t : TypeId) : Prop :=
  bodied P f ∧ 0 < P.cellsOf t ∧ ∀ (w : World) (I : Nat → Prop) (κ : Key → Nat) (cargs : Array Value), Base.n0 ≤ w.heap.size → (∀ b, I b → b < w.heap.size) → cargs.size = ys.length → (∀ (i : Nat) (y : AV), ys[i]? = some y → VR w I κ y (cargs.getD i undef)) →
    Calls P f cargs w fun e w' => ∃ v, e = .returned v ∧ (v = .slice none 0 0 ∨ ∃ g cap cs, v = .slice (some ⟨g, 0, none⟩) 0 cap ∧ w.heap.size ≤ g ∧ w'.heap[g]? = some (.cells cs t (0, 0)) ∧ cap ≤ maxLen ∧ cs.size = cap * P.cellsOf t) ∧
      w.heap.size ≤ w'.heap.size ∧ (∀ b, b < w.heap.size → w'.heap[b]? = w.heap[b]?) ∧ w'.os = w.os ∧ w'.output = w.output
structure RecOK (P : Program) (R : Rec) : Prop where
  ret : ∀ dp f ys hp x hp', R ⟨dp, false⟩ f ys hp = some (.ret x, hp') → (∀ y ∈ ys, y.copy = true) → CallOK2 P dp f ys hp x hp'
  new : ∀ dp f ys hp cs hp', R ⟨dp, false⟩ f ys hp = some (.new cs, hp') → (∀ y ∈ ys, y.copy = true) → CallOKn P dp f ys hp cs hp'
  ro : ∀ dp f ys hp x hp', R ⟨dp, true⟩ f ys hp = some (.ret x, hp') → (∀ y ∈ ys, y.copy = true) → CallOKr P dp f ys hp x
/-- a function that changes nothing but the memory that its argument shows. -/
def SpoilOK (P : Program) (f : FuncId) (y : AV) : Prop :=
  bodied P f ∧ ∀ (w : World) (I : Nat → Prop) (κ : Key → Nat) (v : Value), (∀ b, I b → ∃ cs T, w.heap[b]? = some (.cells cs T (0, 0))) → VR w I κ y v →
    Calls P f #[v] w fun e w' => (∃ r, e = .returned r) ∧ w.heap.size ≤ w'.heap.size ∧ (∀ b, b < w.heap.size → ¬ I b → w'.heap[b]? = w.heap[b]?) ∧ w'.os = w.os ∧ w'.output = w.output
def RecAll (P : Program) (R : Rec) : Prop := ∀ B : Base, @RecOK B P R
theorem RecAll.h {P : Program} {R : Rec} (h : RecAll P R) : RecOK P R := h _
/-- one function does what another one does, and answers two zeros more. -/
def Via (P : Program) (f g : FuncId) (n : Int) : Prop := ∀ dp ys hp cs hp', ys.length = 1 → (cs.length : Int) = n → CallOK2 P dp g ys hp (.a cs) hp' → CallOK2 P dp f ys hp (.tp [.a cs, .i .i64 0, .i .i64 0]) hp'
/-- a function that answers what a builder holds that lies in a box: bytes, in a row of that type. -/
def StrOK (P : Program) (f : FuncId) (t : TypeId) : Prop :=
  bodied P f ∧ ∀ (w : World) (b off : Nat) (vs : Array Value) (T : TypeId) (g cap : Nat) (cs : Array Value) (l : List UInt8), w.heap[b]? = some (.cells vs T (0, 0)) → off + 1 < vs.size → vs.getD (off + 1) undef = .slice (some ⟨g, 0, none⟩) l.length cap →
    w.heap[g]? = some (.cells cs t (0, 0)) → l.length ≤ cap → cap ≤ maxLen → cs.size = cap → l ≠ [] → (∀ (j : Nat) (c : UInt8), l[j]? = some c → cs[j]? = some (.int .u8 c.toNat)) →
    Calls P f #[.pointer (some ⟨b, off, none⟩)] w fun e w' => e = .returned (.string ⟨l.toArray⟩) ∧ w'.heap.size = w.heap.size ∧ (∀ x, x ≠ g → w'.heap[x]? = w.heap[x]?) ∧ w'.os = w.os ∧ w'.output = w.output
/-- an iterator, told by its function and what it has captured: the numbers that it gives. It may lay what is new beside; what it has laid abides. -/
def IterOK (P : Program) (f : FuncId) (c : AV) (ns : List Int) : Prop :=
  ∀ (w : World) (I : Nat → Prop) (κ : Key → Nat) (v : Value), Base.n0 ≤ w.heap.size → (∀ b, I b → b < w.heap.size) → VR w I κ (.f f [c]) v →
    ∃ gf lb, v = .func (.func gf) #[] lb ∧ (∀ args w, (callFunc gf args).run P w = .ok (.enter gf args) w) ∧
      ∀ (l m : Nat) (J : (Nat → Prop) → List Int → World → Prop) (Jx : List Int → World → Prop) (T : Nat → Prop) (W : World),
        w.heap.size ≤ W.heap.size → (∀ b, I b → W.heap[b]? = w.heap[b]?) →
        (∀ T pre W W', J T pre W → RowKit.Below W.heap.size W W' → J (fun b => T b ∨ (W.heap.size ≤ b ∧ b < W'.heap.size)) pre W') →
        (∀ T pre n rest W1 m, ns = pre ++ n :: rest → J T pre W1 → YieldAt Fence.wide m P l #[.int .i64 n] W1 fun e W2 =>
          (e = .returned (.bool true) ∧ J T (pre ++ [n]) W2 ∧ (∀ b, T b → W2.heap[b]? = W1.heap[b]?) ∧ (∀ b, I b → W2.heap[b]? = W1.heap[b]?) ∧ W1.heap.size ≤ W2.heap.size) ∨
          (e = .returned (.bool false) ∧ Jx (pre ++ [n]) W2)) →
        J T [] W →
        CallsIn Fence.wide m P gf (#[.func (.yield l) #[] #[]] ++ lb) W fun e W' => (∃ v, e = .returned v) ∧ ((∃ T', J T' ns W') ∨ (∃ pre n rest, ns = pre ++ n :: rest ∧ Jx (pre ++ [n]) W'))
structure OrcOK (P : Program) (Ω : Orc) : Prop where
  via : ∀ f (g : FuncId) n, Ω f [.u, .i .i64 g] = some (.i .i64 n) → Via P f g n
  spo : ∀ f y, Ω f [y] = some .u → y.pure = true → SpoilOK P f y
  ret : ∀ f ys x, Ω f ys = some x → (∀ y ∈ ys, y.pure = true) → x.pure = true → CallOK P f ys x
  row : ∀ f ys t, Ω f ys = some (.o t []) → (∀ y ∈ ys, y.pure = true) → RowOK P f ys t
  str : ∀ f (t : TypeId), Ω f [.u, .u, .i .i64 t] = some (.s []) → StrOK P f t
  it : ∀ f c es ns, Ω f [.u, c] = some (.l 0 es) → intsOf es = some ns → IterOK P f c ns

theorem RecOK.pure {P : Program} {R : Rec} (hR : RecOK P R) {f : FuncId} {ys : List AV} {x : AV} {hp' : HP} (he : R ⟨0, false⟩ f ys (fun _ => none) = some (.ret x, hp')) (hy : ∀ y ∈ ys, y.pure = true) : CallOK P f ys x := by
  obtain ⟨hpx, hb, hc⟩ := hR.ret 0 f ys _ x hp' he (fun y hm => pure_copy y (hy y hm))
  refine ⟨hb, fun w I κ cargs hn hI hs ha => ?_⟩
  refine (hc (fun b => w.heap.size ≤ b) w ⟨κ, fun _ => none, I⟩ cargs (fun b hb => ⟨hb, Nat.le_trans hn.1 hb⟩) ⟨fun k cs hk => (by cases hk), fun k cs hk => (by cases hk), fun b l hb => (by cases hb), fun b hb => ⟨hI b hb, rfl⟩, hn.2⟩ hs ha).mono ?_
  rintro e w' ⟨v, σ', rfl, hv, hst, hH⟩
  exact ⟨v, σ'.I, rfl, hv.noI (fun _ h => h) (fun _ _ => rfl) hpx, hst.size, fun b hb => hst.keep b hb (show ¬ w.heap.size ≤ b by omega), hst.up, hst.dn, fun b hb => (hH.imm b hb).1, hst.io⟩

theorem off_cl {ts : List TypeId} {x : AV} (h : x.off ts = true) : ∀ c ∈ x.cl, c.off ts = true := by
  intro c hc
  cases x <;> simp only [AV.cl, List.mem_singleton] at hc <;> first | (subst hc; exact h) | skip
  exact offL_mem (by simpa [AV.off] using h) c hc
/-- what names none of these types does not lie in memory of these types. -/
theorem VR.away {w : World} {I B : Nat → Prop} {κ : Key → Nat} {ts : List TypeId} (hts : ts ≠ []) (hB : ∀ b, B b → ∃ cs T fz, w.heap[b]? = some (.cells cs T fz) ∧ T ∈ ts ∧ Base.n0 ≤ b) {x : AV} {v : Value} (h : VR w I κ x v) (hx : x.off ts = true) :
    VR w (fun b => I b ∧ ¬ B b) κ x v := by
  induction h with
  | u v => exact .u v
  | sk => exact .sk
  | b x => exact .b x
  | i k n => exact .i k n
  | s l => exact .s l
  | n => exact .n
  | z => exact .z
  | nf => exact .nf
  | ni => exact .ni
  | lnil t A cap => exact .lnil t A cap
  | l t es g o cap cs T fz sz hI0 hh0 ht hsz hnc hsize hp h1 hcap hmax hc ih =>
    cases es with
    | nil => exact .lnil _ _ _
    | cons e0 es =>
      have hx' : (t ≠ 0 ∧ ¬ t ∈ ts) ∧ AV.offL ts (e0 :: es) = true := by
        simpa [AV.off, Bool.and_assoc, and_assoc] using hx
      refine .l t (e0 :: es) g o cap cs T fz sz ⟨hI0, fun hb => ?_⟩ hh0 ht hsz hnc hsize hp h1 hcap hmax fun j e m c he hc' => ih j e m c he hc' (off_cl (offL_mem hx'.2 e (List.mem_of_getElem? he)) c (List.mem_of_getElem? hc'))
      obtain ⟨cs', T', fz', h2, h3, h4⟩ := hB g hb
      rw [hh0] at h2
      simp only [Option.some.injEq, Obj.cells.injEq] at h2
      rw [← h2.2.1, ((ht hx'.1.1).1 h4).1] at h3
      exact hx'.1.2 h3
  | e x off g o cs T fz hI0 hh0 hp hsize h1 hc ih =>
    simp only [AV.off, List.isEmpty_iff] at hx
    exact absurd hx hts
  | f g caps vs hl hc ih => exact .f g caps vs hl fun m c hc' => ih m c hc' (offL_mem (by simpa [AV.off] using hx) c (List.mem_of_getElem? hc'))
  | a cs vs hl h1 hc ih => exact .a cs vs hl h1 fun m c hc' => ih m c hc' (offL_mem (by simpa [AV.off] using hx) c (List.mem_of_getElem? hc'))
  | tp cs vs hl hc ih => exact .tp cs vs hl fun m c hc' => ih m c hc' (offL_mem (by simpa [AV.off] using hx) c (List.mem_of_getElem? hc'))
  | ifc t x v h ih => exact .ifc t x v (ih (by simpa [AV.off] using hx))
  | p k off => exact .p k off
  | sp k off n sz cap h1 h2 => exact .sp k off n sz cap h1 h2

section
variable {C : Cx} {st : St} {a : Act} {w : World} {σ : Sp} {o : Oper} {d : Option Nat} {R : Rec} {Ω : Orc} {r : AV × St}

/-- what is handed over: a value and the memory of the function's own that it shows. -/
structure Lent (C : Cx) (w : World) (σ : Sp) (y : AV) (v : Value) (ts : List TypeId) (B : Nat → Prop) : Prop where
  vr : VR w (fun b => σ.I b ∨ B b) σ.κ y v
  pure : y.pure = true
  blk : ∀ b, B b → (∃ l, σ.ow b = some l) ∧ ∃ cs T fz, w.heap[b]? = some (.cells cs T fz) ∧ T ∈ ts ∧ Base.n0 ≤ b
theorem Conc.lent (h : Conc C st a w σ) {n : Nat} {x y : AV} {v : Value} {ts : List TypeId} (hx : SR C w σ st a n x v) (he : st.lend C.E.dp x = some (y, ts)) : ∃ B, Lent C w σ y v ts B := by
  have hrow : ∀ (L : Lbl) (wp : Prop) t es lo len cap' v, OwnAt C.P C.W w σ L wp t es v → lo + len ≤ es.length → (∀ A n cap, v = .slice A n cap → cap' = cap) →
      ∃ B, Lent C w σ (.l t ((es.drop lo).take len)) (match v with | .slice A _ cap => .slice (if cap = lo then A else A.map (·.add (lo * C.P.cellsOf t))) len (cap - lo) | v => v) [t] B := by
    intro L wp t es lo len cap' v ho hle _
    rcases ho with ⟨rfl, rfl⟩ | ⟨g, cap, cs, rfl, hR⟩
    · simp only [List.length_nil] at hle
      obtain rfl : lo = 0 := by omega
      obtain rfl : len = 0 := by omega
      exact ⟨fun _ => False, by simpa using VR.lnil _ _ _, rfl, fun _ h => h.elim⟩
    · by_cases hl : len = 0
      · subst hl
        exact ⟨fun _ => False, by simpa using VR.lnil _ _ _, by simp [AV.pure], fun _ h => h.elim⟩
      · have hec := hR.ecap
        refine ⟨fun b => b = g, ?_, rfl, fun b hb => ⟨⟨_, hb ▸ hR.ow⟩, cs, t, _, hb ▸ hR.hh, by simp, hb ▸ hR.base⟩⟩
        have := hR.imm (I := fun b => σ.I b ∨ b = g) (fun _ h => .inl h) (.inr rfl) hle
        simp only [if_neg (show ¬ cap = lo by omega), Option.map_some, add_lit, Nat.zero_add]
        exact this
  have hwhole : ∀ (L : Lbl) (wp : Prop) t es v, OwnAt C.P C.W w σ L wp t es v → ∃ B, Lent C w σ (.l t es) v [t] B := by
    intro L wp t es v ho
    rcases ho with ⟨rfl, rfl⟩ | ⟨g, cap, cs, rfl, hR⟩
    · exact ⟨fun _ => False, .lnil _ _ _, rfl, fun _ h => h.elim⟩
    · exact ⟨fun b => b = g, hR.imm0 (I := fun b => σ.I b ∨ b = g) (fun _ h => .inl h) (.inr rfl), rfl, fun b hb => ⟨⟨_, hb ▸ hR.ow⟩, cs, t, _, hb ▸ hR.hh, by simp, hb ▸ hR.base⟩⟩
  have hplain : ∀ x, SR C w σ st a n x v → x.pure = true → ∃ B, Lent C w σ x v [] B := fun x hx hp =>
    ⟨fun _ => False, (hx.toVR (pure_copy x hp)).mono (fun _ h => .inl h) (fun _ _ => rfl) (fun _ _ => rfl), hp, fun _ h => h.elim⟩
  cases x with
  | o t es =>
    obtain ⟨rfl, rfl⟩ := Prod.mk.inj (Option.some.inj he)
    exact hwhole _ _ t es v hx
  | r pl =>
    obtain ⟨⟨t, es⟩, hr, he1⟩ := Option.bind_eq_some_iff.1 he
    obtain ⟨rfl, rfl⟩ := Prod.mk.inj (Option.some.inj he1)
    rw [hx (by rw [hr]; rfl)]
    exact hwhole _ _ t es _ (h.row hr)
  | v pl lo len =>
    obtain ⟨⟨t, es⟩, hr, he1⟩ := Option.bind_eq_some_iff.1 he
    simp only at he1
    split at he1
    · rename_i hle
      obtain ⟨rfl, rfl⟩ := Prod.mk.inj (Option.some.inj he1)
      obtain ⟨A, n', cap, hpv, hv⟩ := hx t es hr hle
      obtain ⟨B, hB⟩ := hrow _ _ t es lo len cap _ (h.row hr) hle (fun A' n2 cap2 e => by rw [hpv] at e; simp at e; exact e.2.2)
      rw [hpv] at hB
      exact ⟨B, by rw [hv]; exact hB⟩
    · cases he1
  | w g t z =>
    obtain ⟨rfl, rfl⟩ := Prod.mk.inj (Option.some.inj he)
    obtain ⟨hp, hz⟩ := hx
    refine ⟨_, hz.mono (fun _ h => .inr h) (fun _ _ => rfl) (fun _ _ => rfl), hp, fun b hb => ⟨⟨_, hb.1⟩, ?_⟩⟩
    obtain ⟨cs, e⟩ := hb.2.2.2
    exact ⟨cs, t, _, e, by simp, hb.2.2.1⟩
  | sp k o n sz =>
    simp only [St.lend] at he
    obtain ⟨cs, hb, he1⟩ := Option.bind_eq_some_iff.1 he
    split at he1
    · rename_i hc
      obtain ⟨rfl, rfl⟩ := Prod.mk.inj (Option.some.inj he1)
      simp only [Bool.and_eq_true, decide_eq_true_eq] at hc
      obtain ⟨⟨⟨hk, hp⟩, hsz⟩, hle⟩ := hc
      obtain ⟨vs, T, hB⟩ := h.bx k cs hb
      have hT := hB.kb.1 hk
      have hpl := pureL_mem hp
      have hone : ∀ c ∈ cs, c.one = true := fun c hc => (hB.one c hc).resolve_right fun e => by have := hpl c hc; rw [e] at this; cases this
      have hone' : ∀ c ∈ cs.drop o, c.one = true := fun c hc => hone c (List.mem_of_mem_drop hc)
      have hp' : AV.pureL (cs.drop o) = true := pureL_of fun c hc => hpl c (List.mem_of_mem_drop hc)
      have hle' : n * sz ≤ (cs.drop o).length := by rw [List.length_drop]; omega
      have hlen := chunks_len sz n (cs.drop o)
      refine ⟨fun b => b = σ.κ k, ?_, rfl, fun b hb => by subst hb; exact ⟨⟨_, hB.ow⟩, vs, T, (0, 0), hB.hh, by simp [hT], hB.kb.2⟩⟩
      · have hx' : VR w σ.I σ.κ (.sp k o n sz) v := hx
        cases hx' with
        | sp _ _ _ _ cap hc1 hc2 =>
          have := VR.l (w := w) (I := fun b => σ.I b ∨ b = σ.κ k) (κ := σ.κ) 0 (chunks sz n (cs.drop o)) (σ.κ k) o cap vs T (0, 0) sz (.inr rfl) hB.hh (fun h => absurd rfl h) hsz (fun e he => ?_) ?_ (fun e he => ?_) (fun e he c hc => ?_) (by omega) hc2 (fun j e m c he hc => ?_)
          · rw [hlen] at this; exact this
          · obtain ⟨j, hj⟩ := List.mem_iff_getElem?.1 he
            obtain ⟨h3, h4, _⟩ := chunks_get sz hsz hone' hle' hj
            unfold AV.nc
            rw [h3, List.length_take, List.length_drop]
            rw [Nat.add_mul] at h4
            omega
          · rw [hlen]; have := hB.size; omega
          · obtain ⟨j, hj⟩ := List.mem_iff_getElem?.1 he
            exact (chunks_get sz hsz hone' hle' hj).2.2 hp'
          · obtain ⟨j, hj⟩ := List.mem_iff_getElem?.1 he
            obtain ⟨h3, _, _⟩ := chunks_get sz hsz hone' hle' hj
            rw [h3] at hc
            exact hone' c (List.mem_of_mem_drop (List.mem_of_mem_take hc))
          · obtain ⟨h3, _, _⟩ := chunks_get sz hsz hone' hle' he
            rw [h3, List.getElem?_take] at hc
            split at hc
            · rw [List.getElem?_drop, List.getElem?_drop, ← Nat.add_assoc] at hc
              have hcm := List.mem_of_getElem? hc
              exact (CR_noO (hpl c hcm) (hB.cell _ c hc)).noI (fun _ h => .inl h) (fun _ _ => rfl) (hpl c hcm)
            · cases hc
    · cases he1
  | _ =>
    simp only [St.lend] at he
    split at he
    · rename_i hp
      obtain ⟨rfl, rfl⟩ := Prod.mk.inj (Option.some.inj he)
      exact hplain _ hx hp
    · cases he
theorem Lent.more {y : AV} {v : Value} {ts ts' : List TypeId} {B B' : Nat → Prop} (h : Lent C w σ y v ts B) (hB : ∀ b, B b → B' b) (hb : ∀ b, B' b → (∃ l, σ.ow b = some l) ∧ ∃ cs T fz, w.heap[b]? = some (.cells cs T fz) ∧ T ∈ ts' ∧ Base.n0 ≤ b) : Lent C w σ y v ts' B' :=
  ⟨h.vr.mono (fun b hb => hb.imp id (hB b)) (fun _ _ => rfl) (fun _ _ => rfl), h.pure, hb⟩
/-- the arguments of a call. -/
theorem Conc.lentAll (h : Conc C st a w σ) : ∀ (xs : List AV) (vs : List Value) (ys : List AV) (ts : List TypeId), xs.length = vs.length → (∀ (i : Nat) (x : AV), xs[i]? = some x → ∃ n, SR C w σ st a n x (vs[i]?.getD undef)) →
    st.lendAll C.E.dp xs = some (ys, ts) → ∃ B : Nat → Prop, ys.length = vs.length ∧ (∀ b, B b → (∃ l, σ.ow b = some l) ∧ ∃ cs T fz, w.heap[b]? = some (.cells cs T fz) ∧ T ∈ ts ∧ Base.n0 ≤ b) ∧ (∀ y ∈ ys, y.pure = true) ∧
      ∀ (i : Nat) (y : AV), ys[i]? = some y → VR w (fun b => σ.I b ∨ B b) σ.κ y (vs[i]?.getD undef)
  | [], vs, ys, ts, hl, _, he => by
    obtain ⟨rfl, rfl⟩ := Prod.mk.inj (Option.some.inj he)
    exact ⟨fun _ => False, hl, fun _ h => h.elim, fun y hy => absurd hy (List.not_mem_nil), fun i y hi => (by simp at hi)⟩
  | x :: xs, [], _, _, hl, _, _ => by simp at hl
  | x :: xs, v :: vs, ys, ts, hl, hx, he => by
    obtain ⟨⟨y, ts1⟩, h1, he1⟩ := Option.bind_eq_some_iff.1 he
    obtain ⟨⟨ys', ts2⟩, h2, he2⟩ := Option.bind_eq_some_iff.1 he1
    obtain ⟨rfl, rfl⟩ := Prod.mk.inj (Option.some.inj he2)
    obtain ⟨n, hx0⟩ := hx 0 x rfl
    obtain ⟨B1, hL⟩ := h.lent hx0 h1
    obtain ⟨B2, hl2, hb2, hp2, hv2⟩ := Conc.lentAll h xs vs ys' ts2 (by simpa using hl) (fun i x hi => by simpa using hx (i + 1) x (by simpa using hi)) h2
    refine ⟨fun b => B1 b ∨ B2 b, by simpa using hl2, fun b hb => ?_, fun z hz => ?_, fun i z hi => ?_⟩
    · rcases hb with hb | hb
      · obtain ⟨h3, cs, T, fz, h4, h5⟩ := hL.blk b hb
        exact ⟨h3, cs, T, fz, h4, List.mem_append_left _ h5.1, h5.2⟩
      · obtain ⟨h3, cs, T, fz, h4, h5⟩ := hb2 b hb
        exact ⟨h3, cs, T, fz, h4, List.mem_append_right _ h5.1, h5.2⟩
    · rcases List.mem_cons.1 hz with rfl | hz
      · exact hL.pure
      · exact hp2 z hz
    · cases i with
      | zero =>
        obtain rfl : y = z := by simpa using hi
        exact hL.vr.mono (fun b hb => hb.elim .inl fun h => .inr (.inl h)) (fun _ _ => rfl) (fun _ _ => rfl)
      | succ i => exact (hv2 i z (by simpa using hi)).mono (fun b hb => hb.elim .inl fun h => .inr (.inr h)) (fun _ _ => rfl) (fun _ _ => rfl)

theorem run_callFunc {P : Program} {f : FuncId} (hf : bodied P f) (args : Array Value) (w : World) : (callFunc f args).run P w = .ok (.enter f args) w := by
  obtain ⟨fn, h1, h2, h3⟩ := hf
  have h3' : fn.name ≠ "runtime.NumGoroutine" := by simpa using h3
  have h2' : fn.body ≠ none := by intro e; rw [e] at h2; cases h2
  simp [callFunc, h1, h2', h3']
/-- a call, seen from where it stands. -/
theorem sim_call {f : FuncId} {xs ys : List AV} {vs : List Value} {ts : List TypeId} {x : AV} (h : Conc C st a w σ) (hl : xs.length = vs.length) (hx : ∀ (i : Nat) (x : AV), xs[i]? = some x → ∃ n, SR C w σ st a n x (vs[i]?.getD undef))
    (hys : st.lendAll C.E.dp xs = some (ys, ts)) (hc : (∀ y ∈ ys, y.pure = true) → CallOK C.P f ys x) (hp : x.pure = true) (ho : (ts.isEmpty || x.off ts) = true)
    (hrun : bodied C.P f → (Go.execOp a.eval o).run C.P w = .ok (.enter f vs.toArray) w) : Sim C o d a w σ st x := by
  obtain ⟨B, hyl, hB, hyp, hyv⟩ := h.lentAll xs vs ys ts hl hx hys
  obtain ⟨hb, hcall⟩ := hc hyp
  intro K Q hK
  unfold Oper.wp
  rw [hrun hb, Oper.upon_enter]
  have hlt : ∀ b, B b → b < w.heap.size := fun b hb => by
    obtain ⟨⟨l, hl⟩, _⟩ := hB b hb
    exact h.own b l hl
  refine (hcall w (fun b => σ.I b ∨ B b) σ.κ vs.toArray ⟨(h.new _ (Nat.le_refl _)).2, h.lay.keep (fun _ h => .inl h) fun _ _ => rfl⟩ (fun b hb => hb.elim (fun h1 => (h.imm b h1).1) (hlt b)) (by simpa using hyl.symm) (fun i y hi => ?_)).mono ?_
  · have := hyv i y hi
    simpa [Array.getD_eq_getD_getElem?] using this
  · rintro e w' ⟨v, I', rfl, hv, hsize, hold, hup, hdn, hlt', hio⟩
    refine hK v w' { σ with I := fun b => I' b ∧ ¬ B b } ?_
    have hin : ∀ b, σ.I b → ¬ B b := fun b hb hbb => by
      obtain ⟨⟨l, hl⟩, _⟩ := hB b hbb
      have := (h.imm b hb).2
      rw [hl] at this; cases this
    have hsame : Same C w σ w' { σ with I := fun b => I' b ∧ ¬ B b } none :=
      ⟨fun b l hb _ => ⟨hold b (h.own b l hb), hb⟩, fun b hb => hold b (h.imm b hb).1, fun b hb => ⟨hup b (.inl hb), hin b hb⟩, rfl, hsize, fun b l hb => Nat.lt_of_lt_of_le (h.own b l hb) hsize, fun b hb => ⟨hlt' b hb.1, by
        rcases hdn b hb.1 with h1 | h1
        · rcases h1 with h1 | h1
          · exact (h.imm b h1).2
          · exact absurd h1 hb.2
        · show σ.ow b = none
          cases hq : σ.ow b with
          | none => rfl
          | some l => have := h.own b l hq; omega⟩⟩
    refine ⟨⟨hsize, fun b hb _ => hold b hb, hsame.up, hsame.imm, fun b hb => ?_, fun _ _ => rfl, fun _ _ _ => rfl, hio⟩, h.same hsame, fun _ _ => SR_VR ?_, fun _ _ _ _ e => by subst e; cases hp⟩
    · rcases hdn b hb.1 with h1 | h1
      · rcases h1 with h1 | h1
        · exact .inl h1
        · exact absurd h1 hb.2
      · exact .inr (h.new b h1).1
    · by_cases hts : ts = []
      · subst hts
        have hnoB : ∀ b, ¬ B b := fun b hb => by
          obtain ⟨_, _, _, _, _, hm, _⟩ := hB b hb
          cases hm
        exact hv.mono (fun b hb => ⟨hb, hnoB b⟩) (fun _ _ => rfl) (fun _ _ => rfl)
      · have hoff : x.off ts = true := by
          rcases Bool.or_eq_true_iff.1 ho with h1 | h1
          · exact absurd (List.isEmpty_iff.1 h1) hts
          · exact h1
        exact hv.away hts (fun b hb => by
          obtain ⟨⟨l, hl⟩, cs, T, fz, h1, h2⟩ := hB b hb
          exact ⟨cs, T, fz, (hold b (h.own b l hl)).trans h1, h2⟩) hoff
theorem sim_doCall {m : Nat} {f : FuncId} {xs : List AV} {vs : List Value} (hR : RecOK C.P R) (hΩ : OrcOK C.P Ω) (h : Conc C st a w σ) (hl : xs.length = vs.length) (hx : ∀ (i : Nat) (x : AV), xs[i]? = some x → ∃ n, SR C w σ st a n x (vs[i]?.getD undef))
    (he : doCall R Ω C.E st m f xs = some r) (hrun : bodied C.P f → (Go.execOp a.eval o).run C.P w = .ok (.enter f vs.toArray) w) : Sim C o d a w σ r.2 r.1 := by
  unfold doCall at he
  split at he
  · obtain ⟨⟨ys, ts⟩, hys, he1⟩ := Option.bind_eq_some_iff.1 he
    clear he
    obtain ⟨⟨q, hp'⟩, hq, he2⟩ := Option.bind_eq_some_iff.1 he1
    clear he1
    cases q with
    | new cs => cases he2
    | ret x => ?_
    simp only at he2
    split at he2
    · rename_i hc
      simp only [Bool.and_eq_true] at hc
      obtain rfl := Option.some.inj he2
      exact sim_call h hl hx hys (fun hyp => hR.pure hq hyp) hc.1 hc.2 hrun
    · cases he2
  · obtain ⟨⟨ys, ts⟩, hys, he1⟩ := Option.bind_eq_some_iff.1 he
    clear he
    obtain ⟨x, hq, he2⟩ := Option.bind_eq_some_iff.1 he1
    clear he1
    split at he2
    · rename_i hc
      simp only [Bool.and_eq_true] at hc
      obtain rfl := Option.some.inj he2
      exact sim_call h hl hx hys (fun hyp => hΩ.ret f ys x hq hyp hc.1) hc.1 hc.2 hrun
    · cases he2
  · cases he

/-- operands, one after the other. -/
theorem Conc.opds (h : Conc C st a w σ) : ∀ (ys : List Operand) (xs : List Opd), lowOL ys xs = true → (xs.map st.ev).length = (ys.map a.eval).length ∧
    ∀ (i : Nat) (x : AV), (xs.map st.ev)[i]? = some x → ∃ n, SR C w σ st a n x ((ys.map a.eval)[i]?.getD undef)
  | [], [], _ => ⟨rfl, fun i x hi => by simp at hi⟩
  | y :: ys, x :: xs, hl => by
    simp only [lowOL, Bool.and_eq_true] at hl
    obtain ⟨h1, h2⟩ := Conc.opds h ys xs hl.2
    refine ⟨by simpa using h1, fun i z hi => ?_⟩
    cases i with
    | zero =>
      obtain rfl : st.ev x = z := by simpa using hi
      cases x with
      | t n => exact ⟨n, h.slot hl.1⟩
      | c z => exact ⟨0, SR_of_VR (.inl (pure_copy z (opd_pure hl.1))) (by simpa using h.opd hl.1 (pure_copy z (opd_pure hl.1)))⟩
    | succ i => simpa using h2 i z (by simpa using hi)
  | [], _ :: _, hl => by simp [lowOL] at hl
  | _ :: _, [], hl => by simp [lowOL] at hl

theorem sim_ca {m : Nat} {f : FuncId} {xs : List Opd} (hR : RecOK C.P R) (hΩ : OrcOK C.P Ω) (h : Conc C st a w σ) (hl : lowOp C.P (.ca m f xs) o.op = true) (he : execOp R Ω C.E st d (.ca m f xs) = some r) :
    Sim C o d a w σ r.2 r.1 := by
  simp only [lowOp] at hl; split at hl
  · rename_i c hop
    simp only [Bool.and_eq_true] at hl
    obtain ⟨h1, h2⟩ := hl
    split at h1
    · rename_i f' hcal
      have hff : f = f' := by simpa using h1
      obtain ⟨h3, h4⟩ := h.opds _ _ h2
      simp only [execOp] at he
      refine sim_doCall hR hΩ h h3 h4 he fun hb => ?_
      have hev : a.eval (.func f') = .func (.func f') #[] #[] := rfl
      have hcf := run_callFunc hb (List.map a.eval c.args.toList).toArray w
      have ha : (List.map a.eval c.args.toList).toArray = c.args.map a.eval := by apply Array.ext'; simp
      rw [hff, ha] at hcf
      rw [hff, ha]
      unfold Go.execOp
      simp [hop, resolve, hcal, hev, Deferred.ofValue, invoke]
      exact hcf
    · cases h1
  · cases hl
theorem sim_cf {m : Nat} {x : Opd} {xs : List Opd} (hR : RecOK C.P R) (hΩ : OrcOK C.P Ω) (h : Conc C st a w σ) (hl : lowOp C.P (.cf m x xs) o.op = true) (he : execOp R Ω C.E st d (.cf m x xs) = some r) :
    Sim C o d a w σ r.2 r.1 := by
  simp only [lowOp] at hl; split at hl
  · rename_i c hop
    simp only [Bool.and_eq_true] at hl
    obtain ⟨h1, h2⟩ := hl
    split at h1
    · rename_i y hcal
      obtain ⟨h3, h4⟩ := h.opds _ _ h2
      simp only [execOp] at he
      split at he
      · rename_i f caps hx
        have hv := (hx ▸ h.opdV h1 (by rw [hx]; simp) (by rw [hx]; rfl))
        obtain ⟨vs, hvv, hcl, hcc⟩ := hv.f_inv
        refine sim_doCall (vs := c.args.toList.map a.eval ++ vs.toList) hR hΩ h (by rw [List.length_append, List.length_append, h3, hcl]; simp) (fun i z hi => ?_) he fun hb => ?_
        · rw [List.getElem?_append] at hi ⊢
          rw [h3] at hi
          split
          · rename_i hlt
            rw [if_pos hlt] at hi
            exact h4 i z hi
          · rename_i hlt
            rw [if_neg hlt] at hi
            have := hcc _ z hi
            exact ⟨0, SR_VR (by simpa [Array.getD_eq_getD_getElem?] using this)⟩
        · unfold Go.execOp
          have hcf := run_callFunc hb (List.map a.eval c.args.toList ++ vs.toList).toArray w
          have ha : (List.map a.eval c.args.toList ++ vs.toList).toArray = c.args.map a.eval ++ vs := by apply Array.ext'; simp
          rw [ha] at hcf
          rw [ha]
          simp [hop, resolve, hcal, hvv, Deferred.ofValue, invoke]
          exact hcf
      · cases he
    · cases h1
  · cases hl

theorem fget_back (dp : Nat) (hp' : HP) (d : Nat) : fget (st.back dp hp').fr d = if borC (fget st.fr d) = true then .u else fget st.fr d := by
  show fget (st.fr.map fun x => (x.1, if borC x.2 = true then .u else x.2)) d = _
  induction st.fr with
  | nil => simp [fget, borC]
  | cons y fr ih =>
    simp only [List.map_cons, fget]
    split
    · rfl
    · exact ih
theorem bget_backB {dp : Nat} {hp' : HP} : ∀ {bx : List (Nat × List AV)} {d : Nat} {cs : List AV}, bget (backB dp hp' bx) d = some cs → hp' ⟨dp, d⟩ = some cs
  | [], d, cs, h => by cases h
  | (d', cs') :: r, d, cs, h => by
    simp only [backB] at h
    split at h
    · rename_i zs hz
      simp only [bget] at h
      split at h
      · rename_i e
        subst e
        rw [hz, ← h]
      · exact bget_backB h
    · exact bget_backB h
theorem rowAt_back {dp : Nat} {hp' : HP} {d : Nat} {r : TypeId × List AV} (h : (st.back dp hp').rowAt dp (.s d) = some r) : st.rowAt dp (.s d) = some r := by
  simp only [St.rowAt, fget_back] at h ⊢
  by_cases hb : borC (fget st.fr d) = true
  · rw [if_pos hb] at h; cases h
  · rw [if_neg hb] at h; exact h
/-- cells of a box, seen from elsewhere. -/
theorem RowAt.turn {P : Program} {W W' : Nat → Prop} {w : World} {σ σ' : Sp} {L : Lbl} {wr wr' : Prop} {t : TypeId} {es : List AV} {g cap : Nat} {cs : Array Value} (h : RowAt P W w σ L wr t es g cap cs) (how : σ'.ow g = some L) (hI : ∀ b, σ.I b → σ'.I b)
    (hw : wr' → W' g) : RowAt P W' w σ' L wr' t es g cap cs :=
  ⟨how, hw, h.hh, h.pos, h.nc, h.ecap, h.max, h.size, h.pure, h.one, fun j e m c he hc => (h.cell j e m c he hc).noI hI (fun _ _ => rfl) (pure_cl (h.pure e (List.mem_of_getElem? he)) c (List.mem_of_getElem? hc)), h.base⟩
theorem BoxAt.turn {C C' : Cx} {w : World} {σ σ' : Sp} {k : Key} {cs : List AV} {vs : Array Value} {T : TypeId} (h : BoxAt C w σ k cs vs T) (hP : C'.P = C.P) (hk : σ'.κ k = σ.κ k) (how : ∀ b l, σ.ow b = some l → (l = .box k ∨ ∃ off, l = .rowC k off) → σ'.ow b = some l)
    (hI : ∀ b, σ.I b → σ'.I b) (hm : C.E.ro = false) (hW : ∀ b l, σ.ow b = some l → (l = .box k ∨ ∃ off, l = .rowC k off) → C.W b → C'.W b) (hd : ∀ c ∈ cs, ∀ k', c.noK k' = false → σ'.κ k' = σ.κ k') (hnw : ∀ c ∈ cs, ∀ g t x, c ≠ .w g t x) : BoxAt C' w σ' k cs vs T := by
  have hmine : ∀ off, (Pl.c k off).mine C.E = true := fun off => by simp [Pl.mine, hm]
  refine ⟨by rw [hk]; exact h.hh, h.size, by rw [hk]; exact how _ _ h.ow (.inl rfl), fun _ => by rw [hk]; exact hW _ _ h.ow (.inl rfl) (h.wr (hmine 0)), h.one, fun off c hc => ?_, h.ty, by rw [hk]; exact h.kb⟩
  have hcell := h.cell off c hc
  have hd' := hd c (List.mem_of_getElem? hc)
  have hnw' := hnw c (List.mem_of_getElem? hc)
  cases c with
  | o t es =>
    rcases hcell with h1 | ⟨g, cap, cs', hv, hr⟩
    · exact .inl h1
    · refine .inr ⟨g, cap, cs', hv, ?_⟩
      rw [hP]
      exact hr.turn (how _ _ hr.ow (.inr ⟨off, rfl⟩)) hI fun _ => hW _ _ hr.ow (.inr ⟨off, rfl⟩) (hr.wr (hmine off))
  | w g t x => exact absurd rfl (hnw' g t x)
  | bp t k' u => exact ⟨hcell.1, by rw [hk]; exact hcell.2⟩
  | _ => exact VR.mono hcell hI (fun _ _ => rfl) hd'
theorem deep_noW {n : Nat} {c : AV} (h : c.deep n = true) : ∀ g t x, c ≠ .w g t x := fun g t x e => by subst e; cases h
theorem deep_le {I : Nat → Prop} {κ : Key → Nat} {w : World} {n : Nat} {x : AV} {v : Value} (h : VR w I κ x v) (hd : x.deep n = true) {k : Key} (hk : x.noK k = false) : k.dp ≤ n := by
  apply Classical.byContradiction
  intro hn
  have := deep_noK' (dp := k.dp) (s := k.d) (by omega) x h hd
  rw [this] at hk; cases hk
theorem BoxAt.deepK {C : Cx} {w : World} {σ : Sp} {k : Key} {cs : List AV} {vs : Array Value} {T : TypeId} {n : Nat} (h : BoxAt C w σ k cs vs T) (hd : ∀ c ∈ cs, c.deep n = true) : ∀ c ∈ cs, ∀ k', c.noK k' = false → k'.dp ≤ n := by
  intro c hc k' hk'
  obtain ⟨off, ho⟩ := List.mem_iff_getElem?.1 hc
  have hcell := h.cell off c ho
  have hdc := hd c hc
  cases c with
  | o t es => cases hk'
  | r _ => cases hcell
  | v _ _ _ => cases hcell
  | q _ _ _ _ => cases hcell
  | u => cases hk'
  | w _ _ _ => cases hdc
  | bp t k2 u =>
    have h2 : k2.dp ≤ n := by simpa [AV.deep] using hdc
    have h3 : k2 = k' := by simpa [AV.noK] using hk'
    exact h3 ▸ h2
  | _ => exact deep_le hcell hdc hk'
/-- what a function may write that is called. -/
def Wc (C : Cx) (σ : Sp) : Nat → Prop := fun b => (C.W b ∧ σ.ow b ≠ some (.mark C.E.dp)) ∧ ∀ d, σ.ow b ≠ some (.rowS C.E.dp d) ∧ σ.ow b ≠ some (.grp C.E.dp d)
/-- boxes in sight, for a function that is called. -/
theorem Conc.hpOK (h : Conc C st a w σ) (hro : C.E.ro = false) (hdp : ∀ d cs, bget st.bx d = some cs → ∀ c ∈ cs, c.deep C.E.dp = true) : HpOK C.P (Wc C σ) (C.E.dp + 1) (fun k => st.box C.E.dp k) w σ := by
  refine ⟨fun k cs hk hkd => ?_, fun k cs hk hkd => ?_, h.own, h.imm, h.lay⟩
  · obtain ⟨vs', T, hB⟩ := h.bx k cs hk
    refine ⟨vs', T, hB.turn rfl rfl (fun _ _ h _ => h) (fun _ h => h) hro (fun b l hl hor hW => ⟨⟨hW, fun e => (by rw [hl] at e; rcases hor with rfl | ⟨_, rfl⟩ <;> cases e)⟩, fun d => ⟨fun e => (by rw [hl] at e; rcases hor with rfl | ⟨_, rfl⟩ <;> cases e), fun e => (by rw [hl] at e; rcases hor with rfl | ⟨_, rfl⟩ <;> cases e)⟩⟩) (fun _ _ _ _ => rfl) fun c hc => ?_⟩
    by_cases hkk : k.dp = C.E.dp
    · simp only [St.box, hkk, if_true] at hk
      exact deep_noW (hdp _ _ hk c hc)
    · simp only [St.box, if_neg hkk] at hk
      exact deep_noW ((h.hpd k cs hkk hk).2 c hc)
  · by_cases hkk : k.dp = C.E.dp
    · refine ⟨by omega, ?_⟩
      simp only [St.box, hkk, if_true] at hk
      rw [hkk]
      exact hdp _ _ hk
    · simp only [St.box, if_neg hkk] at hk
      obtain ⟨h1, h2⟩ := h.hpd k cs hkk hk
      exact ⟨by omega, h2⟩
/-- how all lies behind a call that may have changed what is in sight. -/
theorem Conc.called {w' : World} {σ1 : Sp} {hp' : HP} (h : Conc C st a w σ) (hst : Stp (cxOf C.P (Wc C σ) (C.E.dp + 1)) w σ w' σ1) (hH : HpOK C.P (Wc C σ) (C.E.dp + 1) hp' w' σ1) :
    Stp C w σ w' { σ1 with κ := σ.κ } ∧ Conc C (st.back C.E.dp hp') a w' { σ1 with κ := σ.κ } := by
  have hk1 : ∀ k : Key, k.dp ≤ C.E.dp → σ1.κ k = σ.κ k := fun k hk => hst.kap k (show k.dp < C.E.dp + 1 by omega)
  have hnW : ∀ b, ¬ C.W b → ¬ ((C.W b ∧ σ.ow b ≠ some (.mark C.E.dp)) ∧ ∀ d, σ.ow b ≠ some (.rowS C.E.dp d) ∧ σ.ow b ≠ some (.grp C.E.dp d)) := fun b hb hb' => hb hb'.1.1
  have hrowS : ∀ g d, σ.ow g = some (.rowS C.E.dp d) → w'.heap[g]? = w.heap[g]? ∧ σ1.ow g = some (.rowS C.E.dp d) := fun g d hg =>
    have hn : ¬ ((C.W g ∧ σ.ow g ≠ some (.mark C.E.dp)) ∧ ∀ d, σ.ow g ≠ some (.rowS C.E.dp d) ∧ σ.ow g ≠ some (.grp C.E.dp d)) := fun hh => (hh.2 d).1 hg
    ⟨hst.keep g (h.own g _ hg) hn, (hst.ow g (h.own g _ hg) hn).trans hg⟩
  have hgrp : ∀ g d, σ.ow g = some (.grp C.E.dp d) → w'.heap[g]? = w.heap[g]? ∧ σ1.ow g = some (.grp C.E.dp d) := fun g d hg =>
    have hn : ¬ ((C.W g ∧ σ.ow g ≠ some (.mark C.E.dp)) ∧ ∀ d, σ.ow g ≠ some (.rowS C.E.dp d) ∧ σ.ow g ≠ some (.grp C.E.dp d)) := fun hh => (hh.2 d).2 hg
    ⟨hst.keep g (h.own g _ hg) hn, (hst.ow g (h.own g _ hg) hn).trans hg⟩
  refine ⟨⟨hst.size, fun b hb hW => hst.keep b hb (hnW b hW), hst.up, hst.imm, fun b hb => (hst.dn b hb).imp id fun h => h.1.1, fun _ _ => rfl, fun b hb hW => hst.ow b hb (hnW b hW), hst.io⟩, ?_⟩
  have hmk : Marks C a.defers w' { σ1 with κ := σ.κ } := by
    obtain ⟨Ds, h0, h1, h2⟩ := h.defers
    refine ⟨Ds, h0, h1, fun D hD => ?_⟩
    · obtain ⟨h2, h3, h4⟩ := h2 D hD
      have hn : ¬ ((C.W D ∧ σ.ow D ≠ some (.mark C.E.dp)) ∧ ∀ d, σ.ow D ≠ some (.rowS C.E.dp d) ∧ σ.ow D ≠ some (.grp C.E.dp d)) := fun hh => hh.1.2 h2
      exact ⟨(hst.ow D (h.own D _ h2) hn).trans h2, h3, (hst.keep D (h.own D _ h2) hn).trans h4⟩
  refine ⟨h.size, hmk, fun d => ?_, fun k cs hk => ?_, fun k cs hne hk => ?_, hH.own, hH.imm, fun b hb => h.new b (Nat.le_trans hst.size hb), hH.lay⟩
  · rw [fget_back]
    split
    · exact VR.u _
    · rename_i hb
      have hx0 := h.fr d
      generalize fget st.fr d = y at hx0 hb
      show SR C w' { σ1 with κ := σ.κ } _ a d y _
      cases y with
      | o t es => exact OwnAt.keep (C := C) hx0 (fun g hg => hrowS g d hg) hst.up hst.imm
      | r pl =>
        cases pl with
        | c k off => exact absurd rfl hb
        | s d' =>
          intro hs
          obtain ⟨r, hr⟩ := Option.isSome_iff_exists.1 hs
          exact hx0 (by rw [rowAt_back hr]; rfl)
      | v pl lo len =>
        cases pl with
        | c k off => exact absurd rfl hb
        | s d' =>
          intro t es ht hle
          exact hx0 t es (rowAt_back ht) hle
      | q pl i sz off =>
        cases pl with
        | c k off => exact absurd rfl hb
        | s d' =>
          intro t es ht hle
          exact hx0 t es (rowAt_back ht) hle
      | w g t x => exact WAt.keep hx0 (fun b hb => hgrp b g hb) fun _ h => h
      | _ => exact VR.mono hx0 hst.up hst.imm fun _ _ => rfl
  · have hkp : hp' k = some cs ∧ k.dp ≤ C.E.dp := by
      by_cases hkk : k.dp = C.E.dp
      · simp only [St.box, hkk, if_true] at hk
        have := bget_backB hk
        refine ⟨?_, by omega⟩
        rw [← hkk] at this
        exact this
      · simp only [St.box, if_neg hkk, St.back] at hk
        split at hk
        · exact ⟨hk, by omega⟩
        · cases hk
    obtain ⟨vs', T, hB⟩ := hH.bx k cs hkp.1 (by omega)
    have hdeep := (hH.deep k cs hkp.1 (by omega)).2
    exact ⟨vs', T, hB.turn rfl (hk1 k hkp.2).symm (fun _ _ h _ => h) (fun _ h => h) rfl (fun b l _ _ hW => hW.1.1) (fun c hc k' hk' => (hk1 k' (Nat.le_trans (hB.deepK hdeep c hc k' hk') hkp.2)).symm) fun c hc => deep_noW (hdeep c hc)⟩
  · simp only [St.back] at hk
    split at hk
    · rename_i hlt
      exact ⟨hlt, (hH.deep k cs hk (by omega)).2⟩
    · cases hk
/-- a call that may change what is in sight, seen from where it stands. -/
theorem sim_call2 {f : FuncId} {xs : List AV} {vs : List Value} {x : AV} {hp' : HP} (hro : C.E.ro = false) (h : Conc C st a w σ) (hl : xs.length = vs.length) (hx : ∀ (i : Nat) (x : AV), xs[i]? = some x → ∃ n, SR C w σ st a n x (vs[i]?.getD undef))
    (hcp : ∀ x ∈ xs, x.copy = true) (hdp : ∀ d cs, bget st.bx d = some cs → ∀ c ∈ cs, c.deep C.E.dp = true) (hc : CallOK2 C.P (C.E.dp + 1) f xs (fun k => st.box C.E.dp k) x hp')
    (hrun : bodied C.P f → (Go.execOp a.eval o).run C.P w = .ok (.enter f vs.toArray) w) : Sim C o d a w σ (st.back C.E.dp hp') x := by
  obtain ⟨hpx, hb, hcall⟩ := hc
  intro K Q hK
  unfold Oper.wp
  rw [hrun hb, Oper.upon_enter]
  refine (hcall (Wc C σ) w σ vs.toArray (fun b hb => ⟨⟨⟨(h.new b hb).1, fun e => absurd (h.own b _ e) (Nat.not_lt.2 hb)⟩, fun d => ⟨fun e => ?_, fun e => ?_⟩⟩, (h.new b hb).2⟩) (h.hpOK hro hdp) (by simpa using hl.symm) (fun i y hi => ?_)).mono ?_
  · have := h.own b _ e; omega
  · have := h.own b _ e; omega
  · obtain ⟨n, hn⟩ := hx i y hi
    have := hn.toVR (hcp y (List.mem_of_getElem? hi))
    simpa [Array.getD_eq_getD_getElem?] using this
  · rintro e w' ⟨v, σ1, rfl, hv, hst, hH⟩
    obtain ⟨h1, h2⟩ := h.called hst hH
    exact hK v w' { σ1 with κ := σ.κ } ⟨h1, h2, fun _ _ => SR_VR (hv.noI (fun _ h => h) (fun _ _ => rfl) hpx), fun _ _ _ _ e => by subst e; cases hpx⟩
/-- who owns what, where a box is handed back. -/
noncomputable def turnOw (W : Nat → Prop) (σ : Sp) (kk : Key) (k' : Key) : Nat → Option Lbl := fun b => open Classical in match σ.ow b with
  | some (.box k) => if k = kk ∧ W b then some (.box k') else some (.box k)
  | some (.rowC k off) => if k = kk ∧ W b then some (.rowC k' off) else some (.rowC k off)
  | x => x
theorem turnOw_keep {W : Nat → Prop} {σ : Sp} {kk k' : Key} {b : Nat} {l : Lbl} (h : σ.ow b = some l) (hd : l.dpt ≠ kk.dp) : turnOw W σ kk k' b = some l := by
  unfold turnOw
  rw [h]
  cases l with
  | box k => simp only; rw [if_neg (fun e => hd (by rw [← e.1]; rfl))]
  | rowS dp d => rfl
  | grp dp g => rfl
  | mark dp => rfl
  | rowC k off => simp only; rw [if_neg (fun e => hd (by rw [← e.1]; rfl))]
theorem turnOw_noW {W : Nat → Prop} {σ : Sp} {kk k' : Key} {b : Nat} (h : ¬ W b) : turnOw W σ kk k' b = σ.ow b := by
  unfold turnOw
  cases hb : σ.ow b with
  | none => rfl
  | some l => cases l <;> simp [h]
theorem turnOw_some {W : Nat → Prop} {σ : Sp} {kk k' : Key} {b : Nat} {l : Lbl} (h : turnOw W σ kk k' b = some l) : ∃ l', σ.ow b = some l' := by
  unfold turnOw at h
  cases hb : σ.ow b with
  | none => rw [hb] at h; cases h
  | some l' => exact ⟨l', rfl⟩
theorem turnOw_none {W : Nat → Prop} {σ : Sp} {kk k' : Key} {b : Nat} (h : σ.ow b = none) : turnOw W σ kk k' b = none := by
  unfold turnOw; rw [h]
theorem sim_callN {f : FuncId} {xs : List AV} {vs : List Value} {cs : List AV} {hp' : HP} {dd : Nat} (hro : C.E.ro = false) (h : Conc C st a w σ) (hl : xs.length = vs.length) (hx : ∀ (i : Nat) (x : AV), xs[i]? = some x → ∃ n, SR C w σ st a n x (vs[i]?.getD undef))
    (hcp : ∀ x ∈ xs, x.copy = true) (hdp : ∀ d cs, bget st.bx d = some cs → ∀ c ∈ cs, c.deep C.E.dp = true) (hc : CallOKn C.P (C.E.dp + 1) f xs (fun k => st.box C.E.dp k) cs hp') (hno : noBox C.E.dp (st.back C.E.dp hp') dd = true)
    (hrun : bodied C.P f → (Go.execOp a.eval o).run C.P w = .ok (.enter f vs.toArray) w) : Sim C o d a w σ { (st.back C.E.dp hp') with bx := (dd, cs) :: (st.back C.E.dp hp').bx } (.p ⟨C.E.dp, dd⟩ 0) := by
  obtain ⟨hcs, hb, hcall⟩ := hc
  simp only [noBox, Bool.and_eq_true] at hno
  intro K Q hK
  unfold Oper.wp
  rw [hrun hb, Oper.upon_enter]
  refine (hcall (Wc C σ) w σ vs.toArray (fun b hb => ⟨⟨⟨(h.new b hb).1, fun e => absurd (h.own b _ e) (Nat.not_lt.2 hb)⟩, fun d => ⟨fun e => ?_, fun e => ?_⟩⟩, (h.new b hb).2⟩) (h.hpOK hro hdp) (by simpa using hl.symm) (fun i y hi => ?_)).mono ?_
  · have := h.own b _ e; omega
  · have := h.own b _ e; omega
  · obtain ⟨n, hn⟩ := hx i y hi
    have := hn.toVR (hcp y (List.mem_of_getElem? hi))
    simpa [Array.getD_eq_getD_getElem?] using this
  · rintro e w' ⟨σ1, kk, vs', T, rfl, hkk, hB, hst, hH⟩
    obtain ⟨h1, h2⟩ := h.called hst hH
    have hmine : ∀ off, (Pl.c kk off).mine (cxOf C.P (Wc C σ) (C.E.dp + 1)).E = true := fun off => by simp [Pl.mine, cxOf]
    have hWg : Wc C σ (σ1.κ kk) := hB.wr (hmine 0)
    have hadopt := h2.adopt (d := dd) (cs := cs) (vs := vs') (T := T) (g := σ1.κ kk) (ow' := turnOw (Wc C σ) σ1 kk ⟨C.E.dp, dd⟩)
      (fun b l hb hd => turnOw_keep hb (by rw [hkk]; omega)) (fun b l hb => by obtain ⟨l', h3⟩ := turnOw_some hb; exact hH.own b l' h3) (fun b hb => turnOw_none (hH.imm b hb).2)
      hB.hh ⟨fun hq => absurd hq (Nat.not_le.2 (by have := hno.1.1; simp only [freeD, Bool.and_eq_true, decide_eq_true_eq] at this; exact this.2)), hB.kb.2⟩ hB.size (by unfold turnOw; rw [hB.ow]; simp [hWg]) hWg.1.1 hB.one (fun off c hc => by
        have hcell := hB.cell off c hc
        have hnew := List.all_eq_true.1 hcs c (List.mem_of_getElem? hc)
        unfold CR at hcell
        split
        · rcases hcell with h3 | ⟨g, cap, cs', hv, hr⟩
          · exact .inl h3
          · have hw : Wc C σ g := hr.wr (hmine off)
            refine .inr ⟨g, cap, cs', hv, ⟨?_, fun _ => hw.1.1, hr.hh, hr.pos, hr.nc, hr.ecap, hr.max, hr.size, hr.pure, hr.one, fun j e m c he hc => (hr.cell j e m c he hc).noI (fun _ h => h) (fun _ _ => rfl) (pure_cl (hr.pure e (List.mem_of_getElem? he)) c (List.mem_of_getElem? hc)), hr.base⟩⟩
            show turnOw (Wc C σ) σ1 kk ⟨C.E.dp, dd⟩ g = _
            unfold turnOw; rw [hr.ow]; simp [hw]
        · rename_i hne
          have hp : c.pure = true := by
            cases c with
            | o t es => exact absurd rfl (hne _ _)
            | _ => exact hnew
          refine ⟨hp, ?_⟩
          split at hcell
          · exact absurd rfl (hne _ _)
          · cases hp
          · cases hp
          · exact hcell.noI (fun _ h => h) (fun _ _ => rfl) hp)
      (fget_all rfl _ hno.1.2) (fun d' cs' hb c hm => noKL_mem (bget_all _ hno.2 d' cs' hb) c hm)
    refine hK _ w' ⟨fun k => if k = ⟨C.E.dp, dd⟩ then σ1.κ kk else σ.κ k, turnOw (Wc C σ) σ1 kk ⟨C.E.dp, dd⟩, σ1.I⟩ ⟨⟨h1.size, h1.keep, h1.up, h1.imm, h1.dn, fun k hk => ?_, fun b hb hW => ?_, h1.io⟩, hadopt, fun _ _ => SR_VR (VR_at (by simp)), fun _ _ _ _ e => by cases e⟩
    · show (if k = ⟨C.E.dp, dd⟩ then _ else _) = _
      rw [if_neg (fun e => by subst e; exact Nat.lt_irrefl _ hk)]
    · show turnOw _ _ _ _ b = _
      rw [turnOw_noW (fun hh => hW hh.1.1)]
      exact h1.ow b hb hW
theorem BoxAt.ro {C : Cx} {w : World} {σ : Sp} {k : Key} {cs : List AV} {vs : Array Value} {T : TypeId} {dp : Nat} (h : BoxAt C w σ k cs vs T) (hk : k.dp < dp) (hnw : ∀ c ∈ cs, ∀ g t x, c ≠ .w g t x) : BoxAt (cxR C.P w dp) w σ k cs vs T := by
  have hmine : ∀ off, ¬ (Pl.c k off).mine (cxR C.P w dp).E = true := fun off => by
    intro hm
    have : k.dp = dp := by simp [Pl.mine, cxR] at hm; exact of_decide_eq_true hm
    omega
  refine ⟨h.hh, h.size, h.ow, fun hm => absurd hm (hmine 0), h.one, fun off c hc => ?_, h.ty, h.kb⟩
  have hcell := h.cell off c hc
  have hnw' := hnw c (List.mem_of_getElem? hc)
  cases c with
  | o t es =>
    rcases hcell with h1 | ⟨g, cap, cs', hv, hr⟩
    · exact .inl h1
    · exact .inr ⟨g, cap, cs', hv, hr.turn hr.ow (fun _ h => h) fun hm => absurd hm (hmine off)⟩
  | w g t x => exact absurd rfl (hnw' g t x)
  | _ => exact hcell
/-- a call that sees boxes and changes none; it may be told of a part of what is in sight. -/
theorem sim_call3 {f : FuncId} {xs : List AV} {vs : List Value} {x : AV} {h0 : HP} (h : Conc C st a w σ) (hl : xs.length = vs.length) (hx : ∀ (i : Nat) (x : AV), xs[i]? = some x → ∃ n, SR C w σ st a n x (vs[i]?.getD undef))
    (hcp : ∀ x ∈ xs, x.copy = true) (hle : ∀ k cs, h0 k = some cs → st.box C.E.dp k = some cs) (hdp : ∀ k cs, h0 k = some cs → k.dp = C.E.dp → ∀ c ∈ cs, c.deep C.E.dp = true) (hc : CallOKr C.P (C.E.dp + 1) f xs h0 x)
    (hrun : bodied C.P f → (Go.execOp a.eval o).run C.P w = .ok (.enter f vs.toArray) w) : Sim C o d a w σ st x := by
  obtain ⟨hpx, hb, hcall⟩ := hc
  have hk : ∀ k cs, h0 k = some cs → k.dp < C.E.dp + 1 ∧ ∀ c ∈ cs, c.deep k.dp = true := by
    intro k cs hk
    by_cases hkk : k.dp = C.E.dp
    · exact ⟨by omega, by rw [hkk]; exact hdp k cs hk hkk⟩
    · have := hle k cs hk
      simp only [St.box, if_neg hkk] at this
      obtain ⟨h1, h2⟩ := h.hpd k cs hkk this
      exact ⟨by omega, h2⟩
  intro K Q hK
  unfold Oper.wp
  rw [hrun hb, Oper.upon_enter]
  refine (hcall w σ vs.toArray (h.new _ (Nat.le_refl _)).2 ⟨fun k cs hk' hkd => ?_, fun k cs hk' _ => hk k cs hk', h.own, h.imm, h.lay⟩ (by simpa using hl.symm) (fun i y hi => ?_)).mono ?_
  · obtain ⟨vs', T, hB⟩ := h.bx k cs (hle k cs hk')
    exact ⟨vs', T, hB.ro hkd fun c hc => deep_noW ((hk k cs hk').2 c hc)⟩
  · obtain ⟨n, hn⟩ := hx i y hi
    have := hn.toVR (hcp y (List.mem_of_getElem? hi))
    simpa [Array.getD_eq_getD_getElem?] using this
  · rintro e w' ⟨v, I', rfl, hv, hsize, hold, hup, hdn, hlt', hio⟩
    have hsame : Same C w σ w' { σ with I := I' } none :=
      ⟨fun b l hb _ => ⟨hold b (h.own b l hb), hb⟩, fun b hb => hold b (h.imm b hb).1, hup, rfl, hsize, fun b l hb => Nat.lt_of_lt_of_le (h.own b l hb) hsize, fun b hb => ⟨hlt' b hb, by
        rcases hdn b hb with h1 | h1
        · exact (h.imm b h1).2
        · show σ.ow b = none
          cases hq : σ.ow b with
          | none => rfl
          | some l => have := h.own b l hq; omega⟩⟩
    refine hK v w' { σ with I := I' } ⟨⟨hsize, fun b hb _ => hold b hb, hup, fun b hb => hold b (h.imm b hb).1, fun b hb => (hdn b hb).imp id fun h1 => (h.new b h1).1, fun _ _ => rfl, fun _ _ _ => rfl, hio⟩, h.same hsame, fun _ _ => SR_VR hv, fun _ _ _ _ e => by subst e; cases hpx⟩
theorem sim_doCall3 {v : St} {f : FuncId} {xs : List AV} {vs : List Value} (hR : RecOK C.P R) (h : Conc C st a w σ) (hbx : ∀ k cs, v.box C.E.dp k = some cs → st.box C.E.dp k = some cs) (hl : xs.length = vs.length) (hx : ∀ (i : Nat) (x : AV), xs[i]? = some x → ∃ n, SR C w σ st a n x (vs[i]?.getD undef))
    (he : doCall3 R C.E v f xs = some r) (hrun : bodied C.P f → (Go.execOp a.eval o).run C.P w = .ok (.enter f vs.toArray) w) : r.2 = v ∧ Sim C o d a w σ st r.1 := by
  unfold doCall3 at he
  split at he
  · rename_i hc
    simp only [Bool.and_eq_true] at hc
    obtain ⟨⟨q, hp'⟩, hq, he2⟩ := Option.bind_eq_some_iff.1 he
    clear he
    cases q with
    | new cs => cases he2
    | ret x => ?_
    simp only at he2
    split at he2
    · rename_i hp
      obtain rfl := Option.some.inj he2
      have hcp' : ∀ x ∈ xs, x.copy = true := fun x hx => List.all_eq_true.1 hc.1 x hx
      refine ⟨rfl, sim_call3 h hl hx hcp' hbx (fun k cs hk hkd c hcm => ?_) (hR.ro (C.E.dp + 1) f xs _ x hp' hq hcp') hrun⟩
      simp only [St.box, hkd, if_true] at hk
      exact deepL_mem (bget_all (p := fun y => AV.deepL C.E.dp y) _ hc.2 _ cs hk) c hcm
    · cases he2
  · cases he
theorem sim_c3v {v : St} {f : FuncId} {xs : List Opd} (hR : RecOK C.P R) (h : Conc C st a w σ) (hev : ∀ x, v.ev x ≠ .u → st.ev x = v.ev x) (hbx : ∀ k cs, v.box C.E.dp k = some cs → st.box C.E.dp k = some cs) (hl : lowOp C.P (.c3 f xs) o.op = true) (he : execOp R Ω C.E v d (.c3 f xs) = some r) :
    r.2 = v ∧ Sim C o d a w σ st r.1 := by
  simp only [lowOp] at hl; split at hl
  · rename_i c hop
    simp only [Bool.and_eq_true] at hl
    obtain ⟨h1, h2⟩ := hl
    split at h1
    · rename_i f' hcal
      have hff : f = f' := by simpa using h1
      obtain ⟨h3, h4⟩ := h.opds _ _ h2
      simp only [execOp] at he
      have hm : xs.map st.ev = xs.map v.ev := by
        apply List.map_congr_left
        intro x hxm
        refine hev x fun e => ?_
        unfold doCall3 at he
        split at he
        · rename_i hc
          simp only [Bool.and_eq_true] at hc
          have := List.all_eq_true.1 hc.1 _ (List.mem_map_of_mem hxm)
          rw [e] at this; cases this
        · cases he
      rw [hm] at h3 h4
      refine sim_doCall3 hR h hbx h3 h4 he fun hb => ?_
      have hev : a.eval (.func f') = .func (.func f') #[] #[] := rfl
      have hcf := run_callFunc hb (List.map a.eval c.args.toList).toArray w
      have ha : (List.map a.eval c.args.toList).toArray = c.args.map a.eval := by apply Array.ext'; simp
      rw [hff, ha] at hcf
      rw [hff, ha]
      unfold Go.execOp
      simp [hop, resolve, hcal, hev, Deferred.ofValue, invoke]
      exact hcf
    · cases h1
  · cases hl
theorem copyL_all : ∀ l : List AV, l.all AV.copy = true → AV.copyL l = true
  | [], _ => rfl
  | z :: zs, h => by
    simp only [List.all_cons, Bool.and_eq_true] at h
    simp only [AV.copyL, Bool.and_eq_true]
    exact ⟨h.1, copyL_all zs h.2⟩
theorem sim_d3v {v : St} {x : Opd} {xs : List Opd} (hR : RecOK C.P R) (h : Conc C st a w σ) (hev : ∀ x, v.ev x ≠ .u → st.ev x = v.ev x) (hbx : ∀ k cs, v.box C.E.dp k = some cs → st.box C.E.dp k = some cs) (hl : lowOp C.P (.d3 x xs) o.op = true) (he : execOp R Ω C.E v d (.d3 x xs) = some r) :
    r.2 = v ∧ Sim C o d a w σ st r.1 := by
  simp only [lowOp] at hl; split at hl
  · rename_i c hop
    simp only [Bool.and_eq_true] at hl
    obtain ⟨h1, h2⟩ := hl
    split at h1
    · rename_i y hcal
      obtain ⟨h3, h4⟩ := h.opds _ _ h2
      simp only [execOp] at he
      split at he
      · rename_i f caps hx
        have hx' : st.ev x = .f f caps := by rw [hev x (by rw [hx]; simp), hx]
        have hm : xs.map st.ev = xs.map v.ev := by
          apply List.map_congr_left
          intro z hzm
          refine hev z fun e => ?_
          unfold doCall3 at he
          split at he
          · rename_i hc
            simp only [Bool.and_eq_true] at hc
            have := List.all_eq_true.1 hc.1 _ (List.mem_append_left _ (List.mem_map_of_mem hzm))
            rw [e] at this; cases this
          · cases he
        rw [hm] at h3 h4
        have hcpf : AV.copy (.f f caps) = true := by
          unfold doCall3 at he
          split at he
          · rename_i hc
            simp only [Bool.and_eq_true, List.all_append] at hc
            show AV.copyL caps = true
            exact copyL_all caps hc.1.2
          · cases he
        have hv := (hx' ▸ h.opdV h1 (by rw [hx']; simp) (by rw [hx']; exact (by cases caps <;> rfl)))
        obtain ⟨vs, hvv, hcl, hcc⟩ := hv.f_inv
        refine sim_doCall3 (vs := c.args.toList.map a.eval ++ vs.toList) hR h hbx (by rw [List.length_append, List.length_append, h3, hcl]; simp) (fun i z hi => ?_) he fun hb => ?_
        · rw [List.getElem?_append] at hi ⊢
          rw [h3] at hi
          split
          · rename_i hlt
            rw [if_pos hlt] at hi
            exact h4 i z hi
          · rename_i hlt
            rw [if_neg hlt] at hi
            have := hcc _ z hi
            exact ⟨0, SR_VR (by simpa [Array.getD_eq_getD_getElem?] using this)⟩
        · unfold Go.execOp
          have hcf := run_callFunc hb (List.map a.eval c.args.toList ++ vs.toList).toArray w
          have ha : (List.map a.eval c.args.toList ++ vs.toList).toArray = c.args.map a.eval ++ vs := by apply Array.ext'; simp
          rw [ha] at hcf
          rw [ha]
          simp [hop, resolve, hcal, hvv, Deferred.ofValue, invoke]
          exact hcf
      · cases he
    · cases h1
  · cases hl
theorem sim_cn {f : FuncId} {xs : List Opd} (hR : RecOK C.P R) (h : Conc C st a w σ) (hl : lowOp C.P (.cn f xs) o.op = true) (he : execOp R Ω C.E st d (.cn f xs) = some r) : Sim C o d a w σ r.2 r.1 := by
  simp only [lowOp] at hl; split at hl
  · rename_i c hop
    simp only [Bool.and_eq_true] at hl
    obtain ⟨h1, h2⟩ := hl
    split at h1
    · rename_i f' hcal
      have hff : f = f' := by simpa using h1
      obtain ⟨h3, h4⟩ := h.opds _ _ h2
      simp only [execOp] at he
      obtain ⟨dd, hdd, he1⟩ := Option.bind_eq_some_iff.1 he
      clear he
      unfold doCallN at he1
      split at he1
      · rename_i hc
        simp only [Bool.and_eq_true, Bool.not_eq_true'] at hc
        obtain ⟨⟨hro, hcp⟩, hdp⟩ := hc
        obtain ⟨⟨q, hp'⟩, hq, he2⟩ := Option.bind_eq_some_iff.1 he1
        clear he1
        cases q with
        | ret x => cases he2
        | new cs => ?_
        simp only at he2
        split at he2
        · rename_i hno
          obtain rfl := Option.some.inj he2
          have hcp' : ∀ x ∈ xs.map st.ev, x.copy = true := fun x hx => List.all_eq_true.1 hcp x hx
          refine sim_callN hro h h3 h4 hcp' (fun d cs hb c hc => deepL_mem (bget_all (p := fun y => AV.deepL C.E.dp y) _ hdp d cs hb) c hc) (hR.new (C.E.dp + 1) f _ _ cs hp' hq hcp') hno fun hb => ?_
          have hev : a.eval (.func f') = .func (.func f') #[] #[] := rfl
          have hcf := run_callFunc hb (List.map a.eval c.args.toList).toArray w
          have ha : (List.map a.eval c.args.toList).toArray = c.args.map a.eval := by apply Array.ext'; simp
          rw [hff, ha] at hcf
          rw [hff, ha]
          unfold Go.execOp
          simp [hop, resolve, hcal, hev, Deferred.ofValue, invoke]
          exact hcf
        · cases he2
      · cases he1
    · cases h1
  · cases hl
theorem sim_cr {t : TypeId} {f : FuncId} {xs : List Opd} (hΩ : OrcOK C.P Ω) (h : Conc C st a w σ) (hl : lowOp C.P (.cr t f xs) o.op = true) (he : execOp R Ω C.E st d (.cr t f xs) = some r) : Sim C o d a w σ r.2 r.1 := by
  simp only [lowOp] at hl; split at hl
  · rename_i c hop
    simp only [Bool.and_eq_true] at hl
    obtain ⟨h1, h2⟩ := hl
    split at h1
    · rename_i f' hcal
      have hff : f = f' := by simpa using h1
      obtain ⟨h3, h4⟩ := h.opds _ _ h2
      simp only [execOp] at he
      obtain ⟨dd, hdd, he1⟩ := Option.bind_eq_some_iff.1 he
      clear he
      unfold doCallR at he1
      split at he1
      · rename_i hp
        obtain ⟨x, hx, he2⟩ := Option.bind_eq_some_iff.1 he1
        clear he1
        split at he2
        · split at he2
          · rename_i t' htt
            subst htt
            obtain rfl := Option.some.inj he2
            obtain ⟨hb, hpos, hcall⟩ := hΩ.row f _ _ hx (pureL_mem hp)
            have hrun : (Go.execOp a.eval o).run C.P w = .ok (.enter f (c.args.toList.map a.eval).toArray) w := by
              have hev : a.eval (.func f') = .func (.func f') #[] #[] := rfl
              have hcf := run_callFunc hb (List.map a.eval c.args.toList).toArray w
              have ha : (List.map a.eval c.args.toList).toArray = c.args.map a.eval := by apply Array.ext'; simp
              rw [hff, ha] at hcf
              rw [hff, ha]
              unfold Go.execOp
              simp [hop, resolve, hcal, hev, Deferred.ofValue, invoke]
              exact hcf
            intro K Q hK
            unfold Oper.wp
            rw [hrun, Oper.upon_enter]
            refine (hcall w σ.I σ.κ _ (h.new _ (Nat.le_refl _)).2 (fun b hb => (h.imm b hb).1) (by rw [List.size_toArray]; exact h3.symm) (fun i y hi => ?_)).mono ?_
            · obtain ⟨n, hn⟩ := h4 i y hi
              have := hn.toVR (pure_copy _ (pureL_mem hp y (List.mem_of_getElem? hi)))
              simpa [Array.getD_eq_getD_getElem?] using this
            · rintro e w' ⟨v, rfl, hv, hsize, hold, hio⟩
              rcases hv with rfl | ⟨g, cap, cs, rfl, hg, hh, hcap, hcs⟩
              · have hsame : Same C w σ w' σ none := ⟨fun b l hb _ => ⟨hold b (h.own b l hb), hb⟩, fun b hb => hold b (h.imm b hb).1, fun _ h => h, rfl, hsize, fun b l hb => Nat.lt_of_lt_of_le (h.own b l hb) hsize, fun b hb => ⟨Nat.lt_of_lt_of_le (h.imm b hb).1 hsize, (h.imm b hb).2⟩⟩
                exact hK _ w' σ (Conc.own_put hdd ⟨hsize, fun b hb _ => hold b hb, fun _ h => h, fun b hb => hold b (h.imm b hb).1, fun _ h => .inl h, fun _ _ => rfl, fun _ _ _ => rfl, hio⟩ ((h.same hsame).dropB _) (.inl ⟨rfl, rfl⟩))
              · have hgl : g < w'.heap.size := by
                  apply Classical.byContradiction
                  intro hn
                  rw [Array.getElem?_eq_none (by omega)] at hh
                  cases hh
                have hne : ∀ b, b < w.heap.size → b ≠ g := fun b hb e => by omega
                have hsame : Same C w σ w' (σ.add g (some (.rowS C.E.dp dd))) none := by
                  refine ⟨fun b l hb _ => ⟨hold b (h.own b l hb), ?_⟩, fun b hb => hold b (h.imm b hb).1, fun _ h => h, rfl, hsize, fun b l hb => ?_, fun b hb => ⟨Nat.lt_of_lt_of_le (h.imm b hb).1 hsize, ?_⟩⟩
                  · simp only [Sp.add, if_neg (hne b (h.own b l hb)), hb]
                  · simp only [Sp.add] at hb
                    split at hb
                    · omega
                    · exact Nat.lt_of_lt_of_le (h.own b l hb) hsize
                  · have hb' : σ.I b := hb
                    simp only [Sp.add, if_neg (hne b (h.imm b hb').1)]
                    exact (h.imm b hb').2
                refine hK _ w' (σ.add g (some (.rowS C.E.dp dd))) (Conc.own_put hdd ⟨hsize, fun b hb _ => hold b hb, fun _ h => h, fun b hb => hold b (h.imm b hb).1, fun _ h => .inl h, fun _ _ => rfl, fun b hb _ => if_neg (hne b hb), hio⟩ ((h.same hsame).dropB _) (.inr ⟨g, cap, cs, rfl, ?_⟩))
                exact ⟨by simp [Sp.add], fun _ => (h.new g hg).1, hh, hpos, (fun e he => by cases he), Nat.zero_le _, hcap, hcs, (fun e he => by cases he), (fun e he => by cases he), (fun j e m c he => by simp at he), (h.new g hg).2⟩
          · cases he2
        · cases he2
      · cases he1
    · cases h1
  · cases hl
theorem sim_doCall2 {f : FuncId} {xs : List AV} {vs : List Value} (hR : RecOK C.P R) (hΩ : OrcOK C.P Ω) (h : Conc C st a w σ) (hl : xs.length = vs.length) (hx : ∀ (i : Nat) (x : AV), xs[i]? = some x → ∃ n, SR C w σ st a n x (vs[i]?.getD undef))
    (he : doCall2 R Ω C.E st f xs = some r) (hrun : bodied C.P f → (Go.execOp a.eval o).run C.P w = .ok (.enter f vs.toArray) w) : Sim C o d a w σ r.2 r.1 := by
  unfold doCall2 at he
  split at he
  · exact sim_doCall hR hΩ h hl hx he hrun
  split at he
  · rename_i hc
    simp only [Bool.and_eq_true, Bool.not_eq_true'] at hc
    obtain ⟨⟨hro, hcp⟩, hdp⟩ := hc
    obtain ⟨⟨q, hp'⟩, hq, he2⟩ := Option.bind_eq_some_iff.1 he
    clear he
    cases q with
    | new cs => cases he2
    | ret x => ?_
    obtain rfl := Option.some.inj he2
    have hcp' : ∀ x ∈ xs, x.copy = true := fun x hx => List.all_eq_true.1 hcp x hx
    exact sim_call2 hro h hl hx hcp' (fun d cs hb c hc => deepL_mem (bget_all (p := fun y => AV.deepL C.E.dp y) _ hdp d cs hb) c hc) (hR.ret (C.E.dp + 1) f xs _ x hp' hq hcp') hrun
  · cases he
theorem sim_c2 {f : FuncId} {xs : List Opd} (hR : RecOK C.P R) (hΩ : OrcOK C.P Ω) (h : Conc C st a w σ) (hl : lowOp C.P (.c2 f xs) o.op = true) (he : execOp R Ω C.E st d (.c2 f xs) = some r) :
    Sim C o d a w σ r.2 r.1 := by
  simp only [lowOp] at hl; split at hl
  · rename_i c hop
    simp only [Bool.and_eq_true] at hl
    obtain ⟨h1, h2⟩ := hl
    split at h1
    · rename_i f' hcal
      have hff : f = f' := by simpa using h1
      obtain ⟨h3, h4⟩ := h.opds _ _ h2
      simp only [execOp] at he
      refine sim_doCall2 hR hΩ h h3 h4 he fun hb => ?_
      have hev : a.eval (.func f') = .func (.func f') #[] #[] := rfl
      have hcf := run_callFunc hb (List.map a.eval c.args.toList).toArray w
      have ha : (List.map a.eval c.args.toList).toArray = c.args.map a.eval := by apply Array.ext'; simp
      rw [hff, ha] at hcf
      rw [hff, ha]
      unfold Go.execOp
      simp [hop, resolve, hcal, hev, Deferred.ofValue, invoke]
      exact hcf
    · cases h1
  · cases hl
theorem sim_d2 {x : Opd} {xs : List Opd} (hR : RecOK C.P R) (hΩ : OrcOK C.P Ω) (h : Conc C st a w σ) (hl : lowOp C.P (.d2 x xs) o.op = true) (he : execOp R Ω C.E st d (.d2 x xs) = some r) :
    Sim C o d a w σ r.2 r.1 := by
  simp only [lowOp] at hl; split at hl
  · rename_i c hop
    simp only [Bool.and_eq_true] at hl
    obtain ⟨h1, h2⟩ := hl
    split at h1
    · rename_i y hcal
      obtain ⟨h3, h4⟩ := h.opds _ _ h2
      simp only [execOp] at he
      split at he
      · rename_i f caps hx
        have hv := (hx ▸ h.opdV h1 (by rw [hx]; simp) (by rw [hx]; rfl))
        obtain ⟨vs, hvv, hcl, hcc⟩ := hv.f_inv
        refine sim_doCall2 (vs := c.args.toList.map a.eval ++ vs.toList) hR hΩ h (by rw [List.length_append, List.length_append, h3, hcl]; simp) (fun i z hi => ?_) he fun hb => ?_
        · rw [List.getElem?_append] at hi ⊢
          rw [h3] at hi
          split
          · rename_i hlt
            rw [if_pos hlt] at hi
            exact h4 i z hi
          · rename_i hlt
            rw [if_neg hlt] at hi
            have := hcc _ z hi
            exact ⟨0, SR_VR (by simpa [Array.getD_eq_getD_getElem?] using this)⟩
        · unfold Go.execOp
          have hcf := run_callFunc hb (List.map a.eval c.args.toList ++ vs.toList).toArray w
          have ha : (List.map a.eval c.args.toList ++ vs.toList).toArray = c.args.map a.eval ++ vs := by apply Array.ext'; simp
          rw [ha] at hcf
          rw [ha]
          simp [hop, resolve, hcal, hvv, Deferred.ofValue, invoke]
          exact hcf
      · cases he
    · cases h1
  · cases hl

/-- what is off a type may be told where old lists bear other types. -/
theorem VR.other {B B' : Base} {w : World} {I : Nat → Prop} {κ : Key → Nat} {t : TypeId} (hI : ∀ b, I b → b < B'.n0) (htg : ∀ s, s ≠ t → B'.tg s = true) {x : AV} {v : Value} (h : @VR B w I κ x v) (hx : x.off [t] = true) : @VR B' w I κ x v := by
  induction h with
  | u v => exact .u v
  | sk => exact .sk
  | b x => exact .b x
  | i k n => exact .i k n
  | s l => exact .s l
  | n => exact .n
  | z => exact .z
  | nf => exact .nf
  | ni => exact .ni
  | lnil t A cap => exact .lnil t A cap
  | l s es g o cap cs T fz sz hI0 hh0 ht hsz hnc hsize hp h1 hcap hmax hc ih =>
    cases es with
    | nil => exact .lnil _ _ _
    | cons e0 es =>
      have hx' : (s ≠ 0 ∧ s ≠ t) ∧ AV.offL [t] (e0 :: es) = true := by
        simpa [AV.off, Bool.and_assoc, and_assoc] using hx
      exact @VR.l B' w I κ s (e0 :: es) g o cap cs T fz sz hI0 hh0 (fun _ => ⟨fun hg => absurd (hI g hI0) (Nat.not_lt_of_le hg), fun _ => htg s hx'.1.2⟩) hsz hnc hsize hp h1 hcap hmax fun j e m c he hc' => ih j e m c he hc' (off_cl (offL_mem hx'.2 e (List.mem_of_getElem? he)) c (List.mem_of_getElem? hc'))
  | e x off g o cs T fz hI0 hh0 hp hsize h1 hc ih => simp [AV.off] at hx
  | f g caps vs hl hc ih => exact .f g caps vs hl fun m c hc' => ih m c hc' (offL_mem (by simpa [AV.off] using hx) c (List.mem_of_getElem? hc'))
  | a cs vs hl h1 hc ih => exact .a cs vs hl h1 fun m c hc' => ih m c hc' (offL_mem (by simpa [AV.off] using hx) c (List.mem_of_getElem? hc'))
  | tp cs vs hl hc ih => exact .tp cs vs hl fun m c hc' => ih m c hc' (offL_mem (by simpa [AV.off] using hx) c (List.mem_of_getElem? hc'))
  | ifc t x v h ih => exact .ifc t x v (ih (by simpa [AV.off] using hx))
  | p k off => exact .p k off
  | sp k off n sz cap h1 h2 => exact .sp k off n sz cap h1 h2
theorem VR.unt1 {B B' : Base} {w : World} {I : Nat → Prop} {κ : Key → Nat} {t : TypeId} (hI : ∀ b, I b → b < B'.n0) (htg : ∀ s, s ≠ t → B'.tg s = true) {x y : AV} {v : Value} (h : @VR B w I κ x v) (hx : AV.unt1 t x = some y) :
    @VR B' w I κ y v ∧ y.pure = true ∧ (x.one = true → y.one = true) := by
  unfold AV.unt1 at hx
  split at hx
  · rename_i s es
    split at hx
    · rename_i ho
      obtain rfl := Option.some.inj hx
      refine ⟨?_, rfl, fun _ => rfl⟩
      cases h with
      | lnil _ A cap => exact .lnil _ _ _
      | l _ _ g o cap cs T fz sz hI0 hh0 ht hsz hnc hsize hp h1 hcap hmax hc =>
        refine @VR.l B' w I κ (if s = t then 0 else s) es g o cap cs T fz sz hI0 hh0 (fun hne => ⟨fun hg => absurd (hI g hI0) (Nat.not_lt_of_le hg), fun _ => htg _ fun e => ?_⟩) hsz hnc hsize hp h1 hcap hmax fun j e m c he hc' => (hc j e m c he hc').other hI htg (off_cl (offL_mem ho e (List.mem_of_getElem? he)) c (List.mem_of_getElem? hc'))
        split at e
        · rename_i hs; rw [if_pos hs] at hne; exact hne rfl
        · rename_i hs; exact hs e
    · cases hx
  · split at hx
    · rename_i hc
      simp only [Bool.and_eq_true] at hc
      obtain rfl := Option.some.inj hx
      exact ⟨h.other hI htg hc.2, hc.1, id⟩
    · cases hx
theorem unt1L_get {t : TypeId} : ∀ {xs ys : List AV}, AV.unt1L t xs = some ys → ys.length = xs.length ∧ ∀ (m : Nat) (y : AV), ys[m]? = some y → ∃ x, xs[m]? = some x ∧ AV.unt1 t x = some y
  | [], ys, h => by
    obtain rfl := Option.some.inj h
    exact ⟨rfl, fun m y hm => by simp at hm⟩
  | x :: xs, ys, h => by
    obtain ⟨y, h1, h2⟩ := Option.bind_eq_some_iff.1 h
    obtain ⟨zs, h3, h4⟩ := Option.bind_eq_some_iff.1 h2
    obtain rfl := Option.some.inj h4
    obtain ⟨h5, h6⟩ := unt1L_get h3
    refine ⟨by simp [h5], fun m z hm => ?_⟩
    cases m with
    | zero => obtain rfl : y = z := by simpa using hm
              exact ⟨x, rfl, h1⟩
    | succ m => simpa using h6 m z (by simpa using hm)
theorem untL_get {t : TypeId} : ∀ {xs ys : List AV}, AV.untL t xs = some ys → ys.length = xs.length ∧ ∀ (m : Nat) (y : AV), ys[m]? = some y → ∃ x, xs[m]? = some x ∧ AV.unt t x = some y
  | [], ys, h => by
    obtain rfl := Option.some.inj h
    exact ⟨rfl, fun m y hm => by simp at hm⟩
  | x :: xs, ys, h => by
    obtain ⟨y, h1, h2⟩ := Option.bind_eq_some_iff.1 h
    obtain ⟨zs, h3, h4⟩ := Option.bind_eq_some_iff.1 h2
    obtain rfl := Option.some.inj h4
    obtain ⟨h5, h6⟩ := untL_get h3
    refine ⟨by simp [h5], fun m z hm => ?_⟩
    cases m with
    | zero => obtain rfl : y = z := by simpa using hm
              exact ⟨x, rfl, h1⟩
    | succ m => simpa using h6 m z (by simpa using hm)
theorem VR.unt {B B' : Base} {w : World} {I : Nat → Prop} {κ : Key → Nat} {t : TypeId} (hI : ∀ b, I b → b < B'.n0) (htg : ∀ s, s ≠ t → B'.tg s = true) {x y : AV} {v : Value} (h : @VR B w I κ x v) (hx : AV.unt t x = some y) :
    @VR B' w I κ y v ∧ y.pure = true := by
  unfold AV.unt at hx
  split at hx
  · rename_i cs
    obtain ⟨ys, h1, rfl⟩ := Option.map_eq_some_iff.1 hx
    obtain ⟨h2, h3⟩ := unt1L_get h1
    cases h with
    | a _ vs hl h1 hc =>
      refine ⟨@VR.a B' w I κ ys vs (by omega) (fun c hm => ?_) fun m c hm => ?_, ?_⟩
      · obtain ⟨m, hm⟩ := List.mem_iff_getElem?.1 hm
        obtain ⟨x, h4, h5⟩ := h3 m c hm
        exact ((hc m x h4).unt1 hI htg h5).2.2 (h1 x (List.mem_of_getElem? h4))
      · obtain ⟨x, h4, h5⟩ := h3 m c hm
        exact ((hc m x h4).unt1 hI htg h5).1
      · refine pureL_of fun c hm => ?_
        obtain ⟨m, hm⟩ := List.mem_iff_getElem?.1 hm
        obtain ⟨x, h4, h5⟩ := h3 m c hm
        exact ((hc m x h4).unt1 hI htg h5).2.1
  · have := h.unt1 hI htg hx
    exact ⟨this.1, this.2.1⟩
theorem onlyTL_mem {t : TypeId} {l : List AV} (h : AV.onlyTL t l = true) : ∀ x ∈ l, AV.onlyT t x = true := by
  induction l with
  | nil => intro x hx; cases hx
  | cons y l ih =>
    simp only [AV.onlyTL, Bool.and_eq_true] at h
    intro x hx
    rcases List.mem_cons.1 hx with rfl | hx
    · exact h.1
    · exact ih h.2 x hx
theorem onlyT_cl {t : TypeId} {x : AV} (h : AV.onlyT t x = true) : ∀ c ∈ x.cl, AV.onlyT t c = true := by
  intro c hc
  cases x <;> simp only [AV.cl, List.mem_singleton] at hc <;> first | (subst hc; exact h) | skip
  exact onlyTL_mem (by simpa [AV.onlyT] using h) c hc
/-- what bears that type alone, and no old list bears it, lies in new memory. -/
theorem VR.fresh {B' B : Base} {w : World} {I J : Nat → Prop} {κ : Key → Nat} {t : TypeId} (h0 : t ≠ 0) (htg : B'.tg t = false) (hn : B.n0 ≤ B'.n0) (hJ : ∀ b, I b → B'.n0 ≤ b → (∃ cs, w.heap[b]? = some (.cells cs t (0, 0))) → J b)
    {x : AV} {v : Value} (h : @VR B' w I κ x v) (hx : AV.onlyT t x = true) : @VR B w J κ x v := by
  induction h with
  | u v => exact .u v
  | sk => exact .sk
  | b x => exact .b x
  | i k n => exact .i k n
  | s l => exact .s l
  | n => exact .n
  | z => exact .z
  | nf => exact .nf
  | ni => exact .ni
  | lnil t A cap => exact .lnil t A cap
  | l s es g o cap cs T fz sz hI0 hh0 ht hsz hnc hsize hp h1 hcap hmax hc ih =>
    cases es with
    | nil => exact .lnil _ _ _
    | cons e0 es =>
      have hx' : s = t ∧ AV.onlyTL t (e0 :: es) = true := by
        simpa [AV.onlyT] using hx
      obtain ⟨rfl, hx2⟩ := hx'
      have hg : B'.n0 ≤ g := by
        rcases Nat.lt_or_ge g B'.n0 with hlt | hge
        · have := (ht h0).2 hlt
          rw [htg] at this; cases this
        · exact hge
      obtain ⟨rfl, rfl⟩ := (ht h0).1 hg
      exact @VR.l B w J κ T (e0 :: es) g o cap cs T (0, 0) sz (hJ g hI0 hg ⟨_, hh0⟩) hh0 (fun _ => ⟨fun _ => ⟨rfl, rfl⟩, fun h => absurd (Nat.le_trans hn hg) (Nat.not_le_of_lt h)⟩) hsz hnc hsize hp h1 hcap hmax
        fun j e m c he hc' => ih j e m c he hc' (onlyT_cl (onlyTL_mem hx2 e (List.mem_of_getElem? he)) c (List.mem_of_getElem? hc'))
  | e x off g o cs T fz hI0 hh0 hp hsize h1 hc ih => simp [AV.onlyT] at hx
  | f g caps vs hl hc ih => exact .f g caps vs hl fun m c hc' => ih m c hc' (onlyTL_mem (by simpa [AV.onlyT] using hx) c (List.mem_of_getElem? hc'))
  | a cs vs hl h1 hc ih => exact .a cs vs hl h1 fun m c hc' => ih m c hc' (onlyTL_mem (by simpa [AV.onlyT] using hx) c (List.mem_of_getElem? hc'))
  | tp cs vs hl hc ih => exact .tp cs vs hl fun m c hc' => ih m c hc' (onlyTL_mem (by simpa [AV.onlyT] using hx) c (List.mem_of_getElem? hc'))
  | ifc t x v h ih => exact .ifc t x v (ih (by simpa [AV.onlyT] using hx))
  | p k off => exact .p k off
  | sp k off n sz cap h1 h2 => exact .sp k off n sz cap h1 h2

/-- old memory is what there is now, and no old list bears that type. -/
abbrev newB (w : World) (t : TypeId) : Base := ⟨w.heap.size, fun s => s != t⟩
/-- a call whose answer lies in new memory. -/
theorem sim_cw {t : TypeId} {f : FuncId} {xs : List Opd} (hR : RecAll C.P R) (h : Conc C st a w σ) (hl : lowOp C.P (.cw t f xs) o.op = true) (he : execOp R Ω C.E st d (.cw t f xs) = some r) : Sim C o d a w σ r.2 r.1 := by
  simp only [lowOp] at hl; split at hl
  · rename_i c hop
    simp only [Bool.and_eq_true] at hl
    obtain ⟨h1, h2⟩ := hl
    split at h1
    · rename_i f' hcal
      obtain rfl : f = f' := by simpa using h1
      obtain ⟨h3, h4⟩ := h.opds _ _ h2
      simp only [execOp] at he
      obtain ⟨dd, hdd0, he1⟩ := Option.bind_eq_some_iff.1 he
      clear he
      subst hdd0
      unfold doCallW at he1
      split at he1
      · rename_i hc
        simp only [Bool.and_eq_true, bne_iff_ne] at hc
        obtain ⟨ys, hys, he2⟩ := Option.bind_eq_some_iff.1 he1
        clear he1
        obtain ⟨⟨q, hp'⟩, hq, he3⟩ := Option.bind_eq_some_iff.1 he2
        clear he2
        cases q with
        | new cs => cases he3
        | ret x => ?_
        simp only at he3
        split at he3
        · rename_i hx
          simp only [Bool.and_eq_true] at hx
          obtain rfl := Option.some.inj he3
          obtain ⟨hlen, hget⟩ := untL_get hys
          have hI : ∀ b, σ.I b → b < (newB w t).n0 := fun b hb => (h.imm b hb).1
          have htg : ∀ s, s ≠ t → (newB w t).tg s = true := fun s hs => by show (s != t) = true; simpa using hs
          have harg : ∀ (i : Nat) (y : AV), ys[i]? = some y → @VR (newB w t) w σ.I σ.κ y ((List.map a.eval c.args.toList)[i]?.getD undef) ∧ y.pure = true := by
            intro i y hi
            obtain ⟨x0, h5, h6⟩ := hget i y hi
            obtain ⟨n, hn⟩ := h4 i x0 h5
            exact (hn.toVR (pure_copy _ (pureL_mem hc.2 x0 (List.mem_of_getElem? h5)))).unt hI htg h6
          have hok : @CallOK (newB w t) C.P f ys x := @RecOK.pure (newB w t) C.P R (hR (newB w t)) f ys x hp' hq (fun y hy => by
            obtain ⟨i, hi⟩ := List.mem_iff_getElem?.1 hy
            exact (harg i y hi).2)
          obtain ⟨hb, hcall⟩ := hok
          have hrun : (Go.execOp a.eval o).run C.P w = .ok (.enter f (c.args.map a.eval)) w := by
            have hev : a.eval (.func f) = .func (.func f) #[] #[] := rfl
            have hcf := run_callFunc hb (List.map a.eval c.args.toList).toArray w
            have ha : (List.map a.eval c.args.toList).toArray = c.args.map a.eval := by apply Array.ext'; simp
            rw [ha] at hcf
            unfold Go.execOp
            simp [hop, resolve, hcal, hev, Deferred.ofValue, invoke]
            exact hcf
          intro K Q hK
          unfold Oper.wp
          rw [hrun, Oper.upon_enter]
          refine (hcall w σ.I σ.κ (c.args.map a.eval) ⟨Nat.le_refl _, h.lay⟩ (fun b hb => (h.imm b hb).1) (by rw [hlen]; simpa using h3.symm) (fun i y hi => ?_)).mono ?_
          · have := (harg i y hi).1
            simpa [Array.getD_eq_getD_getElem?] using this
          · rintro e w' ⟨v, I', rfl, hv, hsize, hold, hup, hdn, hlt', hio⟩
            let J : Nat → Prop := fun b => I' b ∧ w.heap.size ≤ b
            let σ' : Sp := { σ with ow := fun b => open Classical in if J b then some (.grp C.E.dp dd) else σ.ow b }
            have hnJ : ∀ b, b < w.heap.size → σ'.ow b = σ.ow b := fun b hb => if_neg fun h => Nat.not_le_of_lt hb h.2
            have hsame : Same C w σ w' σ' none :=
              ⟨fun b l hb _ => ⟨hold b (h.own b l hb), (hnJ b (h.own b l hb)).trans hb⟩, fun b hb => hold b (h.imm b hb).1, fun _ hb => hb, rfl, hsize, fun b l hb => by
                by_cases hj : J b
                · exact hlt' b hj.1
                · have : σ.ow b = some l := by rw [← hb]; exact (if_neg hj).symm
                  exact Nat.lt_of_lt_of_le (h.own b l this) hsize, fun b hb => ⟨Nat.lt_of_lt_of_le (h.imm b hb).1 hsize, (hnJ b (h.imm b hb).1).trans (h.imm b hb).2⟩⟩
            refine hK v w' σ' ⟨⟨hsize, fun b hb _ => hold b hb, fun _ hb => hb, hsame.imm, fun b hb => .inl hb, fun _ _ => rfl, fun b hb _ => hnJ b hb, hio⟩, h.same hsame, fun dd' hdd => ?_, fun _ _ _ _ e => by cases e⟩
            obtain rfl := Option.some.inj hdd
            refine ⟨hx.1, VR.fresh (B' := newB w t) hc.1 (by show (t != t) = false; simp) (h.new _ (Nat.le_refl _)).2 (fun b hb hge hh => ⟨if_pos ⟨hb, hge⟩, (h.new b hge).1, (h.new b hge).2, hh⟩) hv hx.2⟩
        · cases he3
      · cases he1
    · cases h1
  · cases hl
theorem WAt.wrap {y : AV} {g : Nat} {t : TypeId} {v : Value} {n : Nat} (h : WAt C.W C.E.dp w σ g t y v) : SR C w σ st a n (wrapW g t y) v := by
  unfold wrapW
  split
  · obtain ⟨_, h⟩ := h
    cases h; exact .i _ _
  · obtain ⟨_, h⟩ := h
    cases h; exact .b _
  · exact h
theorem sim_xw {x : Opd} {i : Nat} (h : Conc C st a w σ) (hl : lowOp C.P (.xw x i) o.op = true) (he : execOp R Ω C.E st d (.xw x i) = some r) : Sim C o d a w σ r.2 r.1 := by
  obtain ⟨y, hop, hlo⟩ : ∃ y, o.op = .extract y i ∧ lowO y x = true := by
    simp only [lowOp] at hl; split at hl
    · rename_i y i' hy
      simp only [Bool.and_eq_true, beq_iff_eq] at hl
      exact ⟨y, by rw [hy, hl.2], hl.1⟩
    · cases hl
  simp only [execOp] at he
  split at he
  · rename_i g t vs hx
    obtain ⟨z, hz, he⟩ := Option.bind_eq_some_iff.1 he
    obtain rfl := Option.some.inj he
    cases x with
    | c q =>
      have := opd_pure hlo
      simp only [St.ev] at hx
      rw [hx] at this; cases this
    | t n =>
      have hs := h.slot hlo
      simp only [St.ev] at hx
      rw [hx] at hs
      obtain ⟨hp, hv⟩ := hs
      obtain ⟨us, hu, hlen, hc⟩ := hv.tp_inv
      have hv := hc i z hz
      have hi : i < us.size := by
        rcases Nat.lt_or_ge i vs.length with h1 | h1
        · omega
        · simp [h1] at hz
      have hr : (Go.execOp a.eval o).run C.P w = .ok (.value us[i]) w := by unfold Go.execOp; simp [hop, hu, Instr.extract, hi]
      simp only [hi, Array.getD_eq_getD_getElem?, getElem?_pos, Option.getD_some] at hv
      have hw : WAt C.W C.E.dp w σ g t z us[i] := ⟨pureL_mem (by simpa [AV.pure] using hp) z (List.mem_of_getElem? hz), hv⟩
      exact .of_run hr ⟨.refl _ _ _, h, fun _ _ => hw.wrap, fun _ _ _ _ e => by unfold wrapW at e; split at e <;> cases e⟩
  · cases he
theorem unwL_get {g : Nat} {t : TypeId} : ∀ {xs ys : List AV}, unwL g t xs = some ys → ys.length = xs.length ∧ ∀ (m : Nat) (y : AV), ys[m]? = some y → xs[m]? = some (.w g t y)
  | [], ys, h => by
    obtain rfl := Option.some.inj h
    exact ⟨rfl, fun m y hm => by simp at hm⟩
  | x :: xs, ys, h => by
    cases x <;> first | (cases h; done) | skip
    rename_i g' t' x
    simp only [unwL] at h
    split at h
    · rename_i hc
      obtain ⟨zs, h3, h4⟩ := Option.bind_eq_some_iff.1 h
      obtain rfl := Option.some.inj h4
      obtain ⟨h5, h6⟩ := unwL_get h3
      obtain ⟨rfl, rfl⟩ := hc
      refine ⟨by simp [h5], fun m z hm => ?_⟩
      cases m with
      | zero => obtain rfl : x = z := by simpa using hm
                rfl
      | succ m => simpa using h6 m z (by simpa using hm)
    · cases h
theorem sim_lw {n : Nat} {x : Opd} (h : Conc C st a w σ) (hl : lowOp C.P (.lw n x) o.op = true) (he : execOp R Ω C.E st d (.lw n x) = some r) : Sim C o d a w σ r.2 r.1 := by
  obtain ⟨t, y, hop, hlo, hn⟩ : ∃ t y, o.op = .load t y ∧ lowO y x = true ∧ lowN C.P t (some n) = true := by
    simp only [lowOp] at hl; split at hl
    · rename_i t y hy
      simp only [Bool.and_eq_true] at hl
      exact ⟨t, y, hy, hl.1.1, hl.2⟩
    · cases hl
  simp only [execOp] at he
  split at he
  · rename_i k b hx
    obtain ⟨cs, hbx, he⟩ := Option.bind_eq_some_iff.1 he
    split at he
    · rename_i hle
      obtain ⟨⟨g, t', ys⟩, hu, he⟩ := Option.bind_eq_some_iff.1 he
      simp only at he
      split at he
      · rename_i hone
        obtain rfl := Option.some.inj he
        have hv := (hx ▸ h.opdV hlo (by rw [hx]; simp) (by rw [hx]; rfl)).p_inv
        obtain ⟨vs, T, hB⟩ := h.bx k cs hbx
        have hul : unwL g t' ((cs.drop b).take n) = some ys := by
          unfold unw at hu
          split at hu
          · rename_i g0 t0 x0 xs0 hq
            obtain ⟨zs, h1, h2⟩ := Option.bind_eq_some_iff.1 hu
            have e := Option.some.inj h2
            simp only [Prod.mk.injEq] at e
            obtain ⟨rfl, rfl, rfl⟩ := e
            rw [hq]; exact h1
          · cases hu
        obtain ⟨hlen, hget⟩ := unwL_get hul
        have hlen' : ys.length = n := by rw [hlen]; simp; omega
        have hcell : ∀ (j : Nat) (c : AV), ys[j]? = some c → WAt C.W C.E.dp w σ g t' c (vs.getD (b + j) undef) := by
          intro j c hj
          have h5 := hget j c hj
          rw [List.getElem?_take] at h5
          split at h5
          · rw [List.getElem?_drop] at h5
            exact hB.cell (b + j) _ h5
          · cases h5
        have hpu : AV.pureL ys = true := pureL_of fun c hc => by
          obtain ⟨j, hj⟩ := List.mem_iff_getElem?.1 hc
          exact (hcell j c hj).1
        obtain ⟨v, hr, hvr⟩ := load_pick (P := C.P) (I := fun b => σ.ow b = some (.grp C.E.dp g) ∧ C.W b ∧ Base.n0 ≤ b ∧ ∃ cs, w.heap[b]? = some (.cells cs t' (0, 0))) (κ := σ.κ) (b := b) (cs := ys) (off := 0) (n := some n) (y := .a ys) hB.hh
          (by have := hB.size; omega) (fun off c hc _ => (hcell off c hc).2) (fun c hc _ => List.all_eq_true.1 hone c hc) (pure_copy _ hpu) (by simp only [pick, Nat.zero_add, hlen', Nat.le_refl, if_true, List.drop_zero]; rw [List.take_of_length_le (by omega)]) hn
        have hrun : (Go.execOp a.eval o).run C.P w = .ok (.value v) w := by
          rw [Nat.add_zero] at hr
          unfold Go.execOp
          simp [hop, hv, Instr.loadAt, Instr.sureAddr, hr]
        exact .of_run hrun ⟨.refl _ _ _, h, fun _ _ => ⟨hpu, hvr⟩, fun _ _ _ _ e => by cases e⟩
      · cases he
    · cases he
  · cases he
theorem sim_sw {n : Nat} {x y : Opd} (h : Conc C st a w σ) (hl : lowOp C.P (.sw n x y) o.op = true) (he : execOp R Ω C.E st d (.sw n x y) = some r) : Sim C o d a w σ r.2 r.1 := by
  obtain ⟨t, x', y', hop, hlx, hly, hsz⟩ : ∃ t x' y', o.op = .store t x' y' ∧ lowO x' x = true ∧ lowO y' y = true ∧ sized C.P t n = true := by
    simp only [lowOp] at hl; split at hl
    · rename_i t x' y' hy
      simp only [Bool.and_eq_true] at hl
      exact ⟨t, x', y', hy, hl.1.1, hl.1.2, hl.2⟩
    · cases hl
  simp only [execOp] at he
  split at he
  · rename_i k off hx
    split at he
    · rename_i hk
      obtain ⟨hkd, rfl⟩ := hk
      obtain ⟨bs, hbs, he⟩ := Option.bind_eq_some_iff.1 he
      split at he
      · rename_i g t' cs hy
        split at he
        · rename_i hn
          obtain ⟨hn, hle⟩ := hn
          obtain rfl := Option.some.inj he
          have hv := (hx ▸ h.opdV hlx (by rw [hx]; simp) (by rw [hx]; rfl)).p_inv
          have hbx : st.box C.E.dp k = some bs := by simp only [St.box, if_pos hkd]; exact hbs
          obtain ⟨vs, T, hB⟩ := h.bx k bs hbx
          cases y with
          | c q =>
            have := opd_pure hly
            simp only [St.ev] at hy
            rw [hy] at this; cases this
          | t m =>
            have hs := h.slot hly
            simp only [St.ev] at hy
            rw [hy] at hs
            obtain ⟨hp, hw⟩ := hs
            obtain ⟨us, hu, hlen, h1, hc⟩ := hw.a_inv
            have hcs : (a.eval y').cells = us := by rw [hu]; rfl
            have hmine : (Pl.c k 0).mine C.E = true := by simp [Pl.mine, hkd]
            have hone : ∀ u ∈ us.toList, u.oneCell' = true := by
              intro u hm
              obtain ⟨j, hj⟩ := List.mem_iff_getElem?.1 hm
              have hjl : j < cs.length := by have := lt_of_get hj; simp at this; omega
              have := hc j _ (List.getElem?_eq_getElem hjl)
              have e : us.getD j undef = u := by
                rw [Array.getElem?_toList] at hj
                simp [Array.getD_eq_getD_getElem?, hj]
              rw [e] at this
              exact this.oneCell (h1 _ (List.getElem_mem hjl))
            have hr : (Instr.storeAt t (a.eval x') (a.eval y')).run C.P w = .ok () (w.setRow (σ.κ k) (wrt vs 0 us.toList)) := by
              rw [hv]
              have := run_storeAt (C := C) (w := w) (t := t) (off := 0) (v := a.eval y') (n := n) hB.hh hsz (by rw [hcs]; omega) (by have := hB.size; omega) (by rw [hcs]; exact hone)
              rwa [hcs] at this
            have hrun : (Go.execOp a.eval o).run C.P w = .ok .skip (w.setRow (σ.κ k) (wrt vs 0 us.toList)) := by
              unfold Go.execOp
              simp [hop, hr]
            refine .of_skip hrun ⟨.setRow h hB.ow (hB.wr hmine) _, ?_, fun _ _ => VR.u _, fun _ _ _ _ e => by cases e⟩
            refine h.storeBox hbx hB (by simp [hlen]) (by simp; omega) (fun c hm => ?_) (fun j c hj => ?_) (fun j t es hj => ?_) (fun hne => absurd hkd hne) (fun t' _ _ ht => by obtain ⟨c', _, e⟩ := List.mem_map.1 ht; cases e)
            · obtain ⟨c', _, rfl⟩ := List.mem_map.1 hm; rfl
            · rw [List.getElem?_map] at hj
              obtain ⟨c', hj', rfl⟩ := Option.map_eq_some_iff.1 hj
              have := hc j c' hj'
              refine ⟨pureL_mem (by simpa [AV.pure] using hp) c' (List.mem_of_getElem? hj'), ?_⟩
              simpa [Array.getD_eq_getD_getElem?] using this
            · rw [List.getElem?_map] at hj
              obtain ⟨c', hj', e⟩ := Option.map_eq_some_iff.1 hj
              cases e
        · cases he
      · cases he
    · cases he
  · cases he
theorem ung_cases (g : Nat) (x : AV) : x.ung g = .u ∨ x.ung g = x ∧ ∀ t y, x ≠ .w g t y := by
  cases x <;> first | exact .inr ⟨rfl, fun _ _ e => by cases e⟩ | skip
  rename_i g' t y
  unfold AV.ung
  by_cases hg : g' = g
  · exact .inl (by simp [hg])
  · exact .inr ⟨by simp [hg], fun _ _ e => by cases e; exact hg rfl⟩
theorem fget_ung (g : Nat) : ∀ (fr : List (Nat × AV)) (d : Nat), fget (fr.map fun x => (x.1, x.2.ung g)) d = (fget fr d).ung g
  | [], d => rfl
  | (k, x) :: fr, d => by
    simp only [List.map_cons, fget]
    split
    · rfl
    · exact fget_ung g fr d
theorem bget_ung (g : Nat) : ∀ (bx : List (Nat × List AV)) (d : Nat), bget (bx.map fun x => (x.1, x.2.map (AV.ung g))) d = (bget bx d).map fun cs => cs.map (AV.ung g)
  | [], d => rfl
  | (k, x) :: bx, d => by
    simp only [List.map_cons, bget]
    split
    · rfl
    · exact bget_ung g bx d
/-- a group is changed: what it holds is told no more. -/
theorem Conc.spoilt {g : Nat} {w' : World} (h : Conc C st a w σ) (hs : Same C w σ w' σ (some (.grp C.E.dp g))) : Conc C (st.dropG g) a w' σ := by
  have hbox : ∀ k cs, (st.dropG g).box C.E.dp k = some cs → ∃ cs0, st.box C.E.dp k = some cs0 ∧ (cs = cs0 ∧ k.dp ≠ C.E.dp ∨ cs = cs0.map (AV.ung g)) := by
    intro k cs hk
    simp only [St.box, St.dropG] at hk ⊢
    by_cases hkd : k.dp = C.E.dp
    · simp only [if_pos hkd, bget_ung] at hk ⊢
      obtain ⟨cs0, h1, rfl⟩ := Option.map_eq_some_iff.1 hk
      exact ⟨cs0, h1, .inr rfl⟩
    · simp only [if_neg hkd] at hk ⊢
      exact ⟨cs, hk, .inl ⟨rfl, hkd⟩⟩
  have hheap : ∀ k cs, st.box C.E.dp k = some cs → w'.heap[σ.κ k]? = w.heap[σ.κ k]? := fun k cs hk => by
    obtain ⟨vs, T, hB⟩ := h.bx k cs hk
    exact (hs.blk _ _ hB.ow (by simp)).1
  have hcellw : ∀ k off c v, CR C w σ k off c v → (∀ t y, c ≠ .w g t y) → CR C w' σ k off c v := by
    intro k off c v hc hne
    cases c with
    | o t es => exact OwnAt.same hs (by simp) hc
    | w g' t x => exact WAt.same hs (by simp; exact fun e => hne t x (by rw [e])) hc
    | bp t k' u => exact hc
    | _ => exact VR.same hs hc
  have hrow : ∀ pl r, (st.dropG g).rowAt C.E.dp pl = some r → st.rowAt C.E.dp pl = some r ∧ pval w' σ a pl = pval w σ a pl := by
    intro pl r hr
    cases pl with
    | s d' =>
      refine ⟨?_, rfl⟩
      simp only [St.rowAt, St.dropG, fget_ung] at hr ⊢
      rcases ung_cases g (fget st.fr d') with e | e
      · rw [e] at hr; cases hr
      · rw [e.1] at hr; exact hr
    | c k off =>
      simp only [St.rowAt] at hr
      cases hb : (st.dropG g).box C.E.dp k with
      | none => simp [hb] at hr
      | some cs =>
        obtain ⟨cs0, h1, h2⟩ := hbox k cs hb
        refine ⟨?_, by simp only [pval, hheap k cs0 h1]⟩
        simp only [hb] at hr
        simp only [St.rowAt, h1]
        rcases h2 with ⟨rfl, _⟩ | rfl
        · exact hr
        · rw [List.getElem?_map] at hr
          cases hc : cs0[off]? with
          | none => simp [hc] at hr
          | some c =>
            simp only [hc, Option.map_some] at hr
            rcases ung_cases g c with e | e
            · rw [e] at hr; cases hr
            · rw [e.1] at hr; exact hr
  refine ⟨h.size, h.defers.same hs (by simp), fun d' => ?_, fun k cs hk => ?_, fun k cs hne hk => ?_, hs.own, hs.dn, fun b hb => h.new b (Nat.le_trans hs.size hb), h.lay.keep hs.up hs.imm⟩
  · have hx := h.fr d'
    show SR C w' σ (st.dropG g) a d' (fget (st.dropG g).fr d') _
    simp only [St.dropG, fget_ung]
    rcases ung_cases g (fget st.fr d') with e | ⟨e, hne⟩
    · rw [e]; exact VR.u _
    · rw [e]
      generalize fget st.fr d' = x at hx hne
      cases x with
      | o t es => exact OwnAt.same hs (by simp) hx
      | r pl =>
        intro hsm
        obtain ⟨r, hr⟩ := Option.isSome_iff_exists.1 hsm
        obtain ⟨h2, h3⟩ := hrow pl r hr
        rw [h3]
        exact hx (by rw [h2]; rfl)
      | v pl lo len =>
        intro t es ht hll
        obtain ⟨h2, h3⟩ := hrow pl _ ht
        rw [h3]
        exact hx t es h2 hll
      | q pl i sz off =>
        intro t es ht hll
        obtain ⟨h2, h3⟩ := hrow pl _ ht
        rw [h3]
        exact hx t es h2 hll
      | w g' t x => exact WAt.same hs (by simp; exact fun e => hne t x (by rw [e])) hx
      | _ => exact VR.same hs hx
  · obtain ⟨cs0, h1, h2⟩ := hbox k cs hk
    obtain ⟨vs, T, hB⟩ := h.bx k cs0 h1
    refine ⟨vs, T, (hheap k cs0 h1).trans hB.hh, ?_, hB.ow, hB.wr, fun c hc => ?_, fun off c hc => ?_, fun t kk u ht => ?_, hB.kb⟩
    · rcases h2 with ⟨rfl, _⟩ | rfl
      · exact hB.size
      · simpa using hB.size
    · rcases h2 with ⟨rfl, _⟩ | rfl
      · exact hB.one c hc
      · obtain ⟨c', hc', rfl⟩ := List.mem_map.1 hc
        rcases ung_cases g c' with e | e
        · exact .inr e
        · rw [e.1]; exact hB.one c' hc'
    · rcases h2 with ⟨rfl, hkd⟩ | rfl
      · refine hcellw k off c _ (hB.cell off c hc) fun t y e => ?_
        subst e
        simp only [St.box, if_neg hkd] at h1
        have := (h.hpd k cs hkd h1).2 _ (List.mem_of_getElem? hc)
        cases this
      · rw [List.getElem?_map] at hc
        obtain ⟨c', hc', rfl⟩ := Option.map_eq_some_iff.1 hc
        rcases ung_cases g c' with e | ⟨e, hne⟩
        · rw [e]; exact VR.u _
        · rw [e]; exact hcellw k off c' _ (hB.cell off c' hc') hne
    · rcases h2 with ⟨rfl, _⟩ | rfl
      · exact hB.ty t kk u ht
      · obtain ⟨c', hc', e⟩ := List.mem_map.1 ht
        rcases ung_cases g c' with e2 | ⟨e2, _⟩
        · rw [e2] at e; cases e
        · rw [e2] at e; subst e; simpa using hB.ty t kk u hc'
  · exact h.hpd k cs hne hk
theorem sim_sp {f : FuncId} {x : Opd} (hΩ : OrcOK C.P Ω) (h : Conc C st a w σ) (hl : lowOp C.P (.sp f x) o.op = true) (he : execOp R Ω C.E st d (.sp f x) = some r) : Sim C o d a w σ r.2 r.1 := by
  simp only [lowOp] at hl; split at hl
  · rename_i c hop
    simp only [Bool.and_eq_true] at hl
    obtain ⟨h1, h2⟩ := hl
    split at h1
    · rename_i f' hcal
      obtain rfl : f = f' := by simpa using h1
      obtain ⟨y', hargs, hly⟩ : ∃ y', c.args.toList = [y'] ∧ lowO y' x = true := by
        cases ha : c.args.toList with
        | nil => rw [ha] at h2; simp [lowOL] at h2
        | cons y' l =>
          rw [ha] at h2
          cases l with
          | nil => exact ⟨y', rfl, by simpa [lowOL] using h2⟩
          | cons z l => simp [lowOL] at h2
      simp only [execOp] at he
      split at he
      · rename_i g t y hx
        obtain ⟨q, hq, he⟩ := Option.bind_eq_some_iff.1 he
        split at he
        · obtain rfl := Option.some.inj he
          cases x with
          | c q =>
            have := opd_pure hly
            simp only [St.ev] at hx
            rw [hx] at this; cases this
          | t m =>
            have hs := h.slot hly
            simp only [St.ev] at hx
            rw [hx] at hs
            obtain ⟨hp, hv⟩ := hs
            obtain ⟨hb, hcall⟩ := hΩ.spo f y hq hp
            have hrun : (Go.execOp a.eval o).run C.P w = .ok (.enter f #[a.eval y']) w := by
              have hev : a.eval (.func f) = .func (.func f) #[] #[] := rfl
              have hcf := run_callFunc hb #[a.eval y'] w
              have ha : c.args.map a.eval = #[a.eval y'] := by apply Array.ext'; simp [hargs]
              unfold Go.execOp
              simp [hop, resolve, hcal, hev, Deferred.ofValue, invoke, ha]
              exact hcf
            intro K Q hK
            unfold Oper.wp
            rw [hrun, Oper.upon_enter]
            refine (hcall w _ σ.κ (a.eval y') (fun b hb => hb.2.2.2.imp fun cs e => ⟨t, e⟩) hv).mono ?_
            rintro e w' ⟨⟨v, rfl⟩, hsize, hold, hio⟩
            have hkeep : ∀ b, b < w.heap.size → σ.ow b ≠ some (.grp C.E.dp g) → w'.heap[b]? = w.heap[b]? := fun b hb hne => hold b hb fun h => hne h.1
            have hsame : Same C w σ w' σ (some (.grp C.E.dp g)) :=
              ⟨fun b l hb hne => ⟨hkeep b (h.own b l hb) (by rw [hb]; exact hne), hb⟩, fun b hb => hkeep b (h.imm b hb).1 (by rw [(h.imm b hb).2]; simp), fun _ hb => hb, rfl, hsize, fun b l hb => Nat.lt_of_lt_of_le (h.own b l hb) hsize, fun b hb => ⟨Nat.lt_of_lt_of_le (h.imm b hb).1 hsize, (h.imm b hb).2⟩⟩
            exact hK v w' σ ⟨⟨hsize, fun b hb hW => hold b hb fun h => hW h.2.1, fun _ hb => hb, hsame.imm, fun b hb => .inl hb, fun _ _ => rfl, fun _ _ _ => rfl, hio⟩, h.spoilt hsame, fun _ _ => VR.u _, fun _ _ _ _ e => by cases e⟩
        · cases he
      · cases he
    · cases h1
  · cases hl
theorem sim_vi {g f : FuncId} {xs : List Opd} (hR : RecOK C.P R) (hΩ : OrcOK C.P Ω) (h : Conc C st a w σ) (hl : lowOp C.P (.vi g f xs) o.op = true) (he : execOp R Ω C.E st d (.vi g f xs) = some r) : Sim C o d a w σ r.2 r.1 := by
  simp only [lowOp] at hl; split at hl
  · rename_i c hop
    simp only [Bool.and_eq_true] at hl
    obtain ⟨h1, h2⟩ := hl
    split at h1
    · rename_i f' hcal
      obtain rfl : f = f' := by simpa using h1
      obtain ⟨h3, h4⟩ := h.opds _ _ h2
      simp only [execOp, doCallV] at he
      obtain ⟨z, hz, he1⟩ := Option.bind_eq_some_iff.1 he
      clear he
      split at he1
      · rename_i nn
        split at he1
        · rename_i hc
          simp only [Bool.and_eq_true, Bool.not_eq_true'] at hc
          obtain ⟨⟨⟨hro, hcp⟩, hl1⟩, hdp⟩ := hc
          obtain ⟨⟨q, hp'⟩, hq, he2⟩ := Option.bind_eq_some_iff.1 he1
          clear he1
          cases q with
          | new cs => cases he2
          | ret x => ?_
          simp only at he2
          split at he2
          case isFalse => cases he2
          rename_i hagg
          obtain rfl := Option.some.inj he2
          obtain ⟨cs, rfl, hcs⟩ : ∃ cs, x = .a cs ∧ (cs.length : Int) = nn := by
            cases x <;> first | (cases hagg; done) | exact ⟨_, rfl, by simpa [aggN] using hagg⟩
          have hcp' : ∀ x ∈ List.map st.ev xs, x.copy = true := fun x hx => List.all_eq_true.1 hcp x hx
          refine sim_call2 hro h h3 h4 hcp' (fun d cs hb c hm => deepL_mem (bget_all (p := fun cs => AV.deepL C.E.dp cs) _ hdp d cs hb) c hm) (hΩ.via f g nn hz _ _ _ _ _ (by simpa using hl1) hcs (hR.ret _ g _ _ _ hp' hq hcp')) fun hb => ?_
          have hev : a.eval (.func f) = .func (.func f) #[] #[] := rfl
          have hcf := run_callFunc hb (List.map a.eval c.args.toList).toArray w
          have ha : (List.map a.eval c.args.toList).toArray = c.args.map a.eval := by apply Array.ext'; simp
          rw [ha] at hcf
          rw [ha]
          unfold Go.execOp
          simp [hop, resolve, hcal, hev, Deferred.ofValue, invoke]
          exact hcf
        · cases he1
      · cases he1
    · cases h1
  · cases hl
theorem allBx_iff {bx : List (Nat × List AV)} {g : Nat → List AV → Bool} : allBx bx g = true ↔ ∀ d cs, bget bx d = some cs → g d cs = true := by
  unfold allBx
  rw [List.all_eq_true]
  have hmem : ∀ (l : List (Nat × List AV)) d cs, bget l d = some cs → ∃ y ∈ l, y.1 = d := by
    intro l d cs h
    induction l with
    | nil => cases h
    | cons y l ih =>
      obtain ⟨k, c⟩ := y
      simp only [bget] at h
      split at h
      · rename_i e; exact ⟨(k, c), by simp, e⟩
      · obtain ⟨z, hz, e⟩ := ih h
        exact ⟨z, List.mem_cons_of_mem _ hz, e⟩
  have hsome : ∀ (l : List (Nat × List AV)) y, y ∈ l → ∃ cs, bget l y.1 = some cs := by
    intro l y hy
    induction l with
    | nil => cases hy
    | cons z l ih =>
      obtain ⟨k, c⟩ := z
      simp only [bget]
      split
      · exact ⟨_, rfl⟩
      · rename_i hne
        rcases List.mem_cons.1 hy with rfl | hy
        · exact absurd rfl hne
        · exact ih hy
  constructor
  · intro h d cs hd
    obtain ⟨y, hy, rfl⟩ := hmem _ _ _ hd
    have := h y hy
    rwa [hd] at this
  · intro h y hy
    obtain ⟨cs, hc⟩ := hsome _ y hy
    rw [hc]; exact h _ _ hc
/-- a box that nobody changed. -/
theorem BoxAt.still {C : Cx} {w w' : World} {σ σ' : Sp} {k : Key} {cs : List AV} {vs : Array Value} {T : TypeId} (h : BoxAt C w σ k cs vs T) (hk : σ'.κ k = σ.κ k) (hb : ∀ b l, σ.ow b = some l → (l = .box k ∨ ∃ off, l = .rowC k off) → w'.heap[b]? = w.heap[b]? ∧ σ'.ow b = some l)
    (hI : ∀ b, σ.I b → σ'.I b) (hh : ∀ b, σ.I b → w'.heap[b]? = w.heap[b]?) (hd : ∀ c ∈ cs, ∀ k', c.noK k' = false → σ'.κ k' = σ.κ k') (hnw : ∀ c ∈ cs, ∀ g t x, c ≠ .w g t x) : BoxAt C w' σ' k cs vs T := by
  have h1 := hb _ _ h.ow (.inl rfl)
  refine ⟨by rw [hk, h1.1]; exact h.hh, h.size, by rw [hk]; exact h1.2, fun hm => by rw [hk]; exact h.wr hm, h.one, fun off c hc => ?_, h.ty, by rw [hk]; exact h.kb⟩
  have hcell := h.cell off c hc
  have hd' := hd c (List.mem_of_getElem? hc)
  have hnw' := hnw c (List.mem_of_getElem? hc)
  cases c with
  | o t es => exact OwnAt.keep hcell (fun g hg => hb g _ hg (.inr ⟨off, rfl⟩)) hI hh
  | w g t x => exact absurd rfl (hnw' g t x)
  | bp t k' u => exact ⟨hcell.1, by rw [hk]; exact hcell.2⟩
  | _ => exact VR.mono hcell hI hh hd'
/-- what a function may write that is called, and is not shown all. -/
def Wh (C : Cx) (σ : Sp) (hid : Key → Bool) : Nat → Prop := fun b => Wc C σ b ∧ ∀ k, hid k = true → σ.ow b ≠ some (.box k) ∧ ∀ off, σ.ow b ≠ some (.rowC k off)
theorem sim_callH {f : FuncId} {xs : List AV} {vs : List Value} {x : AV} {hp' : HP} {hid : Key → Bool} (hro : C.E.ro = false) (h : Conc C st a w σ) (hl : xs.length = vs.length) (hx : ∀ (i : Nat) (x : AV), xs[i]? = some x → ∃ n, SR C w σ st a n x (vs[i]?.getD undef))
    (hcp : ∀ x ∈ xs, x.copy = true) (hfr : (st.fr.all fun y => !borH hid y.2) = true) (hdp : ∀ d cs, bget st.bx d = some cs → ∀ c ∈ cs, c.deep C.E.dp = true) (hc : CallOK2 C.P (C.E.dp + 1) f xs (fun k => if hid k = true then none else st.box C.E.dp k) x hp')
    (hrun : bodied C.P f → (Go.execOp a.eval o).run C.P w = .ok (.enter f vs.toArray) w) : Sim C o d a w σ (st.backH C.E.dp (fun k => if hid k = true then st.box C.E.dp k else hp' k)) x := by
  obtain ⟨hpx, hb, hcall⟩ := hc
  have hp0 := h.hpOK hro hdp
  intro K Q hK
  unfold Oper.wp
  rw [hrun hb, Oper.upon_enter]
  refine (hcall (Wh C σ hid) w σ vs.toArray (fun b hb => ⟨⟨⟨⟨(h.new b hb).1, fun e => absurd (h.own b _ e) (Nat.not_lt.2 hb)⟩, fun d => ⟨fun e => ?_, fun e => ?_⟩⟩, fun k _ => ⟨fun e => ?_, fun off e => ?_⟩⟩, (h.new b hb).2⟩) ⟨fun k cs hk hkd => ?_, fun k cs hk hkd => ?_, h.own, h.imm, h.lay⟩ (by simpa using hl.symm) (fun i y hi => ?_)).mono ?_
  · have := h.own b _ e; omega
  · have := h.own b _ e; omega
  · have := h.own b _ e; omega
  · have := h.own b _ e; omega
  · split at hk
    · cases hk
    · rename_i hn
      obtain ⟨vs', T, hB⟩ := hp0.bx k cs hk hkd
      refine ⟨vs', T, hB.turn rfl rfl (fun _ _ h _ => h) (fun _ h => h) rfl (fun b l hl hor hW => ⟨hW, fun k' hk' => ⟨fun e => ?_, fun off e => ?_⟩⟩) (fun _ _ _ _ => rfl) fun c hc => deep_noW ((hp0.deep k cs hk (by omega)).2 c hc)⟩
      · rw [hl] at e
        rcases hor with rfl | ⟨_, rfl⟩
        · injection e with e; injection e with e; subst e; exact hn hk'
        · cases e
      · rw [hl] at e
        rcases hor with rfl | ⟨_, rfl⟩
        · cases e
        · injection e with e; injection e with e; subst e; exact hn hk'
  · split at hk
    · cases hk
    · exact hp0.deep k cs hk hkd
  · obtain ⟨n, hn⟩ := hx i y hi
    have := hn.toVR (hcp y (List.mem_of_getElem? hi))
    simpa [Array.getD_eq_getD_getElem?] using this
  · rintro e w' ⟨v, σ1, rfl, hv, hst, hH⟩
    have hW : ∀ b, Wh C σ hid b → Wc C σ b := fun b hb => hb.1
    have hst' : Stp (cxOf C.P (Wc C σ) (C.E.dp + 1)) w σ w' σ1 :=
      ⟨hst.size, fun b hb hn => hst.keep b hb fun hh => hn (hW b hh), hst.up, hst.imm, fun b hb => (hst.dn b hb).imp id (hW b), hst.kap, fun b hb hn => hst.ow b hb fun hh => hn (hW b hh), hst.io⟩
    have hk1 : ∀ k : Key, k.dp < C.E.dp + 1 → σ1.κ k = σ.κ k := fun k hk => hst.kap k hk
    have hH' : HpOK C.P (Wc C σ) (C.E.dp + 1) (fun k => if hid k = true then st.box C.E.dp k else hp' k) w' σ1 := by
      refine ⟨fun k cs hk hkd => ?_, fun k cs hk hkd => ?_, hH.own, hH.imm, hH.lay⟩
      · split at hk
        · rename_i hh
          obtain ⟨vs', T, hB⟩ := hp0.bx k cs hk hkd
          have hdeep := (hp0.deep k cs hk (by omega)).2
          refine ⟨vs', T, hB.still (hk1 k hkd) (fun b l hl hor => ?_) hst.up hst.imm (fun c hc k' hk' => hk1 k' ?_) fun c hc => deep_noW (hdeep c hc)⟩
          · have hn : ¬ Wh C σ hid b := fun hw => by
              rcases hor with rfl | ⟨off, rfl⟩
              · exact (hw.2 k hh).1 hl
              · exact (hw.2 k hh).2 off hl
            exact ⟨hst.keep b (h.own b l hl) hn, (hst.ow b (h.own b l hl) hn).trans hl⟩
          · have := hB.deepK hdeep c hc k' hk'; omega
        · obtain ⟨vs', T, hB⟩ := hH.bx k cs hk hkd
          exact ⟨vs', T, hB.turn rfl rfl (fun _ _ h _ => h) (fun _ h => h) rfl (fun b l _ _ hw => hW b hw) (fun _ _ _ _ => rfl) fun c hc => deep_noW ((hH.deep k cs hk (by omega)).2 c hc)⟩
      · split at hk
        · exact hp0.deep k cs hk hkd
        · exact hH.deep k cs hk hkd
    obtain ⟨h1, h2⟩ := h.called hst' hH'
    have h3 : Conc C (st.backH C.E.dp (fun k => if hid k = true then st.box C.E.dp k else hp' k)) a w' { σ1 with κ := σ.κ } := by
      refine ⟨h2.size, h2.defers, fun d => ?_, h2.bx, h2.hpd, h2.own, h2.imm, h2.new, h2.lay⟩
      have hrow : ∀ pl, (st.backH C.E.dp (fun k => if hid k = true then st.box C.E.dp k else hp' k)).rowAt C.E.dp pl = (st.back C.E.dp (fun k => if hid k = true then st.box C.E.dp k else hp' k)).rowAt C.E.dp pl := by
        intro pl
        cases pl with
        | c k off => rfl
        | s d' =>
          simp only [St.rowAt, fget_back]
          show (match fget st.fr d' with | .o t es => some (t, es) | _ => none) = _
          generalize fget st.fr d' = y
          cases y with
          | r pl => cases pl <;> rfl
          | v pl lo len => cases pl <;> rfl
          | q pl i sz off => cases pl <;> rfl
          | _ => rfl
      have hnh : borH hid (fget st.fr d) = false := by
        have := fget_all (p := fun y => !borH hid y) rfl _ hfr d
        simpa using this
      show SR C w' _ _ a d (fget st.fr d) _
      by_cases hbc : borC (fget st.fr d) = true
      · have hx0 := h.fr d
        have hkey : ∀ k off, hid k = true → ∀ r, (st.backH C.E.dp (fun k => if hid k = true then st.box C.E.dp k else hp' k)).rowAt C.E.dp (.c k off) = some r → st.rowAt C.E.dp (.c k off) = some r ∧ pval w' { σ1 with κ := σ.κ } a (.c k off) = pval w σ a (.c k off) := by
          intro k off hk r hr
          have hbox : ∀ cs, (st.backH C.E.dp (fun k => if hid k = true then st.box C.E.dp k else hp' k)).box C.E.dp k = some cs → st.box C.E.dp k = some cs := by
            intro cs hcs
            obtain ⟨kd, ke⟩ := k
            by_cases hkd : kd = C.E.dp
            · subst hkd
              have h4 : bget (backB C.E.dp (fun k => if hid k = true then st.box C.E.dp k else hp' k) st.bx) ke = some cs := by simpa [St.box, St.backH] using hcs
              have := bget_backB h4
              rw [if_pos hk] at this
              exact this
            · have h4 : (if kd < C.E.dp then (if hid ⟨kd, ke⟩ = true then st.box C.E.dp ⟨kd, ke⟩ else hp' ⟨kd, ke⟩) else none) = some cs := by
                have h5 : (st.backH C.E.dp (fun k => if hid k = true then st.box C.E.dp k else hp' k)).box C.E.dp ⟨kd, ke⟩ = (if kd < C.E.dp then (if hid ⟨kd, ke⟩ = true then st.box C.E.dp ⟨kd, ke⟩ else hp' ⟨kd, ke⟩) else none) := by
                  show (if kd = C.E.dp then _ else _) = _
                  rw [if_neg hkd]
                  rfl
                rw [← h5]; exact hcs
              rw [if_pos hk] at h4
              split at h4
              · exact h4
              · cases h4
          simp only [St.rowAt] at hr ⊢
          cases hb : (st.backH C.E.dp (fun k => if hid k = true then st.box C.E.dp k else hp' k)).box C.E.dp k with
          | none => simp [hb] at hr
          | some cs =>
            have hb' := hbox cs hb
            rw [hb] at hr
            rw [hb']
            refine ⟨hr, ?_⟩
            obtain ⟨vs', T, hB⟩ := h.bx k cs hb'
            have hn : ¬ Wh C σ hid (σ.κ k) := fun hw => (hw.2 k hk).1 hB.ow
            simp only [pval]
            rw [hst.keep _ (h.own _ _ hB.ow) hn]
        generalize fget st.fr d = y at hx0 hbc hnh
        cases y with
        | r pl =>
          cases pl with
          | s d' => cases hbc
          | c k off =>
            have hk : hid k = true := by simpa [borH] using hnh
            intro hs
            obtain ⟨r, hr⟩ := Option.isSome_iff_exists.1 hs
            obtain ⟨h4, h5⟩ := hkey k off hk r hr
            rw [h5]
            exact hx0 (by rw [h4]; rfl)
        | v pl lo len =>
          cases pl with
          | s d' => cases hbc
          | c k off =>
            have hk : hid k = true := by simpa [borH] using hnh
            intro t es ht hle
            obtain ⟨h4, h5⟩ := hkey k off hk _ ht
            rw [h5]
            exact hx0 t es h4 hle
        | q pl i sz off' =>
          cases pl with
          | s d' => cases hbc
          | c k off =>
            have hk : hid k = true := by simpa [borH] using hnh
            intro t es ht hle
            obtain ⟨h4, h5⟩ := hkey k off hk _ ht
            rw [h5]
            exact hx0 t es h4 hle
        | _ => cases hbc
      · have h4 := h2.fr d
        rw [fget_back, if_neg hbc] at h4
        exact h4.cong fun pl _ _ => ⟨hrow pl, rfl⟩
    exact hK v w' { σ1 with κ := σ.κ } ⟨h1, h3, fun _ _ => SR_VR (hv.noI (fun _ h => h) (fun _ _ => rfl) hpx), fun _ _ _ _ e => by subst e; cases hpx⟩
theorem sim_ch {f : FuncId} {xs : List Opd} {sl dl ow : List Nat} (hR : RecOK C.P R) (h : Conc C st a w σ) (hl : lowOp C.P (.ch f xs sl dl ow) o.op = true) (he : execOp R Ω C.E st d (.ch f xs sl dl ow) = some r) : Sim C o d a w σ r.2 r.1 := by
  simp only [lowOp] at hl; split at hl
  · rename_i c hop
    simp only [Bool.and_eq_true] at hl
    obtain ⟨h1, h2⟩ := hl
    split at h1
    · rename_i f' hcal
      obtain rfl : f = f' := by simpa using h1
      obtain ⟨h3, h4⟩ := h.opds _ _ h2
      simp only [execOp, doCallH] at he
      split at he
      · rename_i hc
        simp only [Bool.and_eq_true, Bool.not_eq_true'] at hc
        obtain ⟨⟨⟨⟨⟨hro, hcp⟩, hdp⟩, hfr⟩, _⟩, _⟩ := hc
        obtain ⟨⟨q, hp'⟩, hq, he2⟩ := Option.bind_eq_some_iff.1 he
        clear he
        cases q with
        | new cs => cases he2
        | ret x => ?_
        simp only at he2
        split at he2
        case isFalse => cases he2
        obtain rfl := Option.some.inj he2
        have hcp' : ∀ x ∈ List.map st.ev xs, x.copy = true := fun x hx => List.all_eq_true.1 hcp x hx
        refine sim_callH (hid := hidK C.E.dp st sl dl ow) hro h h3 h4 hcp' hfr (fun d cs hb c hm => deepL_mem (allBx_iff.1 hdp d cs hb) c hm) (hR.ret _ f _ _ _ hp' hq hcp') fun hb => ?_
        have hev : a.eval (.func f) = .func (.func f) #[] #[] := rfl
        have hcf := run_callFunc hb (List.map a.eval c.args.toList).toArray w
        have ha : (List.map a.eval c.args.toList).toArray = c.args.map a.eval := by apply Array.ext'; simp
        rw [ha] at hcf
        rw [ha]
        unfold Go.execOp
        simp [hop, resolve, hcal, hev, Deferred.ofValue, invoke]
        exact hcf
      · cases he
    · cases h1
  · cases hl
theorem sim_lk {n : Option Nat} {x y : Opd} {lv : Bool} (h : Conc C st a w σ) (hl : lowOp C.P (.lk n x y lv) o.op = true) (he : execOp R Ω C.E st d (.lk n x y lv) = some r) : Sim C o d a w σ r.2 r.1 := by
  refine sim_ld (R := R) (Ω := Ω) (n := n) (x := x) h hl ?_
  simp only [execOp] at he ⊢
  split at he
  · rename_i k off hx
    rw [hx]
    split at he
    · exact he
    · cases he
  · cases he
theorem sim_sb {f : FuncId} {x : Opd} (hΩ : OrcOK C.P Ω) (h : Conc C st a w σ) (hl : lowOp C.P (.sb f x) o.op = true) (he : execOp R Ω C.E st d (.sb f x) = some r) : Sim C o d a w σ r.2 r.1 := by
  simp only [lowOp] at hl; split at hl
  · rename_i c hop
    simp only [Bool.and_eq_true] at hl
    obtain ⟨h1, h2⟩ := hl
    split at h1
    · rename_i f' hcal
      obtain rfl : f = f' := by simpa using h1
      obtain ⟨y', hargs, hly⟩ : ∃ y', c.args.toList = [y'] ∧ lowO y' x = true := by
        cases ha : c.args.toList with
        | nil => rw [ha] at h2; simp [lowOL] at h2
        | cons y' l =>
          rw [ha] at h2
          cases l with
          | nil => exact ⟨y', rfl, by simpa [lowOL] using h2⟩
          | cons z l => simp [lowOL] at h2
      simp only [execOp] at he
      split at he
      · rename_i k off hx
        split at he
        · rename_i hm
          obtain ⟨cs, hbx, he2⟩ := Option.bind_eq_some_iff.1 he
          clear he
          split at he2
          · rename_i t es hz
            obtain ⟨z, hq, he3⟩ := Option.bind_eq_some_iff.1 he2
            clear he2
            split at he3
            · obtain ⟨l, hes, he4⟩ := Option.bind_eq_some_iff.1 he3
              clear he3
              split at he4
              · cases he4
              · rename_i hl0
                obtain rfl := Option.some.inj he4
                have hv := (hx ▸ h.opdV hly (by rw [hx]; simp) (by rw [hx]; rfl)).p_inv
                obtain ⟨vs, T, hB⟩ := h.bx k cs hbx
                have hlt : off + 1 < vs.size := Nat.lt_of_lt_of_le (lt_of_get hz) hB.size
                have hes' := bytesOf_get hes
                subst hes'
                rcases hB.cell (off + 1) _ hz with ⟨h3, _⟩ | ⟨g, cap, cs', hvg, hR⟩
                · exact absurd (by simpa using h3) hl0
                · obtain ⟨hb, hcall⟩ := hΩ.str f t hq
                  have hne : l ≠ [] := hl0
                  have hsz : C.P.cellsOf t = 1 := by
                    cases l with
                    | nil => exact absurd rfl hne
                    | cons c l => exact (hR.nc (byteAV c) (by simp)).symm
                  have hrun : (Go.execOp a.eval o).run C.P w = .ok (.enter f #[a.eval y']) w := by
                    have hev : a.eval (.func f) = .func (.func f) #[] #[] := rfl
                    have hcf := run_callFunc hb #[a.eval y'] w
                    have ha : c.args.map a.eval = #[a.eval y'] := by apply Array.ext'; simp [hargs]
                    unfold Go.execOp
                    simp [hop, resolve, hcal, hev, Deferred.ofValue, invoke, ha]
                    exact hcf
                  obtain ⟨hc1, hid⟩ := (h.dropB (.c k (off + 1))).losePl (pl := .c k (off + 1)) (st' := (st.dropB (.c k (off + 1))).setBox C.E.dp k (cs.set (off + 1) .u)) (by
                    simp only [St.putAt, box_dropB, hbx])
                  have hWg : C.W g := hR.wr hm
                  intro K Q hK
                  unfold Oper.wp
                  rw [hrun, Oper.upon_enter, hv]
                  have hec := hR.ecap
                  rw [List.length_map] at hec hvg
                  refine (hcall w (σ.κ k) off vs T g cap cs' l hB.hh hlt hvg hR.hh hec hR.max (by rw [hR.size, hsz, Nat.mul_one]) hne (fun j c hj => ?_)).mono ?_
                  · have h5 := hR.cell j (byteAV c) 0 (byteAV c) (by rw [List.getElem?_map, hj]; rfl) rfl
                    rw [hsz, Nat.mul_one, Nat.add_zero] at h5
                    have h6 := VR.i_inv h5
                    have hj2 : j < cs'.size := by rw [hR.size, hsz, Nat.mul_one]; have := lt_of_get hj; omega
                    simpa [Array.getD_eq_getD_getElem?, hj2] using h6
                  · rintro e w' ⟨rfl, hsize, hold, hio⟩
                    have hsame : Same C w σ w' σ (some ((Pl.c k (off + 1)).lbl C.E.dp)) :=
                      ⟨fun b l hb hne => ⟨hold b (fun e => hne (by subst e; rw [← hb, hR.ow]; rfl)), hb⟩, fun b hb => hold b (fun e => by subst e; have := (h.imm b hb).2; rw [hR.ow] at this; cases this), fun _ hb => hb, rfl, by rw [hsize]; exact Nat.le_refl _,
                        fun b l hb => by rw [hsize]; exact h.own b l hb, fun b hb => by rw [hsize]; exact h.imm b hb⟩
                    exact hK _ w' σ ⟨⟨by rw [hsize]; exact Nat.le_refl _, fun b hb hW => hold b (fun e => hW (by subst e; exact hWg)), fun _ hb => hb, hsame.imm, fun b hb => .inl hb, fun _ _ => rfl, fun _ _ _ => rfl, hio⟩, hc1.sameL hsame hid, fun _ _ => SR_VR (.s _), fun _ _ _ _ e => by cases e⟩
            · cases he3
          · cases he2
        · cases he
      · cases he
    · cases h1
  · cases hl
/-- every operation. -/
theorem sim_op (hR' : RecAll C.P R) (hΩ : OrcOK C.P Ω) (ao : AOp) (h : Conc C st a w σ) (hl : lowOp C.P ao o.op = true) (he : execOp R Ω C.E st d ao = some r) : Sim C o d a w σ r.2 r.1 := by
  have hR := hR'.h
  cases ao with
  | mv x => exact sim_mv h hl he
  | as x => exact sim_as h hl he
  | pk c x y => exact sim_pk h hl he
  | bx x => exact sim_bx h hl he
  | al zs => exact sim_al h hl he
  | ld n x => exact sim_ld h hl he
  | st n x y => exact sim_st h hl he
  | fa off x => exact sim_fa h hl he
  | fd n off x => exact sim_fd h hl he
  | ia sz arr x i => exact sim_ia h hl he
  | ix x i => exact sim_ix h hl he
  | bo op bl x y => exact sim_bo h hl he
  | no x => exact sim_no h hl he
  | ng x => exact sim_ng h hl he
  | cv k x => exact sim_cv h hl he
  | cs x => exact sim_cs h hl he
  | ae ks ng x y => exact sim_ae h hl he
  | bs t sz es => exact sim_bs h hl he
  | bd zs fs => exact sim_bd h hl he
  | ms t sz by_ x n => exact sim_ms h hl he
  | sl t sz x lo hi => exact sim_sl h hl he
  | ex x i => exact sim_ex h hl he
  | mf f caps => exact sim_mf h hl he
  | ca m f args => exact sim_ca hR hΩ h hl he
  | cf m x args => exact sim_cf hR hΩ h hl he
  | c2 f args => exact sim_c2 hR hΩ h hl he
  | d2 x args => exact sim_d2 hR hΩ h hl he
  | c3 f args => obtain ⟨h1, h2⟩ := sim_c3v hR h (fun _ _ => rfl) (fun _ _ h => h) hl he; rw [h1]; exact h2
  | d3 x args => obtain ⟨h1, h2⟩ := sim_d3v hR h (fun _ _ => rfl) (fun _ _ h => h) hl he; rw [h1]; exact h2
  | cn f args => exact sim_cn hR h hl he
  | cr t f args => exact sim_cr hΩ h hl he
  | ln str x => exact sim_ln h hl he
  | ap t sz by_ x y => exact sim_ap h hl he
  | nc x => exact sim_nc h hl he
  | cw t f args => exact sim_cw hR' h hl he
  | vi g f args => exact sim_vi hR hΩ h hl he
  | ch f args sl dl ow => exact sim_ch hR h hl he
  | lk n x y lv => exact sim_lk h hl he
  | bz t off x => exact sim_bz h hl he
  | lz x => exact sim_lz h hl he
  | pe ng x y => exact sim_pe h hl he
  | cp t n off x => exact sim_cp h hl he
  | aq t x y => exact sim_aq h hl he
  | sb f x => exact sim_sb hΩ h hl he
  | tx x => exact sim_tx h hl he
  | sz x y => exact sim_sz h hl he
  | xw x i => exact sim_xw h hl he
  | sw n x y => exact sim_sw h hl he
  | lw n x => exact sim_lw h hl he
  | sp f x => exact sim_sp hΩ h hl he
end
end Go.Proofs.Ytmfihcbafljcbaa.A
