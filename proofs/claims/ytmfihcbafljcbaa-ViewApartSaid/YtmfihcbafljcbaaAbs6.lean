/- Which operation of the model stands behind which abstract one; and that the quiet ones do the same. -/
import Derived.Test.YtmfihcbafljcbaaAbs5
import Derived.ChangeKeysEq
import Derived.Laws.StructEq
set_option linter.unusedSectionVars false
set_option linter.unusedVariables false
set_option linter.unusedSimpArgs false
set_option linter.constructorNameAsVariable false
namespace Go.Proofs.Ytmfihcbafljcbaa.A
open Go
variable [Base]

def fieldOf (P : Program) (t : TypeId) (i : Nat) : Option Field :=
  match P.underlying t with
  | some (.struct fs) => fs[i]?
  | _ => none
def sliceOf (P : Program) (t : TypeId) : Option TypeId :=
  match P.underlying t with
  | some (.slice e) => some e
  | _ => none
def isStrT (P : Program) (t : TypeId) : Bool := match P.underlying t with
  | some .string => true
  | _ => false
def isBoolT (P : Program) (t : TypeId) : Bool := match P.underlying t with
  | some .bool => true
  | _ => false
def intT (P : Program) (t : TypeId) : Option IntKind := match P.underlying t with
  | some (.int k) => some k
  | _ => none
def sized (P : Program) (t sz : Nat) : Bool := (P.info? t).isSome && decide (P.cellsOf t = sz) && decide (0 < sz)
def lowOO (y : Option Operand) (x : Option Opd) : Bool :=
  match y, x with
  | none, none => true
  | some y, some x => lowO y x
  | _, _ => false
def lowParts (P : Program) (t : TypeId) : List (Nat × Operand) → List (Nat × Nat × Opd) → Bool
  | [], [] => true
  | (i, y) :: ys, (off, sz, x) :: xs => (match fieldOf P t i with
    | some f => f.offset == off && sized P f.type sz
    | none => false) && lowO y x && lowParts P t ys xs
  | _, _ => false
def zeroOf (P : Program) (t : TypeId) : Option Value := (P.info? t).bind (·.zero)

def flatFields (P : Program) : Nat → List Nat → List Field → Bool
  | _, [], [] => true
  | i, k :: ks, f :: fs => f.name != "_" && f.offset == i && P.plainKey f.type && (match k, P.underlying f.type with
    | 0, some .bool => true
    | 1, some (.int _) => true
    | 2, some .string => true
    | _, _ => false) && flatFields P (i + 1) ks fs
  | _, _, _ => false
/-- a struct of bools, integers and strings. -/
def flatT (P : Program) (ks : List Nat) (t : TypeId) : Bool := match P.underlying t with
  | some (.struct fs) => flatFields P 0 ks fs.toList && !P.stoodInHeld t && !(P.eqGuardType P.depth t)
  | _ => false
def ptrT (P : Program) (t : TypeId) : Bool := match P.underlying t with
  | some (.pointer e) => (P.info? e).isSome
  | _ => false
/-- a pointer to cell off of a row of n cells, t's, is turned to unsafe.Pointer and back. -/
def convOK (P : Program) (t n off : Nat) (s d : TypeId) : Bool := match P.underlying s, P.underlying d with
  | some (.pointer u), some .unsafePointer => (match P.info? u with | some j => j.size != 0 | none => false) && decide (off < n)
  | some .unsafePointer, some (.pointer u) => (P.info? u).isSome && liesAt P P.depth t (n / P.cellsOf t) off u 1
  | _, _ => false
def noEsc (P : Program) (f : FuncId) : Bool := match P.funcs[f]? with
  | some fn => fn.body.isNone && fn.name == "internal/abi.NoEscape" && fn.origin == ""
  | none => false
def lowOp (P : Program) (ao : AOp) (op : Op) : Bool :=
  match ao with
  | .mv x => match op with | .move y => lowO y x | _ => false
  | .as x => match op with | .assign y => lowO y x | _ => false
  | .pk c x y => match op with | .pick c' x' y' => lowO c' c && lowO x' x && lowO y' y | _ => false
  | .bx x => match op with | .box _ y => lowO y x | _ => false
  | .al zs => match op with | .alloc t => (match zeroOf P t with | some v => lowVL v.cells.toList zs && zs.all AV.one | none => false) | _ => false
  | .ld n x => match op with | .load t y => lowO y x && lowN P t n | _ => false
  | .st n x y => match op with | .store t x' y' => lowO x' x && lowO y' y && sized P t n | _ => false
  | .fa off x => match op with
    | .fieldAddr s y i => lowO y x && (match fieldOf P s i with | some f => f.offset == off && (P.info? f.type).isSome && decide (0 < P.cellsOf f.type) | none => false)
    | _ => false
  | .fd n off x => match op with
    | .field s y i => lowO y x && (match fieldOf P s i with | some f => f.offset == off && lowN P f.type n | none => false)
    | _ => false
  | .ia sz arr x i => match op with
    | .indexAddr t x' i' => lowO x' x && lowO i' i && (match arr, P.underlying t with
      | none, some (.slice e) => sized P e sz
      | some n, some (.array n' e) => n == n' && sized P e sz
      | _, _ => false)
    | _ => false
  | .ix x i => match op with | .index t x' i' => lowO x' x && lowO i' i && isStrT P t | _ => false
  | .bo o bl x y => match op with
    | .binOp o' t x' y' _ => decide (o = o') && lowO x' x && lowO y' y && (bl == isBoolT P t) && decide (o ≠ .or)
    | .call c => (match c.callee with | .builtin .max => true | _ => false) && (match c.args.toList with
      | [x', y'] => lowO x' x && lowO y' y && decide (o = .or)
      | _ => false)
    | _ => false
  | .no x => match op with | .unOp .not _ y => lowO y x | _ => false
  | .ng x => match op with | .unOp .neg _ y => lowO y x | _ => false
  | .cv k x => match op with | .convert s d y => lowO y x && (intT P d == some k) && (intT P s).isSome | _ => false
  | .cs x => match op with | .convert s d y => lowO y x && isStrT P d && (intT P s).isSome | _ => false
  | .ae ks ng x y => match op with | .binOp o' t x' y' _ => decide (o' = if ng then .neq else .eql) && lowO x' x && lowO y' y && flatT P ks t | _ => false
  | .bs t sz es => match op with
    | .buildSlice ty len parts => sliceOf P ty == some t && sized P t sz && len == es.length && decide (parts.toList.map (·.1) = List.range len) && lowOL (parts.toList.map (·.2)) es && decide (len * sz ≤ 16777216) &&
        (match zeroOf P t with | some v => v.cells.size == sz | none => false)
    | _ => false
  | .bd zs fs => match op with
    | .build t parts => (match zeroOf P t with | some v => lowVL v.cells.toList zs && zs.all AV.one | none => false) && lowParts P t parts.toList fs && (match P.underlying t with | some (.struct fs) => fs.all (fun f => (P.info? f.type).isSome) | _ => false)
    | _ => false
  | .ms t sz by_ z l => match op with
    | .makeSlice ty l' c' => sliceOf P ty == some t && sized P t sz && (P.bytesOf t == by_) && lowO l' l && lowO c' l && (match zeroOf P t with | some v => lowV v z && v.cells.size == sz && z.cl.all AV.one | none => false)
    | _ => false
  | .sl t sz x lo hi => match op with
    | .slice ty x' lo' hi' none => lowO x' x && lowOO lo' lo && lowOO hi' hi && (if t = 0 then isStrT P ty else sliceOf P ty == some t && sized P t sz)
    | _ => false
  | .ex x i => match op with | .extract y i' => lowO y x && i == i' | _ => false
  | .mf f caps => match op with | .makeFunc (.func f') first caps' => f == f' && first.isEmpty && lowOL caps'.toList caps | _ => false
  | .ca _ f args => match op with
    | .call c => (match c.callee with | .value (.func f') => f == f' | _ => false) && lowOL c.args.toList args
    | _ => false
  | .cf _ x args => match op with
    | .call c => (match c.callee with | .value y => lowO y x | _ => false) && lowOL c.args.toList args
    | _ => false
  | .c2 f args => match op with
    | .call c => (match c.callee with | .value (.func f') => f == f' | _ => false) && lowOL c.args.toList args
    | _ => false
  | .d2 x args => match op with
    | .call c => (match c.callee with | .value y => lowO y x | _ => false) && lowOL c.args.toList args
    | _ => false
  | .c3 f args => match op with
    | .call c => (match c.callee with | .value (.func f') => f == f' | _ => false) && lowOL c.args.toList args
    | _ => false
  | .d3 x args => match op with
    | .call c => (match c.callee with | .value y => lowO y x | _ => false) && lowOL c.args.toList args
    | _ => false
  | .cn f args => match op with
    | .call c => (match c.callee with | .value (.func f') => f == f' | _ => false) && lowOL c.args.toList args
    | _ => false
  | .cr _ f args => match op with
    | .call c => (match c.callee with | .value (.func f') => f == f' | _ => false) && lowOL c.args.toList args
    | _ => false
  | .ln str x => match op with
    | .call c => (match c.callee with | .builtin .len => true | _ => false) && (match c.args.toList, c.argTypes.toList with
      | [y], [t] => lowO y x && (if str then isStrT P t else (sliceOf P t).isSome)
      | _, _ => false)
    | _ => false
  | .ap t sz by_ x y => match op with
    | .call c => (match c.callee with | .builtin .append => true | _ => false) && (match c.args.toList, c.argTypes.toList with
      | [x', y'], [t1, t2] => lowO x' x && lowO y' y && t1 == t2 && sliceOf P t1 == some t && sized P t sz && (P.bytesOf t == by_) && (match zeroOf P t with | some v => v.cells.size == sz | none => false)
      | _, _ => false)
    | _ => false
  | .nc x => match op with | .nilCheck y => lowO y x | _ => false
  | .cw _ f args => match op with
    | .call c => (match c.callee with | .value (.func f') => f == f' | _ => false) && lowOL c.args.toList args
    | _ => false
  | .vi _ f args => match op with
    | .call c => (match c.callee with | .value (.func f') => f == f' | _ => false) && lowOL c.args.toList args
    | _ => false
  | .ch f args _ _ _ => match op with
    | .call c => (match c.callee with | .value (.func f') => f == f' | _ => false) && lowOL c.args.toList args
    | _ => false
  | .lk n x _ _ => match op with | .load t y => lowO y x && lowN P t n | _ => false
  | .bz t off x => match op with | .box t' y => t == t' && lowO y x | _ => false
  | .lz x => match op with | .load t y => lowO y x && lowN P t none | _ => false
  | .pe ng x y => match op with | .binOp o' t x' y' _ => decide (o' = if ng then .neq else .eql) && lowO x' x && lowO y' y && ptrT P t | _ => false
  | .cp t n off x => match op with
    | .convert s d y => lowO y x && convOK P t n off s d
    | .call c => (match c.callee with | .value (.func f') => noEsc P f' | _ => false) && lowOL c.args.toList [x]
    | _ => false
  | .aq t x y => match op with
    | .call c => (match c.callee with | .builtin .append => true | _ => false) && (match c.args.toList, c.argTypes.toList with
      | [x', y'], [t1, t2] => lowO x' x && lowO y' y && isStrT P t2 && sliceOf P t1 == some t && sized P t 1 && (P.bytesOf t == 1) && (match zeroOf P t with | some v => v.cells.size == 1 | none => false)
      | _, _ => false)
    | _ => false
  | .sz x y => match op with | .store t x' y' => lowO x' x && lowO y' y && sized P t 1 | _ => false
  | .tx x => match op with
    | .convert s d y => lowO y x && isStrT P d && (match sliceOf P s with | some e => intT P e == some .u8 && sized P e 1 | none => false)
    | _ => false
  | .sb f x => match op with
    | .call c => (match c.callee with | .value (.func f') => f == f' | _ => false) && lowOL c.args.toList [x]
    | _ => false
  | .xw x i => match op with | .extract y i' => lowO y x && i == i' | _ => false
  | .sw n x y => match op with | .store t x' y' => lowO x' x && lowO y' y && sized P t n | _ => false
  | .lw n x => match op with | .load t y => lowO y x && sized P t n && lowN P t (some n) | _ => false
  | .sp f x => match op with
    | .call c => (match c.callee with | .value (.func f') => f == f' | _ => false) && lowOL c.args.toList [x]
    | _ => false


section
variable {w : World} {I : Nat → Prop} {κ : Key → Nat} {v : Value}
theorem VR.b_inv {x : Bool} (h : VR w I κ (.b x) v) : v = .bool x := by cases h; rfl
theorem VR.i_inv {k : IntKind} {n : Int} (h : VR w I κ (.i k n) v) : v = .int k n := by cases h; rfl
theorem VR.s_inv {l : List UInt8} (h : VR w I κ (.s l) v) : v = .string ⟨l.toArray⟩ := by cases h; rfl
theorem VR.n_inv (h : VR w I κ .n v) : v = .slice none 0 0 := by cases h; rfl
theorem VR.sk_inv (h : VR w I κ .sk v) : v = undef := by cases h; rfl
theorem VR.sp_inv {k : Key} {off n sz : Nat} (h : VR w I κ (.sp k off n sz) v) : ∃ cap, n ≤ cap ∧ cap ≤ maxLen ∧ v = .slice (some ⟨κ k, off, none⟩) n cap := by
  cases h with
  | sp _ _ _ _ cap h1 h2 => exact ⟨cap, h1, h2, rfl⟩
theorem VR.p_inv {k : Key} {off : Nat} (h : VR w I κ (.p k off) v) : v = .pointer (some ⟨κ k, off, none⟩) := by cases h; rfl
theorem VR.a_inv {cs : List AV} (h : VR w I κ (.a cs) v) : ∃ vs, v = .agg vs ∧ cs.length = vs.size ∧ (∀ c ∈ cs, c.one = true) ∧ ∀ (m : Nat) (c : AV), cs[m]? = some c → VR w I κ c (vs.getD m undef) := by
  cases h with | a _ vs hl h1 hc => exact ⟨vs, rfl, hl, h1, hc⟩
theorem VR.tp_inv {cs : List AV} (h : VR w I κ (.tp cs) v) : ∃ vs, v = .tuple vs ∧ cs.length = vs.size ∧ ∀ (m : Nat) (c : AV), cs[m]? = some c → VR w I κ c (vs.getD m undef) := by
  cases h with | tp _ vs hl hc => exact ⟨vs, rfl, hl, hc⟩
theorem VR.f_inv {g : FuncId} {cs : List AV} (h : VR w I κ (.f g cs) v) : ∃ vs, v = .func (.func g) #[] vs ∧ cs.length = vs.size ∧ ∀ (m : Nat) (c : AV), cs[m]? = some c → VR w I κ c (vs.getD m undef) := by
  cases h with | f _ _ vs hl hc => exact ⟨vs, rfl, hl, hc⟩
theorem VR.e_inv {x : AV} {off : Nat} (h : VR w I κ (.e x off) v) : ∃ g o cs T fz, v = .pointer (some ⟨g, o + off, none⟩) ∧ I g ∧ w.heap[g]? = some (.cells cs T fz) ∧ x.pure = true ∧ o + x.nc ≤ cs.size ∧
    (∀ c ∈ x.cl, c.one = true) ∧ ∀ (m : Nat) (c : AV), x.cl[m]? = some c → VR w I κ c (cs.getD (o + m) undef) := by
  cases h with | e _ _ g o cs T fz hI hh hp hs h1 hc => exact ⟨g, o, cs, T, fz, rfl, hI, hh, hp, hs, h1, hc⟩
theorem VR.l_inv {t : TypeId} {es : List AV} (h : VR w I κ (.l t es) v) : ∃ A cap, v = .slice A es.length cap ∧ (es = [] ∨ ∃ g o cs T fz sz, A = some ⟨g, o, none⟩ ∧ I g ∧ w.heap[g]? = some (.cells cs T fz) ∧ (t ≠ 0 → (Base.n0 ≤ g → T = t ∧ fz = (0, 0)) ∧ (g < Base.n0 → Base.tg t = true)) ∧ 0 < sz ∧
    (∀ e ∈ es, e.nc = sz) ∧ o + es.length * sz ≤ cs.size ∧ (∀ e ∈ es, e.pure = true) ∧ (∀ e ∈ es, ∀ c ∈ e.cl, c.one = true) ∧ es.length ≤ cap ∧ cap ≤ maxLen ∧
    ∀ (j : Nat) (e : AV) (m : Nat) (c : AV), es[j]? = some e → e.cl[m]? = some c → VR w I κ c (cs.getD (o + j * sz + m) undef)) := by
  cases h with
  | lnil _ A cap => exact ⟨A, cap, rfl, .inl rfl⟩
  | l _ _ g o cap cs T fz sz hI hh ht hsz hnc hsize hp h1 hcap hmax hc => exact ⟨_, cap, rfl, .inr ⟨g, o, cs, T, fz, sz, rfl, hI, hh, ht, hsz, hnc, hsize, hp, h1, hcap, hmax, hc⟩⟩
end

/-- what an operation leaves. -/
structure OpR (C : Cx) (st' : St) (a : Act) (w : World) (σ : Sp) (d : Option Nat) (x : AV) (cv : Value) (w' : World) (σ' : Sp) : Prop where
  stp : Stp C w σ w' σ'
  conc : Conc C st' a w' σ'
  val : ∀ dd, d = some dd → SR C w' σ' st' a dd x cv
  own : ∀ dd t es, d = some dd → x = .o t es → ∀ d', (fget st'.fr d').bor (.s dd) = false
def Sim (C : Cx) (o : Oper) (d : Option Nat) (a : Act) (w : World) (σ : Sp) (st' : St) (x : AV) : Prop :=
  ∀ (K : Act → World → Prop) (Q : Exit → Act → World → Prop), (∀ cv w' σ', OpR C st' a w σ d x cv w' σ' → K (a.put o.dst cv) w') → o.wp C.P a w K Q

section
variable {C : Cx} {st : St} {a : Act} {w : World} {σ : Sp} {o : Oper} {d : Option Nat}
theorem Sim.of_run {st' : St} {x : AV} {cv : Value} {w' : World} {σ' : Sp} (hr : (Go.execOp a.eval o).run C.P w = .ok (.value cv) w') (h : OpR C st' a w σ d x cv w' σ') : Sim C o d a w σ st' x := by
  intro K Q hK
  unfold Oper.wp
  rw [hr]
  exact hK _ _ _ h
theorem Sim.of_skip {st' : St} {x : AV} {w' : World} {σ' : Sp} (hr : (Go.execOp a.eval o).run C.P w = .ok .skip w') (h : OpR C st' a w σ d x undef w' σ') : Sim C o d a w σ st' x := by
  intro K Q hK
  unfold Oper.wp
  rw [hr]
  exact hK _ _ _ h
/-- a value that may be copied, and nothing else. -/
theorem Sim.quiet {x : AV} {cv : Value} (h : Conc C st a w σ) (hr : (Go.execOp a.eval o).run C.P w = .ok (.value cv) w) (hx : x.copy = true) (hv : VR w σ.I σ.κ x cv) :
    Sim C o d a w σ st x :=
  .of_run hr ⟨.refl _ _ _, h, fun _ _ => SR_of_VR (.inl hx) hv, fun _ _ _ _ e => by subst e; simp [AV.copy] at hx⟩
/-- a value that borrows. -/
theorem Sim.lent {x : AV} {cv : Value} (h : Conc C st a w σ) (hr : (Go.execOp a.eval o).run C.P w = .ok (.value cv) w) (hx : ∀ t es, x ≠ .o t es) (hv : ∀ dd, SR C w σ st a dd x cv) :
    Sim C o d a w σ st x :=
  .of_run hr ⟨.refl _ _ _, h, fun dd _ => hv dd, fun _ _ _ _ e => absurd e (hx _ _)⟩

theorem copy_or {x : AV} (h : x.copy = false) : x = .u ∨ (∃ t es, x = .o t es) ∨ isBor x = true ∨ (∃ cs, x = .a cs) ∨ (∃ cs, x = .tp cs) ∨ (∃ g cs, x = .f g cs) ∨ ∃ t y, x = .ifc t y := by
  cases x <;> simp [AV.copy, isBor] at h ⊢
theorem VR_slot {n : Nat} {x : AV} {v : Value} (hx : ∀ t es, x ≠ .o t es) (hb : isBor x = false) (h : SR C w σ st a n x v) : VR w σ.I σ.κ x v := by
  cases x <;> first | exact h | exact absurd rfl (hx _ _) | (simp [isBor] at hb)
theorem SR_any {n m : Nat} {x : AV} {v : Value} (hx : ∀ t es, x ≠ .o t es) (h : SR C w σ st a n x v) : SR C w σ st a m x v := by
  cases x <;> first | exact h | exact absurd rfl (hx _ _)

theorem SR_VR {d : Nat} {x : AV} {v : Value} (h : VR w σ.I σ.κ x v) : SR C w σ st a d x v := by
  cases x <;> first | exact h | cases h
/-- an operand that is neither owned nor borrowed. -/
theorem Conc.opdV (h : Conc C st a w σ) {y : Operand} {x : Opd} (hl : lowO y x = true) (ho : ∀ t es, st.ev x ≠ .o t es) (hb : isBor (st.ev x) = false) : VR w σ.I σ.κ (st.ev x) (a.eval y) := by
  cases x with
  | t n => exact VR_slot ho hb (h.slot hl)
  | c z => exact h.opd hl (pure_copy z (opd_pure hl))
theorem sim_mv {R : Rec} {Ω : Orc} {x : Opd} {r : AV × St} (h : Conc C st a w σ) (hl : lowOp C.P (.mv x) o.op = true) (he : execOp R Ω C.E st d (.mv x) = some r) :
    Sim C o d a w σ r.2 r.1 := by
  obtain ⟨y, hop, hlo⟩ : ∃ y, o.op = .move y ∧ lowO y x = true := by
    simp only [lowOp] at hl; split at hl
    · rename_i y hy; exact ⟨y, hy, hl⟩
    · cases hl
  have hr : (Go.execOp a.eval o).run C.P w = .ok (.value (a.eval y)) w := by unfold Go.execOp; simp [hop]
  simp only [execOp] at he
  cases x with
  | c z =>
    simp only [St.ev] at he
    have hp := opd_pure hlo
    have hc : z.copy = true := pure_copy z hp
    have hv := h.opd (x := .c z) hlo hc
    cases z <;> first | (simp [AV.copy] at hc; done) | skip
    all_goals
      obtain rfl := Option.some.inj he
      exact .quiet h hr hc hv
  | t n =>
    have hs := h.slot hlo
    simp only [St.ev] at he
    cases hx : fget st.fr n with
    | o t es =>
      rw [hx] at he
      obtain rfl := Option.some.inj he
      refine .lent h hr (fun _ _ e => by cases e) fun dd => ?_
      intro _
      rw [opd_tmp hlo]; rfl
    | _ =>
      rw [hx] at he hs
      obtain rfl := Option.some.inj he
      exact .lent h hr (fun _ _ e => by cases e) fun dd => SR_any (fun _ _ e => by cases e) hs

theorem sim_pk {R : Rec} {Ω : Orc} {c x y : Opd} {r : AV × St} (h : Conc C st a w σ) (hl : lowOp C.P (.pk c x y) o.op = true) (he : execOp R Ω C.E st d (.pk c x y) = some r) :
    Sim C o d a w σ r.2 r.1 := by
  obtain ⟨c', x', y', hop, hc, hx, hy⟩ : ∃ c' x' y', o.op = .pick c' x' y' ∧ lowO c' c = true ∧ lowO x' x = true ∧ lowO y' y = true := by
    simp only [lowOp] at hl; split at hl
    · rename_i c' x' y' hy
      simp only [Bool.and_eq_true] at hl
      exact ⟨c', x', y', hy, hl.1.1, hl.1.2, hl.2⟩
    · cases hl
  simp only [execOp] at he
  obtain ⟨z, hz, he⟩ := Option.bind_eq_some_iff.1 he
  have hcb : st.ev c = .b z := by
    cases hcc : st.ev c <;> rw [hcc] at hz <;> simp [asB] at hz
    rw [hz]
  have hce : a.eval c' = .bool z := by
    have := h.opd hc (by rw [hcb]; rfl)
    rw [hcb] at this
    exact this.b_inv
  have hr : (Go.execOp a.eval o).run C.P w = .ok (.value (if z = true then a.eval x' else a.eval y')) w := by unfold Go.execOp; simp [hop, hce, asBool]
  cases z with
  | true =>
    simp only [if_true] at he hr
    split at he
    · rename_i hcp
      obtain rfl := Option.some.inj he
      exact .quiet h hr hcp (h.opd hx hcp)
    · cases he
  | false =>
    simp only [if_false, Bool.false_eq_true] at he hr
    split at he
    · rename_i hcp
      obtain rfl := Option.some.inj he
      exact .quiet h hr hcp (h.opd hy hcp)
    · cases he

theorem sim_no {R : Rec} {Ω : Orc} {x : Opd} {r : AV × St} (h : Conc C st a w σ) (hl : lowOp C.P (.no x) o.op = true) (he : execOp R Ω C.E st d (.no x) = some r) :
    Sim C o d a w σ r.2 r.1 := by
  obtain ⟨t, y, hop, hlo⟩ : ∃ t y, o.op = .unOp .not t y ∧ lowO y x = true := by
    simp only [lowOp] at hl; split at hl
    · rename_i t y hy; exact ⟨t, y, hy, hl⟩
    · cases hl
  simp only [execOp] at he
  obtain ⟨z, hz, he⟩ := Option.bind_eq_some_iff.1 he
  have hcb : st.ev x = .b z := by
    cases hcc : st.ev x <;> rw [hcc] at hz <;> simp [asB] at hz
    rw [hz]
  have hce : a.eval y = .bool z := by
    have := h.opd hlo (by rw [hcb]; rfl)
    rw [hcb] at this
    exact this.b_inv
  obtain rfl := Option.some.inj he
  exact .quiet h (cv := .bool (!z)) (by unfold Go.execOp; simp [hop, hce, Op.unary]) rfl (.b _)
theorem sim_ng {R : Rec} {Ω : Orc} {x : Opd} {r : AV × St} (h : Conc C st a w σ) (hl : lowOp C.P (.ng x) o.op = true) (he : execOp R Ω C.E st d (.ng x) = some r) :
    Sim C o d a w σ r.2 r.1 := by
  obtain ⟨t, y, hop, hlo⟩ : ∃ t y, o.op = .unOp .neg t y ∧ lowO y x = true := by
    simp only [lowOp] at hl; split at hl
    · rename_i t y hy; exact ⟨t, y, hy, hl⟩
    · cases hl
  simp only [execOp] at he
  split at he
  · rename_i k n hx
    have hce : a.eval y = .int k n := by
      have := h.opd hlo (by rw [hx]; rfl)
      rw [hx] at this
      exact this.i_inv
    obtain rfl := Option.some.inj he
    exact .quiet h (cv := .int k (k.wrap (0 - n))) (by unfold Go.execOp; simp [hop, hce, Op.unary, Op.intArith]) rfl (.i _ _)
  · cases he
theorem sim_cv {R : Rec} {Ω : Orc} {k : IntKind} {x : Opd} {r : AV × St} (h : Conc C st a w σ) (hl : lowOp C.P (.cv k x) o.op = true) (he : execOp R Ω C.E st d (.cv k x) = some r) :
    Sim C o d a w σ r.2 r.1 := by
  obtain ⟨s, t, y, hop, hlo, hk, hs⟩ : ∃ s t y, o.op = .convert s t y ∧ lowO y x = true ∧ intT C.P t = some k ∧ (intT C.P s).isSome = true := by
    simp only [lowOp] at hl; split at hl
    · rename_i s t y hy
      simp only [Bool.and_eq_true, beq_iff_eq] at hl
      exact ⟨s, t, y, hy, hl.1.1, hl.1.2, hl.2⟩
    · cases hl
  have hut : C.P.underlying t = some (.int k) := by
    unfold intT at hk; split at hk
    · rename_i k' hk'; simp at hk; rw [hk', hk]
    · cases hk
  obtain ⟨k', hk'⟩ := Option.isSome_iff_exists.1 hs
  have hus : C.P.underlying s = some (.int k') := by
    unfold intT at hk'; split at hk'
    · rename_i k'' hk''; simp at hk'; rw [hk'', hk']
    · cases hk'
  simp only [execOp] at he
  split at he
  · rename_i k0 n hx
    have hce : a.eval y = .int k0 n := by
      have := h.opd hlo (by rw [hx]; rfl)
      rw [hx] at this
      exact this.i_inv
    obtain rfl := Option.some.inj he
    exact .quiet h (cv := .int k (k.wrap n)) (by unfold Go.execOp; simp [hop, hce, convert, run_underlying hut, run_underlying hus, Conv.intToInt]) rfl (.i _ _)
  · cases he
theorem sim_cs {R : Rec} {Ω : Orc} {x : Opd} {r : AV × St} (h : Conc C st a w σ) (hl : lowOp C.P (.cs x) o.op = true) (he : execOp R Ω C.E st d (.cs x) = some r) :
    Sim C o d a w σ r.2 r.1 := by
  obtain ⟨s, t, y, hop, hlo, hk, hs⟩ : ∃ s t y, o.op = .convert s t y ∧ lowO y x = true ∧ isStrT C.P t = true ∧ (intT C.P s).isSome = true := by
    simp only [lowOp] at hl; split at hl
    · rename_i s t y hy
      simp only [Bool.and_eq_true] at hl
      exact ⟨s, t, y, hy, hl.1.1, hl.1.2, hl.2⟩
    · cases hl
  have hut : C.P.underlying t = some .string := by
    unfold isStrT at hk; split at hk
    · rename_i hk'; exact hk'
    · cases hk
  obtain ⟨k', hk'⟩ := Option.isSome_iff_exists.1 hs
  have hus : C.P.underlying s = some (.int k') := by
    unfold intT at hk'; split at hk'
    · rename_i k'' hk''; simp at hk'; rw [hk'', hk']
    · cases hk'
  simp only [execOp] at he
  split at he
  · rename_i k0 n hx
    have hce : a.eval y = .int k0 n := by
      have := h.opd hlo (by rw [hx]; rfl)
      rw [hx] at this
      exact this.i_inv
    split at he
    · rename_i hn
      obtain rfl := Option.some.inj he
      have henc : Utf8.encode n = ⟨#[UInt8.ofNat n.toNat]⟩ := by
        obtain ⟨h1, h2⟩ := hn
        have hv : Utf8.valid n = true := by simp [Utf8.valid]; omega
        simp [Utf8.encode, hv, show n.toNat < 128 by omega]
      exact .quiet h (cv := .string ⟨#[UInt8.ofNat n.toNat]⟩) (by unfold Go.execOp; simp [hop, hce, convert, run_underlying hut, run_underlying hus, Conv.intToString, henc]) rfl (.s [UInt8.ofNat n.toNat])
    · cases he
  · cases he
theorem sim_ex {R : Rec} {Ω : Orc} {x : Opd} {i : Nat} {r : AV × St} (h : Conc C st a w σ) (hl : lowOp C.P (.ex x i) o.op = true) (he : execOp R Ω C.E st d (.ex x i) = some r) :
    Sim C o d a w σ r.2 r.1 := by
  obtain ⟨y, hop, hlo⟩ : ∃ y, o.op = .extract y i ∧ lowO y x = true := by
    simp only [lowOp] at hl; split at hl
    · rename_i y i' hy
      simp only [Bool.and_eq_true, beq_iff_eq] at hl
      exact ⟨y, by rw [hy, hl.2], hl.1⟩
    · cases hl
  simp only [execOp] at he
  split at he
  · rename_i vs hx
    obtain ⟨z, hz, he⟩ := Option.bind_eq_some_iff.1 he
    obtain rfl := Option.some.inj he
    obtain ⟨us, hu, hlen, hc⟩ := (hx ▸ h.opdV hlo (by rw [hx]; simp) (by rw [hx]; rfl)).tp_inv
    have hv := hc i z hz
    have hi : i < us.size := by
      rcases Nat.lt_or_ge i vs.length with h1 | h1
      · omega
      · simp [h1] at hz
    have hr : (Go.execOp a.eval o).run C.P w = .ok (.value us[i]) w := by unfold Go.execOp; simp [hop, hu, Instr.extract, hi]
    simp only [hi, Array.getD_eq_getD_getElem?, getElem?_pos, Option.getD_some] at hv
    exact .of_run hr ⟨.refl _ _ _, h, fun _ _ => SR_VR hv, fun _ _ _ _ e => by subst e; cases hv⟩
  · cases he
theorem lowOL_mem : ∀ {ys : List Operand} {xs : List Opd}, lowOL ys xs = true → ys.length = xs.length ∧ ∀ (m : Nat) x, xs[m]? = some x → ∃ y, ys[m]? = some y ∧ lowO y x = true
  | [], [], _ => ⟨rfl, fun m x hx => by simp at hx⟩
  | y :: ys, x :: xs, h => by
    obtain ⟨h1, h2⟩ : lowO y x = true ∧ lowOL ys xs = true := by simpa [lowOL] using h
    obtain ⟨hl, hm⟩ := lowOL_mem h2
    refine ⟨by simp [hl], fun m z hz => ?_⟩
    cases m with
    | zero =>
      have e : x = z := by simpa using hz
      exact ⟨y, rfl, e ▸ h1⟩
    | succ m => simpa using hm m z (by simpa using hz)
  | [], _ :: _, h => by simp [lowOL] at h
  | _ :: _, [], h => by simp [lowOL] at h
theorem sim_mf {R : Rec} {Ω : Orc} {f : FuncId} {xs : List Opd} {r : AV × St} (h : Conc C st a w σ) (hl : lowOp C.P (.mf f xs) o.op = true) (he : execOp R Ω C.E st d (.mf f xs) = some r) :
    Sim C o d a w σ r.2 r.1 := by
  obtain ⟨ys, hop, hlo⟩ : ∃ ys, o.op = .makeFunc (.func f) #[] ys ∧ lowOL ys.toList xs = true := by
    simp only [lowOp] at hl; split at hl
    · rename_i f' first ys hy
      simp only [Bool.and_eq_true, beq_iff_eq] at hl
      refine ⟨ys, ?_, hl.2⟩
      rw [hy, hl.1.1]
      congr 1
      simpa using hl.1.2
    · cases hl
  obtain ⟨hlen, hm⟩ := lowOL_mem hlo
  simp only [execOp] at he
  split at he
  · rename_i hcp
    obtain rfl := Option.some.inj he
    refine .quiet h (cv := .func (.func f) #[] (ys.map a.eval)) (by unfold Go.execOp; simp [hop, Instr.makeFunc]) (by simpa [AV.copy] using hcp) (.f f _ _ (by simpa using hlen.symm) fun m c hc => ?_)
    have hc' : (xs.map st.ev)[m]? = some c := hc
    rw [List.getElem?_map] at hc'
    obtain ⟨x, hx, rfl⟩ := Option.map_eq_some_iff.1 hc'
    obtain ⟨y, hy, hxy⟩ := hm m x hx
    have hv := h.opd hxy (copyL_mem hcp _ (List.mem_map.2 ⟨x, List.mem_of_getElem? hx, rfl⟩))
    have hy' : ys[m]? = some y := by simpa using hy
    simpa [hy'] using hv
  · cases he
theorem sim_nc {R : Rec} {Ω : Orc} {x : Opd} {r : AV × St} (h : Conc C st a w σ) (hl : lowOp C.P (.nc x) o.op = true) (he : execOp R Ω C.E st d (.nc x) = some r) :
    Sim C o d a w σ r.2 r.1 := by
  obtain ⟨y, hop, hlo⟩ : ∃ y, o.op = .nilCheck y ∧ lowO y x = true := by
    simp only [lowOp] at hl; split at hl
    · rename_i y hy; exact ⟨y, hy, hl⟩
    · cases hl
  simp only [execOp] at he
  split at he
  · rename_i k off hx
    obtain rfl := Option.some.inj he
    have hv := (hx ▸ h.opdV hlo (by rw [hx]; simp) (by rw [hx]; rfl))
    exact .quiet h (cv := a.eval y) (by unfold Go.execOp; simp [hop, hv.p_inv]) rfl hv
  · rename_i z off hx
    obtain rfl := Option.some.inj he
    have hv := (hx ▸ h.opdV hlo (by rw [hx]; simp) (by rw [hx]; rfl))
    obtain ⟨g, o', cs, T, fz, hvv, _⟩ := hv.e_inv
    exact .quiet h (cv := a.eval y) (by unfold Go.execOp; simp [hop, hvv]) rfl hv
  · cases he
  · rename_i g caps hx
    obtain rfl := Option.some.inj he
    have hv := (hx ▸ h.opdV hlo (by rw [hx]; simp) (by rw [hx]; rfl))
    obtain ⟨vs, hvv, _⟩ := hv.f_inv
    exact .of_run (cv := a.eval y) (by unfold Go.execOp; simp [hop, hvv]) ⟨.refl _ _ _, h, fun _ _ => SR_VR hv, fun _ _ _ _ e => by cases e⟩
  · cases he
end
end Go.Proofs.Ytmfihcbafljcbaa.A
