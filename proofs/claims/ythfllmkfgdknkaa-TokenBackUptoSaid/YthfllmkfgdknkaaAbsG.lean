/- Calls of functions that change nothing; every operation. -/
import Derived.Test.YthfllmkfgdknkaaAbsF
set_option linter.unusedSectionVars false
set_option linter.unusedVariables false
set_option linter.unusedSimpArgs false
set_option linter.constructorNameAsVariable false
namespace Go.Proofs.Ythfllmkfgdknkaa.A
open Go
variable [Base]

/-- a function of the program that has a body. -/
def bodied (P : Program) (f : FuncId) : Prop := ∃ fn, P.funcs[f]? = some fn ∧ fn.body.isNone = false ∧ (fn.name == "runtime.NumGoroutine") = false
/-- what a call comes to that changes nothing. -/
def CallOK (P : Program) (f : FuncId) (ys : List AV) (x : AV) : Prop :=
  bodied P f ∧ ∀ (w : World) (I : Nat → Prop) (κ : Key → Nat) (cargs : Array Value), Base.n0 ≤ w.heap.size → (∀ b, I b → b < w.heap.size) → cargs.size = ys.length → (∀ (i : Nat) (y : AV), ys[i]? = some y → VR w I κ y (cargs.getD i undef)) →
    Calls P f cargs w fun e w' => ∃ v I', e = .returned v ∧ VR w' I' κ x v ∧ w.heap.size ≤ w'.heap.size ∧ (∀ b, b < w.heap.size → w'.heap[b]? = w.heap[b]?) ∧ (∀ b, I b → I' b) ∧ (∀ b, I' b → I b ∨ w.heap.size ≤ b) ∧ (∀ b, I' b → b < w'.heap.size) ∧ w'.os = w.os ∧ w'.output = w.output
/-- what a function at a depth may write, of what it sees. -/
def cxOf (P : Program) (W : Nat → Prop) (dp : Nat) : Cx := ⟨P, W, ⟨dp, false⟩, 0⟩
/-- boxes in sight, and who owns what. -/
structure HpOK (P : Program) (W : Nat → Prop) (dp : Nat) (hp : HP) (w : World) (σ : Sp) : Prop where
  bx : ∀ k cs, hp k = some cs → k.dp < dp → ∃ vs T, BoxAt (cxOf P W dp) w σ k cs vs T
  deep : ∀ k cs, hp k = some cs → k.dp ≠ dp → k.dp < dp ∧ ∀ c ∈ cs, c.deep k.dp = true
  own : ∀ b l, σ.ow b = some l → b < w.heap.size
  imm : ∀ b, σ.I b → b < w.heap.size ∧ σ.ow b = none
/-- what a call comes to that may change the boxes in sight. -/
def CallOK2 (P : Program) (dp : Nat) (f : FuncId) (ys : List AV) (hp : HP) (x : AV) (hp' : HP) : Prop :=
  x.pure = true ∧ bodied P f ∧ ∀ (W : Nat → Prop) (w : World) (σ : Sp) (cargs : Array Value), (∀ b, w.heap.size ≤ b → W b ∧ Base.n0 ≤ b) → HpOK P W dp hp w σ → cargs.size = ys.length →
    (∀ (i : Nat) (y : AV), ys[i]? = some y → VR w σ.I σ.κ y (cargs.getD i undef)) →
    Calls P f cargs w fun e w' => ∃ v σ', e = .returned v ∧ VR w' σ'.I σ'.κ x v ∧ Stp (cxOf P W dp) w σ w' σ' ∧ HpOK P W dp hp' w' σ'
def RecOK (P : Program) (R : Rec) : Prop := ∀ dp f ys hp x hp', R ⟨dp, false⟩ f ys hp = some (.ret x, hp') → (∀ y ∈ ys, y.copy = true) → CallOK2 P dp f ys hp x hp'
def OrcOK (P : Program) (Ω : Orc) : Prop := ∀ f ys x, Ω f ys = some x → (∀ y ∈ ys, y.pure = true) → CallOK P f ys x

theorem RecOK.pure {P : Program} {R : Rec} (hR : RecOK P R) {f : FuncId} {ys : List AV} {x : AV} {hp' : HP} (he : R ⟨0, false⟩ f ys (fun _ => none) = some (.ret x, hp')) (hy : ∀ y ∈ ys, y.pure = true) : CallOK P f ys x := by
  obtain ⟨hpx, hb, hc⟩ := hR 0 f ys _ x hp' he (fun y hm => pure_copy y (hy y hm))
  refine ⟨hb, fun w I κ cargs hn hI hs ha => ?_⟩
  refine (hc (fun b => w.heap.size ≤ b) w ⟨κ, fun _ => none, I⟩ cargs (fun b hb => ⟨hb, Nat.le_trans hn hb⟩) ⟨fun k cs hk => (by cases hk), fun k cs hk => (by cases hk), fun b l hb => (by cases hb), fun b hb => ⟨hI b hb, rfl⟩⟩ hs ha).mono ?_
  rintro e w' ⟨v, σ', rfl, hv, hst, hH⟩
  exact ⟨v, σ'.I, rfl, hv.noI (fun _ h => h) (fun _ _ => rfl) hpx, hst.size, fun b hb => hst.keep b hb (show ¬ w.heap.size ≤ b by omega), hst.up, hst.dn, fun b hb => (hH.imm b hb).1, hst.io⟩

theorem off_cl {ts : List TypeId} {x : AV} (h : x.off ts = true) : ∀ c ∈ x.cl, c.off ts = true := by
  intro c hc
  cases x <;> simp only [AV.cl, List.mem_singleton] at hc <;> first | (subst hc; exact h) | skip
  exact offL_mem (by simpa [AV.off] using h) c hc
/-- what names none of these types does not lie in memory of these types. -/
theorem VR.away {w : World} {I B : Nat → Prop} {κ : Key → Nat} {ts : List TypeId} (hts : ts ≠ []) (hB : ∀ b, B b → ∃ cs T fz, w.heap[b]? = some (.cells cs T fz) ∧ T ∈ ts ∧ Base.n0 ≤ b) {x : AV} {v : Value} (h : VR w I κ x v) (hx : x.off ts = true) :
    VR w (fun b => I b ∧ ¬ B b) κ x v := by
  induction h with
  | u v => exact .u v
  | sk => exact .sk
  | b x => exact .b x
  | i k n => exact .i k n
  | s l => exact .s l
  | n => exact .n
  | z => exact .z
  | nf => exact .nf
  | ni => exact .ni
  | lnil t A cap => exact .lnil t A cap
  | l t es g o cap cs T fz sz hI0 hh0 ht hsz hnc hsize hp h1 hcap hmax hc ih =>
    cases es with
    | nil => exact .lnil _ _ _
    | cons e0 es =>
      have hx' : (t ≠ 0 ∧ ¬ t ∈ ts) ∧ AV.offL ts (e0 :: es) = true := by
        simpa [AV.off, Bool.and_assoc, and_assoc] using hx
      refine .l t (e0 :: es) g o cap cs T fz sz ⟨hI0, fun hb => ?_⟩ hh0 ht hsz hnc hsize hp h1 hcap hmax fun j e m c he hc' => ih j e m c he hc' (off_cl (offL_mem hx'.2 e (List.mem_of_getElem? he)) c (List.mem_of_getElem? hc'))
      obtain ⟨cs', T', fz', h2, h3, h4⟩ := hB g hb
      rw [hh0] at h2
      simp only [Option.some.injEq, Obj.cells.injEq] at h2
      rcases ht hx'.1.1 with h5 | h5
      · rw [← h2.2.1, h5] at h3
        exact hx'.1.2 h3
      · omega
  | e x off g o cs T fz hI0 hh0 hp hsize h1 hc ih =>
    simp only [AV.off, List.isEmpty_iff] at hx
    exact absurd hx hts
  | f g caps vs hl hc ih => exact .f g caps vs hl fun m c hc' => ih m c hc' (offL_mem (by simpa [AV.off] using hx) c (List.mem_of_getElem? hc'))
  | a cs vs hl h1 hc ih => exact .a cs vs hl h1 fun m c hc' => ih m c hc' (offL_mem (by simpa [AV.off] using hx) c (List.mem_of_getElem? hc'))
  | tp cs vs hl hc ih => exact .tp cs vs hl fun m c hc' => ih m c hc' (offL_mem (by simpa [AV.off] using hx) c (List.mem_of_getElem? hc'))
  | ifc t x v h ih => exact .ifc t x v (ih (by simpa [AV.off] using hx))
  | p k off => exact .p k off

section
variable {C : Cx} {st : St} {a : Act} {w : World} {σ : Sp} {o : Oper} {d : Option Nat} {R : Rec} {Ω : Orc} {r : AV × St}

/-- what is handed over: a value and the memory of the function's own that it shows. -/
structure Lent (C : Cx) (w : World) (σ : Sp) (y : AV) (v : Value) (ts : List TypeId) (B : Nat → Prop) : Prop where
  vr : VR w (fun b => σ.I b ∨ B b) σ.κ y v
  pure : y.pure = true
  blk : ∀ b, B b → (∃ l, σ.ow b = some l) ∧ ∃ cs T fz, w.heap[b]? = some (.cells cs T fz) ∧ T ∈ ts ∧ Base.n0 ≤ b
theorem Conc.lent (h : Conc C st a w σ) {n : Nat} {x y : AV} {v : Value} {ts : List TypeId} (hx : SR C w σ st a n x v) (he : st.lend C.E.dp x = some (y, ts)) : ∃ B, Lent C w σ y v ts B := by
  have hrow : ∀ (L : Lbl) (wp : Prop) t es lo len cap' v, OwnAt C.P C.W w σ L wp t es v → lo + len ≤ es.length → (∀ A n cap, v = .slice A n cap → cap' = cap) →
      ∃ B, Lent C w σ (.l t ((es.drop lo).take len)) (match v with | .slice A _ cap => .slice (if cap = lo then A else A.map (·.add (lo * C.P.cellsOf t))) len (cap - lo) | v => v) [t] B := by
    intro L wp t es lo len cap' v ho hle _
    rcases ho with ⟨rfl, rfl⟩ | ⟨g, cap, cs, rfl, hR⟩
    · simp only [List.length_nil] at hle
      obtain rfl : lo = 0 := by omega
      obtain rfl : len = 0 := by omega
      exact ⟨fun _ => False, by simpa using VR.lnil _ _ _, rfl, fun _ h => h.elim⟩
    · by_cases hl : len = 0
      · subst hl
        exact ⟨fun _ => False, by simpa using VR.lnil _ _ _, by simp [AV.pure], fun _ h => h.elim⟩
      · have hec := hR.ecap
        refine ⟨fun b => b = g, ?_, rfl, fun b hb => ⟨⟨_, hb ▸ hR.ow⟩, cs, t, _, hb ▸ hR.hh, by simp, hb ▸ hR.base⟩⟩
        have := hR.imm (I := fun b => σ.I b ∨ b = g) (fun _ h => .inl h) (.inr rfl) hle
        simp only [if_neg (show ¬ cap = lo by omega), Option.map_some, add_lit, Nat.zero_add]
        exact this
  have hwhole : ∀ (L : Lbl) (wp : Prop) t es v, OwnAt C.P C.W w σ L wp t es v → ∃ B, Lent C w σ (.l t es) v [t] B := by
    intro L wp t es v ho
    rcases ho with ⟨rfl, rfl⟩ | ⟨g, cap, cs, rfl, hR⟩
    · exact ⟨fun _ => False, .lnil _ _ _, rfl, fun _ h => h.elim⟩
    · exact ⟨fun b => b = g, hR.imm0 (I := fun b => σ.I b ∨ b = g) (fun _ h => .inl h) (.inr rfl), rfl, fun b hb => ⟨⟨_, hb ▸ hR.ow⟩, cs, t, _, hb ▸ hR.hh, by simp, hb ▸ hR.base⟩⟩
  have hplain : ∀ x, SR C w σ st a n x v → x.pure = true → ∃ B, Lent C w σ x v [] B := fun x hx hp =>
    ⟨fun _ => False, (hx.toVR (pure_copy x hp)).mono (fun _ h => .inl h) (fun _ _ => rfl) (fun _ _ => rfl), hp, fun _ h => h.elim⟩
  cases x with
  | o t es =>
    obtain ⟨rfl, rfl⟩ := Prod.mk.inj (Option.some.inj he)
    exact hwhole _ _ t es v hx
  | r pl =>
    obtain ⟨⟨t, es⟩, hr, he1⟩ := Option.bind_eq_some_iff.1 he
    obtain ⟨rfl, rfl⟩ := Prod.mk.inj (Option.some.inj he1)
    rw [hx (by rw [hr]; rfl)]
    exact hwhole _ _ t es _ (h.row hr)
  | v pl lo len =>
    obtain ⟨⟨t, es⟩, hr, he1⟩ := Option.bind_eq_some_iff.1 he
    simp only at he1
    split at he1
    · rename_i hle
      obtain ⟨rfl, rfl⟩ := Prod.mk.inj (Option.some.inj he1)
      obtain ⟨A, n', cap, hpv, hv⟩ := hx t es hr hle
      obtain ⟨B, hB⟩ := hrow _ _ t es lo len cap _ (h.row hr) hle (fun A' n2 cap2 e => by rw [hpv] at e; simp at e; exact e.2.2)
      rw [hpv] at hB
      exact ⟨B, by rw [hv]; exact hB⟩
    · cases he1
  | _ =>
    simp only [St.lend] at he
    split at he
    · rename_i hp
      obtain ⟨rfl, rfl⟩ := Prod.mk.inj (Option.some.inj he)
      exact hplain _ hx hp
    · cases he
theorem Lent.more {y : AV} {v : Value} {ts ts' : List TypeId} {B B' : Nat → Prop} (h : Lent C w σ y v ts B) (hB : ∀ b, B b → B' b) (hb : ∀ b, B' b → (∃ l, σ.ow b = some l) ∧ ∃ cs T fz, w.heap[b]? = some (.cells cs T fz) ∧ T ∈ ts' ∧ Base.n0 ≤ b) : Lent C w σ y v ts' B' :=
  ⟨h.vr.mono (fun b hb => hb.imp id (hB b)) (fun _ _ => rfl) (fun _ _ => rfl), h.pure, hb⟩
/-- the arguments of a call. -/
theorem Conc.lentAll (h : Conc C st a w σ) : ∀ (xs : List AV) (vs : List Value) (ys : List AV) (ts : List TypeId), xs.length = vs.length → (∀ (i : Nat) (x : AV), xs[i]? = some x → ∃ n, SR C w σ st a n x (vs[i]?.getD undef)) →
    st.lendAll C.E.dp xs = some (ys, ts) → ∃ B : Nat → Prop, ys.length = vs.length ∧ (∀ b, B b → (∃ l, σ.ow b = some l) ∧ ∃ cs T fz, w.heap[b]? = some (.cells cs T fz) ∧ T ∈ ts ∧ Base.n0 ≤ b) ∧ (∀ y ∈ ys, y.pure = true) ∧
      ∀ (i : Nat) (y : AV), ys[i]? = some y → VR w (fun b => σ.I b ∨ B b) σ.κ y (vs[i]?.getD undef)
  | [], vs, ys, ts, hl, _, he => by
    obtain ⟨rfl, rfl⟩ := Prod.mk.inj (Option.some.inj he)
    exact ⟨fun _ => False, hl, fun _ h => h.elim, fun y hy => absurd hy (List.not_mem_nil), fun i y hi => (by simp at hi)⟩
  | x :: xs, [], _, _, hl, _, _ => by simp at hl
  | x :: xs, v :: vs, ys, ts, hl, hx, he => by
    obtain ⟨⟨y, ts1⟩, h1, he1⟩ := Option.bind_eq_some_iff.1 he
    obtain ⟨⟨ys', ts2⟩, h2, he2⟩ := Option.bind_eq_some_iff.1 he1
    obtain ⟨rfl, rfl⟩ := Prod.mk.inj (Option.some.inj he2)
    obtain ⟨n, hx0⟩ := hx 0 x rfl
    obtain ⟨B1, hL⟩ := h.lent hx0 h1
    obtain ⟨B2, hl2, hb2, hp2, hv2⟩ := Conc.lentAll h xs vs ys' ts2 (by simpa using hl) (fun i x hi => by simpa using hx (i + 1) x (by simpa using hi)) h2
    refine ⟨fun b => B1 b ∨ B2 b, by simpa using hl2, fun b hb => ?_, fun z hz => ?_, fun i z hi => ?_⟩
    · rcases hb with hb | hb
      · obtain ⟨h3, cs, T, fz, h4, h5⟩ := hL.blk b hb
        exact ⟨h3, cs, T, fz, h4, List.mem_append_left _ h5.1, h5.2⟩
      · obtain ⟨h3, cs, T, fz, h4, h5⟩ := hb2 b hb
        exact ⟨h3, cs, T, fz, h4, List.mem_append_right _ h5.1, h5.2⟩
    · rcases List.mem_cons.1 hz with rfl | hz
      · exact hL.pure
      · exact hp2 z hz
    · cases i with
      | zero =>
        obtain rfl : y = z := by simpa using hi
        exact hL.vr.mono (fun b hb => hb.elim .inl fun h => .inr (.inl h)) (fun _ _ => rfl) (fun _ _ => rfl)
      | succ i => exact (hv2 i z (by simpa using hi)).mono (fun b hb => hb.elim .inl fun h => .inr (.inr h)) (fun _ _ => rfl) (fun _ _ => rfl)

theorem run_callFunc {P : Program} {f : FuncId} (hf : bodied P f) (args : Array Value) (w : World) : (callFunc f args).run P w = .ok (.enter f args) w := by
  obtain ⟨fn, h1, h2, h3⟩ := hf
  have h3' : fn.name ≠ "runtime.NumGoroutine" := by simpa using h3
  have h2' : fn.body ≠ none := by intro e; rw [e] at h2; cases h2
  simp [callFunc, h1, h2', h3']
/-- a call, seen from where it stands. -/
theorem sim_call {f : FuncId} {xs ys : List AV} {vs : List Value} {ts : List TypeId} {x : AV} (h : Conc C st a w σ) (hl : xs.length = vs.length) (hx : ∀ (i : Nat) (x : AV), xs[i]? = some x → ∃ n, SR C w σ st a n x (vs[i]?.getD undef))
    (hys : st.lendAll C.E.dp xs = some (ys, ts)) (hc : (∀ y ∈ ys, y.pure = true) → CallOK C.P f ys x) (hp : x.pure = true) (ho : (ts.isEmpty || x.off ts) = true)
    (hrun : bodied C.P f → (Go.execOp a.eval o).run C.P w = .ok (.enter f vs.toArray) w) : Sim C o d a w σ st x := by
  obtain ⟨B, hyl, hB, hyp, hyv⟩ := h.lentAll xs vs ys ts hl hx hys
  obtain ⟨hb, hcall⟩ := hc hyp
  intro K Q hK
  unfold Oper.wp
  rw [hrun hb, Oper.upon_enter]
  have hlt : ∀ b, B b → b < w.heap.size := fun b hb => by
    obtain ⟨⟨l, hl⟩, _⟩ := hB b hb
    exact h.own b l hl
  refine (hcall w (fun b => σ.I b ∨ B b) σ.κ vs.toArray (h.new _ (Nat.le_refl _)).2 (fun b hb => hb.elim (fun h1 => (h.imm b h1).1) (hlt b)) (by simpa using hyl.symm) (fun i y hi => ?_)).mono ?_
  · have := hyv i y hi
    simpa [Array.getD_eq_getD_getElem?] using this
  · rintro e w' ⟨v, I', rfl, hv, hsize, hold, hup, hdn, hlt', hio⟩
    refine hK v w' { σ with I := fun b => I' b ∧ ¬ B b } ?_
    have hin : ∀ b, σ.I b → ¬ B b := fun b hb hbb => by
      obtain ⟨⟨l, hl⟩, _⟩ := hB b hbb
      have := (h.imm b hb).2
      rw [hl] at this; cases this
    have hsame : Same C w σ w' { σ with I := fun b => I' b ∧ ¬ B b } none :=
      ⟨fun b l hb _ => ⟨hold b (h.own b l hb), hb⟩, fun b hb => hold b (h.imm b hb).1, fun b hb => ⟨hup b (.inl hb), hin b hb⟩, rfl, hsize, fun b l hb => Nat.lt_of_lt_of_le (h.own b l hb) hsize, fun b hb => ⟨hlt' b hb.1, by
        rcases hdn b hb.1 with h1 | h1
        · rcases h1 with h1 | h1
          · exact (h.imm b h1).2
          · exact absurd h1 hb.2
        · show σ.ow b = none
          cases hq : σ.ow b with
          | none => rfl
          | some l => have := h.own b l hq; omega⟩⟩
    refine ⟨⟨hsize, fun b hb _ => hold b hb, hsame.up, hsame.imm, fun b hb => ?_, fun _ _ => rfl, fun _ _ _ => rfl, hio⟩, h.same hsame, fun _ _ => SR_VR ?_, fun _ _ _ _ e => by subst e; cases hp⟩
    · rcases hdn b hb.1 with h1 | h1
      · rcases h1 with h1 | h1
        · exact .inl h1
        · exact absurd h1 hb.2
      · exact .inr (h.new b h1).1
    · by_cases hts : ts = []
      · subst hts
        have hnoB : ∀ b, ¬ B b := fun b hb => by
          obtain ⟨_, _, _, _, _, hm, _⟩ := hB b hb
          cases hm
        exact hv.mono (fun b hb => ⟨hb, hnoB b⟩) (fun _ _ => rfl) (fun _ _ => rfl)
      · have hoff : x.off ts = true := by
          rcases Bool.or_eq_true_iff.1 ho with h1 | h1
          · exact absurd (List.isEmpty_iff.1 h1) hts
          · exact h1
        exact hv.away hts (fun b hb => by
          obtain ⟨⟨l, hl⟩, cs, T, fz, h1, h2⟩ := hB b hb
          exact ⟨cs, T, fz, (hold b (h.own b l hl)).trans h1, h2⟩) hoff
theorem sim_doCall {m : Nat} {f : FuncId} {xs : List AV} {vs : List Value} (hR : RecOK C.P R) (hΩ : OrcOK C.P Ω) (h : Conc C st a w σ) (hl : xs.length = vs.length) (hx : ∀ (i : Nat) (x : AV), xs[i]? = some x → ∃ n, SR C w σ st a n x (vs[i]?.getD undef))
    (he : doCall R Ω C.E st m f xs = some r) (hrun : bodied C.P f → (Go.execOp a.eval o).run C.P w = .ok (.enter f vs.toArray) w) : Sim C o d a w σ r.2 r.1 := by
  unfold doCall at he
  split at he
  · obtain ⟨⟨ys, ts⟩, hys, he1⟩ := Option.bind_eq_some_iff.1 he
    clear he
    obtain ⟨⟨q, hp'⟩, hq, he2⟩ := Option.bind_eq_some_iff.1 he1
    clear he1
    cases q with | ret x => ?_
    simp only at he2
    split at he2
    · rename_i hc
      simp only [Bool.and_eq_true] at hc
      obtain rfl := Option.some.inj he2
      exact sim_call h hl hx hys (fun hyp => hR.pure hq hyp) hc.1 hc.2 hrun
    · cases he2
  · obtain ⟨⟨ys, ts⟩, hys, he1⟩ := Option.bind_eq_some_iff.1 he
    clear he
    obtain ⟨x, hq, he2⟩ := Option.bind_eq_some_iff.1 he1
    clear he1
    split at he2
    · rename_i hc
      simp only [Bool.and_eq_true] at hc
      obtain rfl := Option.some.inj he2
      exact sim_call h hl hx hys (fun hyp => hΩ f ys x hq hyp) hc.1 hc.2 hrun
    · cases he2
  · cases he

/-- operands, one after the other. -/
theorem Conc.opds (h : Conc C st a w σ) : ∀ (ys : List Operand) (xs : List Opd), lowOL ys xs = true → (xs.map st.ev).length = (ys.map a.eval).length ∧
    ∀ (i : Nat) (x : AV), (xs.map st.ev)[i]? = some x → ∃ n, SR C w σ st a n x ((ys.map a.eval)[i]?.getD undef)
  | [], [], _ => ⟨rfl, fun i x hi => by simp at hi⟩
  | y :: ys, x :: xs, hl => by
    simp only [lowOL, Bool.and_eq_true] at hl
    obtain ⟨h1, h2⟩ := Conc.opds h ys xs hl.2
    refine ⟨by simpa using h1, fun i z hi => ?_⟩
    cases i with
    | zero =>
      obtain rfl : st.ev x = z := by simpa using hi
      cases x with
      | t n => exact ⟨n, h.slot hl.1⟩
      | c z => exact ⟨0, SR_of_VR (.inl (pure_copy z (opd_pure hl.1))) (by simpa using h.opd hl.1 (pure_copy z (opd_pure hl.1)))⟩
    | succ i => simpa using h2 i z (by simpa using hi)
  | [], _ :: _, hl => by simp [lowOL] at hl
  | _ :: _, [], hl => by simp [lowOL] at hl

theorem sim_ca {m : Nat} {f : FuncId} {xs : List Opd} (hR : RecOK C.P R) (hΩ : OrcOK C.P Ω) (h : Conc C st a w σ) (hl : lowOp C.P (.ca m f xs) o.op = true) (he : execOp R Ω C.E st d (.ca m f xs) = some r) :
    Sim C o d a w σ r.2 r.1 := by
  simp only [lowOp] at hl; split at hl
  · rename_i c hop
    simp only [Bool.and_eq_true] at hl
    obtain ⟨h1, h2⟩ := hl
    split at h1
    · rename_i f' hcal
      have hff : f = f' := by simpa using h1
      obtain ⟨h3, h4⟩ := h.opds _ _ h2
      simp only [execOp] at he
      refine sim_doCall hR hΩ h h3 h4 he fun hb => ?_
      have hev : a.eval (.func f') = .func (.func f') #[] #[] := rfl
      have hcf := run_callFunc hb (List.map a.eval c.args.toList).toArray w
      have ha : (List.map a.eval c.args.toList).toArray = c.args.map a.eval := by apply Array.ext'; simp
      rw [hff, ha] at hcf
      rw [hff, ha]
      unfold Go.execOp
      simp [hop, resolve, hcal, hev, Deferred.ofValue, invoke]
      exact hcf
    · cases h1
  · cases hl
theorem sim_cf {m : Nat} {x : Opd} {xs : List Opd} (hR : RecOK C.P R) (hΩ : OrcOK C.P Ω) (h : Conc C st a w σ) (hl : lowOp C.P (.cf m x xs) o.op = true) (he : execOp R Ω C.E st d (.cf m x xs) = some r) :
    Sim C o d a w σ r.2 r.1 := by
  simp only [lowOp] at hl; split at hl
  · rename_i c hop
    simp only [Bool.and_eq_true] at hl
    obtain ⟨h1, h2⟩ := hl
    split at h1
    · rename_i y hcal
      obtain ⟨h3, h4⟩ := h.opds _ _ h2
      simp only [execOp] at he
      split at he
      · rename_i f caps hx
        have hv := (hx ▸ h.opdV h1 (by rw [hx]; simp) (by rw [hx]; rfl))
        obtain ⟨vs, hvv, hcl, hcc⟩ := hv.f_inv
        refine sim_doCall (vs := c.args.toList.map a.eval ++ vs.toList) hR hΩ h (by rw [List.length_append, List.length_append, h3, hcl]; simp) (fun i z hi => ?_) he fun hb => ?_
        · rw [List.getElem?_append] at hi ⊢
          rw [h3] at hi
          split
          · rename_i hlt
            rw [if_pos hlt] at hi
            exact h4 i z hi
          · rename_i hlt
            rw [if_neg hlt] at hi
            have := hcc _ z hi
            exact ⟨0, SR_VR (by simpa [Array.getD_eq_getD_getElem?] using this)⟩
        · unfold Go.execOp
          have hcf := run_callFunc hb (List.map a.eval c.args.toList ++ vs.toList).toArray w
          have ha : (List.map a.eval c.args.toList ++ vs.toList).toArray = c.args.map a.eval ++ vs := by apply Array.ext'; simp
          rw [ha] at hcf
          rw [ha]
          simp [hop, resolve, hcal, hvv, Deferred.ofValue, invoke]
          exact hcf
      · cases he
    · cases h1
  · cases hl

theorem fget_back (dp : Nat) (hp' : HP) (d : Nat) : fget (st.back dp hp').fr d = if borC (fget st.fr d) = true then .u else fget st.fr d := by
  show fget (st.fr.map fun x => (x.1, if borC x.2 = true then .u else x.2)) d = _
  induction st.fr with
  | nil => simp [fget, borC]
  | cons y fr ih =>
    simp only [List.map_cons, fget]
    split
    · rfl
    · exact ih
theorem bget_backB {dp : Nat} {hp' : HP} : ∀ {bx : List (Nat × List AV)} {d : Nat} {cs : List AV}, bget (backB dp hp' bx) d = some cs → hp' ⟨dp, d⟩ = some cs
  | [], d, cs, h => by cases h
  | (d', cs') :: r, d, cs, h => by
    simp only [backB] at h
    split at h
    · rename_i zs hz
      simp only [bget] at h
      split at h
      · rename_i e
        subst e
        rw [hz, ← h]
      · exact bget_backB h
    · exact bget_backB h
theorem rowAt_back {dp : Nat} {hp' : HP} {d : Nat} {r : TypeId × List AV} (h : (st.back dp hp').rowAt dp (.s d) = some r) : st.rowAt dp (.s d) = some r := by
  simp only [St.rowAt, fget_back] at h ⊢
  by_cases hb : borC (fget st.fr d) = true
  · rw [if_pos hb] at h; cases h
  · rw [if_neg hb] at h; exact h
/-- cells of a box, seen from elsewhere. -/
theorem RowAt.turn {P : Program} {W W' : Nat → Prop} {w : World} {σ σ' : Sp} {L : Lbl} {wr wr' : Prop} {t : TypeId} {es : List AV} {g cap : Nat} {cs : Array Value} (h : RowAt P W w σ L wr t es g cap cs) (how : σ'.ow g = some L) (hI : ∀ b, σ.I b → σ'.I b)
    (hw : wr' → W' g) : RowAt P W' w σ' L wr' t es g cap cs :=
  ⟨how, hw, h.hh, h.pos, h.nc, h.ecap, h.max, h.size, h.pure, h.one, fun j e m c he hc => (h.cell j e m c he hc).noI hI (fun _ _ => rfl) (pure_cl (h.pure e (List.mem_of_getElem? he)) c (List.mem_of_getElem? hc)), h.base⟩
theorem BoxAt.turn {C C' : Cx} {w : World} {σ σ' : Sp} {k : Key} {cs : List AV} {vs : Array Value} {T : TypeId} (h : BoxAt C w σ k cs vs T) (hP : C'.P = C.P) (hk : σ'.κ k = σ.κ k) (how : ∀ b l, σ.ow b = some l → (l = .box k ∨ ∃ off, l = .rowC k off) → σ'.ow b = some l)
    (hI : ∀ b, σ.I b → σ'.I b) (hm : C.E.ro = false) (hW : ∀ b l, σ.ow b = some l → (l = .box k ∨ ∃ off, l = .rowC k off) → C.W b → C'.W b) (hd : ∀ c ∈ cs, ∀ k', c.noK k' = false → σ'.κ k' = σ.κ k') : BoxAt C' w σ' k cs vs T := by
  have hmine : ∀ off, (Pl.c k off).mine C.E = true := fun off => by simp [Pl.mine, hm]
  refine ⟨by rw [hk]; exact h.hh, h.size, by rw [hk]; exact how _ _ h.ow (.inl rfl), fun _ => by rw [hk]; exact hW _ _ h.ow (.inl rfl) (h.wr (hmine 0)), h.one, fun off c hc => ?_⟩
  have hcell := h.cell off c hc
  unfold CR at hcell ⊢
  split
  · rcases hcell with h1 | ⟨g, cap, cs', hv, hr⟩
    · exact .inl h1
    · refine .inr ⟨g, cap, cs', hv, ?_⟩
      rw [hP]
      exact hr.turn (how _ _ hr.ow (.inr ⟨off, rfl⟩)) hI fun _ => hW _ _ hr.ow (.inr ⟨off, rfl⟩) (hr.wr (hmine off))
  · rename_i hne
    split at hcell
    · exact absurd rfl (hne _ _)
    · exact hcell.mono hI (fun _ _ => rfl) (hd c (List.mem_of_getElem? hc))
theorem deep_le {I : Nat → Prop} {κ : Key → Nat} {w : World} {n : Nat} {x : AV} {v : Value} (h : VR w I κ x v) (hd : x.deep n = true) {k : Key} (hk : x.noK k = false) : k.dp ≤ n := by
  apply Classical.byContradiction
  intro hn
  have := deep_noK' (dp := k.dp) (s := k.d) (by omega) x h hd
  rw [this] at hk; cases hk
theorem BoxAt.deepK {C : Cx} {w : World} {σ : Sp} {k : Key} {cs : List AV} {vs : Array Value} {T : TypeId} {n : Nat} (h : BoxAt C w σ k cs vs T) (hd : ∀ c ∈ cs, c.deep n = true) : ∀ c ∈ cs, ∀ k', c.noK k' = false → k'.dp ≤ n := by
  intro c hc k' hk'
  obtain ⟨off, ho⟩ := List.mem_iff_getElem?.1 hc
  have hcell := h.cell off c ho
  have hdc := hd c hc
  cases c with
  | o t es => cases hk'
  | r _ => cases hcell
  | v _ _ _ => cases hcell
  | q _ _ _ _ => cases hcell
  | u => cases hk'
  | _ => exact deep_le hcell hdc hk'
/-- a call that may change what is in sight, seen from where it stands. -/
theorem sim_call2 {f : FuncId} {xs : List AV} {vs : List Value} {x : AV} {hp' : HP} (hro : C.E.ro = false) (h : Conc C st a w σ) (hl : xs.length = vs.length) (hx : ∀ (i : Nat) (x : AV), xs[i]? = some x → ∃ n, SR C w σ st a n x (vs[i]?.getD undef))
    (hcp : ∀ x ∈ xs, x.copy = true) (hdp : ∀ d cs, bget st.bx d = some cs → ∀ c ∈ cs, c.deep C.E.dp = true) (hc : CallOK2 C.P (C.E.dp + 1) f xs (fun k => st.box C.E.dp k) x hp')
    (hrun : bodied C.P f → (Go.execOp a.eval o).run C.P w = .ok (.enter f vs.toArray) w) : Sim C o d a w σ (st.back C.E.dp hp') x := by
  obtain ⟨hpx, hb, hcall⟩ := hc
  intro K Q hK
  unfold Oper.wp
  rw [hrun hb, Oper.upon_enter]
  refine (hcall (fun b => C.W b ∧ ∀ d, σ.ow b ≠ some (.rowS C.E.dp d)) w σ vs.toArray (fun b hb => ⟨⟨(h.new b hb).1, fun d e => ?_⟩, (h.new b hb).2⟩) ⟨fun k cs hk hkd => ?_, fun k cs hk hkd => ?_, h.own, h.imm⟩ (by simpa using hl.symm) (fun i y hi => ?_)).mono ?_
  · have := h.own b _ e; omega
  · obtain ⟨vs', T, hB⟩ := h.bx k cs hk
    exact ⟨vs', T, hB.turn rfl rfl (fun _ _ h _ => h) (fun _ h => h) hro (fun b l hl hor hW => ⟨hW, fun d e => by rw [hl] at e; rcases hor with rfl | ⟨_, rfl⟩ <;> cases e⟩) (fun _ _ _ _ => rfl)⟩
  · by_cases hkk : k.dp = C.E.dp
    · refine ⟨by omega, ?_⟩
      simp only [St.box, hkk, if_true] at hk
      rw [hkk]
      exact hdp _ _ hk
    · simp only [St.box, if_neg hkk] at hk
      obtain ⟨h1, h2⟩ := h.hpd k cs hkk hk
      exact ⟨by omega, h2⟩
  · obtain ⟨n, hn⟩ := hx i y hi
    have := hn.toVR (hcp y (List.mem_of_getElem? hi))
    simpa [Array.getD_eq_getD_getElem?] using this
  · rintro e w' ⟨v, σ1, rfl, hv, hst, hH⟩
    refine hK v w' { σ1 with κ := σ.κ } ?_
    have hk1 : ∀ k : Key, k.dp ≤ C.E.dp → σ1.κ k = σ.κ k := fun k hk => hst.kap k (show k.dp < C.E.dp + 1 by omega)
    have hnW : ∀ b, ¬ C.W b → ¬ (C.W b ∧ ∀ d, σ.ow b ≠ some (.rowS C.E.dp d)) := fun b hb hb' => hb hb'.1
    have hrowS : ∀ g d, σ.ow g = some (.rowS C.E.dp d) → w'.heap[g]? = w.heap[g]? ∧ σ1.ow g = some (.rowS C.E.dp d) := fun g d hg =>
      have hn : ¬ (C.W g ∧ ∀ d, σ.ow g ≠ some (.rowS C.E.dp d)) := fun hh => hh.2 d hg
      ⟨hst.keep g (h.own g _ hg) hn, (hst.ow g (h.own g _ hg) hn).trans hg⟩
    refine ⟨⟨hst.size, fun b hb hW => hst.keep b hb (hnW b hW), hst.up, hst.imm, fun b hb => (hst.dn b hb).imp id fun h => h.1, fun _ _ => rfl, fun b hb hW => hst.ow b hb (hnW b hW), hst.io⟩, ?_,
      fun _ _ => SR_VR (hv.noI (fun _ h => h) (fun _ _ => rfl) hpx), fun _ _ _ _ e => by subst e; cases hpx⟩
    refine ⟨h.size, h.defers, fun d => ?_, fun k cs hk => ?_, fun k cs hne hk => ?_, hH.own, hH.imm, fun b hb => h.new b (Nat.le_trans hst.size hb)⟩
    · rw [fget_back]
      split
      · exact VR.u _
      · rename_i hb
        have hx0 := h.fr d
        generalize fget st.fr d = y at hx0 hb
        show SR C w' { σ1 with κ := σ.κ } _ a d y _
        cases y with
        | o t es => exact OwnAt.keep (C := C) hx0 (fun g hg => hrowS g d hg) hst.up hst.imm
        | r pl =>
          cases pl with
          | c k off => exact absurd rfl hb
          | s d' =>
            intro hs
            obtain ⟨r, hr⟩ := Option.isSome_iff_exists.1 hs
            exact hx0 (by rw [rowAt_back hr]; rfl)
        | v pl lo len =>
          cases pl with
          | c k off => exact absurd rfl hb
          | s d' =>
            intro t es ht hle
            exact hx0 t es (rowAt_back ht) hle
        | q pl i sz off =>
          cases pl with
          | c k off => exact absurd rfl hb
          | s d' =>
            intro t es ht hle
            exact hx0 t es (rowAt_back ht) hle
        | _ => exact VR.mono hx0 hst.up hst.imm fun _ _ => rfl
    · have hkp : hp' k = some cs ∧ k.dp ≤ C.E.dp := by
        by_cases hkk : k.dp = C.E.dp
        · simp only [St.box, hkk, if_true] at hk
          have := bget_backB hk
          refine ⟨?_, by omega⟩
          rw [← hkk] at this
          exact this
        · simp only [St.box, if_neg hkk, St.back] at hk
          split at hk
          · exact ⟨hk, by omega⟩
          · cases hk
      obtain ⟨vs', T, hB⟩ := hH.bx k cs hkp.1 (by omega)
      have hdeep := (hH.deep k cs hkp.1 (by omega)).2
      exact ⟨vs', T, hB.turn rfl (hk1 k hkp.2).symm (fun _ _ h _ => h) (fun _ h => h) rfl (fun b l _ _ hW => hW.1) (fun c hc k' hk' => (hk1 k' (Nat.le_trans (hB.deepK hdeep c hc k' hk') hkp.2)).symm)⟩
    · simp only [St.back] at hk
      split at hk
      · rename_i hlt
        exact ⟨hlt, (hH.deep k cs hk (by omega)).2⟩
      · cases hk
theorem sim_doCall2 {f : FuncId} {xs : List AV} {vs : List Value} (hR : RecOK C.P R) (hΩ : OrcOK C.P Ω) (h : Conc C st a w σ) (hl : xs.length = vs.length) (hx : ∀ (i : Nat) (x : AV), xs[i]? = some x → ∃ n, SR C w σ st a n x (vs[i]?.getD undef))
    (he : doCall2 R Ω C.E st f xs = some r) (hrun : bodied C.P f → (Go.execOp a.eval o).run C.P w = .ok (.enter f vs.toArray) w) : Sim C o d a w σ r.2 r.1 := by
  unfold doCall2 at he
  split at he
  · exact sim_doCall hR hΩ h hl hx he hrun
  split at he
  · rename_i hc
    simp only [Bool.and_eq_true, Bool.not_eq_true'] at hc
    obtain ⟨⟨hro, hcp⟩, hdp⟩ := hc
    obtain ⟨⟨q, hp'⟩, hq, he2⟩ := Option.bind_eq_some_iff.1 he
    clear he
    cases q with | ret x => ?_
    obtain rfl := Option.some.inj he2
    have hcp' : ∀ x ∈ xs, x.copy = true := fun x hx => List.all_eq_true.1 hcp x hx
    exact sim_call2 hro h hl hx hcp' (fun d cs hb c hc => deepL_mem (bget_all (p := fun y => AV.deepL C.E.dp y) _ hdp d cs hb) c hc) (hR (C.E.dp + 1) f xs _ x hp' hq hcp') hrun
  · cases he
theorem sim_c2 {f : FuncId} {xs : List Opd} (hR : RecOK C.P R) (hΩ : OrcOK C.P Ω) (h : Conc C st a w σ) (hl : lowOp C.P (.c2 f xs) o.op = true) (he : execOp R Ω C.E st d (.c2 f xs) = some r) :
    Sim C o d a w σ r.2 r.1 := by
  simp only [lowOp] at hl; split at hl
  · rename_i c hop
    simp only [Bool.and_eq_true] at hl
    obtain ⟨h1, h2⟩ := hl
    split at h1
    · rename_i f' hcal
      have hff : f = f' := by simpa using h1
      obtain ⟨h3, h4⟩ := h.opds _ _ h2
      simp only [execOp] at he
      refine sim_doCall2 hR hΩ h h3 h4 he fun hb => ?_
      have hev : a.eval (.func f') = .func (.func f') #[] #[] := rfl
      have hcf := run_callFunc hb (List.map a.eval c.args.toList).toArray w
      have ha : (List.map a.eval c.args.toList).toArray = c.args.map a.eval := by apply Array.ext'; simp
      rw [hff, ha] at hcf
      rw [hff, ha]
      unfold Go.execOp
      simp [hop, resolve, hcal, hev, Deferred.ofValue, invoke]
      exact hcf
    · cases h1
  · cases hl
theorem sim_d2 {x : Opd} {xs : List Opd} (hR : RecOK C.P R) (hΩ : OrcOK C.P Ω) (h : Conc C st a w σ) (hl : lowOp C.P (.d2 x xs) o.op = true) (he : execOp R Ω C.E st d (.d2 x xs) = some r) :
    Sim C o d a w σ r.2 r.1 := by
  simp only [lowOp] at hl; split at hl
  · rename_i c hop
    simp only [Bool.and_eq_true] at hl
    obtain ⟨h1, h2⟩ := hl
    split at h1
    · rename_i y hcal
      obtain ⟨h3, h4⟩ := h.opds _ _ h2
      simp only [execOp] at he
      split at he
      · rename_i f caps hx
        have hv := (hx ▸ h.opdV h1 (by rw [hx]; simp) (by rw [hx]; rfl))
        obtain ⟨vs, hvv, hcl, hcc⟩ := hv.f_inv
        refine sim_doCall2 (vs := c.args.toList.map a.eval ++ vs.toList) hR hΩ h (by rw [List.length_append, List.length_append, h3, hcl]; simp) (fun i z hi => ?_) he fun hb => ?_
        · rw [List.getElem?_append] at hi ⊢
          rw [h3] at hi
          split
          · rename_i hlt
            rw [if_pos hlt] at hi
            exact h4 i z hi
          · rename_i hlt
            rw [if_neg hlt] at hi
            have := hcc _ z hi
            exact ⟨0, SR_VR (by simpa [Array.getD_eq_getD_getElem?] using this)⟩
        · unfold Go.execOp
          have hcf := run_callFunc hb (List.map a.eval c.args.toList ++ vs.toList).toArray w
          have ha : (List.map a.eval c.args.toList ++ vs.toList).toArray = c.args.map a.eval ++ vs := by apply Array.ext'; simp
          rw [ha] at hcf
          rw [ha]
          simp [hop, resolve, hcal, hvv, Deferred.ofValue, invoke]
          exact hcf
      · cases he
    · cases h1
  · cases hl

/-- every operation. -/
theorem sim_op (hR : RecOK C.P R) (hΩ : OrcOK C.P Ω) (ao : AOp) (h : Conc C st a w σ) (hl : lowOp C.P ao o.op = true) (he : execOp R Ω C.E st d ao = some r) : Sim C o d a w σ r.2 r.1 := by
  cases ao with
  | mv x => exact sim_mv h hl he
  | as x => exact sim_as h hl he
  | pk c x y => exact sim_pk h hl he
  | bx x => exact sim_bx h hl he
  | al zs => exact sim_al h hl he
  | ld n x => exact sim_ld h hl he
  | st n x y => exact sim_st h hl he
  | fa off x => exact sim_fa h hl he
  | fd n off x => exact sim_fd h hl he
  | ia sz arr x i => exact sim_ia h hl he
  | ix x i => exact sim_ix h hl he
  | bo op bl x y => exact sim_bo h hl he
  | no x => exact sim_no h hl he
  | ng x => exact sim_ng h hl he
  | cv k x => exact sim_cv h hl he
  | cs x => exact sim_cs h hl he
  | ae ks ng x y => exact sim_ae h hl he
  | bs t sz es => exact sim_bs h hl he
  | bd zs fs => exact sim_bd h hl he
  | ms t sz by_ x n => exact sim_ms h hl he
  | sl t sz x lo hi => exact sim_sl h hl he
  | ex x i => exact sim_ex h hl he
  | mf f caps => exact sim_mf h hl he
  | ca m f args => exact sim_ca hR hΩ h hl he
  | cf m x args => exact sim_cf hR hΩ h hl he
  | c2 f args => exact sim_c2 hR hΩ h hl he
  | d2 x args => exact sim_d2 hR hΩ h hl he
  | ln str x => exact sim_ln h hl he
  | ap t sz by_ x y => exact sim_ap h hl he
  | nc x => exact sim_nc h hl he
end
end Go.Proofs.Ythfllmkfgdknkaa.A
