/- Code and functions, first part: functions. -/
import Derived.Test.YtmfihcbafljcbaaAbsM
import Derived.RangeFuncLeaves
import Derived.RangeFuncOwn
set_option linter.unusedSectionVars false
set_option linter.unusedVariables false
set_option linter.unusedSimpArgs false
set_option linter.constructorNameAsVariable false
namespace Go.Proofs.Ytmfihcbafljcbaa.A
open Go
variable [Base]

def noDef (o : Oper) : Bool :=
  match o.op with
  | .defer _ => false
  | _ => true
/-- code without loops and calls that are put off. -/
def plainC : Code → AC → Bool
  | .skip, .sk => true
  | .label _, .sk => true
  | .region _ ops false, .rg _ _ _ _ => ops.all noDef
  | .region _ ops true, .dg _ _ _ _ _ => ops.all noDef
  | .seq a b, .sq x y => plainC a x && plainC b y
  | .cond _ a b, .ite _ x y => plainC a x && plainC b y
  | .block _ b, .bl _ x => plainC b x
  | .exit _, .ex _ => true
  | .ret, .rt => true
  | c, .kp _ _ x => plainC c x
  | _, .bad => true
  | _, _ => false
def lowC (P : Program) (nt : Nat) : Code → AC → Bool
  | .skip, .sk => true
  | .label _, .sk => true
  | .region _ ops false, .rg _ gs _ _ => lowGs P nt ops ops.toList gs
  | .region _ ops true, .dg _ mks gs _ _ => lowDr P nt ops mks gs
  | .seq a b, .sq x y => lowC P nt a x && lowC P nt b y
  | .cond c a b, .ite c' x y => lowO c c' && lowC P nt a x && lowC P nt b y
  | .block id b, .bl id' x => id == id' && lowC P nt b x
  | .loop b, .lp x => lowC P nt b x
  | .exit id, .ex id' => id == id'
  | .ret, .rt => true
  | c, .kp _ _ x => lowC P nt c x
  | _, .bad => true
  | .rangeFunc g ps y b, .ru g' x y' b' => lowO g g' && (ps == #[x] && (decide (x < nt) && (lowC P nt y y' && (plainC y y' && (lowC P nt b b' && plainC b b')))))
  | _, _ => false
def exitOf : AExit → Exit
  | .nrm => .normal
  | .ex id => .exit id
  | .ret => .ret
/-- a function and its abstract code. -/
def lowF (P : Program) (f : FuncId) (fn' : AFn) : Bool :=
  match P.funcs[f]? with
  | some fn => match fn.body with
    | some c => !(fn.name == "runtime.NumGoroutine") && lowC P fn.ntmps c fn'.code && lowRes P fn.results.toList fn'.res
    | none => false
  | none => false
def TabOK (P : Program) (G : Prg) : Prop := ∀ f fn', G f = some fn' → lowF P f fn' = true

theorem lowC_sk {P : Program} {nt : Nat} {c : Code} (h : lowC P nt c .sk = true) : c = .skip ∨ ∃ l, c = .label l := by
  cases c with
  | region id ops dr => cases dr <;> simp [lowC] at h
  | skip => exact .inl rfl
  | label l => exact .inr ⟨l, rfl⟩
  | _ => simp [lowC] at h
theorem lowC_rg {P : Program} {nt : Nat} {c : Code} {pre : List Pre} {gs : List GOp} {kf kb : List Nat} (h : lowC P nt c (.rg pre gs kf kb) = true) : ∃ id ops, c = .region id ops false ∧ lowGs P nt ops ops.toList gs = true := by
  cases c with
  | region id ops dr => cases dr <;> simp [lowC] at h; exact ⟨id, ops, rfl, h⟩
  | _ => simp [lowC] at h
theorem lowC_dg {P : Program} {nt : Nat} {c : Code} {pre : List Pre} {mks : List Nat} {gs : List DOp} {kf kb : List Nat} (h : lowC P nt c (.dg pre mks gs kf kb) = true) : ∃ id ops, c = .region id ops true ∧ lowDr P nt ops mks gs = true := by
  cases c with
  | region id ops dr =>
    cases dr with
    | false => simp [lowC] at h
    | true => exact ⟨id, ops, rfl, by simpa only [lowC] using h⟩
  | _ => simp [lowC] at h
theorem lowC_sq {P : Program} {nt : Nat} {c : Code} {x y : AC} (h : lowC P nt c (.sq x y) = true) : ∃ c1 c2, c = .seq c1 c2 ∧ lowC P nt c1 x = true ∧ lowC P nt c2 y = true := by
  cases c with
  | region id ops dr => cases dr <;> simp [lowC] at h
  | seq c1 c2 => exact ⟨c1, c2, rfl, by simpa [lowC] using h⟩
  | _ => simp [lowC] at h
theorem lowC_ite {P : Program} {nt : Nat} {c : Code} {z : Opd} {x y : AC} (h : lowC P nt c (.ite z x y) = true) : ∃ cd c1 c2, c = .cond cd c1 c2 ∧ (lowO cd z = true ∧ lowC P nt c1 x = true) ∧ lowC P nt c2 y = true := by
  cases c with
  | region id ops dr => cases dr <;> simp [lowC] at h
  | cond cd c1 c2 => exact ⟨cd, c1, c2, rfl, by simpa [lowC] using h⟩
  | _ => simp [lowC] at h
theorem lowC_bl {P : Program} {nt : Nat} {c : Code} {id : Nat} {x : AC} (h : lowC P nt c (.bl id x) = true) : ∃ c1, c = .block id c1 ∧ lowC P nt c1 x = true := by
  cases c with
  | region id ops dr => cases dr <;> simp [lowC] at h
  | block id' c1 =>
    obtain ⟨rfl, h2⟩ : id' = id ∧ lowC P nt c1 x = true := by simpa [lowC] using h
    exact ⟨c1, rfl, h2⟩
  | _ => simp [lowC] at h
theorem lowC_lp {P : Program} {nt : Nat} {c : Code} {x : AC} (h : lowC P nt c (.lp x) = true) : ∃ c1, c = .loop c1 ∧ lowC P nt c1 x = true := by
  cases c with
  | region id ops dr => cases dr <;> simp [lowC] at h
  | loop c1 => exact ⟨c1, rfl, by simpa [lowC] using h⟩
  | _ => simp [lowC] at h
theorem lowC_ex {P : Program} {nt : Nat} {c : Code} {id : Nat} (h : lowC P nt c (.ex id) = true) : c = .exit id := by
  cases c with
  | region id ops dr => cases dr <;> simp [lowC] at h
  | exit id' => rw [show id' = id by simpa [lowC] using h]
  | _ => simp [lowC] at h
theorem lowC_rt {P : Program} {nt : Nat} {c : Code} (h : lowC P nt c .rt = true) : c = .ret := by
  cases c with
  | region id ops dr => cases dr <;> simp [lowC] at h
  | ret => rfl
  | _ => simp [lowC] at h

theorem lowC_kp {P : Program} {nt : Nat} {c : Code} {kf kb : List Nat} {x : AC} (h : lowC P nt c (.kp kf kb x) = true) : lowC P nt c x = true := by
  cases c with
  | region id ops dr => cases dr <;> simpa only [lowC] using h
  | _ => simpa only [lowC] using h
theorem lowC_ru {P : Program} {nt : Nat} {c : Code} {g' : Opd} {x : Nat} {y' b' : AC} (h : lowC P nt c (.ru g' x y' b') = true) : ∃ g y b, c = .rangeFunc g #[x] y b ∧ lowO g g' = true ∧ x < nt ∧ lowC P nt y y' = true ∧ plainC y y' = true ∧ lowC P nt b b' = true ∧ plainC b b' = true := by
  cases c with
  | region id ops dr => cases dr <;> simp [lowC] at h
  | rangeFunc g ps y b =>
    simp only [lowC, Bool.and_eq_true, beq_iff_eq, decide_eq_true_eq] at h
    obtain ⟨h1, rfl, h2, h3, h4, h5, h6⟩ := h
    exact ⟨g, y, b, rfl, h1, h2, h3, h4, h5, h6⟩
  | _ => simp [lowC] at h

/-- a loop, from where its body begins anew. -/
def LW (P : Program) (c : Code) (Q : Exit → Act → World → Prop) (a : Act) (w : World) : Prop :=
  ∀ (b : Frame) (k : List Item) (cs : List Frame), ∃ e a' w', Q e a' w' ∧ Arrives P (lone (b.at a (.code c :: .inLoop c :: k)) cs w) b k cs e a' w'
theorem LW.loop {P : Program} {c : Code} {Q : Exit → Act → World → Prop} {a : Act} {w : World} (h : LW P c Q a w) : (Code.loop c).wp P Q a w := by
  intro b k cs
  obtain ⟨e, a', w', hq, harr⟩ := h b k cs
  exact ⟨e, a', w', hq, .of_steps (.one step_loop) harr⟩
theorem LW.round {P : Program} {c : Code} {Q : Exit → Act → World → Prop} {a : Act} {w : World} (h : c.wp P (Exit.then (LW P c Q) Q) a w) : LW P c Q a w := by
  intro b k cs
  obtain ⟨e, a₁, w₁, hq, harr⟩ := h b (.inLoop c :: k) cs
  cases e with
  | normal =>
    obtain ⟨e₂, a₂, w₂, hq₂, harr₂⟩ := hq b k cs
    exact ⟨e₂, a₂, w₂, hq₂, .of_steps (Steps.trans harr (.one step_inLoop)) harr₂⟩
  | exit id => exact ⟨_, a₁, w₁, hq, .pass (x := .inLoop c) rfl (fun _ _ => .inl (by simp)) harr⟩
  | goto l => exact ⟨_, a₁, w₁, hq, .pass (x := .inLoop c) rfl (fun _ _ => .inl (by simp)) harr⟩
  | ret => exact ⟨_, a₁, w₁, hq, .pass (x := .inLoop c) rfl (fun _ _ => .inl (by simp)) harr⟩
  | panic ch => exact ⟨_, a₁, w₁, hq, .pass (x := .inLoop c) rfl (fun _ _ => .inl (by simp)) harr⟩
  | outgrown => exact ⟨_, a₁, w₁, hq, .pass (x := .inLoop c) rfl (fun _ _ => .inl (by simp)) harr⟩

/-- code does what its run says. -/
def XOK (P : Program) (X : Run) : Prop := ∀ (E : Env) (ac : AC) (st : St) (r : AExit × St) (c : Code) (nt : Nat) (C : Cx) (a : Act) (w : World) (σ : Sp) (Q : Exit → Act → World → Prop), C.P = P → C.E = E → nt ≤ C.nt → X E ac st = some r → lowC P nt c ac = true → Conc C st a w σ →
  (∀ a' w' σ', Stp C w σ w' σ' → Conc C r.2 a' w' σ' → Q (exitOf r.1) a' w') → c.wp P Q a w
/-- and so does a loop from its second round on. -/
def XLOK (P : Program) (X : Run) : Prop := ∀ (E : Env) (ac : AC) (st : St) (r : AExit × St) (c : Code) (nt : Nat) (C : Cx) (a : Act) (w : World) (σ : Sp) (Q : Exit → Act → World → Prop), C.P = P → C.E = E → nt ≤ C.nt → X E (.lp ac) st = some r → lowC P nt c ac = true → Conc C st a w σ →
  (∀ a' w' σ', Stp C w σ w' σ' → Conc C r.2 a' w' σ' → Q (exitOf r.1) a' w') → LW P c Q a w

theorem fget_argFr : ∀ (args : List AV) (i d : Nat), fget (argFr i args) d = if i ≤ d then (args[d - i]?).getD .u else .u
  | [], i, d => by simp [argFr, fget]
  | x :: xs, i, d => by
    simp only [argFr, fget, fget_argFr xs (i + 1) d]
    by_cases h : i = d
    · subst h; simp
    · rw [if_neg h]
      by_cases h2 : i ≤ d
      · rw [if_pos (by omega), if_pos h2]
        rw [show d - i = (d - (i + 1)) + 1 by omega, List.getElem?_cons_succ]
      · rw [if_neg (by omega), if_neg h2]

variable {P : Program} {G : Prg} {Ω : Orc}
theorem BoxAt.cx {C C' : Cx} {w : World} {σ : Sp} {k : Key} {cs : List AV} {vs : Array Value} {T : TypeId} (h : BoxAt C w σ k cs vs T) (hP : C'.P = C.P) (hW : C'.W = C.W) (hE : C'.E = C.E) : BoxAt C' w σ k cs vs T := by
  refine ⟨h.hh, h.size, h.ow, fun hm => by rw [hW]; exact h.wr (by rw [← hE]; exact hm), h.one, fun off c hc => ?_, h.ty, h.kb⟩
  have := h.cell off c hc
  unfold CR at this ⊢
  rw [hP, hW, hE]
  exact this
theorem calls_of_wpM {P : Program} {f : FuncId} {fn : Func} {c : Code} {args : Array Value} {w : World} {R : Ending → World → Prop} (hf : P.funcs[f]? = some fn) (hb : fn.body = some c)
    (h : c.wp P (bodyPostM Fence.wide 0 P fn R) { tmps := args ++ Array.replicate (fn.ntmps - args.size) undef, defers := [] } w) : Calls P f args w R :=
  (callsIn_wide (n := 0)).1 (callsIn_of_wp_marks hf hb trivial (wpIn_wide.2 h) rfl)
/-- a mark is taken up where a function ends. -/
theorem Conc.unmarkL {C : Cx} {st : St} {w0 : World} {σ0 σ : Sp} (a : Act) : ∀ (Ds : List Nat) (w : World), Ds.Nodup → (∀ D ∈ Ds, σ.ow D = some (.mark C.E.dp) ∧ C.W D ∧ w.heap[D]? = some (.deferred (some []))) →
    Stp C w0 σ0 w σ → Conc C st { a with defers := [] } w σ → ∃ w2, Stp C w0 σ0 w2 σ ∧ Conc C st { a with defers := [] } w2 σ ∧
    ∀ (fn : Func) (R : Ending → World → Prop) (v : Value), (results fn a.tmps).run C.P w2 = .ok v w2 → R (.returned v) w2 → LeavesInM Fence.wide 0 C.P fn a.tmps R (Ds.map markOf) .returning w
  | [], w, _, _, hst, h1 => ⟨w, hst, h1, fun fn R v hr hR => ⟨v, hr, hR⟩⟩
  | D :: Ds, w, hnd, hm, hst, h => by
    obtain ⟨ho, hW, hD⟩ := hm D (by simp)
    have hheap : ∀ b, b ≠ D → (w.putObj D (.deferred none)).heap[b]? = w.heap[b]? := fun b hb => World.putObj_heap_other hb
    have hI : ∀ b, σ.I b → b ≠ D := fun b hb e => by
      subst e
      rw [(h.imm b hb).2] at ho; cases ho
    have hsz : (w.putObj D (.deferred none)).heap.size = w.heap.size := by simp [World.putObj]
    have hs : Same C w σ (w.putObj D (.deferred none)) σ (some (.mark C.E.dp)) := by
      refine ⟨fun b l hb hl => ⟨hheap b fun e => ?_, hb⟩, fun b hb => hheap b (hI b hb), fun _ h => h, rfl, Nat.le_of_eq hsz.symm, fun b l hb => by rw [hsz]; exact h.own b l hb, fun b hb => by rw [hsz]; exact h.imm b hb⟩
      subst e
      rw [ho] at hb
      exact hl hb.symm
    have hst2 : Stp C w0 σ0 (w.putObj D (.deferred none)) σ := hst.trans ⟨Nat.le_of_eq hsz.symm, fun b hb hn => hheap b fun e => hn (by rw [e]; exact hW), fun _ h => h, fun b hb => hheap b (hI b hb), fun _ h => .inl h, fun _ _ => rfl, fun _ _ _ => rfl, rfl, rfl⟩
    obtain ⟨hn1, hn2⟩ := List.nodup_cons.1 hnd
    obtain ⟨w2, h2, h3, h4⟩ := unmarkL a Ds (w.putObj D (.deferred none)) hn2 (fun D' hD' => by
      obtain ⟨h5, h6, h7⟩ := hm D' (by simp [hD'])
      exact ⟨h5, h6, (hheap D' fun e => hn1 (e ▸ hD')).trans h7⟩) hst2 (h.sameL0 hs ⟨fun _ _ _ _ => by simp, fun _ _ _ => by simp, fun _ _ _ _ _ _ _ => by simp, fun _ => by simp⟩ Marks.nil)
    exact ⟨w2, h2, h3, fun fn R v hr hR => ⟨by simp, .inl ⟨D, _, rfl, run_takeDeferred hD, h4 fn R v hr hR⟩⟩⟩
theorem Conc.unmark {C : Cx} {st : St} {a : Act} {w0 w : World} {σ0 σ : Sp} (hst : Stp C w0 σ0 w σ) (h : Conc C st a w σ) : ∃ w2, Stp C w0 σ0 w2 σ ∧ Conc C st { a with defers := [] } w2 σ ∧
    ∀ (fn : Func) (R : Ending → World → Prop) (v : Value), (results fn a.tmps).run C.P w2 = .ok v w2 → R (.returned v) w2 → LeavesInM Fence.wide 0 C.P fn a.tmps R a.defers .returning w := by
  have h1 : Conc C st { a with defers := [] } w σ := ⟨h.size, Marks.nil, h.fr, h.bx, h.hpd, h.own, h.imm, h.new, h.lay⟩
  obtain ⟨Ds, h2, h3, h4⟩ := h.defers
  rw [h3]
  exact Conc.unmarkL a Ds w h2 h4 hst h1
/-- who owns what, where a function has ended. -/
noncomputable def endOw (C : Cx) (σ : Sp) : Nat → Option Lbl := fun b => open Classical in if C.W b ∧ ∃ l, σ.ow b = some l ∧ l.dep = C.E.dp then none else σ.ow b
theorem end_ret {E : Env} {st : St} {rs : List RV} {x : AV} (h : st.end_ E rs = some (.ret x)) : st.result E rs = some x := by
  unfold St.end_ at h
  split at h
  · rename_i y hy
    have : AEnd.ret y = .ret x := Option.some.inj h
    cases this; exact hy
  · obtain ⟨cs, _, h2⟩ := Option.map_eq_some_iff.1 h
    cases h2
theorem end_new {E : Env} {st : St} {rs : List RV} {cs : List AV} (h : st.end_ E rs = some (.new cs)) : st.newOf E rs = some cs := by
  unfold St.end_ at h
  split at h
  · cases Option.some.inj h
  · obtain ⟨cs', h1, h2⟩ := Option.map_eq_some_iff.1 h
    cases h2; exact h1
theorem newOf_inv {E : Env} {st : St} {rs : List RV} {cs : List AV} (h : st.newOf E rs = some cs) : ∃ n k, rs = [.t n] ∧ fget st.fr n = .p k 0 ∧ k.dp = E.dp ∧ bget st.bx k.d = some cs ∧ cs.all newCell = true := by
  unfold St.newOf at h
  split at h
  · rename_i n
    split at h
    · rename_i k hk
      split at h
      · rename_i hd
        obtain ⟨cs', h1, h2⟩ := Option.bind_eq_some_iff.1 h
        split at h2
        · rename_i hc
          obtain rfl := Option.some.inj h2
          exact ⟨n, k, rfl, hk, hd, h1, hc⟩
        · cases h2
      · cases h
    · cases h
  · cases h
theorem callF_ret {X : Run} (hT : TabOK P G) (hX : XOK P X) : ∀ dp f ys hp x hp', callF G X ⟨dp, false⟩ f ys hp = some (.ret x, hp') → (∀ y ∈ ys, y.copy = true) → CallOK2 P dp f ys hp x hp' := by
  intro dp f ys hp x hp' he hyc
  obtain ⟨fn', hG, he1⟩ := Option.bind_eq_some_iff.1 he
  obtain ⟨r, hr, he2⟩ := Option.bind_eq_some_iff.1 he1
  have hlow := hT f fn' hG
  unfold lowF at hlow
  split at hlow
  · rename_i fn hf
    split at hlow
    · rename_i c hb
      simp only [Bool.and_eq_true, Bool.not_eq_true'] at hlow
      obtain ⟨⟨hname, hcode⟩, hres⟩ := hlow
      have hcase : ∃ e, exitOf r.1 = e ∧ (e = .normal ∨ e = .ret) ∧ (r.2.result ⟨dp, false⟩ fn'.res) = some x ∧ r.2.hp = hp' := by
        cases hr1 : r.1 with
        | ex id => rw [hr1] at he2; cases he2
        | nrm =>
          rw [hr1] at he2
          obtain ⟨q, hq, he3⟩ := Option.bind_eq_some_iff.1 he2
          have h1 : q = .ret x := congrArg Prod.fst (Option.some.inj he3)
          exact ⟨_, rfl, .inl rfl, end_ret (h1 ▸ hq), congrArg Prod.snd (Option.some.inj he3)⟩
        | ret =>
          rw [hr1] at he2
          obtain ⟨q, hq, he3⟩ := Option.bind_eq_some_iff.1 he2
          have h1 : q = .ret x := congrArg Prod.fst (Option.some.inj he3)
          exact ⟨_, rfl, .inr rfl, end_ret (h1 ▸ hq), congrArg Prod.snd (Option.some.inj he3)⟩
      obtain ⟨e, hee, hen, hq, hhp⟩ := hcase
      have hpure : x.pure = true := by
        obtain ⟨xs, _, h2⟩ := Option.bind_eq_some_iff.1 hq
        split at h2
        · rename_i hp
          obtain rfl := Option.some.inj h2
          match xs, hp with
          | [], _ => rfl
          | [y], hp => simpa [tup, AV.pureL] using hp
          | y :: z :: ys, hp => exact hp
        · cases h2
      refine ⟨hpure, ⟨fn, hf, by rw [hb]; rfl, hname⟩, fun W w σ cargs hnew hH hsz hargs => ?_⟩
      refine calls_of_wpM hf hb ?_
      let C : Cx := ⟨P, W, ⟨dp, false⟩, cargs.size + (fn.ntmps - cargs.size)⟩
      have hc : Conc C ⟨argFr 0 ys, [], hp⟩ { tmps := cargs ++ Array.replicate (fn.ntmps - cargs.size) undef, defers := [] } w σ := by
        refine ⟨by simp [C], Marks.nil, fun d => ?_, fun k cs hk => ?_, fun k cs hne hk => hH.deep k cs hk hne, hH.own, hH.imm, hnew, hH.lay⟩
        · rw [fget_argFr]
          simp only [Nat.zero_le, if_true, Nat.sub_zero]
          cases hd : ys[d]? with
          | none => exact VR.u _
          | some y =>
            have hlt := lt_of_get hd
            have hy := hargs d y hd
            have e : (cargs ++ Array.replicate (fn.ntmps - cargs.size) undef).getD d undef = cargs.getD d undef := by
              rw [Array.getD_eq_getD_getElem?, Array.getElem?_append, if_pos (by omega), Array.getD_eq_getD_getElem?]
            show SR C w σ _ _ d y _
            rw [e]
            exact SR_VR hy
        · simp only [St.box] at hk
          split at hk
          · simp [bget] at hk
          · rename_i hne
            obtain ⟨vs, T, hB⟩ := hH.bx k cs hk (hH.deep k cs hk hne).1
            exact ⟨vs, T, hB.cx rfl rfl rfl⟩
      refine hX ⟨dp, false⟩ fn'.code ⟨argFr 0 ys, [], hp⟩ r c fn.ntmps C _ w σ _ rfl rfl (by simp [C]; omega) hr hcode hc fun a0 w0 σ' hst0 hc0 => ?_
      obtain ⟨w', hst, hc', hleave⟩ := hc0.unmark hst0
      obtain ⟨v, hrun, hv⟩ := hc'.result hres hq
      have hend : ∀ b l, σ'.ow b = some l → l.dep ≠ dp → endOw C σ' b = some l := by
        intro b l hb hne
        unfold endOw
        rw [if_neg, hb]
        rintro ⟨_, l', h1, h2⟩
        rw [hb] at h1
        obtain rfl := Option.some.inj h1
        exact hne h2
      have hpost : bodyPostM Fence.wide 0 P fn (fun e w' => ∃ v σ', e = .returned v ∧ VR w' σ'.I σ'.κ x v ∧ Stp (cxOf P W dp) w σ w' σ' ∧ HpOK P W dp hp' w' σ') .ret a0 w0 := by
        refine hleave fn _ v hrun ⟨v, ⟨σ'.κ, endOw C σ', endI C w' σ'⟩, rfl, hv, ⟨hst.size, hst.keep, fun b hb => .inl (hst.up b hb), hst.imm, fun b hb => hb.elim (fun h => hst.dn b h) fun h => .inr h.1, hst.kap, fun b hb hW => ?_, hst.io⟩, ⟨fun k cs hk hlt => ?_, fun k cs hk hne => ?_, fun b l hb => ?_, fun b hb => ?_, hc'.lay.keep (fun _ h => .inl h) fun _ _ => rfl⟩⟩
        · show endOw C σ' b = _
          unfold endOw
          rw [if_neg fun h => hW h.1]
          exact hst.ow b hb hW
        · rw [← hhp] at hk
          obtain ⟨vs, T, hB⟩ := hc'.bx k cs (by simp only [St.box, C, if_neg (show ¬ k.dp = dp by omega)]; exact hk)
          exact ⟨vs, T, hB.turn rfl rfl (fun b l hb hor => hend b l hb (by rcases hor with rfl | ⟨_, rfl⟩ <;> simp only [Lbl.dep] <;> omega)) (fun _ h => .inl h) rfl (fun _ _ _ _ h => h) (fun _ _ _ _ => rfl) fun c hcm => deep_noW ((hc'.hpd k cs (by simp only [C]; omega) hk).2 c hcm)⟩
        · rw [← hhp] at hk
          exact hc'.hpd k cs hne hk
        · have : endOw C σ' b = some l := hb
          unfold endOw at this
          split at this
          · cases this
          · exact hc'.own b l this
        · rcases hb with hb | ⟨h1, l, h2, h3⟩
          · obtain ⟨h4, h5⟩ := hc'.imm b hb
            refine ⟨h4, ?_⟩
            show endOw C σ' b = none
            unfold endOw
            split
            · rfl
            · exact h5
          · refine ⟨hc'.own b l h2, ?_⟩
            show endOw C σ' b = none
            unfold endOw
            rw [if_pos ⟨h1, l, h2, h3⟩]
      rw [hee]
      rcases hen with rfl | rfl
      · exact hpost
      · exact hpost
    · cases hlow
  · cases hlow

theorem callF_ro {X : Run} (hT : TabOK P G) (hX : XOK P X) : ∀ dp f ys hp x hp', callF G X ⟨dp, true⟩ f ys hp = some (.ret x, hp') → (∀ y ∈ ys, y.copy = true) → CallOKr P dp f ys hp x := by
  intro dp f ys hp x hp' he hyc
  obtain ⟨fn', hG, he1⟩ := Option.bind_eq_some_iff.1 he
  obtain ⟨r, hr, he2⟩ := Option.bind_eq_some_iff.1 he1
  have hlow := hT f fn' hG
  unfold lowF at hlow
  split at hlow
  · rename_i fn hf
    split at hlow
    · rename_i c hb
      simp only [Bool.and_eq_true, Bool.not_eq_true'] at hlow
      obtain ⟨⟨hname, hcode⟩, hres⟩ := hlow
      have hcase : ∃ e, exitOf r.1 = e ∧ (e = .normal ∨ e = .ret) ∧ (r.2.result ⟨dp, true⟩ fn'.res) = some x ∧ r.2.hp = hp' := by
        cases hr1 : r.1 with
        | ex id => rw [hr1] at he2; cases he2
        | nrm =>
          rw [hr1] at he2
          obtain ⟨q, hq, he3⟩ := Option.bind_eq_some_iff.1 he2
          have h1 : q = .ret x := congrArg Prod.fst (Option.some.inj he3)
          exact ⟨_, rfl, .inl rfl, end_ret (h1 ▸ hq), congrArg Prod.snd (Option.some.inj he3)⟩
        | ret =>
          rw [hr1] at he2
          obtain ⟨q, hq, he3⟩ := Option.bind_eq_some_iff.1 he2
          have h1 : q = .ret x := congrArg Prod.fst (Option.some.inj he3)
          exact ⟨_, rfl, .inr rfl, end_ret (h1 ▸ hq), congrArg Prod.snd (Option.some.inj he3)⟩
      obtain ⟨e, hee, hen, hq, hhp⟩ := hcase
      have hpure : x.pure = true := by
        obtain ⟨xs, _, h2⟩ := Option.bind_eq_some_iff.1 hq
        split at h2
        · rename_i hp
          obtain rfl := Option.some.inj h2
          match xs, hp with
          | [], _ => rfl
          | [y], hp => simpa [tup, AV.pureL] using hp
          | y :: z :: ys, hp => exact hp
        · cases h2
      refine ⟨hpure, ⟨fn, hf, by rw [hb]; rfl, hname⟩, fun w σ cargs hn0 hH hsz hargs => ?_⟩
      refine calls_of_wpM hf hb ?_
      let C : Cx := ⟨P, fun b => w.heap.size ≤ b, ⟨dp, true⟩, cargs.size + (fn.ntmps - cargs.size)⟩
      have hc : Conc C ⟨argFr 0 ys, [], hp⟩ { tmps := cargs ++ Array.replicate (fn.ntmps - cargs.size) undef, defers := [] } w σ := by
        refine ⟨by simp [C], Marks.nil, fun d => ?_, fun k cs hk => ?_, fun k cs hne hk => hH.deep k cs hk hne, hH.own, hH.imm, fun b hb => ⟨hb, Nat.le_trans hn0 hb⟩, hH.lay⟩
        · rw [fget_argFr]
          simp only [Nat.zero_le, if_true, Nat.sub_zero]
          cases hd : ys[d]? with
          | none => exact VR.u _
          | some y =>
            have hlt := lt_of_get hd
            have hy := hargs d y hd
            have e : (cargs ++ Array.replicate (fn.ntmps - cargs.size) undef).getD d undef = cargs.getD d undef := by
              rw [Array.getD_eq_getD_getElem?, Array.getElem?_append, if_pos (by omega), Array.getD_eq_getD_getElem?]
            show SR C w σ _ _ d y _
            rw [e]
            exact SR_VR hy
        · simp only [St.box] at hk
          split at hk
          · simp [bget] at hk
          · rename_i hne
            obtain ⟨vs, T, hB⟩ := hH.bx k cs hk (hH.deep k cs hk hne).1
            exact ⟨vs, T, hB.cx rfl rfl rfl⟩
      refine hX ⟨dp, true⟩ fn'.code ⟨argFr 0 ys, [], hp⟩ r c fn.ntmps C _ w σ _ rfl rfl (by simp [C]; omega) hr hcode hc fun a0 w0 σ' hst0 hc0 => ?_
      obtain ⟨w', hst, hc', hleave⟩ := hc0.unmark hst0
      obtain ⟨v, hrun, hv⟩ := hc'.result hres hq
      have hpost : bodyPostM Fence.wide 0 P fn (fun e w' => ∃ v I', e = .returned v ∧ VR w' I' σ.κ x v ∧ w.heap.size ≤ w'.heap.size ∧ (∀ b, b < w.heap.size → w'.heap[b]? = w.heap[b]?) ∧ (∀ b, σ.I b → I' b) ∧ (∀ b, I' b → σ.I b ∨ w.heap.size ≤ b) ∧ (∀ b, I' b → b < w'.heap.size) ∧ w'.os = w.os ∧ w'.output = w.output) .ret a0 w0 := by
        refine hleave fn _ v hrun ⟨v, endI C w' σ', rfl, hv.noI (fun _ h => h) (fun _ _ => rfl) hpure, hst.size, fun b hb => hst.keep b hb (show ¬ w.heap.size ≤ b by omega), fun b hb => .inl (hst.up b hb), fun b hb => hb.elim (fun h => hst.dn b h) fun h => .inr h.1, fun b hb => ?_, hst.io⟩
        rcases hb with hb | ⟨h1, l, h2, h3⟩
        · exact (hc'.imm b hb).1
        · exact hc'.own b l h2
      rw [hee]
      rcases hen with rfl | rfl
      · exact hpost
      · exact hpost
    · cases hlow
  · cases hlow

theorem callF_new {X : Run} (hT : TabOK P G) (hX : XOK P X) : ∀ dp f ys hp cs hp', callF G X ⟨dp, false⟩ f ys hp = some (.new cs, hp') → (∀ y ∈ ys, y.copy = true) → CallOKn P dp f ys hp cs hp' := by
  intro dp f ys hp ncs hp' he hyc
  obtain ⟨fn', hG, he1⟩ := Option.bind_eq_some_iff.1 he
  obtain ⟨r, hr, he2⟩ := Option.bind_eq_some_iff.1 he1
  have hlow := hT f fn' hG
  unfold lowF at hlow
  split at hlow
  · rename_i fn hf
    split at hlow
    · rename_i c hb
      simp only [Bool.and_eq_true, Bool.not_eq_true'] at hlow
      obtain ⟨⟨hname, hcode⟩, hres⟩ := hlow
      have hcase : ∃ e, exitOf r.1 = e ∧ (e = .normal ∨ e = .ret) ∧ (r.2.newOf ⟨dp, false⟩ fn'.res) = some ncs ∧ r.2.hp = hp' := by
        cases hr1 : r.1 with
        | ex id => rw [hr1] at he2; cases he2
        | nrm =>
          rw [hr1] at he2
          obtain ⟨q, hq, he3⟩ := Option.bind_eq_some_iff.1 he2
          have h1 : q = .new ncs := congrArg Prod.fst (Option.some.inj he3)
          exact ⟨_, rfl, .inl rfl, end_new (h1 ▸ hq), congrArg Prod.snd (Option.some.inj he3)⟩
        | ret =>
          rw [hr1] at he2
          obtain ⟨q, hq, he3⟩ := Option.bind_eq_some_iff.1 he2
          have h1 : q = .new ncs := congrArg Prod.fst (Option.some.inj he3)
          exact ⟨_, rfl, .inr rfl, end_new (h1 ▸ hq), congrArg Prod.snd (Option.some.inj he3)⟩
      obtain ⟨e, hee, hen, hq, hhp⟩ := hcase
      obtain ⟨n, kk, hrs, hfk, hkd, hbk, hnew⟩ := newOf_inv hq
      refine ⟨hnew, ⟨fn, hf, by rw [hb]; rfl, hname⟩, fun W w σ cargs hnew hH hsz hargs => ?_⟩
      refine calls_of_wpM hf hb ?_
      let C : Cx := ⟨P, W, ⟨dp, false⟩, cargs.size + (fn.ntmps - cargs.size)⟩
      have hc : Conc C ⟨argFr 0 ys, [], hp⟩ { tmps := cargs ++ Array.replicate (fn.ntmps - cargs.size) undef, defers := [] } w σ := by
        refine ⟨by simp [C], Marks.nil, fun d => ?_, fun k cs hk => ?_, fun k cs hne hk => hH.deep k cs hk hne, hH.own, hH.imm, hnew, hH.lay⟩
        · rw [fget_argFr]
          simp only [Nat.zero_le, if_true, Nat.sub_zero]
          cases hd : ys[d]? with
          | none => exact VR.u _
          | some y =>
            have hlt := lt_of_get hd
            have hy := hargs d y hd
            have e : (cargs ++ Array.replicate (fn.ntmps - cargs.size) undef).getD d undef = cargs.getD d undef := by
              rw [Array.getD_eq_getD_getElem?, Array.getElem?_append, if_pos (by omega), Array.getD_eq_getD_getElem?]
            show SR C w σ _ _ d y _
            rw [e]
            exact SR_VR hy
        · simp only [St.box] at hk
          split at hk
          · simp [bget] at hk
          · rename_i hne
            obtain ⟨vs, T, hB⟩ := hH.bx k cs hk (hH.deep k cs hk hne).1
            exact ⟨vs, T, hB.cx rfl rfl rfl⟩
      refine hX ⟨dp, false⟩ fn'.code ⟨argFr 0 ys, [], hp⟩ r c fn.ntmps C _ w σ _ rfl rfl (by simp [C]; omega) hr hcode hc fun a0 w0 σ' hst0 hc0 => ?_
      obtain ⟨w', hst, hc', hleave⟩ := hc0.unmark hst0
      let a' : Act := { a0 with defers := [] }
      rw [hrs] at hres
      obtain ⟨v, hrun, hv⟩ : ∃ v, (results fn a'.tmps).run P w' = .ok v w' ∧ v = .pointer (some ⟨σ'.κ kk, 0, none⟩) := by
        have hfn : fn.results = #[.tmp n] := by
          have : fn.results.toList = [.tmp n] := by
            revert hres
            cases hq : fn.results.toList with
            | nil => intro h; cases h
            | cons z zs =>
              cases z with
              | cell t ty => intro h; simp [lowRes] at h
              | tmp t =>
                intro h
                cases zs with
                | nil => simp [lowRes] at h; rw [h]
                | cons z2 zs2 => cases z2 <;> simp [lowRes] at h
          rw [← Array.toArray_toList (xs := fn.results), this]
        have hsl := hc'.fr n
        rw [hfk] at hsl
        have hsl' : VR w' σ'.I σ'.κ (.p kk 0) (a'.tmps.getD n undef) := hsl
        refine ⟨a'.tmps.getD n undef, ?_, hsl'.p_inv⟩
        have e : results fn a'.tmps = (fn.results.mapM (resOne a'.tmps)) >>= fun vs => pure (if h : vs.size = 1 then vs[0] else .tuple vs) := by
          unfold results resOne
          rfl
        rw [e, hfn, Sem.run_bind]
        have hm : ((#[.tmp n] : Array ResultVar).mapM (resOne a'.tmps)).run P w' = .ok #[a'.tmps.getD n undef] w' := by
          rw [Array.mapM_eq_mapM_toList]
          simp [resOne]
        rw [hm]
        rfl
      obtain ⟨vs, T, hB⟩ := hc'.bx kk ncs (by simp only [St.box, C, hkd, if_true]; exact hbk)
      have hpost : bodyPostM Fence.wide 0 P fn (fun e w' => ∃ σ' kk vs T, e = .returned (.pointer (some ⟨σ'.κ kk, 0, none⟩)) ∧ kk.dp = dp ∧ BoxAt (cxOf P W dp) w' σ' kk ncs vs T ∧ Stp (cxOf P W dp) w σ w' σ' ∧ HpOK P W dp hp' w' σ') .ret a0 w0 := by
        refine hleave fn _ v hrun ⟨σ', kk, vs, T, by rw [hv], hkd, hB.cx rfl rfl rfl, ⟨hst.size, hst.keep, hst.up, hst.imm, hst.dn, hst.kap, hst.ow, hst.io⟩, ⟨fun k cs hk hlt => ?_, fun k cs hk hne => ?_, hc'.own, hc'.imm, hc'.lay⟩⟩
        · rw [← hhp] at hk
          obtain ⟨vs, T, hB⟩ := hc'.bx k cs (by simp only [St.box, C, if_neg (show ¬ k.dp = dp by omega)]; exact hk)
          exact ⟨vs, T, hB.cx rfl rfl rfl⟩
        · rw [← hhp] at hk
          exact hc'.hpd k cs hne hk
      rw [hee]
      rcases hen with rfl | rfl
      · exact hpost
      · exact hpost
    · cases hlow
  · cases hlow

theorem callF_ok {X : Run} (hT : TabOK P G) (hX : XOK P X) : RecOK P (callF G X) := ⟨callF_ret hT hX, callF_new hT hX, callF_ro hT hX⟩
end Go.Proofs.Ytmfihcbafljcbaa.A
