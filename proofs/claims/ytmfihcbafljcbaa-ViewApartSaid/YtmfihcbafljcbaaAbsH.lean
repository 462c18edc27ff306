/- Regions that run in the order of their text; what a function hands back. -/
import Derived.Test.YtmfihcbafljcbaaAbsG
import Derived.Orders
set_option linter.unusedSectionVars false
set_option linter.unusedVariables false
set_option linter.unusedSimpArgs false
set_option linter.constructorNameAsVariable false
namespace Go.Proofs.Ytmfihcbafljcbaa.A
open Go
variable [Base]

def lowGuard (ops : Array Oper) (g g' : Option (Nat × Bool)) : Bool :=
  match g, g' with
  | none, none => true
  | some (j, want), some (t, want') => want == want' && ((ops[j]?).bind (·.dst) == some t)
  | _, _ => false
def lowG (P : Program) (nt : Nat) (ops : Array Oper) (o : Oper) (g : GOp) : Bool :=
  lowOp P g.o o.op && o.dst == g.d && (match g.d with | some d => decide (d < nt) | none => true) && lowGuard ops o.guard g.g
def lowGs (P : Program) (nt : Nat) (ops : Array Oper) : List Oper → List GOp → Bool
  | [], [] => true
  | o :: os, g :: gs => lowG P nt ops o g && lowGs P nt ops os gs
  | _, _ => false
section
variable {C : Cx} {st : St} {a : Act} {w : World} {σ : Sp} {o : Oper} {d : Option Nat} {R : Rec} {Ω : Orc} {r : AV × St}

theorem put_none (st : St) (x : AV) : put st none x = st := rfl
theorem OpR.put {st' : St} {x : AV} {cv : Value} {w' : World} {σ' : Sp} (h : OpR C st' a w σ d x cv w' σ') (hd : ∀ dd, d = some dd → dd < C.nt) : Conc C (A.put st' d x) (a.put d cv) w' σ' := by
  cases d with
  | none => exact h.conc
  | some dd => exact h.conc.put (hd dd rfl) (h.val dd rfl) (fun t es e => h.own dd t es rfl e)
/-- a result that is frozen at once. -/
theorem OpR.putF {st' : St} {x : AV} {cv : Value} {w' : World} {σ' : Sp} (h : OpR C st' a w σ d x cv w' σ') (hd : ∀ dd, d = some dd → dd < C.nt) (fz : Bool) :
    ∃ σ'', Stp C w σ w' σ'' ∧ Conc C (A.put st' d (frz fz x)) (a.put d cv) w' σ'' := by
  have h1 := h.put hd
  cases fz with
  | false => exact ⟨σ', h.stp, by simpa [frz] using h1⟩
  | true =>
    cases x with
    | o t es =>
      cases d with
      | none => exact ⟨σ', h.stp, h1⟩
      | some dd =>
        have hx : fget (A.put st' (some dd) (.o t es)).fr dd = .o t es := by simp [A.put, St.fset, fget]
        obtain ⟨σ'', hs, hc⟩ := h1.pre1 (p := .fz dd) (st' := (A.put st' (some dd) (.o t es)).fset dd (.l t es)) (by simp [doPre1, hx])
        refine ⟨σ'', h.stp.trans hs, hc.equiv (fun d' => .inr ?_) (fun _ _ h => h) (fun _ _ _ h => h)⟩
        simp only [A.put, frz, fget_fset]
        split <;> rfl
    | _ => exact ⟨σ', h.stp, h1⟩

theorem lowG_dst {nt : Nat} {ops : Array Oper} {g : GOp} (hl : lowG C.P nt ops o g = true) (hnt : nt ≤ C.nt) : lowOp C.P g.o o.op = true ∧ o.dst = g.d ∧ (∀ dd, g.d = some dd → dd < C.nt) ∧ lowGuard ops o.guard g.g = true := by
  simp only [lowG, Bool.and_eq_true, beq_iff_eq] at hl
  refine ⟨hl.1.1.1, hl.1.1.2, fun dd hd => ?_, hl.2⟩
  have := hl.1.2
  rw [hd] at this
  simp at this
  omega
/-- what a guard says. -/
theorem Conc.guard (h : Conc C st a w σ) {ops : Array Oper} {g : GOp} (hl : lowGuard ops o.guard g.g = true) : (g.g = none → Region.wanted o (yielded ops a.tmps) = true) ∧
    ∀ j want y, g.g = some (j, want) → asG (fget st.fr j) want = some y → Region.wanted o (yielded ops a.tmps) = y := by
  unfold lowGuard at hl
  split at hl
  · rename_i h1 h2
    exact ⟨fun _ => by simp [Region.wanted, h1], fun j want y e => by rw [h2] at e; cases e⟩
  · rename_i j want t want' h1 h2
    simp only [Bool.and_eq_true, beq_iff_eq] at hl
    obtain ⟨rfl, hdst⟩ := hl
    refine ⟨fun e => (by rw [h2] at e; cases e), fun j' want' y e hy => ?_⟩
    rw [h2] at e
    obtain ⟨rfl, rfl⟩ := Prod.mk.inj (Option.some.inj e)
    have hs := h.fr t
    have hdst' : (ops[j]?.bind fun x => x.dst) = some t := hdst
    unfold asG at hy
    split at hy
    · rename_i x hx
      obtain rfl := Option.some.inj hy
      rw [hx] at hs
      have hv := VR.b_inv hs
      have ht : a.tmps[t]? = some (.bool x) := by
        rw [Array.getD_eq_getD_getElem?] at hv
        cases hq : a.tmps[t]? with
        | none => rw [hq] at hv; simp [undef] at hv
        | some q => rw [hq] at hv; simpa using hv
      simp only [Region.wanted, h1, yielded, hdst', Option.bind_some, ht]
      exact Option.some_beq_some
    · rename_i hx
      obtain rfl := Option.some.inj hy
      rw [hx] at hs
      have hv := VR.sk_inv hs
      simp only [Region.wanted, h1, yielded, hdst', Option.bind_some]
      rw [Array.getD_eq_getD_getElem?] at hv
      cases hq : a.tmps[t]? with
      | none => simp
      | some q =>
        rw [hq] at hv
        have : q = undef := by simpa using hv
        subst this
        simp [undef]
    · cases hy
  · cases hl
theorem Conc.putSk (h : Conc C st a w σ) (hd : ∀ dd, d = some dd → dd < C.nt) : Conc C (A.put st d .sk) (a.put d undef) w σ := by
  cases d with
  | none => exact h
  | some dd => exact h.put (hd dd rfl) VR.sk (fun _ _ e => by cases e)
theorem Conc.stepK {nt i : Nat} {ops : Array Oper} {g : GOp} {st' : St} {K : Act → World → Prop} {Q : Exit → Act → World → Prop} (hR : RecAll C.P R) (hΩ : OrcOK C.P Ω) (h : Conc C st a w σ) (ho : ops[i]? = some o) (hl : lowG C.P nt ops o g = true) (hnt : nt ≤ C.nt)
    (he : execG R Ω C.E st g = some st') (hK : ∀ a' w' σ', Stp C w σ w' σ' → Conc C st' a' w' σ' → K a' w') : wpOp C.P ops Q i K a w := by
  obtain ⟨hlo, hdst, hd, hgd⟩ := lowG_dst hl hnt
  obtain ⟨hg1, hg2⟩ := h.guard hgd
  have hgo : ∀ r, execOp R Ω C.E st g.d g.o = some r → st' = A.put r.2 g.d (frz g.fz r.1) → o.wp C.P a w K Q := by
    intro r hr hst
    refine sim_op hR hΩ g.o h hlo hr _ _ fun cv w' σ' hop => ?_
    obtain ⟨σ'', hs, hc⟩ := hop.putF hd g.fz
    rw [hdst]
    rw [← hst] at hc
    exact hK _ _ _ hs hc
  simp only [wpOp, ho]
  unfold execG at he
  split at he
  · rename_i hgn
    rw [if_pos (hg1 hgn)]
    obtain ⟨r, hr, he1⟩ := Option.bind_eq_some_iff.1 he
    exact .inl (hgo r hr (Option.some.inj he1).symm)
  · rename_i j want hgs
    obtain ⟨y, hy, he1⟩ := Option.bind_eq_some_iff.1 he
    have hwt := hg2 j want y hgs hy
    split at he1
    · rename_i hyt
      rw [if_pos (by rw [hwt, hyt])]
      obtain ⟨r, hr, he2⟩ := Option.bind_eq_some_iff.1 he1
      exact .inl (hgo r hr (Option.some.inj he2).symm)
    · rename_i hyf
      rw [if_neg (by rw [hwt]; exact hyf)]
      refine hK _ _ _ (.refl _ _ _) ?_
      rw [← Option.some.inj he1, hdst]
      exact h.putSk hd
theorem Conc.step {nt i : Nat} {ops : Array Oper} {g : GOp} {st' : St} {rest : List Nat} {Q : Exit → Act → World → Prop} (hR : RecAll C.P R) (hΩ : OrcOK C.P Ω) (h : Conc C st a w σ) (ho : ops[i]? = some o) (hl : lowG C.P nt ops o g = true) (hnt : nt ≤ C.nt)
    (he : execG R Ω C.E st g = some st') (hK : ∀ a' w' σ', Stp C w σ w' σ' → Conc C st' a' w' σ' → wpOps C.P ops Q rest a' w') : wpOps C.P ops Q (i :: rest) a w := by
  rw [wpOps_cons]
  exact h.stepK hR hΩ ho hl hnt he hK
theorem Conc.steps {nt : Nat} {ops : Array Oper} {Q : Exit → Act → World → Prop} (hR : RecAll C.P R) (hΩ : OrcOK C.P Ω) (hnt : nt ≤ C.nt) : ∀ (gs : List GOp) (os : List Oper) (i : Nat) (st st' : St) (a : Act) (w : World) (σ : Sp), ops.toList.drop i = os →
    lowGs C.P nt ops os gs = true → Conc C st a w σ → execOps R Ω C.E st gs = some st' → (∀ a' w' σ', Stp C w σ w' σ' → Conc C st' a' w' σ' → Q .normal a' w') → wpOps C.P ops Q (List.range' i os.length) a w
  | [], [], i, st, st', a, w, σ, _, _, h, he, hK => by
    obtain rfl := Option.some.inj he
    exact hK a w σ (.refl _ _ _) h
  | g :: gs, o :: os, i, st, st', a, w, σ, hi, hl, h, he, hK => by
    simp only [lowGs, Bool.and_eq_true] at hl
    obtain ⟨st1, he1, he2⟩ := Option.bind_eq_some_iff.1 he
    have ho : ops[i]? = some o := by
      have : (ops.toList.drop i)[0]? = some o := by rw [hi]; rfl
      rw [List.getElem?_drop] at this
      simpa using this
    have hi' : ops.toList.drop (i + 1) = os := by
      rw [← List.drop_drop, hi]; rfl
    rw [List.length_cons, List.range'_succ]
    exact h.step hR hΩ ho hl.1 hnt he1 fun a' w' σ' hs hc => Conc.steps hR hΩ hnt gs os (i + 1) st1 st' a' w' σ' hi' hl.2 hc he2 fun a'' w'' σ'' hs' hc' => hK a'' w'' σ'' (hs.trans hs') hc'
  | [], _ :: _, _, _, _, _, _, _, _, hl, _, _, _ => by simp [lowGs] at hl
  | _ :: _, [], _, _, _, _, _, _, _, hl, _, _, _ => by simp [lowGs] at hl
theorem Conc.region {nt id : Nat} {ops : Array Oper} {Q : Exit → Act → World → Prop} {gs : List GOp} {st' : St} (hR : RecAll C.P R) (hΩ : OrcOK C.P Ω) (hnt : nt ≤ C.nt) (hl : lowGs C.P nt ops ops.toList gs = true) (h : Conc C st a w σ)
    (he : execOps R Ω C.E st gs = some st') (hK : ∀ a' w' σ', Stp C w σ w' σ' → Conc C st' a' w' σ' → Q .normal a' w') : (Code.region id ops false).wp C.P Q a w := by
  refine wp_region ?_
  have := Conc.steps (ops := ops) hR hΩ hnt gs ops.toList 0 st st' a w σ rfl hl h he hK
  rwa [Array.length_toList, ← List.range_eq_range'] at this

/-- what of the function's own stays behind. -/
def Lbl.dep : Lbl → Nat
  | .grp dp _ => dp
  | .mark dp => dp
  | .box k => k.dp
  | .rowS dp _ => dp
  | .rowC k _ => k.dp
def endI (C : Cx) (w : World) (σ : Sp) : Nat → Prop := fun b => σ.I b ∨ (C.W b ∧ ∃ l, σ.ow b = some l ∧ l.dep = C.E.dp)
theorem OwnAt.end' {L : Lbl} {wp : Prop} {t : TypeId} {es : List AV} {v : Value} (h : Conc C st a w σ) (hw : wp) (hL : L.dep = C.E.dp) (ho : OwnAt C.P C.W w σ L wp t es v) : VR w (endI C w σ) σ.κ (.l t es) v := by
  rcases ho with ⟨rfl, rfl⟩ | ⟨g, cap, cs, rfl, hR⟩
  · exact .lnil _ _ _
  · exact hR.imm0 (fun _ h => .inl h) (.inr ⟨hR.wr hw, L, hR.ow, hL⟩)
theorem VR.toEnd {x : AV} {v : Value} (h : VR w σ.I σ.κ x v) : VR w (endI C w σ) σ.κ x v := h.mono (fun _ h => .inl h) (fun _ _ => rfl) (fun _ _ => rfl)
theorem Conc.fin1 (h : Conc C st a w σ) {n : Nat} {x y : AV} {v : Value} (hx : SR C w σ st a n x v) (he : st.fin1 C.E.dp x = some y) : VR w (endI C w σ) σ.κ y v ∨ y.pure = false := by
  cases x with
  | o t es =>
    obtain rfl := Option.some.inj he
    exact .inl (OwnAt.end' h trivial rfl hx)
  | r pl =>
    cases pl with
    | s d =>
      obtain ⟨⟨t, es⟩, hr, he1⟩ := Option.bind_eq_some_iff.1 he
      obtain rfl := Option.some.inj he1
      rw [hx (by rw [hr]; rfl)]
      exact .inl (OwnAt.end' h rfl rfl (h.row hr))
    | c k off =>
      simp only [St.fin1] at he
      split at he
      · rename_i hd
        obtain ⟨⟨t, es⟩, hr, he1⟩ := Option.bind_eq_some_iff.1 he
        obtain rfl := Option.some.inj he1
        rw [hx (by rw [hr]; rfl)]
        exact .inl (OwnAt.end' (L := .rowC k off) h (mine_dp hd) hd (h.row hr))
      · cases he
  | v pl lo len =>
    cases pl with
    | s d =>
      obtain ⟨⟨t, es⟩, hr, he1⟩ := Option.bind_eq_some_iff.1 he
      simp only at he1
      split at he1
      · rename_i hle
        obtain rfl := Option.some.inj he1
        obtain ⟨A, n', cap, hpv, hv⟩ := hx t es hr hle
        rw [hv]
        by_cases hl : len = 0
        · subst hl; exact .inl (by simpa using VR.lnil _ _ _)
        · obtain ⟨g, cap', cs, hpv', hR⟩ := h.rowNE hr (fun e => by subst e; simp at hle; omega)
          obtain ⟨rfl, rfl, rfl⟩ : A = some ⟨g, 0, none⟩ ∧ n' = es.length ∧ cap = cap' := by
            rw [hpv] at hpv'; simpa using hpv'
          have hec := hR.ecap
          rw [if_neg (by omega)]
          simp only [Option.map_some, add_lit, Nat.zero_add]
          exact .inl (hR.imm (fun _ h => .inl h) (.inr ⟨hR.wr rfl, _, hR.ow, rfl⟩) hle)
      · cases he1
    | c k off =>
      obtain rfl := Option.some.inj he
      exact .inr rfl
  | q pl i sz off =>
    obtain rfl := Option.some.inj he
    exact .inr rfl
  | w _ _ _ => cases he
  | bp _ _ _ => cases he
  | _ =>
    obtain rfl := Option.some.inj he
    exact .inl (VR.toEnd hx)
theorem SR_CR {k : Key} {off : Nat} {c : AV} {v : Value} (h : CR C w σ k off c v) (hd : k.dp = C.E.dp) (hC : Conc C st a w σ) {y : AV} (he : st.fin1 C.E.dp c = some y) (hone : c.one = true ∨ c = .u) : VR w (endI C w σ) σ.κ y v := by
  cases c with
  | o t es =>
    obtain rfl := Option.some.inj he
    exact OwnAt.end' (L := .rowC k off) hC (mine_dp hd) hd h
  | r pl => rcases hone with h1 | h1 <;> simp [AV.one] at h1
  | v pl lo len => rcases hone with h1 | h1 <;> simp [AV.one] at h1
  | q pl i sz off => rcases hone with h1 | h1 <;> simp [AV.one] at h1
  | w _ _ _ => cases he
  | bp _ _ _ => cases he
  | _ =>
    obtain rfl := Option.some.inj he
    exact VR.toEnd h

def lowRes (P : Program) : List ResultVar → List RV → Bool
  | [], [] => true
  | .tmp t :: rs, .t n :: xs => t == n && lowRes P rs xs
  | .cell a ty :: rs, .c n sz :: xs => a == n && lowN P ty sz && lowRes P rs xs
  | _, _ => false
def resOne (tmps : Array Value) (x : ResultVar) : Sem Value :=
  match x with
  | .tmp t => pure (tmps.getD t undef)
  | .cell a t => do loadVar t (← asAddr (tmps.getD a undef))
theorem finL_get {dp : Nat} : ∀ (ds ys : List AV), st.finL dp ds = some ys → ds.length = ys.length ∧ ∀ (i : Nat) (y : AV), ys[i]? = some y → ∃ c, ds[i]? = some c ∧ st.fin1 dp c = some y
  | [], ys, h => by obtain rfl := Option.some.inj h; exact ⟨rfl, fun i y hi => by simp at hi⟩
  | d :: ds, ys, h => by
    obtain ⟨y, h1, h2⟩ := Option.bind_eq_some_iff.1 h
    obtain ⟨ys', h3, h4⟩ := Option.bind_eq_some_iff.1 h2
    obtain rfl := Option.some.inj h4
    obtain ⟨h5, h6⟩ := finL_get ds ys' h3
    refine ⟨by simp [h5], fun i z hi => ?_⟩
    cases i with
    | zero => exact ⟨d, rfl, by rw [h1]; simpa using hi⟩
    | succ i => simpa using h6 i z (by simpa using hi)
theorem fin1_one {dp : Nat} {c y : AV} (h : st.fin1 dp c = some y) (hc : c.one = true) : y.one = true := by
  cases c with
  | o t es => obtain rfl := Option.some.inj h; rfl
  | r pl => simp [AV.one] at hc
  | v pl lo len => simp [AV.one] at hc
  | w _ _ _ => cases h
  | bp _ _ _ => cases h
  | _ => obtain rfl := Option.some.inj h; exact hc
/-- a row of cells whose cells are frozen, read. -/
theorem Conc.resV (h : Conc C st a w σ) {x : ResultVar} {z : RV} {y : AV} (hl : lowRes C.P [x] [z] = true) (he : st.resV C.E z = some y) (hp : y.pure = true) : ∃ v, (resOne a.tmps x).run C.P w = .ok v w ∧ VR w (endI C w σ) σ.κ y v := by
  cases x with
  | tmp t =>
    cases z with
    | t n =>
      obtain rfl : t = n := by simpa [lowRes] using hl
      refine ⟨_, rfl, (h.fin1 (h.fr t) he).resolve_right (by simp [hp])⟩
    | c n sz => simp [lowRes] at hl
  | cell n' ty =>
    cases z with
    | t n => simp [lowRes] at hl
    | c n sz =>
      obtain ⟨rfl, hn⟩ : n' = n ∧ lowN C.P ty sz = true := by simpa [lowRes] using hl
      simp only [St.resV] at he
      split at he
      · rename_i k off hx
        split at he
        · rename_i hd
          obtain ⟨cs, hb, he1⟩ := Option.bind_eq_some_iff.1 he
          obtain ⟨q, hq, he2⟩ := Option.bind_eq_some_iff.1 he1
          have hbx : st.box C.E.dp k = some cs := by simp [St.box, hd, hb]
          obtain ⟨vs, T, hB⟩ := h.bx k cs hbx
          have hs := h.fr n'
          rw [hx] at hs
          have hv := VR.p_inv hs
          have hrun : ∀ v, (loadVar ty ⟨σ.κ k, off, none⟩).run C.P w = .ok v w → (resOne a.tmps (.cell n' ty)).run C.P w = .ok v w := by
            intro v hr
            unfold resOne
            simp only [hv]
            simp [asAddr, hr]
          cases sz with
          | none =>
            obtain ⟨hag, _⟩ : aggT C.P ty = some false ∧ C.P.cellsOf ty = 1 := by simpa [lowN] using hn
            have hq' : cs[off]? = some q := hq
            have hlt : off < vs.size := Nat.lt_of_lt_of_le (lt_of_get hq') hB.size
            have hc : w.cell? ⟨σ.κ k, off, none⟩ = some vs[off] := by rw [cell_lit hB.hh]; simp [hlt]
            have hcr := hB.cell off q hq'
            have hvo : vs.getD off undef = vs[off] := by simp [hlt]
            rw [hvo] at hcr
            refine ⟨vs[off], hrun _ (by unfold loadVar; simp [run_isAgg hag w, hc]), ?_⟩
            have hqa : ∀ ds, q ≠ .a ds := fun ds e => by
              have := hB.one q (List.mem_of_getElem? hq')
              subst e
              rcases this with h1 | h1 <;> simp [AV.one] at h1
            have he3 : st.fin1 C.E.dp q = some y := by
              cases q <;> first | exact he2 | exact absurd rfl (hqa _)
            exact SR_CR hcr hd h he3 (hB.one q (List.mem_of_getElem? hq'))
          | some m =>
            obtain ⟨⟨hag, hi⟩, hm⟩ : (aggT C.P ty = some true ∧ (C.P.info? ty).isSome = true) ∧ C.P.cellsOf ty = m := by simpa [lowN] using hn
            simp only [pick] at hq
            split at hq
            · rename_i hle
              obtain rfl := Option.some.inj hq
              simp only at he2
              obtain ⟨ds, hds, he3⟩ := Option.bind_eq_some_iff.1 he2
              obtain rfl := Option.some.inj he3
              obtain ⟨hlen, hget⟩ := finL_get _ _ hds
              have hdl : ds.length = m := by rw [← hlen]; simp; omega
              have hl := run_loadCells (P := C.P) w ⟨σ.κ k, off, none⟩ m (fun j => vs.getD (off + j) undef) (fun j hj => by
                rw [add_lit, cell_lit hB.hh]
                have : off + j < vs.size := by have := hB.size; omega
                simp [this])
              refine ⟨.agg (((List.range m).map fun j => vs.getD (off + j) undef).toArray), hrun _ ?_, ?_⟩
              · unfold loadVar
                simp only [Sem.run_bind, run_isAgg hag w, Result.andThen_ok, if_true, run_sizeOf' hi, hm, hl, Sem.run_pure]
              · have hcell : ∀ (j : Nat) (z : AV), ds[j]? = some z → ∃ c, cs[off + j]? = some c ∧ st.fin1 C.E.dp c = some z := by
                  intro j z hj
                  obtain ⟨c, hc, hz⟩ := hget j z hj
                  rw [List.getElem?_take] at hc
                  split at hc
                  · rw [List.getElem?_drop] at hc; exact ⟨c, hc, hz⟩
                  · cases hc
                have hpl := pureL_mem (l := ds) (by simpa [AV.pure] using hp)
                refine VR.a _ _ (by simp [hdl]) (fun z hz => ?_) fun j z hj => ?_
                · obtain ⟨j, hj⟩ := List.mem_iff_getElem?.1 hz
                  obtain ⟨c, hc, hfz⟩ := hcell j z hj
                  have hz1 := hB.one c (List.mem_of_getElem? hc)
                  rcases hz1 with h1 | h1
                  · exact fin1_one hfz h1
                  · subst h1
                    obtain rfl := Option.some.inj hfz
                    have := hpl _ hz; cases this
                · obtain ⟨c, hc, hfz⟩ := hcell j z hj
                  have hjm := lt_of_get hj
                  have hcr := SR_CR (hB.cell _ c hc) hd h hfz (hB.one c (List.mem_of_getElem? hc))
                  simpa [hdl ▸ hjm] using hcr
            · cases hq
        · cases he
      · cases he
theorem Conc.resAll (h : Conc C st a w σ) : ∀ (rs : List ResultVar) (zs : List RV) (xs : List AV), lowRes C.P rs zs = true → st.resAll C.E zs = some xs → (∀ x ∈ xs, x.pure = true) →
    ∃ vs, (rs.mapM (resOne a.tmps)).run C.P w = .ok vs w ∧ vs.length = xs.length ∧ ∀ (i : Nat) (x : AV), xs[i]? = some x → VR w (endI C w σ) σ.κ x (vs[i]?.getD undef)
  | [], [], xs, _, he, _ => by
    obtain rfl := Option.some.inj he
    exact ⟨[], by simp, rfl, fun i x hi => by simp at hi⟩
  | r :: rs, z :: zs, xs, hl, he, hp => by
    obtain ⟨y, h1, h2⟩ := Option.bind_eq_some_iff.1 he
    obtain ⟨ys, h3, h4⟩ := Option.bind_eq_some_iff.1 h2
    obtain rfl := Option.some.inj h4
    have hl1 : lowRes C.P [r] [z] = true ∧ lowRes C.P rs zs = true := by
      cases r <;> cases z <;> simp_all [lowRes]
    obtain ⟨v, hv, hvr⟩ := h.resV hl1.1 h1 (hp y (by simp))
    obtain ⟨vs, hvs, hlen, hvrs⟩ := Conc.resAll h rs zs ys hl1.2 h3 (fun x hx => hp x (by simp [hx]))
    refine ⟨v :: vs, ?_, by simp [hlen], fun i x hi => ?_⟩
    · simp [List.mapM_cons, hv, hvs]
    · cases i with
      | zero =>
        obtain rfl : y = x := by simpa using hi
        simpa using hvr
      | succ i => simpa using hvrs i x (by simpa using hi)
  | [], _ :: _, _, hl, _, _ => by simp [lowRes] at hl
  | r :: _, [], _, hl, _, _ => by cases r <;> simp [lowRes] at hl
theorem Conc.result (h : Conc C st a w σ) {fn : Func} {zs : List RV} {x : AV} (hl : lowRes C.P fn.results.toList zs = true) (he : st.result C.E zs = some x) : ∃ v, (results fn a.tmps).run C.P w = .ok v w ∧ VR w (endI C w σ) σ.κ x v := by
  obtain ⟨xs, h1, h2⟩ := Option.bind_eq_some_iff.1 he
  split at h2
  · rename_i hp
    obtain rfl := Option.some.inj h2
    obtain ⟨vs, hvs, hlen, hvr⟩ := h.resAll _ zs xs hl h1 (pureL_mem hp)
    refine ⟨if hs : vs.toArray.size = 1 then vs.toArray[0] else .tuple vs.toArray, ?_, ?_⟩
    · have hm : (fn.results.mapM (resOne a.tmps)).run C.P w = .ok vs.toArray w := by
        rw [Array.mapM_eq_mapM_toList]
        simp [hvs]
      have e : results fn a.tmps = (fn.results.mapM (resOne a.tmps)) >>= fun vs => pure (if h : vs.size = 1 then vs[0] else .tuple vs) := by
        unfold results resOne
        rfl
      rw [e, Sem.run_bind, hm]
      rfl
    · match xs, vs, hlen, hvr with
      | [], [], _, hvr => exact .tp [] _ rfl fun m c hm => by simp at hm
      | [y], [v], _, hvr => simpa [tup] using hvr 0 y rfl
      | y :: y2 :: ys, v :: v2 :: vs, hlen, hvr =>
        have : ¬ (v :: v2 :: vs).toArray.size = 1 := by simp
        rw [dif_neg this]
        refine .tp _ _ (by simpa using hlen.symm) fun m c hm => ?_
        have := hvr m c hm
        simpa [Array.getD_eq_getD_getElem?] using this
  · cases h2
end
end Go.Proofs.Ytmfihcbafljcbaa.A
