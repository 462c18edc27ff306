/- Stores and assignments: the model does what the abstract run says. -/
import Derived.Test.YtmfihcbafljcbaaAbsB
set_option linter.unusedSectionVars false
set_option linter.unusedVariables false
set_option linter.unusedSimpArgs false
set_option linter.constructorNameAsVariable false
namespace Go.Proofs.Ytmfihcbafljcbaa.A
open Go
variable [Base]
section
variable {C : Cx} {st : St} {a : Act} {w : World} {σ : Sp} {o : Oper} {d : Option Nat} {R : Rec} {Ω : Orc} {r : AV × St}

theorem Conc.relabel {g : Nat} {L M : Lbl} (h : Conc C st a w σ) (hg : σ.ow g = some L) (hi : Idle C st (some L)) : Conc C st a w (σ.add g (some M)) := by
  refine h.sameL (L := some L) ⟨fun b l hb hl => ⟨rfl, ?_⟩, fun _ _ => rfl, fun _ h => h, rfl, Nat.le_refl _, fun b l hb => ?_, fun b hb => ?_⟩ hi
  · have : b ≠ g := fun e => hl (by subst e; rw [← hb, hg])
    simp only [Sp.add, if_neg this, hb]
  · simp only [Sp.add] at hb
    split at hb
    · rename_i e; subst e; exact h.own _ _ hg
    · exact h.own b l hb
  · obtain ⟨h1, h2⟩ := h.imm b hb
    have : b ≠ g := fun e => by subst e; rw [hg] at h2; cases h2
    exact ⟨h1, by simp only [Sp.add, if_neg this, h2]⟩
theorem Stp.relabel {g : Nat} {L : Option Lbl} (hW : C.W g) : Stp C w σ w (σ.add g L) :=
  ⟨Nat.le_refl _, fun _ _ _ => rfl, fun _ h => h, fun _ _ => rfl, fun _ h => .inl h, fun _ _ => rfl, fun b _ hb => if_neg (fun e => hb (by rw [e]; exact hW)), rfl, rfl⟩
theorem RowAt.relabel {P : Program} {W : Nat → Prop} {L M : Lbl} {wp : Prop} {t : TypeId} {es : List AV} {g cap : Nat} {cs : Array Value} (h : RowAt P W w σ L wp t es g cap cs) : RowAt P W w (σ.add g (some M)) M wp t es g cap cs :=
  ⟨by simp [Sp.add], h.wr, h.hh, h.pos, h.nc, h.ecap, h.max, h.size, h.pure, h.one, h.cell, h.base⟩
/-- a row changes hands. -/
theorem Conc.take {L M : Lbl} {wp : Prop} {t : TypeId} {es : List AV} {v : Value} (h : Conc C st a w σ) (ho : OwnAt C.P C.W w σ L wp t es v) (hwp : wp) (hi : Idle C st (some L)) :
    ∃ σ', Conc C st a w σ' ∧ OwnAt C.P C.W w σ' M wp t es v ∧ Stp C w σ w σ' ∧ σ'.κ = σ.κ := by
  rcases ho with ⟨h1, h2⟩ | ⟨g, cap, cs, hv, hR⟩
  · exact ⟨σ, h, .inl ⟨h1, h2⟩, .refl _ _ _, rfl⟩
  · exact ⟨_, h.relabel hR.ow hi, .inr ⟨g, cap, cs, hv, hR.relabel⟩, .relabel (hR.wr hwp), rfl⟩
theorem RowAt.short {P : Program} {W : Nat → Prop} {L : Lbl} {wp : Prop} {t : TypeId} {es : List AV} {g cap : Nat} {cs : Array Value} (h : RowAt P W w σ L wp t es g cap cs) (n : Nat) : RowAt P W w σ L wp t (es.take n) g cap cs :=
  ⟨h.ow, h.wr, h.hh, h.pos, fun e he => h.nc e (List.mem_of_mem_take he), by have := h.ecap; simp; omega, h.max, h.size, fun e he => h.pure e (List.mem_of_mem_take he), fun e he => h.one e (List.mem_of_mem_take he),
    fun j e m c hj hm => h.cell j e m c (by rw [List.getElem?_take] at hj; split at hj; exact hj; cases hj) hm, h.base⟩
/-- the beginning of a row, seen through a view of it. -/
theorem OwnAt.short {P : Program} {W : Nat → Prop} {L : Lbl} {wp : Prop} {t : TypeId} {es : List AV} {v v' : Value} {len sz : Nat} (h : OwnAt P W w σ L wp t es v) (hl : len ≤ es.length)
    (hv : ∃ A n cap, v = .slice A n cap ∧ v' = .slice (if cap = 0 then A else A.map (·.add (0 * sz))) len (cap - 0)) : OwnAt P W w σ L wp t (es.take len) v' := by
  obtain ⟨A, n, cap, h1, h2⟩ := hv
  have hA : (if cap = 0 then A else A.map (·.add (0 * sz))) = A := by
    split
    · rfl
    · rw [Nat.zero_mul]
      cases A with
      | none => rfl
      | some x => simp [Addr.add]
  rw [hA, Nat.sub_zero] at h2
  have hlen : (es.take len).length = len := by simp; omega
  rcases h with ⟨rfl, hv⟩ | ⟨g, cap', cs, hv, hR⟩
  · simp only [List.length_nil] at hl
    obtain rfl : len = 0 := by omega
    refine .inl ⟨by simp, ?_⟩
    rw [hv] at h1
    simp only [Value.slice.injEq] at h1
    rw [h2, ← h1.1, ← h1.2.2]
  · rw [hv] at h1
    simp only [Value.slice.injEq] at h1
    exact .inr ⟨g, cap', cs, by rw [h2, ← h1.1, ← h1.2.2, hlen], hR.short len⟩

theorem fget_dropB (st : St) (pl : Pl) (d : Nat) : fget (st.dropB pl).fr d = .u ∨ fget (st.dropB pl).fr d = fget st.fr d := by
  simp only [St.dropB, fget_drop]
  split
  · exact .inl rfl
  · exact .inr rfl
theorem fget_fset (st : St) (d d' : Nat) (x : AV) : fget (st.fset d x).fr d' = if d = d' then x else fget st.fr d' := rfl
theorem Conc.lose (h : Conc C st a w σ) (n : Nat) : Conc C (st.fset n .u) a w σ :=
  h.forget (fun d => by rw [fget_fset]; split; exact .inl rfl; exact .inr rfl) (fun _ _ h => h) rfl
theorem bor_dropB {st : St} {p : Pl} {d : Nat} (pl : Pl) (h : (fget st.fr d).bor p = false) : (fget (st.dropB pl).fr d).bor p = false := by
  rcases fget_dropB st pl d with e | e
  · rw [e]; rfl
  · rw [e]; exact h
/-- the owner of a slot whose value is given away owns nothing more. -/
theorem idle_slot {n : Nat} (hn : ∀ t es, fget st.fr n ≠ .o t es) : Idle C st (some (.rowS C.E.dp n)) :=
  ⟨fun d t es hd e => by simp at e; subst e; exact hn _ _ hd, fun _ _ _ => by simp, fun _ _ _ _ _ _ _ => by simp, fun _ => by simp, by simp⟩
theorem not_own_dropB {pl : Pl} {n : Nat} (hn : ∀ t es, fget st.fr n ≠ .o t es) : ∀ t es, fget (st.dropB pl).fr n ≠ .o t es := by
  intro t es
  rcases fget_dropB st pl n with e | e
  · rw [e]; simp
  · rw [e]; exact hn t es

theorem sim_as {x : Opd} (h : Conc C st a w σ) (hl : lowOp C.P (.as x) o.op = true) (he : execOp R Ω C.E st d (.as x) = some r) :
    Sim C o d a w σ r.2 r.1 := by
  obtain ⟨y, hop, hlo⟩ : ∃ y, o.op = .assign y ∧ lowO y x = true := by
    simp only [lowOp] at hl; split at hl
    · rename_i y hy; exact ⟨y, hy, hl⟩
    · cases hl
  have hr : (Go.execOp a.eval o).run C.P w = .ok (.value (a.eval y)) w := by unfold Go.execOp; simp [hop]
  cases x with
  | c z =>
    simp only [execOp] at he
    split at he
    · rename_i hp
      obtain rfl := Option.some.inj he
      exact .quiet h hr (pure_copy z hp) (h.opd (x := .c z) hlo (pure_copy z hp))
    · cases he
  | t n =>
    have hs := h.slot hlo
    simp only [execOp] at he
    have hgen : ∀ z, fget st.fr n = z → (∀ t es, z ≠ .o t es) → r = (z, st) → Sim C o d a w σ r.2 r.1 := by
      intro z hz hno hre
      subst hre
      rw [hz] at hs
      exact .lent h hr hno fun dd => SR_any hno hs
    split at he
    · rename_i t es hx
      obtain ⟨dd, hdd, he⟩ := Option.bind_eq_some_iff.1 he
      obtain rfl := Option.some.inj he
      rw [hx] at hs
      have h1 := (h.lose n).dropB (.s dd)
      have hn : ∀ t es, fget ((st.fset n .u).dropB (.s dd)).fr n ≠ .o t es :=
        not_own_dropB (fun t es => by rw [fget_fset, if_pos rfl]; simp)
      obtain ⟨σ', hc, ho, hst, _⟩ := h1.take (M := .rowS C.E.dp dd) hs trivial (idle_slot hn)
      refine .of_run hr ⟨hst, hc, fun d2 hd2 => ?_, fun d2 t2 es2 hd2 _ d' => ?_⟩
      · rw [hdd] at hd2; obtain rfl := Option.some.inj hd2; exact ho
      · rw [hdd] at hd2; obtain rfl := Option.some.inj hd2; exact dropB_bor _ _ _
    · rename_i pl lo len hx
      obtain ⟨dd, hdd, he1⟩ := Option.bind_eq_some_iff.1 he
      clear he
      split at he1
      · rename_i hc
        simp only [Bool.and_eq_true, decide_eq_true_eq, beq_iff_eq] at hc
        obtain ⟨hpl, hlo0⟩ := hc
        obtain ⟨⟨t, es⟩, hrow, he2⟩ := Option.bind_eq_some_iff.1 he1
        clear he1
        simp only at he2
        split at he2
        · rename_i hle
          obtain rfl := Option.some.inj he2
          rw [hx] at hs
          subst hlo0
          have hv := hs t es hrow (by omega)
          subst hpl
          have ho := (h.row hrow).short hle hv
          refine .of_run hr ⟨.refl _ _ _, h.dropB _, fun d2 hd2 => ?_, fun d2 t2 es2 hd2 _ d' => ?_⟩
          · rw [hdd] at hd2; obtain rfl := Option.some.inj hd2; exact ho.weak fun _ => rfl
          · rw [hdd] at hd2; obtain rfl := Option.some.inj hd2; exact dropB_bor _ _ _
        · cases he2
      · exact hgen _ hx (fun _ _ e => by cases e) (Option.some.inj he1).symm
    · rename_i hno hnv
      split at he
      · exact hgen _ rfl (fun t es e => hno t es e) (Option.some.inj he).symm
      · cases he

theorem copy_cl {x : AV} (h : x.copy = true) : ∀ c ∈ x.cl, c.copy = true := by
  intro c hc
  cases x <;> simp only [AV.cl, List.mem_singleton] at hc <;> first | (subst hc; exact h) | skip
  exact copyL_mem (by simpa [AV.copy] using h) c hc
theorem deep_cl {n : Nat} {x : AV} (h : x.deep n = true) : ∀ c ∈ x.cl, c.deep n = true := by
  intro c hc
  cases x <;> simp only [AV.cl, List.mem_singleton] at hc <;> first | (subst hc; exact h) | skip
  exact deepL_mem (by simpa [AV.deep] using h) c hc
theorem CR_VR {k : Key} {off : Nat} {c : AV} {v : Value} (hc : c.copy = true) (h : VR w σ.I σ.κ c v) : CR C w σ k off c v := by
  cases c <;> first | exact h | (simp [AV.copy] at hc)
theorem OwnAt.isSlice {P : Program} {W : Nat → Prop} {L : Lbl} {wp : Prop} {t : TypeId} {es : List AV} {v : Value} (h : OwnAt P W w σ L wp t es v) : v.cells = #[v] ∧ v.oneCell' = true := by
  rcases h with ⟨_, rfl⟩ | ⟨g, cap, cs, rfl, _⟩ <;> exact ⟨rfl, rfl⟩
/-- a row that lies in hand is laid into a cell of a box. -/
theorem Conc.storeOwn {k : Key} {cs : List AV} {off : Nat} {t : TypeId} {es : List AV} {v : Value} (h : Conc C st a w σ) (hb : st.box C.E.dp k = some cs) (hlt : off < cs.length)
    (hm : (Pl.c k off).mine C.E = true) (ho : OwnAt C.P C.W w σ (.rowC k off) True t es v) (hbor : ∀ d, (fget st.fr d).bor (.c k off) = false) {T : TypeId} (hsz : sized C.P T 1 = true) :
    ∃ w', (Instr.storeAt T (.pointer (some ⟨σ.κ k, off, none⟩)) v).run C.P w = .ok () w' ∧ Conc C (st.setBox C.E.dp k (cs.set off (.o t es))) a w' σ ∧ Stp C w σ w' σ := by
  obtain ⟨vs, T', hB⟩ := h.bx k cs hb
  obtain ⟨hc1, hc2⟩ := ho.isSlice
  refine ⟨_, run_storeAt (n := 1) hB.hh hsz (by rw [hc1]; rfl) (by have := hB.size; omega) (fun u hu => ?_), ?_, .setRow h hB.ow (hB.wr hm) _⟩
  · rw [hc1] at hu
    have : u = v := by simpa using hu
    rw [this]; exact hc2
  · rw [set_putCells _ _ _ hlt, hc1]
    refine h.storeBox hb hB (by simp) (by simp only [List.length_singleton]; omega) (fun c hc => ?_) (fun j c hj => ?_) (fun j t' es' hj => ?_) (fun _ c hc => ?_) (fun t' _ _ ht => by simp at ht)
    · have : c = .o t es := by simpa using hc
      rw [this]; rfl
    · cases j with
      | zero =>
        have : AV.o t es = c := by simpa using hj
        subst this
        exact ho.weak fun _ => trivial
      | succ j => simp at hj
    · cases j with
      | zero => exact hbor
      | succ j => simp at hj
    · have : c = .o t es := by simpa using hc
      rw [this]; rfl

theorem sim_st {n : Nat} {x y : Opd} (h : Conc C st a w σ) (hl : lowOp C.P (.st n x y) o.op = true) (he : execOp R Ω C.E st d (.st n x y) = some r) :
    Sim C o d a w σ r.2 r.1 := by
  obtain ⟨t, x', y', hop, hlx, hly, hsz⟩ : ∃ t x' y', o.op = .store t x' y' ∧ lowO x' x = true ∧ lowO y' y = true ∧ sized C.P t n = true := by
    simp only [lowOp] at hl; split at hl
    · rename_i t x' y' hy
      simp only [Bool.and_eq_true] at hl
      exact ⟨_, _, _, hy, hl.1.1, hl.1.2, hl.2⟩
    · cases hl
  have hrun : ∀ g off w', a.eval x' = .pointer (some ⟨g, off, none⟩) → (Instr.storeAt t (.pointer (some ⟨g, off, none⟩)) (a.eval y')).run C.P w = .ok () w' →
      (Go.execOp a.eval o).run C.P w = .ok .skip w' := by
    intro g off w' hv hr
    unfold Go.execOp
    simp [hop, hv, hr]
  have hfin : ∀ {w' σ' st'}, (Go.execOp a.eval o).run C.P w = .ok .skip w' → Stp C w σ w' σ' → Conc C st' a w' σ' → Sim C o d a w σ st' .u := fun hr hs hc =>
    .of_skip hr ⟨hs, hc, fun _ _ => VR.u _, fun _ _ _ _ e => by cases e⟩
  simp only [execOp] at he
  split at he
  · rename_i k off hx
    have hv := (hx ▸ h.opdV hlx (by rw [hx]; simp) (by rw [hx]; rfl)).p_inv
    split at he
    · rename_i hmine
      obtain ⟨cs, hbx, he1⟩ := Option.bind_eq_some_iff.1 he
      clear he
      obtain ⟨vs, T, hB⟩ := h.bx k cs hbx
      have hWk : C.W (σ.κ k) := hB.wr hmine
      split at he1
      · rename_i t' es hy
        split at he1
        · rename_i m
          split at he1
          · rename_i hc
            simp only [Bool.and_eq_true, beq_iff_eq, decide_eq_true_eq] at hc
            obtain ⟨hn1, hlt⟩ := hc
            obtain rfl := Option.some.inj he1
            have hs := h.slot hly
            have hy' : fget st.fr m = .o t' es := hy
            rw [hy'] at hs
            have h1 := (h.lose m).dropB (.c k off)
            have hn : ∀ t es, fget ((st.fset m .u).dropB (.c k off)).fr m ≠ .o t es :=
              not_own_dropB (fun t es => by rw [fget_fset, if_pos rfl]; simp)
            obtain ⟨σ', hc, ho, hst, hkap⟩ := h1.take (M := .rowC k off) hs trivial (idle_slot hn)
            have hbx' : ((st.fset m .u).dropB (.c k off)).box C.E.dp k = some cs := hbx
            obtain ⟨w', hr, hc', hst'⟩ := hc.storeOwn hbx' hlt hmine ho (fun d => dropB_bor _ _ _) (hn1 ▸ hsz)
            rw [hkap] at hr
            exact hfin (hrun _ _ _ hv hr) (hst.trans hst') hc'
          · cases he1
        · cases he1
      · rename_i pl lo len hy
        split at he1
        · rename_i hc
          simp only [Bool.and_eq_true, beq_iff_eq, decide_eq_true_eq] at hc
          obtain ⟨⟨hpl, hlo0⟩, hn1⟩ := hc
          obtain ⟨⟨t', es⟩, hrow, he2⟩ := Option.bind_eq_some_iff.1 he1
          clear he1
          simp only at he2
          split at he2
          · rename_i hle
            obtain rfl := Option.some.inj he2
            obtain ⟨m, rfl, hm⟩ := slot_of_place hy rfl hly
            have hs := h.slot hly
            rw [hm] at hs
            subst hlo0
            have hvv := hs t' es hrow (by omega)
            subst hpl
            have ho := (h.row hrow).short hle hvv
            have hlt : off < cs.length := by
              have hbx2 : st.box C.E.dp k = some cs := hbx
              simp only [St.rowAt, hbx2] at hrow
              split at hrow
              · rename_i hx; exact lt_of_get hx
              · cases hrow
            obtain ⟨w', hr, hc', hst'⟩ := (h.dropB (.c k off)).storeOwn (show (st.dropB (.c k off)).box C.E.dp k = some cs from hbx) hlt hmine (ho.weak fun _ => hmine) (fun d => dropB_bor _ _ _) (hn1 ▸ hsz)
            exact hfin (hrun _ _ _ hv hr) hst' hc'
          · cases he2
        · cases he1
      · split at he1
        · rename_i hc
          simp only [Bool.and_eq_true, beq_iff_eq, decide_eq_true_eq] at hc
          obtain ⟨⟨⟨⟨hcp, hnc⟩, hone⟩, hdeep⟩, hle⟩ := hc
          obtain rfl := Option.some.inj he1
          have h1 : ∀ c ∈ (st.ev y).cl, c.one = true := fun c hc => List.all_eq_true.1 hone c hc
          obtain ⟨hlen, hcell⟩ := (h.opd hly hcp).cells h1
          have hnc' : (st.ev y).cl.length = n := hnc
          refine hfin (hrun _ _ _ hv (run_storeAt (n := n) hB.hh hsz (by omega) (by have := hB.size; omega) (fun u hu => ?_))) (.setRow h hB.ow hWk _) ?_
          · obtain ⟨m, hm⟩ := List.mem_iff_getElem?.1 hu
            have hml : m < (st.ev y).cl.length := by have := lt_of_get hm; simp at this; omega
            have := hcell m _ (List.getElem?_eq_getElem hml)
            have e : (a.eval y').cells.getD m undef = u := by
              rw [Array.getElem?_toList] at hm
              simp [Array.getD_eq_getD_getElem?, hm]
            rw [e] at this
            exact this.oneCell (h1 _ (List.getElem_mem hml))
          · refine h.storeBox hbx hB (by simpa using hlen) (by omega) h1 (fun j c hj => ?_) (fun j t' es' hj => ?_) (fun _ c hc => deep_cl hdeep c hc) (fun t' _ _ ht => by have := copy_cl hcp _ ht; cases this)
            · have := hcell j c hj
              refine CR_VR (copy_cl hcp c (List.mem_of_getElem? hj)) ?_
              simpa [Array.getD_eq_getD_getElem?] using this
            · have := copy_cl hcp _ (List.mem_of_getElem? hj)
              simp [AV.copy] at this
        · cases he1
    · cases he
  · rename_i pl i sz off hx
    split at he
    · rename_i hmine
      obtain ⟨⟨t', es⟩, hrow, he1⟩ := Option.bind_eq_some_iff.1 he
      clear he
      obtain ⟨e, hee, he2⟩ := Option.bind_eq_some_iff.1 he1
      clear he1
      simp only at he2
      split at he2
      · rename_i hc
        simp only [Bool.and_eq_true, beq_iff_eq, decide_eq_true_eq] at hc
        obtain ⟨⟨⟨⟨hsz', hpu⟩, hnc⟩, hone⟩, hle⟩ := hc
        obtain ⟨st', hput, he3⟩ := Option.bind_eq_some_iff.1 he2
        clear he2
        obtain rfl := Option.some.inj he3
        have hlt : i < es.length := lt_of_get hee
        obtain ⟨m, rfl, hm⟩ := slot_of_place hx rfl hlx
        obtain ⟨g, n', cap, hpv, hv⟩ := (hm ▸ h.slot hlx) t' es hrow hlt
        obtain ⟨g', cap', cs, hpv', hR⟩ := h.rowNE hrow (fun e => by subst e; simp at hlt)
        obtain ⟨rfl, rfl, rfl⟩ : g = g' ∧ n' = es.length ∧ cap = cap' := by
          rw [hpv] at hpv'; simpa using hpv'
        have hem := List.mem_of_getElem? hee
        have hszz : sz = C.P.cellsOf t' := hsz'.symm.trans (hR.nc e hem)
        subst hszz
        have h1 : ∀ c ∈ (st.ev y).cl, c.one = true := fun c hc => List.all_eq_true.1 hone c hc
        obtain ⟨hlen, hcell⟩ := (h.opd hly (pure_copy _ hpu)).cells h1
        have hnc' : (st.ev y).cl.length = n := hnc
        have hle' : i * C.P.cellsOf t' + off + n ≤ cs.size := by
          rw [hR.size]
          have : (i + 1) * C.P.cellsOf t' ≤ cap * C.P.cellsOf t' := Nat.mul_le_mul_right _ (by have := hR.ecap; omega)
          rw [Nat.add_mul] at this
          omega
        have hsame := Same.setRow h hR.ow (wrt cs (i * C.P.cellsOf t' + off) (a.eval y').cells.toList)
        refine hfin (hrun _ _ _ hv (run_storeAt (n := n) hR.hh hsz (by omega) hle' (fun u hu => ?_))) (.setRow h hR.ow (hR.wr hmine) _) ?_
        · obtain ⟨m, hm⟩ := List.mem_iff_getElem?.1 hu
          have hml : m < (st.ev y).cl.length := by have := lt_of_get hm; simp at this; omega
          have := hcell m _ (List.getElem?_eq_getElem hml)
          have e : (a.eval y').cells.getD m undef = u := by
            rw [Array.getElem?_toList] at hm
            simp [Array.getD_eq_getD_getElem?, hm]
          rw [e] at this
          exact this.oneCell (h1 _ (List.getElem_mem hml))
        · refine h.putRow hrow (by simp) hsame (.inr ⟨g, cap, _, by rw [hpv]; simp, hR.put hsame hee (by simpa using hlen) (by omega) h1 (pure_cl hpu) fun m c hm => ?_⟩) hput
          simpa [Array.getD_eq_getD_getElem?] using hcell m c hm
      · cases he2
    · cases he
  · cases he
end
end Go.Proofs.Ytmfihcbafljcbaa.A
