/- Boxes and rows that are made, written, grown: the model does what the abstract run says. -/
import Derived.Test.YtmfihcbafljcbaaAbs9
set_option linter.unusedSectionVars false
set_option linter.unusedVariables false
set_option linter.unusedSimpArgs false
set_option linter.constructorNameAsVariable false
namespace Go.Proofs.Ytmfihcbafljcbaa.A
open Go
variable [Base]
section
variable {C : Cx} {st : St} {a : Act} {w : World} {σ : Sp} {o : Oper} {d : Option Nat} {R : Rec} {Ω : Orc} {r : AV × St}

theorem noKL_of {k : Key} {l : List AV} (h : ∀ x ∈ l, x.noK k = true) : AV.noKL k l = true := by
  induction l with
  | nil => rfl
  | cons y l ih =>
    simp only [AV.noKL, Bool.and_eq_true]
    exact ⟨h y (by simp), ih fun x hx => h x (by simp [hx])⟩
/-- what names no box so deep does not name this one. -/
theorem deep_noK' {I : Nat → Prop} {κ : Key → Nat} {n dp s : Nat} (hn : n < dp) (x : AV) {v : Value} (h : VR w I κ x v) (hd : x.deep n = true) : x.noK ⟨dp, s⟩ = true := by
  induction h with
  | f g cs vs hl hc ih =>
    refine noKL_of fun c hm => ?_
    obtain ⟨m, hm'⟩ := List.mem_iff_getElem?.1 hm
    exact ih m c hm' (deepL_mem hd c hm)
  | a cs vs hl h1 hc ih =>
    refine noKL_of fun c hm => ?_
    obtain ⟨m, hm'⟩ := List.mem_iff_getElem?.1 hm
    exact ih m c hm' (deepL_mem hd c hm)
  | tp cs vs hl hc ih =>
    refine noKL_of fun c hm => ?_
    obtain ⟨m, hm'⟩ := List.mem_iff_getElem?.1 hm
    exact ih m c hm' (deepL_mem hd c hm)
  | ifc t x v h ih => exact ih hd
  | p k off =>
    have h' : k.dp ≤ n := by simpa [AV.deep] using hd
    simp only [AV.noK, decide_eq_true_eq]
    intro e; subst e; simp at h'; omega
  | sp k off m sz cap h1 h2 =>
    have h' : k.dp ≤ n := by simpa [AV.deep] using hd
    simp only [AV.noK, decide_eq_true_eq]
    intro e; subst e; simp at h'; omega
  | _ => rfl

/-- a block more, of an owner. -/
def Sp.add (σ : Sp) (b : Nat) (L : Option Lbl) : Sp := { σ with ow := fun x => if x = b then L else σ.ow x }
theorem Same.alloc (h : Conc C st a w σ) (o : Obj) (L : Option Lbl) : Same C w σ (w.alloc o) (σ.add w.heap.size L) none := by
  have hne : ∀ b l, σ.ow b = some l → b ≠ w.heap.size := fun b l hb e => by have := h.own b l hb; omega
  refine ⟨fun b l hb _ => ⟨heap_alloc_old w o (h.own b l hb), ?_⟩, fun b hb => heap_alloc_old w o (h.imm b hb).1, fun _ h => h, rfl, by simp, fun b l hb => ?_, fun b hb => ?_⟩
  · simp only [Sp.add, if_neg (hne b l hb), hb]
  · simp only [Sp.add] at hb
    split at hb
    · simp; omega
    · have := h.own b l hb; simp; omega
  · have hb' : σ.I b := hb
    obtain ⟨h1, h2⟩ := h.imm b hb'
    refine ⟨by simp; omega, ?_⟩
    simp only [Sp.add, if_neg (show b ≠ w.heap.size by omega), h2]
theorem Same.drew {w' : World} {σ' : Sp} {M : Option Lbl} (h : Same C w.drew σ w' σ' M) : Same C w σ w' σ' M := ⟨h.blk, h.imm, h.up, h.kap, h.size, h.own, h.dn⟩
theorem Stp.alloc (h : Conc C st a w σ) (o : Obj) (L : Option Lbl) : Stp C w σ (w.alloc o) (σ.add w.heap.size L) :=
  ⟨by simp, fun b hb _ => heap_alloc_old w o hb, fun _ h => h, fun b hb => heap_alloc_old w o (h.imm b hb).1, fun _ h => .inl h, fun _ _ => rfl, fun b hb _ => if_neg (Nat.ne_of_lt hb), rfl, rfl⟩

/-- a box more. -/
theorem Conc.newBox {d : Nat} {cs : List AV} {vs : Array Value} {T : TypeId} (h : Conc C st a w σ) (hd : d < 1000000) (hca : CA w σ.I σ.κ cs vs) (hdeep : ∀ c ∈ cs, c.noK ⟨C.E.dp, d⟩ = true) (hcopy : ∀ c ∈ cs, ∀ t es, c ≠ .o t es)
    (hfr : ∀ d', (fget st.fr d').noK ⟨C.E.dp, d⟩ = true) (hbx : ∀ d' cs', bget st.bx d' = some cs' → ∀ c ∈ cs', c.noK ⟨C.E.dp, d⟩ = true)
    (hhp : ∀ k cs', k.dp ≠ C.E.dp → st.hp k = some cs' → ∀ c ∈ cs', c.noK ⟨C.E.dp, d⟩ = true) :
    ∃ σ', Stp C w σ (w.alloc (.cells vs T)) σ' ∧ Conc C { st with bx := (d, cs) :: st.bx } a (w.alloc (.cells vs T)) σ' ∧ σ'.κ ⟨C.E.dp, d⟩ = w.heap.size ∧ σ'.I = σ.I := by
  have hs := Same.alloc h (.cells vs T) (some (.box ⟨C.E.dp, d⟩))
  have h1 := h.same hs
  refine ⟨{ (σ.add w.heap.size (some (.box ⟨C.E.dp, d⟩))) with κ := fun k => if k = ⟨C.E.dp, d⟩ then w.heap.size else σ.κ k }, ?_, ?_, by simp, rfl⟩
  · have := Stp.alloc h (.cells vs T) (some (.box ⟨C.E.dp, d⟩))
    exact ⟨this.size, this.keep, this.up, this.imm, this.dn, fun k hk => if_neg (fun e => by subst e; exact Nat.lt_irrefl _ hk), this.ow, this.io⟩
  · have hkap : ∀ k, k ≠ ⟨C.E.dp, d⟩ → (if k = ⟨C.E.dp, d⟩ then w.heap.size else σ.κ k) = σ.κ k := fun k hk => if_neg hk
    have hnk : ∀ (x : AV), x.noK ⟨C.E.dp, d⟩ = true → ∀ k, x.noK k = false → k ≠ ⟨C.E.dp, d⟩ := by
      intro x hx k hk e
      subst e
      rw [hx] at hk; cases hk
    have hrow : ∀ pl r, ({ st with bx := (d, cs) :: st.bx } : St).rowAt C.E.dp pl = some r → (∀ off, pl ≠ .c ⟨C.E.dp, d⟩ off) → st.rowAt C.E.dp pl = some r := by
      intro pl r hr hne
      cases pl with
      | s d' => exact hr
      | c k off =>
        simp only [St.rowAt, St.box] at hr ⊢
        by_cases hk : k.dp = C.E.dp
        · have hkd : d ≠ k.d := fun e => hne off (by cases k; simp at hk e; subst hk; subst e; rfl)
          simp only [hk, if_true, bget, if_neg hkd] at hr ⊢
          exact hr
        · simp only [if_neg hk] at hr ⊢
          exact hr
    refine ⟨h1.size, h1.defers, fun d' => ?_, fun k cs' hk => ?_, h1.hpd, h1.own, h1.imm, h1.new, h1.lay⟩
    · have hx := h1.fr d'
      have hn := hfr d'
      have hpv : ∀ pl, (∀ off, pl ≠ .c ⟨C.E.dp, d⟩ off) → pval (w.alloc (.cells vs T)) { (σ.add w.heap.size (some (.box ⟨C.E.dp, d⟩))) with κ := fun k => if k = ⟨C.E.dp, d⟩ then w.heap.size else σ.κ k } a pl =
          pval (w.alloc (.cells vs T)) (σ.add w.heap.size (some (.box ⟨C.E.dp, d⟩))) a pl := by
        intro pl hne
        cases pl with
        | s d'' => rfl
        | c k off =>
          have : k ≠ ⟨C.E.dp, d⟩ := fun e => hne off (by rw [e])
          simp only [pval, if_neg this]
          rfl
      generalize fget st.fr d' = x at hx hn ⊢
      show SR _ _ _ _ _ _ x _
      cases x with
      | o t es => exact OwnAt.keep (C := C) hx (fun g hg => ⟨rfl, hg⟩) (fun _ h => h) (fun _ _ => rfl)
      | r pl =>
        have hne : ∀ off, pl ≠ .c ⟨C.E.dp, d⟩ off := fun off e => by subst e; simp [AV.noK] at hn
        intro hsm
        obtain ⟨r, hr⟩ := Option.isSome_iff_exists.1 hsm
        rw [hpv pl hne]
        exact hx (by rw [hrow pl r hr hne]; rfl)
      | v pl lo len =>
        have hne : ∀ off, pl ≠ .c ⟨C.E.dp, d⟩ off := fun off e => by subst e; simp [AV.noK] at hn
        intro t es ht hll
        rw [hpv pl hne]
        exact hx t es (hrow pl _ ht hne) hll
      | q pl i sz off =>
        have hne : ∀ off, pl ≠ .c ⟨C.E.dp, d⟩ off := fun off e => by subst e; simp [AV.noK] at hn
        intro t es ht hll
        rw [hpv pl hne]
        exact hx t es (hrow pl _ ht hne) hll
      | w g t x => exact WAt.keep hx (fun b hb => ⟨rfl, hb⟩) fun _ h => h
      | _ => exact VR.mono hx (fun _ h => h) (fun _ _ => rfl) fun k hk => hkap k (hnk _ hn k hk)
    · by_cases hK : k = ⟨C.E.dp, d⟩
      · subst hK
        simp only [St.box, if_true, bget] at hk
        obtain rfl := Option.some.inj hk
        refine ⟨vs, T, by simp only [if_true]; exact heap_alloc_new w _, Nat.le_of_eq hca.len, by simp [Sp.add], fun _ => (h.new _ (by simp)).1, fun c hc => .inl (hca.one c hc), fun off c hc => ?_, fun t _ _ ht => (by obtain ⟨m, hm⟩ := List.mem_iff_getElem?.1 ht; cases hca.cell m _ hm), fun hq => absurd hq (Nat.not_le.2 hd), by simp only [if_true]; exact (h.new _ (Nat.le_refl _)).2⟩
        have hcm := List.mem_of_getElem? hc
        have hv := (hca.cell off c hc).mono (w' := w.alloc (.cells vs T)) (I' := σ.I) (κ' := fun k => if k = ⟨C.E.dp, d⟩ then w.heap.size else σ.κ k) (fun _ h => h)
          (fun b hb => heap_alloc_old w _ (h.imm b hb).1) (fun k hk => hkap k (hnk _ (hdeep c hcm) k hk))
        exact CR_any hv
      · have hk' : st.box C.E.dp k = some cs' := by
          simp only [St.box] at hk ⊢
          by_cases hkd : k.dp = C.E.dp
          · have hne : d ≠ k.d := fun e => hK (by cases k; simp at hkd e; subst hkd; subst e; rfl)
            simpa only [hkd, if_true, bget, if_neg hne] using hk
          · simpa only [if_neg hkd] using hk
        obtain ⟨vs', T', hB⟩ := h1.bx k cs' hk'
        have hmem : ∀ c ∈ cs', c.noK ⟨C.E.dp, d⟩ = true := by
          by_cases hkd : k.dp = C.E.dp
          · simp only [St.box, hkd, if_true] at hk'
            exact hbx _ _ hk'
          · simp only [St.box, if_neg hkd] at hk'
            exact hhp k cs' hkd hk'
        refine ⟨vs', T', by simp only [if_neg hK]; exact hB.hh, hB.size, by simp only [if_neg hK]; exact hB.ow, fun hw => by simp only [if_neg hK]; exact hB.wr hw, hB.one, fun off c hc => ?_, hB.ty, by simp only [if_neg hK]; exact hB.kb⟩
        exact CR.keep (C := C) (hB.cell off c hc) (fun g hg => ⟨rfl, hg⟩) (fun _ h => h) (fun _ _ => rfl) (fun k hk => hkap k (hnk c (hmem c (List.mem_of_getElem? hc)) k hk)) fun b g hg => ⟨rfl, hg⟩

theorem fget_all {p : AV → Bool} (hu : p .u = true) : ∀ (fr : List (Nat × AV)), fr.all (fun y => p y.2) = true → ∀ d, p (fget fr d) = true
  | [], _, _ => hu
  | (k, x) :: fr, h, d => by
    simp only [List.all_cons, Bool.and_eq_true] at h
    simp only [fget]
    split
    · exact h.1
    · exact fget_all hu fr h.2 d
theorem bget_all {p : List AV → Bool} : ∀ (bx : List (Nat × List AV)), bx.all (fun y => p y.2) = true → ∀ d cs, bget bx d = some cs → p cs = true
  | [], _, _, _, h => by cases h
  | (k, x) :: bx, h, d, cs, hb => by
    simp only [List.all_cons, Bool.and_eq_true] at h
    simp only [bget] at hb
    split at hb
    · obtain rfl := Option.some.inj hb; exact h.1
    · exact bget_all bx h.2 d cs hb

theorem hpd_noK (h : Conc C st a w σ) (d : Nat) : ∀ k cs, k.dp ≠ C.E.dp → st.hp k = some cs → ∀ c ∈ cs, c.noK ⟨C.E.dp, d⟩ = true := by
  intro k cs hk hc c hm
  obtain ⟨h1, h2⟩ := h.hpd k cs hk hc
  obtain ⟨vs, T, hB⟩ := h.bx k cs (by simp [St.box, hk, hc])
  obtain ⟨off, ho⟩ := List.mem_iff_getElem?.1 hm
  have hcell := hB.cell off c ho
  have hd := h2 c hm
  cases c with
  | o t es => rfl
  | r _ => cases hcell
  | v _ _ _ => cases hcell
  | q _ _ _ _ => cases hcell
  | u => rfl
  | w _ _ _ => rfl
  | bp _ k' _ =>
    have hd' : k'.dp ≤ k.dp := by simpa [AV.deep] using hd
    simp only [AV.noK, decide_eq_true_eq]
    intro e
    subst e
    exact Nat.lt_irrefl _ (Nat.lt_of_le_of_lt hd' h1)
  | _ => exact deep_noK' h1 _ hcell hd
theorem VR_at {w : World} {I : Nat → Prop} {κ : Key → Nat} {k : Key} {b : Nat} (h : κ k = b) : VR w I κ (.p k 0) (.pointer (some ⟨b, 0, none⟩)) := by
  subst h; exact .p k 0
theorem sim_al' {zs : List AV} {dd : Nat} (h : Conc C st a w σ) (hd : dd < 1000000) (hl : lowOp C.P (.al zs) o.op = true) (hdd : d = some dd) (hfr : ∀ d', (fget st.fr d').noK ⟨C.E.dp, dd⟩ = true)
    (hbx : ∀ d' cs', bget st.bx d' = some cs' → ∀ c ∈ cs', c.noK ⟨C.E.dp, dd⟩ = true) : Sim C o d a w σ { st with bx := (dd, zs) :: st.bx } (.p ⟨C.E.dp, dd⟩ 0) := by
  simp only [lowOp] at hl
  split at hl
  · rename_i t hop
    split at hl
    · rename_i v hz
      simp only [Bool.and_eq_true] at hl
      obtain ⟨hlen, hcell⟩ := lowVL_VR (w := w) (I := σ.I) (κ := σ.κ) v.cells.toList zs hl.1
      have hpure : ∀ c ∈ zs, c.pure = true := fun c hm => by
        obtain ⟨m, hm⟩ := List.mem_iff_getElem?.1 hm
        exact (hcell m c hm).2
      have hca : CA w σ.I σ.κ zs v.cells := ⟨by simpa using hlen.symm, fun c hm => List.all_eq_true.1 hl.2 c hm, fun m c hm => by simpa [Array.getD_eq_getD_getElem?] using (hcell m c hm).1⟩
      obtain ⟨σ', hst, hco, hk, hI⟩ := h.newBox (T := t) hd hca (fun c hm => pure_noK c (hpure c hm)) (fun c hm t es e => by have := hpure c hm; rw [e] at this; cases this)
        hfr hbx (hpd_noK h dd)
      refine .of_run (cv := .pointer (some ⟨w.heap.size, 0, none⟩)) ?_ ⟨hst, hco, fun _ _ => SR_VR (VR_at hk), fun _ _ _ _ e => by cases e⟩
      · unfold Go.execOp
        simp [hop, Instr.alloc, run_zero hz, newVar, newRow]
    · cases hl
  · cases hl
theorem al_pure {P : Program} {zs : List AV} {op : Op} (hl : lowOp P (.al zs) op = true) : ∀ c ∈ zs, c.pure = true := by
  simp only [lowOp] at hl
  split at hl
  · split at hl
    · rename_i v hz
      simp only [Bool.and_eq_true] at hl
      obtain ⟨hlen, hcell⟩ := lowVL_VR (w := default) (I := fun _ => False) (κ := fun _ => 0) v.cells.toList zs hl.1
      intro c hm
      obtain ⟨m, hm⟩ := List.mem_iff_getElem?.1 hm
      exact (hcell m c hm).2
    · cases hl
  · cases hl
theorem sim_al {zs : List AV} (h : Conc C st a w σ) (hl : lowOp C.P (.al zs) o.op = true) (he : execOp R Ω C.E st d (.al zs) = some r) :
    Sim C o d a w σ r.2 r.1 := by
  simp only [execOp] at he
  obtain ⟨dd, hdd, he⟩ := Option.bind_eq_some_iff.1 he
  split at he
  · rename_i hc
    simp only [Bool.and_eq_true] at hc
    obtain rfl := Option.some.inj he
    exact sim_al' h (by have := hc.1.1; simp only [freeD, Bool.and_eq_true, decide_eq_true_eq] at this; exact this.2) hl hdd (fget_all rfl _ hc.1.2) (fun d' cs' hb c hm => noKL_mem (bget_all _ hc.2 d' cs' hb) c hm)
  · cases he
theorem sim_bx {x : Opd} (h : Conc C st a w σ) (hl : lowOp C.P (.bx x) o.op = true) (he : execOp R Ω C.E st d (.bx x) = some r) :
    Sim C o d a w σ r.2 r.1 := by
  simp only [lowOp] at hl
  split at hl
  · rename_i t y hop
    simp only [execOp] at he
    obtain ⟨dd, hdd, he⟩ := Option.bind_eq_some_iff.1 he
    split at he
    · rename_i hc
      simp only [Bool.and_eq_true] at hc
      obtain ⟨⟨⟨⟨⟨hcp, h1⟩, hdp⟩, hno⟩, hfr⟩, hbx⟩ := hc
      have hd : dd < 1000000 := by simp only [freeD, Bool.and_eq_true, decide_eq_true_eq] at hno; exact hno.2
      obtain rfl := Option.some.inj he
      have hv := h.opd hl hcp
      have h1' : ∀ c ∈ (st.ev x).cl, c.one = true := fun c hm => List.all_eq_true.1 h1 c hm
      obtain ⟨hlen, hcell⟩ := hv.cells h1'
      have hca : CA w σ.I σ.κ (st.ev x).cl (a.eval y).cells := ⟨hlen, h1', hcell⟩
      have hK : (st.ev x).noK ⟨C.E.dp, dd⟩ = true := by
        cases x with
        | t n => exact fget_all (p := fun y => y.noK ⟨C.E.dp, dd⟩) rfl _ hfr n
        | c z => exact pure_noK _ (opd_pure hl)
      have hKc : ∀ c ∈ (st.ev x).cl, c.noK ⟨C.E.dp, dd⟩ = true := by
        intro c hm
        generalize st.ev x = z at hm hK
        cases z <;> simp only [AV.cl, List.mem_singleton] at hm <;> first | (subst hm; exact hK) | exact noKL_mem hK c hm
      have hno' : ∀ c ∈ (st.ev x).cl, ∀ t es, c ≠ .o t es := by
        intro c hm t es e
        subst e
        obtain ⟨m, hm⟩ := List.mem_iff_getElem?.1 hm
        have := hcell m _ hm
        cases this
      obtain ⟨σ', hst, hco, hk, hI⟩ := h.newBox (T := t) hd hca hKc hno'
        (fget_all rfl _ hfr) (fun d' cs' hb c hm => noKL_mem (bget_all _ hbx d' cs' hb) c hm) (hpd_noK h dd)
      refine .of_run (cv := .pointer (some ⟨w.heap.size, 0, none⟩)) ?_ ⟨hst, hco, fun _ _ => SR_VR (VR_at hk), fun _ _ _ _ e => by cases e⟩
      · unfold Go.execOp
        simp [hop, Instr.box, newVar, newRow]
    · cases he
  · cases hl
end
end Go.Proofs.Ytmfihcbafljcbaa.A
