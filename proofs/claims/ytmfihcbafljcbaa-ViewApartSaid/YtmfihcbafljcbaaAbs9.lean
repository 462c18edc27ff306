/- New memory: the model does what the abstract run says. -/
import Derived.Test.YtmfihcbafljcbaaAbs8
set_option linter.unusedSectionVars false
set_option linter.unusedVariables false
set_option linter.unusedSimpArgs false
set_option linter.constructorNameAsVariable false
namespace Go.Proofs.Ytmfihcbafljcbaa.A
open Go
variable [Base]
section
variable {C : Cx} {st : St} {a : Act} {w : World} {σ : Sp} {o : Oper} {d : Option Nat} {R : Rec} {Ω : Orc} {r : AV × St}

theorem VR.oneCell {I : Nat → Prop} {κ : Key → Nat} {c : AV} {v : Value} (h : VR w I κ c v) (hc : c.one = true) : v.oneCell' = true := by
  cases h <;> first | rfl | (simp [AV.one] at hc)
/-- the cells of a value -/
theorem VR.cells {I : Nat → Prop} {κ : Key → Nat} {y : AV} {v : Value} (h : VR w I κ y v) (h1 : ∀ c ∈ y.cl, c.one = true) :
    y.cl.length = v.cells.size ∧ ∀ (m : Nat) (c : AV), y.cl[m]? = some c → VR w I κ c (v.cells.getD m undef) := by
  by_cases ha : ∃ cs, y = .a cs
  · obtain ⟨cs, rfl⟩ := ha
    obtain ⟨vs, rfl, hl, _, hc⟩ := h.a_inv
    exact ⟨hl, hc⟩
  · have hcl : y.cl = [y] := by cases y <;> first | rfl | exact absurd ⟨_, rfl⟩ ha
    have hv : v.cells = #[v] := by
      have h2 := h1 y (by rw [hcl]; simp)
      cases h <;> first | rfl | (simp [AV.one] at h2)
    rw [hcl, hv]
    refine ⟨rfl, fun m c hm => ?_⟩
    cases m with
    | zero =>
      have e : y = c := by simpa using hm
      subst e
      simpa using h
    | succ m => simp at hm
/-- cells in an array -/
structure CA (w : World) (I : Nat → Prop) (κ : Key → Nat) (cs : List AV) (vs : Array Value) : Prop where
  len : cs.length = vs.size
  one : ∀ c ∈ cs, c.one = true
  cell : ∀ (m : Nat) (c : AV), cs[m]? = some c → VR w I κ c (vs.getD m undef)
theorem getElem?_putCells (cs : List AV) (off : Nat) (ys : List AV) (h : off + ys.length ≤ cs.length) (i : Nat) :
    (putCells cs off ys)[i]? = if off ≤ i ∧ i < off + ys.length then ys[i - off]? else cs[i]? := by
  unfold putCells
  rw [List.append_assoc, List.getElem?_append]
  have h1 : (cs.take off).length = off := by simp; omega
  rw [h1]
  by_cases hi : i < off
  · rw [if_pos hi, if_neg (by omega), List.getElem?_take, if_pos hi]
  · rw [if_neg hi, List.getElem?_append]
    by_cases hj : i < off + ys.length
    · rw [if_pos (by omega), if_pos (by omega)]
    · rw [if_neg (by omega), if_neg (by omega), List.getElem?_drop]
      congr 1
      omega
theorem length_putCells (cs : List AV) (off : Nat) (ys : List AV) (h : off + ys.length ≤ cs.length) : (putCells cs off ys).length = cs.length := by
  unfold putCells; simp; omega
theorem fold_set (off : Nat) : ∀ (l : List (Value × Nat)) (cells : Array Value), (∀ x ∈ l, off + x.2 < cells.size) →
    (l.foldl (fun cs x => cs.setIfInBounds (off + x.2) x.1) cells).size = cells.size
  | [], _, _ => rfl
  | x :: l, cells, h => by
    simp only [List.foldl_cons]
    rw [fold_set off l _ (fun y hy => by simpa using h y (by simp [hy])), Array.size_setIfInBounds]
theorem fill_step (off : Nat) (us : List Value) : ∀ (k : Nat) (cells : Array Value), off + k + us.length ≤ cells.size →
    ∀ i, ((us.zipIdx k).foldl (fun cs x => cs.setIfInBounds (off + x.2) x.1) cells)[i]? =
      if off + k ≤ i ∧ i < off + k + us.length then us[i - off - k]? else cells[i]? := by
  induction us with
  | nil =>
    intro k cells _ i
    rw [if_neg (by simp only [List.length_nil]; omega)]
    rfl
  | cons u us ih =>
    intro k cells h i
    simp only [List.length_cons] at h
    simp only [List.zipIdx_cons, List.foldl_cons]
    rw [ih (k + 1) _ (by simp; omega) i]
    simp only [List.length_cons]
    by_cases h1 : i = off + k
    · subst h1
      rw [if_neg (by omega), if_pos (by omega)]
      have : off + k < cells.size := by omega
      simp [this]
    · by_cases h2 : off + (k + 1) ≤ i ∧ i < off + (k + 1) + us.length
      · rw [if_pos h2, if_pos (by omega)]
        have e : i - off - k = (i - off - (k + 1)) + 1 := by omega
        rw [e, List.getElem?_cons_succ]
      · rw [if_neg h2, if_neg (by omega)]
        rw [Array.getElem?_setIfInBounds, if_neg (by omega)]
theorem CA.put {I : Nat → Prop} {κ : Key → Nat} {cs : List AV} {vs : Array Value} (h : CA w I κ cs vs) {off : Nat} {ys : List AV} {us : List Value} (hl : ys.length = us.length)
    (ho : off + ys.length ≤ cs.length) (h1 : ∀ c ∈ ys, c.one = true) (hc : ∀ (m : Nat) (c : AV), ys[m]? = some c → VR w I κ c (us[m]?.getD undef)) :
    CA w I κ (putCells cs off ys) ((us.zipIdx).foldl (fun cs x => cs.setIfInBounds (off + x.2) x.1) vs) := by
  have hsz : ((us.zipIdx).foldl (fun cs x => cs.setIfInBounds (off + x.2) x.1) vs).size = vs.size := fold_set off _ _ fun x hx => by
    have := List.snd_lt_of_mem_zipIdx hx
    have := h.len
    omega
  refine ⟨by rw [length_putCells _ _ _ ho, hsz, h.len], fun c hm => ?_, fun m c hm => ?_⟩
  · unfold putCells at hm
    rcases List.mem_append.1 hm with hm | hm
    · rcases List.mem_append.1 hm with hm | hm
      · exact h.one c (List.mem_of_mem_take hm)
      · exact h1 c hm
    · exact h.one c (List.mem_of_mem_drop hm)
  · rw [getElem?_putCells _ _ _ ho] at hm
    have hf := fill_step off us 0 vs (by have := h.len; omega) m
    simp only [Nat.add_zero, Nat.sub_zero, ← hl] at hf
    rw [Array.getD_eq_getD_getElem?, hf]
    by_cases hi : off ≤ m ∧ m < off + ys.length
    · rw [if_pos hi] at hm ⊢
      exact hc _ c hm
    · rw [if_neg hi] at hm ⊢
      rw [← Array.getD_eq_getD_getElem?]
      exact h.cell m c hm

theorem run_places (P : Program) (w : World) : ∀ (fs : List Field), (∀ f ∈ fs, (P.info? f.type).isSome = true) →
    (fs.mapM (fun f => do pure (f.offset, ← sizeOf f.type) : Field → Sem (Nat × Nat))).run P w = .ok (fs.map fun f => (f.offset, P.cellsOf f.type)) w
  | [], _ => rfl
  | f :: fs, h => by
    rw [List.mapM_cons]
    simp only [Sem.run_bind, run_sizeOf' (h f (by simp)), Result.andThen_ok, Sem.run_pure, run_places P w fs (fun g hg => h g (by simp [hg])), List.map_cons]
theorem run_fill (h : Conc C st a w σ) {t : TypeId} {fs : Array Field} (hu : C.P.underlying t = some (.struct fs)) :
    ∀ (ps : List (Nat × Operand)) (qs : List (Nat × Nat × Opd)) (cs : List AV) (vs : Array Value), lowParts C.P t ps qs = true → CA w σ.I σ.κ cs vs →
      (∀ f ∈ qs, (st.ev f.2.2).copy = true ∧ (st.ev f.2.2).nc = f.2.1 ∧ (∀ c ∈ (st.ev f.2.2).cl, c.one = true) ∧ f.1 + f.2.1 ≤ cs.length) →
      ∃ vs', Instr.fill (fun i => ((fs.toList.map fun f => (f.offset, C.P.cellsOf f.type)).toArray)[i]?) vs (ps.map fun p => (p.1, a.eval p.2)) = some vs' ∧
        CA w σ.I σ.κ (qs.foldl (fun cs f => putCells cs f.1 (st.ev f.2.2).cl) cs) vs'
  | [], [], cs, vs, _, hca, _ => ⟨vs, rfl, hca⟩
  | (i, y) :: ps, (off, sz, x) :: qs, cs, vs, hl, hca, hq => by
    simp only [lowParts, Bool.and_eq_true] at hl
    obtain ⟨⟨hf, hlo⟩, hrest⟩ := hl
    obtain ⟨hcp, hnc, h1, hle⟩ := hq (off, sz, x) (by simp)
    simp only at hcp hnc h1 hle
    split at hf
    · rename_i f hfo
      simp only [Bool.and_eq_true, beq_iff_eq] at hf
      obtain ⟨rfl, hsz⟩ := hf
      obtain ⟨hinfo, hcells, hpos⟩ := sized_inv hsz
      obtain ⟨fs', hu', hfi⟩ := fieldOf_inv hfo
      obtain rfl : fs = fs' := by rw [hu] at hu'; simpa using hu'
      have hv := h.opd hlo hcp
      obtain ⟨hcl, hcc⟩ := hv.cells h1
      have hnc' : (st.ev x).cl.length = sz := hnc
      have hca' : CA w σ.I σ.κ (putCells cs f.offset (st.ev x).cl) (((a.eval y).cells.zipIdx).foldl (fun cs x => cs.setIfInBounds (f.offset + x.2) x.1) vs) := by
        have := hca.put (off := f.offset) (ys := (st.ev x).cl) (us := (a.eval y).cells.toList) (by simpa using hcl) (by omega) h1 (fun m c hm => by simpa [Array.getD_eq_getD_getElem?] using hcc m c hm)
        rwa [← Array.toList_zipIdx, Array.foldl_toList] at this
      have hlen := length_putCells cs f.offset (st.ev x).cl (by omega)
      obtain ⟨vs', hfill, hca''⟩ := run_fill h hu ps qs _ _ hrest hca' (fun g hg => by rw [hlen]; exact hq g (by simp [hg]))
      refine ⟨vs', ?_, hca''⟩
      have hfl : ((fs.toList.map fun f => (f.offset, C.P.cellsOf f.type)).toArray)[i]? = some (f.offset, sz) := by
        have hfi' : fs.toList[i]? = some f := by simpa using hfi
        simp [hfi, hcells]
      have hcs : (a.eval y).cells.size = sz := by omega
      have hlt : ¬ (f.offset + sz > vs.size) := by have := hca.len; omega
      simp only [List.map_cons, Instr.fill, hfl, hcs, ne_eq, not_true_eq_false, decide_false, Bool.false_or, hlt, Bool.false_eq_true, if_false, hfill]
    · cases hf
  | [], _ :: _, _, _, hl, _, _ => by simp [lowParts] at hl
  | _ :: _, [], _, _, hl, _, _ => by simp [lowParts] at hl

theorem zeroOf_inv {P : Program} {t : TypeId} {v : Value} (h : zeroOf P t = some v) : ∃ i, P.info? t = some i ∧ i.zero = some v := by
  unfold zeroOf at h
  exact Option.bind_eq_some_iff.1 h
theorem run_zero {P : Program} {t : TypeId} {v : Value} (h : zeroOf P t = some v) (w : World) : (zeroValue t).run P w = .ok v w := by
  obtain ⟨i, hi, hz⟩ := zeroOf_inv h
  simp [zeroValue, typeInfo, hi, hz]
theorem sim_bd {zs : List AV} {fs : List (Nat × Nat × Opd)} (h : Conc C st a w σ) (hl : lowOp C.P (.bd zs fs) o.op = true) (he : execOp R Ω C.E st d (.bd zs fs) = some r) :
    Sim C o d a w σ r.2 r.1 := by
  simp only [lowOp] at hl
  split at hl
  · rename_i t parts hop
    simp only [Bool.and_eq_true] at hl
    obtain ⟨⟨hz, hparts⟩, hst⟩ := hl
    split at hz
    · rename_i v hzv
      simp only [Bool.and_eq_true] at hz
      split at hst
      · rename_i fds hu
        simp only [execOp] at he
        split at he
        · rename_i hall
          obtain rfl := Option.some.inj he
          have hall' : ∀ f ∈ fs, (st.ev f.2.2).copy = true ∧ (st.ev f.2.2).nc = f.2.1 ∧ (∀ c ∈ (st.ev f.2.2).cl, c.one = true) ∧ f.1 + f.2.1 ≤ zs.length := by
            intro f hf
            have := List.all_eq_true.1 hall f hf
            simp only [Bool.and_eq_true, beq_iff_eq, decide_eq_true_eq] at this
            exact ⟨this.1.1.1, this.1.1.2, fun c hc => List.all_eq_true.1 this.1.2 c hc, this.2⟩
          obtain ⟨hlen, hcell⟩ := lowVL_VR (w := w) (I := σ.I) (κ := σ.κ) v.cells.toList zs hz.1
          have hca : CA w σ.I σ.κ zs v.cells := ⟨by simpa using hlen.symm, fun c hc => List.all_eq_true.1 hz.2 c hc, fun m c hm => by simpa [Array.getD_eq_getD_getElem?] using (hcell m c hm).1⟩
          obtain ⟨vs', hfill, hca'⟩ := run_fill h hu parts.toList fs zs v.cells hparts hca hall'
          have hinfo : ∀ f ∈ fds.toList, (C.P.info? f.type).isSome = true := fun f hf => by
            rw [Array.all_eq_true_iff_forall_mem] at hst
            exact hst f (by simpa using hf)
          have hplaces := run_places C.P w fds.toList hinfo
          have hrun : (Go.execOp a.eval o).run C.P w = .ok (.value (.agg vs')) w := by
            unfold Go.execOp
            simp only [hop, Instr.build, Sem.run_bind, run_zero hzv, Result.andThen_ok, run_underlying hu, Sem.run_pure]
            rw [Array.mapM_eq_mapM_toList]
            simp only [Sem.run_map, hplaces, Result.andThen_ok, Array.toList_map, hfill, Sem.run_pure]
          refine .of_run hrun ⟨.refl _ _ _, h, fun _ _ => SR_VR (.a _ _ hca'.len hca'.one hca'.cell), fun _ _ _ _ e => by cases e⟩
        · cases he
      · cases hst
    · cases hz
  · cases hl
end
end Go.Proofs.Ytmfihcbafljcbaa.A
