/- Reads, addresses, sums: the model does what the abstract run says. -/
import Derived.Test.YtmfihcbafljcbaaAbs6
set_option linter.unusedSectionVars false
set_option linter.unusedVariables false
set_option linter.unusedSimpArgs false
set_option linter.constructorNameAsVariable false
namespace Go.Proofs.Ytmfihcbafljcbaa.A
open Go
variable [Base]
section
variable {C : Cx} {st : St} {a : Act} {w : World} {σ : Sp} {o : Oper} {d : Option Nat} {R : Rec} {Ω : Orc} {r : AV × St}

theorem fieldOf_inv {P : Program} {t : TypeId} {i : Nat} {f : Field} (h : fieldOf P t i = some f) : ∃ fs, P.underlying t = some (.struct fs) ∧ fs[i]? = some f := by
  unfold fieldOf at h
  split at h
  · rename_i fs hu; exact ⟨fs, hu, h⟩
  · cases h
theorem run_fieldAt {P : Program} {s : TypeId} {i : Nat} {f : Field} (h : fieldOf P s i = some f) (hi : (P.info? f.type).isSome = true) (hp : 0 < P.cellsOf f.type) (g b : Nat) (w : World) :
    (Instr.fieldAt s (.pointer (some ⟨g, b, none⟩)) i).run P w = .ok (.pointer (some ⟨g, b + f.offset, none⟩)) w := by
  obtain ⟨fs, hu, hf⟩ := fieldOf_inv h
  have hne : ¬ P.cellsOf f.type = 0 := by omega
  simp [Instr.fieldAt, run_underlying hu, hf, Instr.sureAddr, fieldPlace, run_sizeOf' hi, hne, add_lit]
/-- the row at a place, where it has elements. -/
theorem Conc.rowNE (h : Conc C st a w σ) {pl : Pl} {t : TypeId} {es : List AV} (hr : st.rowAt C.E.dp pl = some (t, es)) (hne : es ≠ []) :
    ∃ g cap cs, pval w σ a pl = .slice (some ⟨g, 0, none⟩) es.length cap ∧ RowAt C.P C.W w σ (pl.lbl C.E.dp) (pl.mine C.E = true) t es g cap cs := by
  rcases h.row hr with ⟨h1, _⟩ | h1
  · exact absurd h1 hne
  · exact h1
theorem Conc.rowLen (h : Conc C st a w σ) {pl : Pl} {t : TypeId} {es : List AV} (hr : st.rowAt C.E.dp pl = some (t, es)) :
    ∃ A cap, pval w σ a pl = .slice A es.length cap ∧ es.length ≤ cap := by
  rcases h.row hr with ⟨rfl, h2⟩ | ⟨g, cap, cs, hv, hr⟩
  · exact ⟨_, _, h2, Nat.le_refl _⟩
  · exact ⟨_, _, hv, hr.ecap⟩
theorem slot_of_place {x : Opd} {y : AV} (h : st.ev x = y) (hp : y.pure = false) {op : Operand} (hl : lowO op x = true) : ∃ n, x = .t n ∧ fget st.fr n = y := by
  cases x with
  | t n => exact ⟨n, rfl, h⟩
  | c z =>
    have := opd_pure hl
    simp only [St.ev] at h
    rw [h, hp] at this
    cases this

theorem sim_fa {off : Nat} {x : Opd} (h : Conc C st a w σ) (hl : lowOp C.P (.fa off x) o.op = true) (he : execOp R Ω C.E st d (.fa off x) = some r) :
    Sim C o d a w σ r.2 r.1 := by
  obtain ⟨s, y, i, f, hop, hlo, hf, rfl, hi, hp⟩ : ∃ s y i f, o.op = .fieldAddr s y i ∧ lowO y x = true ∧ fieldOf C.P s i = some f ∧ f.offset = off ∧ (C.P.info? f.type).isSome = true ∧ 0 < C.P.cellsOf f.type := by
    simp only [lowOp] at hl; split at hl
    · rename_i s y i hy
      simp only [Bool.and_eq_true] at hl
      obtain ⟨h1, h2⟩ := hl
      split at h2
      · rename_i f hf
        simp only [Bool.and_eq_true, beq_iff_eq, decide_eq_true_eq] at h2
        exact ⟨s, y, i, f, hy, h1, hf, h2.1.1, h2.1.2, h2.2⟩
      · cases h2
    · cases hl
  have hrun : ∀ g b, a.eval y = .pointer (some ⟨g, b, none⟩) → (Go.execOp a.eval o).run C.P w = .ok (.value (.pointer (some ⟨g, b + f.offset, none⟩))) w := by
    intro g b hv
    unfold Go.execOp
    simp [hop, hv, run_fieldAt hf hi hp]
  simp only [execOp] at he
  split at he
  · rename_i k b hx
    obtain rfl := Option.some.inj he
    have hv := (hx ▸ h.opdV hlo (by rw [hx]; simp) (by rw [hx]; rfl)).p_inv
    exact .quiet h (hrun _ _ hv) rfl (.p _ _)
  · rename_i z b hx
    obtain rfl := Option.some.inj he
    obtain ⟨g, b', cs, T, fz, hv, hI, hh, hpu, hs, h1, hc⟩ := (hx ▸ h.opdV hlo (by rw [hx]; simp) (by rw [hx]; rfl)).e_inv
    exact .quiet h (by rw [hrun _ _ hv, Nat.add_assoc]) rfl (.e z _ g b' cs T fz hI hh hpu hs h1 hc)
  · rename_i pl j sz b hx
    obtain ⟨⟨t, es⟩, hrow, he⟩ := Option.bind_eq_some_iff.1 he
    split at he
    · rename_i hlt
      obtain rfl := Option.some.inj he
      obtain ⟨n, rfl, hn⟩ := slot_of_place hx rfl hlo
      have hs := hn ▸ h.slot hlo
      obtain ⟨g, n', cap, hpv, hv⟩ := hs t es hrow hlt
      refine .lent h (hrun _ _ hv) (fun _ _ e => by cases e) fun dd => ?_
      intro t' es' ht' hl'
      exact ⟨g, n', cap, hpv, by rw [Nat.add_assoc]⟩
    · cases he
  · cases he

theorem sim_fd {n : Option Nat} {off : Nat} {x : Opd} (h : Conc C st a w σ) (hl : lowOp C.P (.fd n off x) o.op = true) (he : execOp R Ω C.E st d (.fd n off x) = some r) :
    Sim C o d a w σ r.2 r.1 := by
  obtain ⟨s, y, i, f, hop, hlo, hf, rfl, hn⟩ : ∃ s y i f, o.op = .field s y i ∧ lowO y x = true ∧ fieldOf C.P s i = some f ∧ f.offset = off ∧ lowN C.P f.type n = true := by
    simp only [lowOp] at hl; split at hl
    · rename_i s y i hy
      simp only [Bool.and_eq_true] at hl
      obtain ⟨h1, h2⟩ := hl
      split at h2
      · rename_i f hf
        simp only [Bool.and_eq_true, beq_iff_eq] at h2
        exact ⟨s, y, i, f, hy, h1, hf, h2.1, h2.2⟩
      · cases h2
    · cases hl
  obtain ⟨fs, hu, hfi⟩ := fieldOf_inv hf
  simp only [execOp] at he
  split at he
  · rename_i cs hx
    obtain ⟨z, hz, he⟩ := Option.bind_eq_some_iff.1 he
    obtain rfl := Option.some.inj he
    obtain ⟨vs, hv, hlen, h1, hc⟩ := (hx ▸ h.opdV hlo (by rw [hx]; simp) (by rw [hx]; rfl)).a_inv
    cases n with
    | none =>
      obtain ⟨hag, _⟩ : aggT C.P f.type = some false ∧ C.P.cellsOf f.type = 1 := by simpa [lowN] using hn
      have hz' : cs[f.offset]? = some z := hz
      have hlt : f.offset < vs.size := by
        rcases Nat.lt_or_ge f.offset cs.length with h2 | h2
        · omega
        · simp [h2] at hz'
      have hvr := hc f.offset z hz'
      simp only [Array.getD_eq_getD_getElem?, hlt, getElem?_pos, Option.getD_some] at hvr
      refine .of_run (cv := vs[f.offset]) ?_ ⟨.refl _ _ _, h, fun _ _ => SR_VR hvr, fun _ _ _ _ e => by subst e; cases hvr⟩
      unfold Go.execOp
      simp [hop, hv, Instr.field, run_underlying hu, hfi, asAgg, part, run_isAgg hag, hlt]
    | some m =>
      obtain ⟨⟨hag, hi⟩, hm⟩ : (aggT C.P f.type = some true ∧ (C.P.info? f.type).isSome = true) ∧ C.P.cellsOf f.type = m := by simpa [lowN] using hn
      simp only [pick] at hz
      split at hz
      · rename_i hle
        have hz' : z = .a ((cs.drop f.offset).take m) := by simpa using hz.symm
        subst hz'
        have hvr : VR w σ.I σ.κ (.a ((cs.drop f.offset).take m)) (.agg (vs.extract f.offset (f.offset + m))) := by
          refine .a _ _ ?_ (fun c hc' => h1 c (List.mem_of_mem_drop (List.mem_of_mem_take hc'))) fun j c hj => ?_
          · simp; omega
          · have hjm : j < m := by
              rcases Nat.lt_or_ge j m with h2 | h2
              · exact h2
              · simp [List.getElem?_take, Nat.not_lt.2 h2] at hj
            rw [List.getElem?_take, if_pos hjm, List.getElem?_drop] at hj
            have hvv := hc (f.offset + j) c hj
            have e1 : f.offset + j < vs.size := by omega
            have e2 : j < min (f.offset + m) vs.size - f.offset := by omega
            simpa [Array.getD_eq_getD_getElem?, Array.getElem?_extract, e1, e2] using hvv
        refine .of_run (cv := .agg (vs.extract f.offset (f.offset + m))) ?_ ⟨.refl _ _ _, h, fun _ _ => SR_VR hvr, fun _ _ _ _ e => by cases e⟩
        unfold Go.execOp
        simp [hop, hv, Instr.field, run_underlying hu, hfi, asAgg, part, run_isAgg hag, run_sizeOf' hi, hm]
      · cases hz
  · cases he

theorem sim_ld {n : Option Nat} {x : Opd} (h : Conc C st a w σ) (hl : lowOp C.P (.ld n x) o.op = true) (he : execOp R Ω C.E st d (.ld n x) = some r) :
    Sim C o d a w σ r.2 r.1 := by
  obtain ⟨t, y, hop, hlo, hn⟩ : ∃ t y, o.op = .load t y ∧ lowO y x = true ∧ lowN C.P t n = true := by
    simp only [lowOp] at hl; split at hl
    · rename_i t y hy
      simp only [Bool.and_eq_true] at hl
      exact ⟨t, y, hy, hl.1, hl.2⟩
    · cases hl
  have hrun : ∀ g b v, a.eval y = .pointer (some ⟨g, b, none⟩) → (loadVar t ⟨g, b, none⟩).run C.P w = .ok v w → (Go.execOp a.eval o).run C.P w = .ok (.value v) w := by
    intro g b v hv hr
    unfold Go.execOp
    simp [hop, hv, Instr.loadAt, Instr.sureAddr, hr]
  simp only [execOp] at he
  split at he
  · rename_i k b hx
    obtain ⟨cs, hbx, he⟩ := Option.bind_eq_some_iff.1 he
    obtain ⟨z, hz, he⟩ := Option.bind_eq_some_iff.1 he
    have hv := (hx ▸ h.opdV hlo (by rw [hx]; simp) (by rw [hx]; rfl)).p_inv
    obtain ⟨vs, T, hB⟩ := h.bx k cs hbx
    have hgen : z.copy = true → r = (z, st) → Sim C o d a w σ r.2 r.1 := by
      intro hcp hre
      subst hre
      obtain ⟨v, hr, hvr⟩ := load_pick (P := C.P) (I := σ.I) (κ := σ.κ) (b := 0) hB.hh (by have := hB.size; omega) (fun off c hc hcc => by
          have := hB.cell off c hc
          rw [Nat.zero_add]
          cases c <;> first | exact this | (simp [AV.copy] at hcc)) (fun c hc hcc => (hB.one c hc).resolve_right (fun e => by subst e; simp [AV.copy] at hcc)) hcp hz hn
      rw [Nat.zero_add] at hr
      exact .quiet h (hrun _ _ _ hv hr) hcp hvr
    split at he
    · rename_i t' es
      obtain rfl := Option.some.inj he
      cases n with
      | none =>
        obtain ⟨hag, _⟩ : aggT C.P t = some false ∧ C.P.cellsOf t = 1 := by simpa [lowN] using hn
        have hz' : cs[b]? = some (.o t' es) := hz
        have hlt : b < vs.size := by
          refine Nat.lt_of_lt_of_le ?_ hB.size
          rcases Nat.lt_or_ge b cs.length with h2 | h2
          · exact h2
          · simp [h2] at hz'
        have hc : w.cell? ⟨σ.κ k, b, none⟩ = some vs[b] := by rw [cell_lit hB.hh]; simp [hlt]
        refine .lent h (hrun _ _ vs[b] hv ?_) (fun _ _ e => by cases e) fun dd _ => ?_
        · unfold loadVar
          simp [run_isAgg hag w, hc]
        · simp [pval, hB.hh, hlt]
      | some m =>
        simp only [pick] at hz
        split at hz <;> simp at hz
    · split at he
      · rename_i hcp
        exact hgen hcp (Option.some.inj he).symm
      · cases he
  · rename_i z b hx
    obtain ⟨y', hz, he⟩ := Option.bind_eq_some_iff.1 he
    obtain rfl := Option.some.inj he
    obtain ⟨g, b', cs, T, fz, hv, hI, hh, hpu, hs, h1, hc⟩ := (hx ▸ h.opdV hlo (by rw [hx]; simp) (by rw [hx]; rfl)).e_inv
    have hcp : y'.copy = true := by
      cases n with
      | none => exact pure_copy _ (pure_cl hpu y' (List.mem_of_getElem? hz))
      | some m =>
        simp only [pick] at hz
        split at hz
        · have hz' : y' = .a ((z.cl.drop b).take m) := by simpa using hz.symm
          subst hz'
          exact pure_copy _ (pureL_of fun c hc' => pure_cl hpu c (List.mem_of_mem_drop (List.mem_of_mem_take hc')))
        · cases hz
    obtain ⟨v, hr, hvr⟩ := load_pick (P := C.P) (I := σ.I) (κ := σ.κ) (b := b') hh hs (fun off c hc' _ => hc off c hc') (fun c hc' _ => h1 c hc') hcp hz hn
    exact .quiet h (hrun _ _ _ hv hr) hcp hvr
  · rename_i pl i sz b hx
    obtain ⟨⟨t', es⟩, hrow, he⟩ := Option.bind_eq_some_iff.1 he
    obtain ⟨e, hee, he⟩ := Option.bind_eq_some_iff.1 he
    split at he
    · rename_i hnc
      obtain ⟨y', hz, he⟩ := Option.bind_eq_some_iff.1 he
      obtain rfl := Option.some.inj he
      have hlt : i < es.length := by
        rcases Nat.lt_or_ge i es.length with h2 | h2
        · exact h2
        · simp [h2] at hee
      obtain ⟨m, rfl, hm⟩ := slot_of_place hx rfl hlo
      obtain ⟨g, n', cap, hpv, hv⟩ := (hm ▸ h.slot hlo) t' es hrow hlt
      obtain ⟨g', cap', cs, hpv', hR⟩ := h.rowNE hrow (fun e => by subst e; simp at hlt)
      obtain ⟨rfl, rfl, rfl⟩ : g = g' ∧ n' = es.length ∧ cap = cap' := by
        rw [hpv] at hpv'; simpa using hpv'
      have hem := List.mem_of_getElem? hee
      have hszz : sz = C.P.cellsOf t' := hnc.symm.trans (hR.nc e hem)
      have hpu := hR.pure e hem
      have hcp : y'.copy = true := by
        cases n with
        | none => exact pure_copy _ (pure_cl hpu y' (List.mem_of_getElem? hz))
        | some m =>
          simp only [pick] at hz
          split at hz
          · have hz' : y' = .a ((e.cl.drop b).take m) := by simpa using hz.symm
            subst hz'
            exact pure_copy _ (pureL_of fun c hc' => pure_cl hpu c (List.mem_of_mem_drop (List.mem_of_mem_take hc')))
          · cases hz
      have hbound : i * sz + e.cl.length ≤ cs.size := by
        have h3 : e.cl.length = sz := hnc
        rw [hR.size, h3, ← hszz]
        have : (i + 1) * sz ≤ cap * sz := Nat.mul_le_mul_right _ (by have := hR.ecap; omega)
        rw [Nat.add_mul] at this
        omega
      obtain ⟨v, hr, hvr⟩ := load_pick (P := C.P) (I := σ.I) (κ := σ.κ) (b := i * sz) hR.hh hbound (fun off c hc' _ => by have := hR.cell i e off c hee hc'; rwa [← hszz] at this)
        (fun c hc' _ => hR.one e hem c hc') hcp hz hn
      exact .quiet h (hrun _ _ _ hv hr) hcp hvr
    · cases he
  · cases he

theorem sim_ix {x i : Opd} (h : Conc C st a w σ) (hl : lowOp C.P (.ix x i) o.op = true) (he : execOp R Ω C.E st d (.ix x i) = some r) :
    Sim C o d a w σ r.2 r.1 := by
  obtain ⟨t, x', i', hop, hlx, hli, hs⟩ : ∃ t x' i', o.op = .index t x' i' ∧ lowO x' x = true ∧ lowO i' i = true ∧ C.P.underlying t = some .string := by
    simp only [lowOp] at hl; split at hl
    · rename_i t y hy hyy
      simp only [Bool.and_eq_true] at hl
      refine ⟨_, _, _, hyy, hl.1.1, hl.1.2, ?_⟩
      have := hl.2
      unfold isStrT at this
      split at this
      · assumption
      · cases this
    · cases hl
  simp only [execOp] at he
  split at he
  · rename_i l hx
    obtain ⟨j, hj, he⟩ := Option.bind_eq_some_iff.1 he
    obtain ⟨c, hc, he⟩ := Option.bind_eq_some_iff.1 he
    obtain rfl := Option.some.inj he
    have hvx := (hx ▸ h.opdV hlx (by rw [hx]; simp) (by rw [hx]; rfl)).s_inv
    obtain ⟨k, n, hi, hn0, rfl⟩ : ∃ k n, st.ev i = .i k n ∧ 0 ≤ n ∧ n.toNat = j := by
      cases hi : st.ev i <;> rw [hi] at hj <;> simp [natOf] at hj
      exact ⟨_, _, rfl, hj.1, hj.2⟩
    have hvi := (hi ▸ h.opdV hli (by rw [hi]; simp) (by rw [hi]; rfl)).i_inv
    have hidx : (⟨l.toArray⟩ : ByteArray)[n.toNat]? = some c := by
      have hlt : n.toNat < l.length := by
        rcases Nat.lt_or_ge n.toNat l.length with h2 | h2
        · exact h2
        · simp [h2] at hc
      have hlt' : n.toNat < (⟨l.toArray⟩ : ByteArray).size := by simpa [ByteArray.size] using hlt
      rw [getElem?_pos (⟨l.toArray⟩ : ByteArray) n.toNat hlt']
      simpa [ByteArray.getElem_eq_getElem_data, hlt] using hc
    refine .quiet h (cv := .int .u8 c.toNat) ?_ rfl (.i _ _)
    unfold Go.execOp
    simp [hop, hvx, hvi, Instr.index, asIntOf, run_underlying hs, hn0, hidx]
  · cases he
end
end Go.Proofs.Ytmfihcbafljcbaa.A
