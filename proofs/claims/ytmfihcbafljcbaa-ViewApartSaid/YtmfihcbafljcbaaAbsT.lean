/- A range over a function: its rounds, one behind the other. -/
import Derived.Test.YtmfihcbafljcbaaAbsR
set_option linter.unusedSectionVars false
set_option linter.unusedVariables false
set_option linter.unusedSimpArgs false
set_option linter.constructorNameAsVariable false
namespace Go.Proofs.Ytmfihcbafljcbaa.A
open Go Go.RowKit
variable [Base]
section
variable {C : Cx} {st : St} {a : Act} {w : World} {σ : Sp}
/-- another set of what may be written, which holds what is owned. -/
theorem RowAt.reW {P : Program} {W W' : Nat → Prop} {L : Lbl} {wr : Prop} {t : TypeId} {es : List AV} {g cap : Nat} {cs : Array Value} (hW : ∀ b, σ.ow b ≠ none → W b → W' b) (h : RowAt P W w σ L wr t es g cap cs) : RowAt P W' w σ L wr t es g cap cs :=
  ⟨h.ow, fun hw => hW g (by rw [h.ow]; simp) (h.wr hw), h.hh, h.pos, h.nc, h.ecap, h.max, h.size, h.pure, h.one, h.cell, h.base⟩
theorem OwnAt.reW {P : Program} {W W' : Nat → Prop} {L : Lbl} {wr : Prop} {t : TypeId} {es : List AV} {v : Value} (hW : ∀ b, σ.ow b ≠ none → W b → W' b) (h : OwnAt P W w σ L wr t es v) : OwnAt P W' w σ L wr t es v :=
  h.imp id fun ⟨g, cap, cs, hv, hr⟩ => ⟨g, cap, cs, hv, hr.reW hW⟩
theorem WAt.reW {W W' : Nat → Prop} {dp g : Nat} {t : TypeId} {x : AV} {v : Value} (hW : ∀ b, σ.ow b ≠ none → W b → W' b) (h : WAt W dp w σ g t x v) : WAt W' dp w σ g t x v :=
  ⟨h.1, h.2.mono (fun b h1 => ⟨h1.1, hW b (by rw [h1.1]; simp) h1.2.1, h1.2.2⟩) (fun _ _ => rfl) fun _ _ => rfl⟩
theorem CR.reW {W' : Nat → Prop} {k : Key} {off : Nat} {c : AV} {v : Value} (hW : ∀ b, σ.ow b ≠ none → C.W b → W' b) (h : CR C w σ k off c v) : CR { C with W := W' } w σ k off c v := by
  cases c with
  | o t es => exact OwnAt.reW hW h
  | w g t x => exact WAt.reW hW h
  | _ => exact h
theorem BoxAt.reW {W' : Nat → Prop} {k : Key} {cs : List AV} {vs : Array Value} {T : TypeId} (hW : ∀ b, σ.ow b ≠ none → C.W b → W' b) (h : BoxAt C w σ k cs vs T) : BoxAt { C with W := W' } w σ k cs vs T :=
  ⟨h.hh, h.size, h.ow, fun hm => hW _ (by rw [h.ow]; simp) (h.wr hm), h.one, fun off c hc => (h.cell off c hc).reW hW, h.ty, h.kb⟩
theorem SR.reW {W' : Nat → Prop} {d : Nat} {x : AV} {v : Value} (hW : ∀ b, σ.ow b ≠ none → C.W b → W' b) (h : SR C w σ st a d x v) : SR { C with W := W' } w σ st a d x v := by
  cases x with
  | o t es => exact OwnAt.reW hW h
  | w g t x => exact WAt.reW hW h
  | _ => exact h
theorem Conc.reW {W' : Nat → Prop} (hW : ∀ b, σ.ow b ≠ none → C.W b → W' b) (hn : ∀ b, w.heap.size ≤ b → W' b) (h : Conc C st a w σ) : Conc { C with W := W' } st a w σ := by
  refine ⟨h.size, ?_, fun d => (h.fr d).reW hW, fun k cs hk => ?_, h.hpd, h.own, h.imm, fun b hb => ⟨hn b hb, (h.new b hb).2⟩, h.lay⟩
  · obtain ⟨Ds, h0, h1, h2⟩ := h.defers
    exact ⟨Ds, h0, h1, fun D hD => ⟨(h2 D hD).1, hW D (by rw [(h2 D hD).1]; simp) (h2 D hD).2.1, (h2 D hD).2.2⟩⟩
  · obtain ⟨vs, T, hB⟩ := h.bx k cs hk
    exact ⟨vs, T, hB.reW hW⟩
theorem Stp.reW {W' : Nat → Prop} {w' : World} {σ' : Sp} (hW : ∀ b, C.W b → W' b) (h : Stp C w σ w' σ') : Stp { C with W := W' } w σ w' σ' :=
  ⟨h.size, fun b hb hn => h.keep b hb fun hc => hn (hW b hc), h.up, h.imm, fun b hb => (h.dn b hb).imp id (hW b), h.kap, fun b hb hn => h.ow b hb fun hc => hn (hW b hc), h.io⟩
/-- a block that nobody owns, and that is not told of, turns. -/
theorem Conc.putFree {l : Nat} {o : Obj} (ho : σ.ow l = none) (hI : ¬ σ.I l) (h : Conc C st a w σ) : Conc C st a (w.putObj l o) σ := by
  have hsz : (w.putObj l o).heap.size = w.heap.size := by simp [World.putObj]
  exact h.same ⟨fun b L hb _ => ⟨World.putObj_heap_other fun e => (by rw [e, ho] at hb; cases hb), hb⟩, fun b hb => World.putObj_heap_other fun e => hI (e ▸ hb), fun _ h => h, rfl, Nat.le_of_eq hsz.symm, fun b L hb => by rw [hsz]; exact h.own b L hb, fun b hb => by rw [hsz]; exact h.imm b hb⟩
theorem Stp.putFree {l : Nat} {o : Obj} (hW : C.W l) (hI : ¬ σ.I l) : Stp C w σ (w.putObj l o) σ := by
  have hsz : (w.putObj l o).heap.size = w.heap.size := by simp [World.putObj]
  exact ⟨Nat.le_of_eq hsz.symm, fun b hb hn => World.putObj_heap_other fun e => hn (e ▸ hW), fun _ h => h, fun b hb => World.putObj_heap_other fun e => hI (e ▸ hb), fun _ h => .inl h, fun _ _ => rfl, fun _ _ _ => rfl, rfl, rfl⟩
/-- the heap grows. -/
theorem Conc.grown {w' : World} (hb : Below w.heap.size w w') (h : Conc C st a w σ) : Conc C st a w' σ :=
  h.same ⟨fun b L hbo _ => ⟨hb.block b (h.own b L hbo), hbo⟩, fun b hbi => hb.block b (h.imm b hbi).1, fun _ h => h, rfl, hb.size, fun b L hbo => Nat.lt_of_lt_of_le (h.own b L hbo) hb.size, fun b hbi => ⟨Nat.lt_of_lt_of_le (h.imm b hbi).1 hb.size, (h.imm b hbi).2⟩⟩
theorem Stp.grown {w' : World} (hb : Below w.heap.size w w') (hI : ∀ b, σ.I b → b < w.heap.size) : Stp C w σ w' σ :=
  ⟨hb.size, fun b hlt _ => hb.block b hlt, fun _ h => h, fun b hbi => hb.block b (hI b hbi), fun _ h => .inl h, fun _ _ => rfl, fun _ _ _ => rfl, hb.os, hb.output⟩
/-- what a function leaves to who called it. -/
theorem Conc.leave {C : Cx} {s : St} {a' : Act} {w w' : World} {σ σ' : Sp} (hst : Stp C w σ w' σ') (hc' : Conc C s a' w' σ') (hro : C.E.ro = false) :
    Stp (cxOf C.P C.W C.E.dp) w σ w' ⟨σ'.κ, endOw C σ', endI C w' σ'⟩ ∧ HpOK C.P C.W C.E.dp s.hp w' ⟨σ'.κ, endOw C σ', endI C w' σ'⟩ := by
  have hend : ∀ b l, σ'.ow b = some l → l.dep ≠ C.E.dp → endOw C σ' b = some l := by
    intro b l hb hne
    unfold endOw
    rw [if_neg, hb]
    rintro ⟨_, l', h1, h2⟩
    rw [hb] at h1
    obtain rfl := Option.some.inj h1
    exact hne h2
  refine ⟨⟨hst.size, hst.keep, fun b hb => .inl (hst.up b hb), hst.imm, fun b hb => hb.elim (fun h => hst.dn b h) fun h => .inr h.1, hst.kap, fun b hb hW => ?_, hst.io⟩, ⟨fun k cs hk hlt => ?_, fun k cs hk hne => ?_, fun b l hb => ?_, fun b hb => ?_, hc'.lay.keep (fun _ h => .inl h) fun _ _ => rfl⟩⟩
  · show endOw C σ' b = _
    unfold endOw
    rw [if_neg fun h => hW h.1]
    exact hst.ow b hb hW
  · obtain ⟨vs, T, hB⟩ := hc'.bx k cs (by simp only [St.box, if_neg (show ¬ k.dp = C.E.dp by omega)]; exact hk)
    exact ⟨vs, T, hB.turn rfl rfl (fun b l hb hor => hend b l hb (by rcases hor with rfl | ⟨_, rfl⟩ <;> simp only [Lbl.dep] <;> omega)) (fun _ h => .inl h) hro (fun _ _ _ _ h => h) (fun _ _ _ _ => rfl) fun c hcm => deep_noW ((hc'.hpd k cs (by omega) hk).2 c hcm)⟩
  · exact hc'.hpd k cs hne hk
  · have : endOw C σ' b = some l := hb
    unfold endOw at this
    split at this
    · cases this
    · exact hc'.own b l this
  · rcases hb with hb | ⟨h1, l, h2, h3⟩
    · obtain ⟨h4, h5⟩ := hc'.imm b hb
      refine ⟨h4, ?_⟩
      show endOw C σ' b = none
      unfold endOw
      split
      · rfl
      · exact h5
    · refine ⟨hc'.own b l h2, ?_⟩
      show endOw C σ' b = none
      unfold endOw
      rw [if_pos ⟨h1, l, h2, h3⟩]
theorem fget_copies (fr : List (Nat × AV)) (d : Nat) : fget (fr.map fun y => (y.1, if y.2.copy = true then y.2 else .u)) d = if (fget fr d).copy = true then fget fr d else .u := by
  induction fr with
  | nil => simp [fget, AV.copy]
  | cons y fr ih =>
    obtain ⟨k, x⟩ := y
    simp only [List.map_cons, fget_cons]
    by_cases hk : k = d
    · simp only [if_pos hk]
    · simp only [if_neg hk]; exact ih
/-- where a round begins. -/
theorem Conc.inner (h : Conc C st a w σ) (hro : C.E.ro = false) (hdp : ∀ d cs, bget st.bx d = some cs → ∀ c ∈ cs, c.deep C.E.dp = true) {W' : Nat → Prop} (hW : ∀ b, σ.ow b ≠ none → Wc C σ b → W' b) (hn : ∀ b, w.heap.size ≤ b → W' b) {x : Nat} {n : Int} (hx : x < C.nt) :
    Conc ⟨C.P, W', ⟨C.E.dp + 1, false⟩, C.nt⟩ (st.inner C.E.dp x n) { tmps := a.tmps.setIfInBounds x (.int .i64 n), defers := [] } w σ := by
  have hH := h.hpOK hro hdp
  refine ⟨by simp [h.size], Marks.nil, fun d => ?_, fun k cs hk => ?_, fun k cs hne hk => hH.deep k cs hk hne, hH.own, hH.imm, fun b hb => ⟨hn b hb, (h.new b hb).2⟩, h.lay⟩
  · have ht : ({ tmps := a.tmps.setIfInBounds x (.int .i64 n), defers := [] } : Act).tmps.getD d undef = if x = d then .int .i64 n else a.tmps.getD d undef := by
      have := tmps_put a x d (.int .i64 n) (by rw [h.size]; exact hx)
      simpa [Act.put] using this
    rw [ht]
    show SR _ w σ _ _ d (fget ((x, AV.i .i64 n) :: _) d) _
    rw [fget_cons]
    by_cases hd : x = d
    · subst hd
      rw [if_pos rfl, if_pos rfl]
      exact VR.i _ _
    · rw [if_neg hd, if_neg hd, fget_copies]
      split
      · rename_i hcp
        have := (h.fr d).toVR hcp
        exact SR_of_VR (.inl hcp) this
      · exact VR.u _
  · simp only [St.inner, St.box] at hk
    split at hk
    · simp [bget] at hk
    · rename_i hne
      obtain ⟨vs, T, hB⟩ := hH.bx k cs hk (hH.deep k cs hk hne).1
      exact ⟨vs, T, (hB.reW (W' := W') hW).cx rfl rfl rfl⟩
end
section
variable {C : Cx} {st : St} {a : Act} {w : World} {σ : Sp}
/-- behind a range over a function its mark is there. -/
theorem Conc.addMark {D : Nat} (h : Conc C st a w σ) (ho : σ.ow D = none) (hI : ¬ σ.I D) (hW : C.W D) (hh : w.heap[D]? = some (.deferred (some []))) :
    Conc C st { a with defers := markOf D :: a.defers } w (σ.add D (some (.mark C.E.dp))) ∧ Stp C w σ w (σ.add D (some (.mark C.E.dp))) := by
  have hlt : D < w.heap.size := (Array.getElem?_eq_some_iff.1 hh).1
  have hne : ∀ b l, σ.ow b = some l → b ≠ D := fun b l hb e => by rw [e, ho] at hb; cases hb
  have hs : Same C w σ w (σ.add D (some (.mark C.E.dp))) none := by
    refine ⟨fun b l hb _ => ⟨rfl, ?_⟩, fun _ _ => rfl, fun _ h => h, rfl, Nat.le_refl _, fun b l hb => ?_, fun b hb => ⟨(h.imm b hb).1, ?_⟩⟩
    · simp only [Sp.add, if_neg (hne b l hb), hb]
    · simp only [Sp.add] at hb
      split at hb
      · rename_i e; rw [e]; exact hlt
      · exact h.own b l hb
    · have : b ≠ D := fun e => hI (e ▸ hb)
      simp only [Sp.add, if_neg this]
      exact (h.imm b hb).2
  have h1 := h.same hs
  refine ⟨⟨h1.size, ?_, h1.fr, h1.bx, h1.hpd, h1.own, h1.imm, h1.new, h1.lay⟩, ⟨Nat.le_refl _, fun _ _ _ => rfl, fun _ h => h, fun _ _ => rfl, fun _ h => .inl h, fun _ _ => rfl, fun b hb hn => ?_, rfl, rfl⟩⟩
  · obtain ⟨Ds, h2, h3, h4⟩ := h.defers
    refine ⟨D :: Ds, List.nodup_cons.2 ⟨fun hm => hne D _ (h4 D hm).1 rfl, h2⟩, by show _ :: a.defers = _; rw [h3]; rfl, fun D' hD' => ?_⟩
    rcases List.mem_cons.1 hD' with rfl | hD'
    · exact ⟨by simp [Sp.add], hW, hh⟩
    · obtain ⟨h5, h6⟩ := h4 D' hD'
      exact ⟨by simp only [Sp.add, if_neg (hne D' _ h5), h5], h6⟩
  · have : b ≠ D := fun e => hn (e ▸ hW)
    simp only [Sp.add, if_neg this]
end
section
variable {P : Program} {G : Prg} {Ω : Orc}
set_option maxHeartbeats 1000000 in
/-- a range over a function does what its rounds say. -/
theorem range_ok (hΩ : OrcOK P Ω) {N : Nat} (hR : ∀ k, k ≤ N → RecAll P (callF G (exec G Ω k))) {n : Nat} (hn : n ≤ N) {C : Cx} {st : St} {a : Act} {w : World} {σ : Sp} {r : AExit × St} {g : Operand} {g' : Opd} {x : Nat} {y b : Code} {y' b' : AC} {nt : Nat} {Q : Exit → Act → World → Prop} {ns : List Int}
    (hP : C.P = P) (hro : C.E.ro = false) (hnt : nt ≤ C.nt) (hx : x < nt) (hit : iterOf Ω (st.ev g') = some ns) (he : rounds C.E.dp (exec G Ω n ⟨C.E.dp + 1, false⟩) x y' b' ns st = some r)
    (hlg : lowO g g' = true) (hly : lowC P nt y y' = true) (hpy : plainC y y' = true) (hlb : lowC P nt b b' = true) (hpb : plainC b b' = true) (hc : Conc C st a w σ)
    (hQ : ∀ a' w' σ', Stp C w σ w' σ' → Conc C r.2 a' w' σ' → Q (exitOf r.1) a' w') : (Code.rangeFunc g #[x] y b).wp P Q a w := by
  subst hP
  obtain ⟨f, c, hgv, hcp, es, h1, h2⟩ : ∃ f c, st.ev g' = .f f [c] ∧ (AV.f f [c]).copy = true ∧ ∃ es, Ω f [.u, c] = some (.l 0 es) ∧ intsOf es = some ns := by
    unfold iterOf at hit
    split at hit
    · rename_i f c hg
      split at hit
      · rename_i hcp
        obtain ⟨z, h1, h2⟩ := Option.bind_eq_some_iff.1 hit
        split at h2
        · rename_i es; exact ⟨f, c, hg, hcp, es, h1, h2⟩
        · cases h2
      · cases hit
    · cases hit
  have hv : VR w σ.I σ.κ (.f f [c]) (a.eval g) := by rw [← hgv]; exact hc.opd hlg (by rw [hgv]; exact hcp)
  obtain ⟨gf, lb, hg, hent, hcall⟩ := hΩ.it f c es ns h1 h2 w σ.I σ.κ (a.eval g) (hc.new _ (Nat.le_refl _)).2 (fun b hb => (hc.imm b hb).1) hv
  refine (wpIn_wide (n := 2)).1 (wpIn_rangeFunc ?_)
  intro fn _
  obtain ⟨rec, hrec⟩ : ∃ rec : LoopState → Option Code → Loop, rec = fun st pe => { state := st, pending := pe, fn, tmps := a.tmps, params := #[x], assign := y, body := b, defers := w.heap.size } := ⟨_, rfl⟩
  obtain ⟨W1, hW1⟩ : ∃ W1, (w.alloc (.deferred (some []))).alloc (.loop (rec .ready none)) = W1 := ⟨_, rfl⟩
  have hL1 : W1.heap[w.heap.size + 1]? = some (.loop (rec .ready none)) := by
    rw [← hW1]; have := World.alloc_heap_new (w.alloc (.deferred (some []))) (.loop (rec .ready none)); rwa [World.size_alloc] at this
  have hK1 : W1.heap[w.heap.size]? = some (.deferred (some [])) := by
    rw [← hW1]; exact (Below.heap_alloc _ _ _ (by simp)).trans (World.alloc_heap_new w _)
  have hB1 : Below w.heap.size w W1 := by rw [← hW1]; exact ((Below.refl _ w).alloc (Nat.le_refl _) _).alloc (by simp) _
  have hs1 : W1.heap.size = w.heap.size + 2 := by rw [← hW1]; simp
  obtain ⟨l, hldef⟩ : ∃ l, l = w.heap.size + 1 := ⟨_, rfl⟩
  obtain ⟨D, hDdef⟩ : ∃ D, D = w.heap.size := ⟨_, rfl⟩
  have hlD : D ≠ l := by omega
  have hCWl : C.W l := (hc.new l (by omega)).1
  have hCWD : C.W D := (hc.new D (by omega)).1
  rw [← hldef] at hL1
  rw [← hDdef] at hK1
  refine ⟨l, [markOf D], W1, { target := .fn (.func gf) lb, args := #[.func (.yield l) #[] #[]] }, W1, gf, #[.func (.yield l) #[] #[]] ++ lb, W1, ?_, ?_, fun _ _ => trivial, ?_, fun h => by simp [Fence.wide] at h, ?_⟩
  · rw [← hW1, hrec, hldef, hDdef]; exact run_enterLoop_outer _ _ _ _ _
  · simp only [resolve, hg]
    simp [go_sem]
  · simp [invoke, go_sem, hent]
  let J : (Nat → Prop) → List Int → World → Prop := fun T pre W => T D ∧ T l ∧ (∀ b, T b → w.heap.size ≤ b ∧ b < W.heap.size) ∧ W.heap[l]? = some (.loop (rec .ready none)) ∧ W.heap[D]? = some (.deferred (some [])) ∧
    ∃ rest st1 σ1, ns = pre ++ rest ∧ rounds C.E.dp (exec G Ω n ⟨C.E.dp + 1, false⟩) x y' b' rest st1 = some r ∧ Conc C st1 a W σ1 ∧ Stp C w σ W σ1 ∧ ∀ b, T b → σ1.ow b = none ∧ ¬ σ1.I b
  let Jx : List Int → World → Prop := fun _ W => ∃ c σ1, W.heap[l]? = some (.loop (rec .done (some c))) ∧ W.heap[D]? = some (.deferred (some [])) ∧ Conc C r.2 a W σ1 ∧ Stp C w σ W σ1 ∧ (σ1.ow D = none ∧ ¬ σ1.I D) ∧ (σ1.ow l = none ∧ ¬ σ1.I l) ∧
    ((r.1 = .ret ∧ c = .ret) ∨ ∃ id, r.1 = .ex id ∧ c = .exit id)
  have hJ0 : J (fun b => b = D ∨ b = l) [] W1 := by
    refine ⟨.inl rfl, .inr rfl, fun b hb => by rcases hb with rfl | rfl <;> omega, hL1, hK1, ns, st, σ, rfl, he, hc.grown hB1, Stp.grown hB1 fun b hb => (hc.imm b hb).1, fun b hb => ⟨?_, fun hI => ?_⟩⟩
    · cases ho : σ.ow b with
      | none => rfl
      | some L => have := hc.own b L ho; rcases hb with rfl | rfl <;> omega
    · have := (hc.imm b hI).1; rcases hb with rfl | rfl <;> omega
  refine (hcall l (2 - 1) J Jx (fun b => b = D ∨ b = l) W1 hB1.size (fun b hb => hB1.block b (hc.imm b hb).1) ?_ ?_ hJ0).mono ?_
  · -- what is new beside
    rintro T pre W W' ⟨hTD, hTl, hTb, hl, hD, rest, st1, σ1, hns, hrd, hcc, hst, hTo⟩ hbel
    refine ⟨.inl hTD, .inl hTl, fun b hb => ?_, (hbel.block l (hTb l hTl).2).trans hl, (hbel.block D (hTb D hTD).2).trans hD, rest, st1, σ1, hns, hrd, hcc.grown hbel, hst.trans (Stp.grown hbel fun b hb => (hcc.imm b hb).1), fun b hb => ?_⟩
    · rcases hb with hb | hb
      · exact ⟨(hTb b hb).1, Nat.lt_of_lt_of_le (hTb b hb).2 hbel.size⟩
      · exact ⟨Nat.le_trans hst.size hb.1, hb.2⟩
    · rcases hb with hb | hb
      · exact hTo b hb
      · refine ⟨?_, fun hI => ?_⟩
        · cases ho : σ1.ow b with
          | none => rfl
          | some L => have := hcc.own b L ho; omega
        · have := (hcc.imm b hI).1; omega
  · -- a round
    rintro T pre nn rest W m hns ⟨hTD, hTl, hTb, hl, hD, rest0, st1, σ1, hns0, hrd, hcc, hst, hTo⟩
    obtain rfl : rest0 = nn :: rest := List.append_cancel_left (hns0.symm.trans hns)
    simp only [rounds] at hrd
    split at hrd
    case isFalse => cases hrd
    rename_i hdeep
    obtain ⟨q, hq, hrd⟩ := Option.bind_eq_some_iff.1 hrd
    obtain ⟨qe, qs⟩ := q
    cases qe with
    | ex id => cases hrd
    | ret => cases hrd
    | nrm =>
    simp only at hrd
    obtain ⟨r1, hr1, hrd⟩ := Option.bind_eq_some_iff.1 hrd
    have hdp : ∀ d cs, bget st1.bx d = some cs → ∀ c ∈ cs, c.deep C.E.dp = true := fun d cs hb c hm => deepL_mem (bget_all (p := fun y => AV.deepL C.E.dp y) _ hdeep d cs hb) c hm
    have hWc : ∀ b, W.heap.size ≤ b → Wc C σ1 b := fun b hb => ⟨⟨(hcc.new b hb).1, fun e => absurd (hcc.own b _ e) (Nat.not_lt.2 hb)⟩, fun d => ⟨fun e => absurd (hcc.own b _ e) (Nat.not_lt.2 hb), fun e => absurd (hcc.own b _ e) (Nat.not_lt.2 hb)⟩⟩
    have hWl : Wc C σ1 l := ⟨⟨hCWl, fun e => by rw [(hTo l hTl).1] at e; cases e⟩, fun d => ⟨fun e => (by rw [(hTo l hTl).1] at e; cases e), fun e => (by rw [(hTo l hTl).1] at e; cases e)⟩⟩
    let C1 : Cx := ⟨C.P, fun b => Wc C σ1 b ∧ ¬ T b, ⟨C.E.dp + 1, false⟩, C.nt⟩
    let C3 : Cx := ⟨C.P, Wc C σ1, ⟨C.E.dp + 1, false⟩, C.nt⟩
    have hin := hcc.inner hro hdp (W' := fun b => Wc C σ1 b ∧ ¬ T b) (x := x) (n := nn) (fun b ho hw => ⟨hw, fun ht => ho (hTo b ht).1⟩) (fun b hb => ⟨hWc b hb, fun ht => absurd (hTb b ht).2 (Nat.not_lt.2 hb)⟩) (Nat.lt_of_lt_of_le hx hnt)
    have hy : (Instr.yield l #[.int .i64 nn]).run C.P W = .ok (.round l fn (a.tmps.setIfInBounds x (.int .i64 nn)) y b) W := by
      have := run_yield (P := C.P) (args := #[.int .i64 nn]) hl (by rw [hrec]; simp)
      rw [hrec] at this
      rw [this]; simp
    refine ⟨fn, _, y, b, hy, roundIn_of_wpIn trivial ?_⟩
    refine round_ok hΩ l m N hR n hn ⟨C.E.dp + 1, false⟩ y' (st1.inner C.E.dp x nn) (.nrm, qs) y nt C1 _ W σ1 _ rfl rfl hnt hq hly hpy (by rintro ⟨_, _, h⟩; exact h) hin fun a1 w1 σ2 hs2 hc2 => ?_
    have hl1 : w1.heap[l]? = some (.loop (rec .ready none)) := (hs2.keep l (hTb l hTl).2 fun h => h.2 hTl).trans hl
    have hTo2 : ∀ b, T b → σ2.ow b = none ∧ ¬ σ2.I b := fun b hb => ⟨(hs2.ow b (hTb b hb).2 fun h => h.2 hb).trans (hTo b hb).1, fun h => (hs2.dn b h).elim (hTo b hb).2 fun h => h.2 hb⟩
    refine ⟨_, run_beginRound hl1 (by rw [hrec]), ?_⟩
    have hlt1 : l < w1.heap.size := (Array.getElem?_eq_some_iff.1 hl1).1
    have hc2' := hc2.putFree (o := .loop { rec .ready none with state := .busy }) (hTo2 l hTl).1 (hTo2 l hTl).2
    refine round_ok hΩ l m N hR n hn ⟨C.E.dp + 1, false⟩ b' qs r1 b nt C1 a1 _ σ2 _ rfl rfl hnt hr1 hlb hpb (by rintro ⟨_, _, h⟩; exact h) hc2' fun a2 w3 σ3 hs3 hc3 => ?_
    have hsz2 : (w1.putObj l (.loop { rec .ready none with state := .busy })).heap.size = w1.heap.size := by simp [World.putObj]
    have hTlt1 : ∀ b, T b → b < w1.heap.size := fun b hb => Nat.lt_of_lt_of_le (hTb b hb).2 hs2.size
    have hl3 : w3.heap[l]? = some (.loop { rec .ready none with state := .busy }) := (hs3.keep l (by rw [hsz2]; exact hlt1) fun h => h.2 hTl).trans (World.putObj_heap_same hlt1)
    have hTo3 : ∀ b, T b → σ3.ow b = none ∧ ¬ σ3.I b := fun b hb => ⟨(hs3.ow b (by rw [hsz2]; exact hTlt1 b hb) fun h => h.2 hb).trans (hTo2 b hb).1, fun h => (hs3.dn b h).elim (hTo2 b hb).2 fun h => h.2 hb⟩
    have hst3 : ∀ o, Stp C3 W σ1 (w3.putObj l o) σ3 := fun o =>
      ((Stp.reW (C := C1) (W' := Wc C σ1) (fun _ h => h.1) hs2).trans (Stp.putFree (C := C3) hWl (hTo2 l hTl).2)).trans ((Stp.reW (C := C1) (W' := Wc C σ1) (fun _ h => h.1) hs3).trans (Stp.putFree (C := C3) hWl (hTo3 l hTl).2))
    have hc4 : ∀ o, Conc C3 r1.2 a2 (w3.putObj l o) σ3 := fun o => (Conc.reW (C := C1) (W' := Wc C σ1) (fun _ _ h => (show Wc C σ1 _ ∧ ¬ T _ from h).1) (fun b hb => hWc b (Nat.le_trans hs2.size (by rw [← hsz2]; exact Nat.le_trans hs3.size hb))) hc3).putFree (hTo3 l hTl).1 (hTo3 l hTl).2
    have hlv : ∀ o, _ ∧ _ := fun o => Conc.leave (hst3 o) (hc4 o) rfl
    have hcd : ∀ o, _ ∧ _ := fun o => hcc.called (hlv o).1 (hlv o).2
    have hT5 : ∀ o b, T b → endOw C3 σ3 b = none ∧ ¬ endI C3 (w3.putObj l o) σ3 b := fun o b hb => by
      refine ⟨?_, ?_⟩
      · unfold endOw
        split
        · rfl
        · exact (hTo3 b hb).1
      · rintro (h | ⟨_, L, h, _⟩)
        · exact (hTo3 b hb).2 h
        · rw [(hTo3 b hb).1] at h; cases h
    have hTs : ∀ o b, T b → b ≠ l → (w3.putObj l o).heap[b]? = W.heap[b]? := fun o b hb hbl =>
      (World.putObj_heap_other hbl).trans ((hs3.keep b (by rw [hsz2]; exact hTlt1 b hb) fun h => h.2 hb).trans ((World.putObj_heap_other hbl).trans (hs2.keep b (hTb b hb).2 fun h => h.2 hb)))
    have hD4 : ∀ o, (w3.putObj l o).heap[D]? = some (.deferred (some [])) := fun o => (hTs o D hTD hlD).trans hD
    have hl4 : ∀ o, (w3.putObj l o).heap[l]? = some o := fun o => World.putObj_heap_same (Array.getElem?_eq_some_iff.1 hl3).1
    have hI4 : ∀ o b, σ.I b → (w3.putObj l o).heap[b]? = W.heap[b]? := fun o b hb => (hcd o).1.imm b (hst.up b hb)
    obtain ⟨re, rs⟩ := r1
    cases re with
    | nrm =>
      simp only at hrd
      have hr : (Instr.endRound l none).run C.P w3 = .ok (.bool true) (w3.putObj l (.loop (rec .ready none))) := by
        have := run_endRound (P := C.P) none hl3
        rw [hrec] at this ⊢
        exact this
      generalize hoo : Obj.loop (rec .ready none) = o at hr
      refine ⟨_, _, hr, .inl ⟨rfl, ⟨hTD, hTl, fun b hb => ⟨(hTb b hb).1, Nat.lt_of_lt_of_le (hTb b hb).2 (hcd o).1.size⟩, by rw [hl4, hoo], hD4 o, rest, _, _, by rw [hns]; simp, hrd, (hcd o).2, hst.trans (hcd o).1, fun b hb => hT5 o b hb⟩, fun b hb => ?_, fun b hb => hI4 o b hb, (hcd o).1.size⟩⟩
      by_cases hbl : b = l
      · rw [hbl, hl4, hl, hoo]
      · exact hTs o b hb hbl
    | ret =>
      obtain rfl := Option.some.inj hrd
      have hr : (Instr.endRound l (some .ret)).run C.P w3 = .ok (.bool false) (w3.putObj l (.loop (rec .done (some .ret)))) := by
        have := run_endRound (P := C.P) (some .ret) hl3
        rw [hrec] at this ⊢
        exact this
      generalize hoo : Obj.loop (rec .done (some .ret)) = o at hr
      exact ⟨_, _, hr, .inr ⟨rfl, .ret, _, by rw [hl4, hoo], hD4 o, (hcd o).2, hst.trans (hcd o).1, hT5 o D hTD, hT5 o l hTl, .inl ⟨rfl, rfl⟩⟩⟩
    | ex id =>
      obtain rfl := Option.some.inj hrd
      have hr : (Instr.endRound l (some (.exit id))).run C.P w3 = .ok (.bool false) (w3.putObj l (.loop (rec .done (some (.exit id))))) := by
        have := run_endRound (P := C.P) (some (.exit id)) hl3
        rw [hrec] at this ⊢
        exact this
      generalize hoo : Obj.loop (rec .done (some (.exit id))) = o at hr
      exact ⟨_, _, hr, .inr ⟨rfl, .exit id, _, by rw [hl4, hoo], hD4 o, (hcd o).2, hst.trans (hcd o).1, hT5 o D hTD, hT5 o l hTl, .inr ⟨id, rfl, rfl⟩⟩⟩
  · -- behind it
    rintro e W ⟨⟨v, rfl⟩, (⟨T, hTD, hTl, hTb, hl, hD, rest, st1, σ1, hns, hrd, hcc, hst, hTo⟩ | ⟨_, _, _, _, c, σ1, hl, hD, hcc, hst, hoD, hol, hx⟩)⟩
    · have hrest : rest = [] := by
        have := congrArg List.length hns
        rw [List.length_append] at this
        exact List.length_eq_zero_iff.1 (by omega)
      subst hrest
      obtain rfl := Option.some.inj hrd
      have hr := run_endLoop (P := C.P) hl (by rw [hrec]; simp)
      rw [hrec] at hr
      refine ⟨none, _, hr, ?_⟩
      have h3 := (hcc.putFree (o := .loop { rec .ready none with state := .exhausted }) (hTo l hTl).1 (hTo l hTl).2)
      have hD3 : (W.putObj l (.loop { rec .ready none with state := .exhausted })).heap[D]? = some (.deferred (some [])) := (World.putObj_heap_other hlD).trans hD
      obtain ⟨h4, h5⟩ := h3.addMark (hTo D hTD).1 (hTo D hTD).2 hCWD hD3
      rw [hrec] at h4 h5
      exact hQ _ _ _ ((hst.trans (Stp.putFree hCWl (hTo l hTl).2)).trans h5) h4
    · have hr := run_endLoop (P := C.P) hl (by rw [hrec]; simp)
      rw [hrec] at hr
      refine ⟨some c, _, hr, ?_⟩
      have h3 := (hcc.putFree (o := .loop { rec .done (some c) with state := .exhausted }) hol.1 hol.2)
      have hD3 : (W.putObj l (.loop { rec .done (some c) with state := .exhausted })).heap[D]? = some (.deferred (some [])) := (World.putObj_heap_other hlD).trans hD
      obtain ⟨h4, h5⟩ := h3.addMark hoD.1 hoD.2 hCWD hD3
      rw [hrec] at h4 h5
      have hq := hQ _ _ _ ((hst.trans (Stp.putFree hCWl hol.2)).trans h5) h4
      rcases hx with ⟨h6, rfl⟩ | ⟨id, h6, rfl⟩
      · rw [h6] at hq
        exact wpIn_ret hq
      · rw [h6] at hq
        exact wpIn_exit hq
end
end Go.Proofs.Ytmfihcbafljcbaa.A
