/- Regions whose order is drawn: each step, and the whole. -/
import Derived.Test.YtmfihcbafljcbaaAbsK
set_option linter.unusedSectionVars false
set_option linter.unusedVariables false
set_option linter.unusedSimpArgs false
set_option linter.constructorNameAsVariable false
namespace Go.Proofs.Ytmfihcbafljcbaa.A
open Go
variable [Base]

def isMk : AOp → Bool
  | .al _ => true
  | .bs _ _ _ => true
  | .ms _ _ _ _ _ => true
  | .ap _ _ _ _ _ => true
  | _ => false
def lightKind (p : DOp) : Bool :=
  match p.p.o with
  | .bx _ => false
  | .c2 _ _ => false
  | .d2 _ _ => false
  | .cn _ _ => false
  | .cr _ _ _ => false
  | .cw _ _ _ => false
  | .vi _ _ _ => false
  | .ch _ _ _ _ _ => false
  | .bz _ _ _ => false
  | .lz _ => false
  | .pe _ _ _ => false
  | .cp _ _ _ _ => false
  | .aq _ _ _ => false
  | .sb _ _ => false
  | .tx _ => false
  | .sz _ _ => false
  | .xw _ _ => false
  | .sw _ _ _ => false
  | .lw _ _ => false
  | .sp _ _ => false
  | .st _ _ y => p.p.d == none && (p.cs == [] || match y with
    | .t m => p.cs == [m]
    | .c _ => false)
  | .ap _ _ _ x _ => match x with
    | .t m => p.cs == [m] || p.cs == [m, m]
    | .c _ => p.cs == []
  | _ => p.cs == []
/-- nothing in sight names that slot's box or borrows its row. -/
structure FreeS (dp : Nat) (s : St) (h : Nat) : Prop where
  fr : ∀ d, (fget s.fr d).noK ⟨dp, h⟩ = true ∧ (fget s.fr d).bor (.s h) = false
  cs : ∀ d cs, bget s.bx d = some cs → ∀ c ∈ cs, c.noK ⟨dp, h⟩ = true
theorem FreeS.of {dp : Nat} {s : St} {h : Nat} (hf : freeOf dp s h = true) : FreeS dp s h := by
  simp only [freeOf, Bool.and_eq_true] at hf
  refine ⟨fun d => ?_, fun d cs hb c hc => noKL_mem (bget_all _ hf.2 d cs hb) c hc⟩
  have := fget_all (p := fun y => y.noK ⟨dp, h⟩ && !y.bor (.s h)) rfl _ hf.1.2 d
  simpa using this
theorem FreeS.se {dp : Nat} {s s' : St} {h : Nat} (hf : FreeS dp s h) (hs : Se s s') : FreeS dp s' h :=
  ⟨fun d => by rw [← hs.fr]; exact hf.fr d, fun d cs hb => hf.cs d cs (by rw [hs.bx]; exact hb)⟩

/-- nothing in sight borrows of that slot's box. -/
def FreeB (dp : Nat) (s : St) (h : Nat) : Prop := ∀ d, borX ⟨dp, h⟩ (fget s.fr d) = false
theorem FreeB.se {dp : Nat} {s s' : St} {h : Nat} (hf : FreeB dp s h) (hs : Se s s') : FreeB dp s' h := fun d => by rw [← hs.fr]; exact hf d
theorem bor_borX {k : Key} {off : Nat} {x : AV} (h : x.bor (.c k off) = true) : borX k x = true := by
  cases x with
  | r pl => have : pl = .c k off := by simpa [AV.bor] using h
            subst this; simp [borX]
  | v pl lo len => have : pl = .c k off := by simpa [AV.bor] using h
                   subst this; simp [borX]
  | q pl i sz off' => have : pl = .c k off := by simpa [AV.bor] using h
                      subst this; simp [borX]
  | _ => cases h
section
variable {C : Cx} {s : St} {a : Act} {w : World} {σ : Sp} {o : Oper} {R : Rec} {Ω : Orc}

theorem view_le (p : DOp) (s : St) (dp : Nat) : Le dp (view p s) s := by
  refine ⟨fget_keepF s.fr p.vw, fun k cs hk => ?_⟩
  by_cases hd : k.dp = dp
  · simp only [St.box, view, hd, if_true] at hk ⊢
    exact bget_keepB hk
  · simp only [St.box, view, if_neg hd] at hk ⊢
    split at hk
    · exact hk
    · cases hk
theorem effect_gen {p : DOp} {r : AV × St} (h1 : isAl p.p.o = false) (h2 : isWr p = false) : effect p r = ⟨dput p.p.d (frz p.p.fz r.1) ++ p.cs.map (fun m => (m, .u)), [], [], none⟩ := by
  unfold effect
  split
  · rename_i ho; rw [ho] at h1; cases h1
  · rename_i ho; simp [isWr, ho, isSt] at h2
  · rename_i ho
    have : (p.cs.length == 2) = false := by simpa [isWr, isRowAp, ho, isSt] using h2
    simp [this]
  · rfl
theorem fget_dput (d : Option Nat) (x : AV) (s : St) (d' : Nat) : fget (dput d x ++ s.fr) d' = fget (A.put s d x).fr d' := by cases d <;> rfl
theorem fget_umap (cs : List Nat) (fr : List (Nat × AV)) (d : Nat) : fget (cs.map (fun m => (m, AV.u)) ++ fr) d = if d ∈ cs then .u else fget fr d := by
  induction cs with
  | nil => simp
  | cons c cs ih =>
    simp only [List.map_cons, List.cons_append, fget, List.mem_cons, ih]
    by_cases h : c = d
    · subst h; simp
    · have h' : ¬ d = c := fun e => h e.symm
      simp [h, h']

/-- from what the operation leaves to what the run says. -/
theorem finish {p : DOp} {q : Patch} {x : AV} {s' : St} {K : Act → World → Prop} {Q : Exit → Act → World → Prop} (hdst : o.dst = p.p.d) (hd : ∀ dd, p.p.d = some dd → dd < C.nt) (hsim : Sim C o p.p.d a w σ s' x)
    (hfr : ∀ d', fget (q.app s).fr d' = .u ∨ fget (q.app s).fr d' = fget (A.put s' p.p.d (frz p.p.fz x)).fr d') (hbx : ∀ k cs, (q.app s).box C.E.dp k = some cs → s'.box C.E.dp k = some cs)
    (hhp : ∀ k cs, k.dp ≠ C.E.dp → (q.app s).hp k = some cs → s'.hp k = some cs) (hK : ∀ a' w' σ', Stp C w σ w' σ' → Conc C (q.app s) a' w' σ' → K a' w') : o.wp C.P a w K Q := by
  refine hsim _ _ fun cv w' σ' hop => ?_
  obtain ⟨σ'', hs, hc⟩ := hop.putF hd p.p.fz
  rw [hdst]
  refine hK _ _ _ hs (hc.equiv hfr (fun k cs hk => ?_) (fun k cs hk hc => ?_))
  · have := hbx k cs hk
    cases p.p.d <;> exact this
  · have := hhp k cs hk hc
    cases p.p.d <;> exact this

/-- boxes, behind a store that sees a part of the state. -/
theorem st_boxes {dp : Nat} {p : DOp} {s : St} {k : Key} {cs nw : List AV} (fr : List (Nat × AV)) (hb : (view p s).box dp k = some cs) :
    (∀ k' cs', ((⟨fr, [], keepB ((view p s).setBox dp k nw).bx p.vb, if p.vh = true then some ((view p s).setBox dp k nw).hp else none⟩ : Patch).app s).box dp k' = some cs' → (s.setBox dp k nw).box dp k' = some cs') ∧
    (∀ k' cs', k'.dp ≠ dp → ((⟨fr, [], keepB ((view p s).setBox dp k nw).bx p.vb, if p.vh = true then some ((view p s).setBox dp k nw).hp else none⟩ : Patch).app s).hp k' = some cs' → (s.setBox dp k nw).hp k' = some cs') := by
  have hb' := (view_le p s dp).bx k cs hb
  refine ⟨fun k' cs' hk' => ?_, fun k' cs' hkd hk' => ?_⟩
  · rw [box_setBox hb']
    by_cases hkd' : k'.dp = dp
    · simp only [St.box, hkd', if_true, Patch.app, List.nil_append, bget_bsets] at hk'
      by_cases hkd : k.dp = dp
      · simp only [St.setBox, hkd, if_true] at hk'
        -- a box of the function's own
        by_cases hkk : k' = k
        · subst hkk
          rw [if_pos rfl]
          have hvb : bget (view p s).bx k'.d = some cs := by simpa [St.box, hkd] using hb
          have hin : k'.d ∈ p.vb := by
            have : ∀ ks, bget (keepB s.bx ks) k'.d = some cs → k'.d ∈ ks := by
              intro ks hks
              refine lks_keepB s.bx ks ?_
              apply Classical.byContradiction
              intro hno
              rw [bget_none hno] at hks; cases hks
            exact this p.vb hvb
          have hkeep : ∀ (bx : List (Nat × List AV)) (ks : List Nat) (d : Nat), d ∈ ks → bget (keepB bx ks) d = bget bx d := by
            intro bx ks d
            induction ks with
            | nil => intro h; cases h
            | cons c ks ih =>
              intro hm
              simp only [keepB]
              cases hc2 : bget bx c with
              | none =>
                simp only
                rcases List.mem_cons.1 hm with rfl | hm
                · cases hq2 : bget (keepB bx ks) d with
                  | none => exact hc2.symm
                  | some z => have := bget_keepB hq2; rw [hc2] at this; cases this
                · exact ih hm
              | some z =>
                simp only [bget]
                by_cases hcd : c = d
                · subst hcd; rw [if_pos rfl, hc2]
                · rw [if_neg hcd]
                  rcases List.mem_cons.1 hm with rfl | hm
                  · exact absurd rfl hcd
                  · exact ih hm
          rw [hkeep _ _ _ hin, bget_bset, if_pos rfl, hvb] at hk'
          have hsb : bget s.bx k'.d = some cs := by simpa [St.box, hkd] using hb'
          rw [hsb] at hk'
          exact hk'
        · rw [if_neg hkk]
          have hne : k'.d ≠ k.d := fun e => hkk (by cases k; cases k'; simp at hkd hkd' e; rw [hkd, hkd', e])
          simp only [St.box, hkd', if_true]
          cases hq : bget (keepB (bset (view p s).bx k.d nw) p.vb) k'.d with
          | none => rw [hq] at hk'; exact hk'
          | some z =>
            rw [hq] at hk'
            have h1 := bget_keepB hq
            rw [bget_bset, if_neg hne] at h1
            have h2 : bget s.bx k'.d = some z := bget_keepB h1
            rw [h2] at hk' ⊢
            exact hk'
      · simp only [St.setBox, if_neg hkd] at hk'
        have hkk : k' ≠ k := fun e => hkd (e ▸ hkd')
        rw [if_neg hkk]
        simp only [St.box, hkd', if_true]
        cases hq : bget (keepB (view p s).bx p.vb) k'.d with
        | none => rw [hq] at hk'; exact hk'
        | some z =>
          rw [hq] at hk'
          have h1 := bget_keepB hq
          have h2 : bget s.bx k'.d = some z := bget_keepB h1
          rw [h2] at hk' ⊢
          exact hk'
    · simp only [St.box, if_neg hkd', Patch.app] at hk' ⊢
      by_cases hkd : k.dp = dp
      · have hkk : k' ≠ k := fun e => hkd' (e ▸ hkd)
        rw [if_neg hkk]
        simp only [St.setBox, hkd, if_true] at hk'
        by_cases hv : p.vh = true
        · simp only [hv, if_true, Option.getD_some, view] at hk'; exact hk'
        · simp only [if_neg hv, Option.getD_none] at hk'; exact hk'
      · by_cases hv : p.vh = true
        · simp only [St.setBox, if_neg hkd, hv, if_true, Option.getD_some, view, upd] at hk'
          exact hk'
        · exfalso
          simp only [St.box, if_neg hkd, view, if_neg hv] at hb
          cases hb
  · by_cases hkd2 : k.dp = dp
    · simp only [St.setBox, hkd2, if_true] at hk' ⊢
      by_cases hv : p.vh = true
      · simp only [Patch.app, hv, if_true, Option.getD_some, view] at hk'; exact hk'
      · simp only [Patch.app, if_neg hv, Option.getD_none] at hk'; exact hk'
    · simp only [St.setBox, if_neg hkd2] at hk' ⊢
      by_cases hv : p.vh = true
      · simp only [Patch.app, hv, if_true, Option.getD_some, view] at hk'; exact hk'
      · exfalso
        simp only [St.box, if_neg hkd2, view, if_neg hv] at hb
        cases hb
theorem Conc.lightGo {p : DOp} {r : AV × St} {K : Act → World → Prop} {Q : Exit → Act → World → Prop} (hR : RecAll C.P R) (hΩ : OrcOK C.P Ω) (h : Conc C s a w σ) (hlo : lowOp C.P p.p.o o.op = true) (hdst : o.dst = p.p.d) (hd : ∀ dd, p.p.d = some dd → dd < C.nt)
    (hk : lightKind p = true) (hfree : isMk p.p.o = true → ∀ dd, p.p.d = some dd → FreeS C.E.dp s dd) (hlt : lightOk (view p s) p.p.o = true) (hls : lightSt C.E.dp p (view p s) = true) (hfb : isRowSt p.p.o p.cs = true → ∀ h ∈ p.vb, FreeB C.E.dp s h) (hr : execOp R Ω C.E (view p s) p.p.d p.p.o = some r)
    (hK : ∀ a' w' σ', Stp C w σ w' σ' → Conc C ((effect p r).app s) a' w' σ' → K a' w') : o.wp C.P a w K Q := by
  have hle := view_le p s C.E.dp
  -- nothing but the slot that it sets
  have plainS : isAl p.p.o = false → isWr p = false → ∀ s', Sim C o p.p.d a w σ s' r.1 → (∀ d', d' ∈ p.cs ∨ p.p.d = some d' ∨ fget s.fr d' = fget s'.fr d') → (∀ k, s'.box C.E.dp k = s.box C.E.dp k) → s'.hp = s.hp → o.wp C.P a w K Q := by
    intro h1 h2 s' he hf hb hh
    have he2 := effect_gen (r := r) h1 h2
    rw [he2] at hK
    refine finish hdst hd he (fun d' => ?_) (fun k cs hk => ?_) (fun k cs _ hk => ?_) hK
    · simp only [Patch.app, List.append_assoc]
      rw [fget_append, lks_dput]
      cases hdd : p.p.d with
      | none =>
        rw [if_neg (by simp [optL]), fget_umap]
        by_cases hm : d' ∈ p.cs
        · rw [if_pos hm]; exact .inl rfl
        · rw [if_neg hm]
          rcases hf d' with h3 | h3 | h3
          · exact absurd h3 hm
          · rw [hdd] at h3; cases h3
          · exact .inr h3
      | some dd =>
        by_cases hm : d' = dd
        · subst hm
          rw [if_pos (by simp [optL])]
          exact .inr (by simp [dput, fget, A.put, St.fset])
        · rw [if_neg (by simp [optL, hm]), fget_umap]
          by_cases hm2 : d' ∈ p.cs
          · rw [if_pos hm2]; exact .inl rfl
          · rw [if_neg hm2]
            rcases hf d' with h3 | h3 | h3
            · exact absurd h3 hm2
            · rw [hdd] at h3; exact absurd (Option.some.inj h3).symm hm
            · refine .inr ?_
              simp only [A.put, St.fset, fget, if_neg (fun e => hm (Eq.symm e))]
              exact h3
    · rw [hb]; exact hk
    · rw [hh]; exact hk
  have plain : isAl p.p.o = false → isWr p = false → ∀ s', execOp R Ω C.E s p.p.d p.p.o = some (r.1, s') → (∀ d', d' ∈ p.cs ∨ p.p.d = some d' ∨ fget s.fr d' = fget s'.fr d') → (∀ k, s'.box C.E.dp k = s.box C.E.dp k) → s'.hp = s.hp → o.wp C.P a w K Q :=
    fun h1 h2 s' he hf hb hh => plainS h1 h2 s' (sim_op hR hΩ p.p.o h hlo he) hf hb hh
  have hdrop : ∀ {dd}, p.p.d = some dd → FreeS C.E.dp s dd → ∀ d', d' ∈ p.cs ∨ p.p.d = some d' ∨ fget s.fr d' = fget (s.dropB (.s dd)).fr d' := by
    intro dd _ hf d'
    refine .inr (.inr ?_)
    simp only [St.dropB, fget_drop, (hf.fr d').2, Bool.false_eq_true, if_false]
  cases hao : p.p.o with
  | bx x => simp [lightKind, hao] at hk
  | c2 f args => simp [lightKind, hao] at hk
  | d2 x args => simp [lightKind, hao] at hk
  | cn f args => simp [lightKind, hao] at hk
  | cw t f args => simp [lightKind, hao] at hk
  | vi g f args => simp [lightKind, hao] at hk
  | ch f args sl dl ow => simp [lightKind, hao] at hk
  | bz t off x => simp [lightKind, hao] at hk
  | lz x => simp [lightKind, hao] at hk
  | pe ng x y => simp [lightKind, hao] at hk
  | cp t n off x => simp [lightKind, hao] at hk
  | aq t x y => simp [lightKind, hao] at hk
  | sb f x => simp [lightKind, hao] at hk
  | tx x => simp [lightKind, hao] at hk
  | sz x y => simp [lightKind, hao] at hk
  | xw x i => simp [lightKind, hao] at hk
  | sw n x y => simp [lightKind, hao] at hk
  | lw n x => simp [lightKind, hao] at hk
  | sp f x => simp [lightKind, hao] at hk
  | c3 f args =>
    rw [hao] at hr hlo
    obtain ⟨_, h2⟩ := sim_c3v (d := p.p.d) hR.h h (fun x hx => hle.ev rfl hx) hle.bx hlo hr
    exact plainS (by rw [hao]; rfl) (by simp [isWr, isRowAp, hao, isSt]) s h2 (fun d' => .inr (.inr rfl)) (fun _ => rfl) rfl
  | d3 x args =>
    rw [hao] at hr hlo
    obtain ⟨_, h2⟩ := sim_d3v (d := p.p.d) hR.h h (fun x hx => hle.ev rfl hx) hle.bx hlo hr
    exact plainS (by rw [hao]; rfl) (by simp [isWr, isRowAp, hao, isSt]) s h2 (fun d' => .inr (.inr rfl)) (fun _ => rfl) rfl
  | cr t f args => simp [lightKind, hao] at hk
  | as x =>
    rw [hao] at hr hlt hlo
    refine plain (by rw [hao]; rfl) (by simp [isWr, isRowAp, hao, isSt]) s ?_ (fun d' => .inr (.inr rfl)) (fun _ => rfl) rfl
    rw [hao]
    have hc : ((view p s).ev x).copy = true := hlt
    have hx := hle.ev rfl (copy_u hc)
    cases x with
    | c z =>
      simp only [execOp] at hr ⊢
      split at hr
      · rename_i hp
        obtain rfl := Option.some.inj hr
        rw [if_pos hp]
      · cases hr
    | t n =>
      have hx' : fget s.fr n = fget (view p s).fr n := hx
      simp only [execOp] at hr ⊢
      have hc' : (fget (view p s).fr n).copy = true := hc
      rw [hx']
      generalize fget (view p s).fr n = y at hr hc'
      cases y <;> first | (simp [AV.copy] at hc'; done) | skip
      all_goals
        simp only [hc', Bool.true_or, if_true] at hr ⊢
        obtain rfl := Option.some.inj hr
        rfl
  | bs t sz es =>
    rw [hao] at hr hlt hlo
    simp only [execOp] at hr
    obtain ⟨dd, hdd, hr1⟩ := Option.bind_eq_some_iff.1 hr
    have hf := hfree (by rw [hao]; rfl) dd hdd
    split at hr1
    · rename_i hall
      obtain rfl := Option.some.inj hr1
      refine plain (by rw [hao]; rfl) (by simp [isWr, isRowAp, hao, isSt]) (s.dropB (.s dd)) ?_ (hdrop hdd hf) (fun _ => rfl) rfl
      rw [hao]
      have hm := hle.map (xs := es) fun x hx => by
        have := List.all_eq_true.1 hall _ (List.mem_map_of_mem hx)
        simp only [Bool.and_eq_true] at this
        exact pure_u this.1.1
      simp only [execOp, hdd, Option.bind_some, hm, if_pos hall]
    · cases hr1
  | ms t sz by_ z n =>
    rw [hao] at hr hlt hlo
    simp only [execOp] at hr
    obtain ⟨dd, hdd, hr1⟩ := Option.bind_eq_some_iff.1 hr
    obtain ⟨m, hm, hr2⟩ := Option.bind_eq_some_iff.1 hr1
    have hf := hfree (by rw [hao]; rfl) dd hdd
    split at hr2
    · rename_i hc
      obtain rfl := Option.some.inj hr2
      refine plain (by rw [hao]; rfl) (by simp [isWr, isRowAp, hao, isSt]) (s.dropB (.s dd)) ?_ (hdrop hdd hf) (fun _ => rfl) rfl
      rw [hao]
      simp only [execOp, hdd, Option.bind_some, hle.nat hm, if_pos hc]
    · cases hr2
  | ap t sz by_ x y =>
    rw [hao] at hr hlt hlo
    simp only [execOp] at hr
    obtain ⟨dd, hdd, hr1⟩ := Option.bind_eq_some_iff.1 hr
    obtain ⟨ys, hys, hr2⟩ := Option.bind_eq_some_iff.1 hr1
    obtain ⟨qq, hqq, hr3⟩ := Option.bind_eq_some_iff.1 hr2
    have hf := hfree (by rw [hao]; rfl) dd hdd
    split at hr3
    · rename_i hc
      obtain rfl := Option.some.inj hr3
      have hyu : (view p s).ev y ≠ .u := by intro e; rw [e] at hys; cases hys
      by_cases hrc : isRC ((view p s).ev x) = true
      · -- a row in a box
        have h2 : (p.cs.length == 2) = true := by
          have := hls
          simp only [lightSt, hao, hrc] at this
          simpa using this
        cases x with
        | c z =>
          exfalso
          unfold A.consume at hqq
          cases z <;> first | (simp [St.ev, isRC] at hrc; done) | cases hqq
        | t m =>
          have hcs : p.cs = [m, m] := by
            have := hk
            simp only [lightKind, hao, Bool.or_eq_true, beq_iff_eq] at this
            rcases this with e | e
            · rw [e] at h2; cases h2
            · exact e
          have hx : ∃ k off, fget (view p s).fr m = .r (.c k off) := by
            have h3 : isRC (fget (view p s).fr m) = true := hrc
            generalize fget (view p s).fr m = z at h3
            cases z <;> first | (cases h3; done) | skip
            rename_i pl
            cases pl with
            | s d => cases h3
            | c k off => exact ⟨k, off, rfl⟩
          obtain ⟨k, off, hx⟩ := hx
          unfold A.consume at hqq
          simp only [hx] at hqq
          split at hqq
          · rename_i hmine
            obtain ⟨rw1, hrow, hq1⟩ := Option.bind_eq_some_iff.1 hqq
            split at hq1
            · rename_i htt
              obtain ⟨st', hput, hq2⟩ := Option.bind_eq_some_iff.1 hq1
              obtain rfl := Option.some.inj hq2
              simp only [St.putAt] at hput
              split at hput
              · rename_i cs0 hb
                obtain rfl := Option.some.inj hput
                have hb' := hle.bx k cs0 hb
                have hrow' : s.rowAt C.E.dp (.c k off) = some rw1 := by
                  simp only [St.rowAt, hb] at hrow
                  simp only [St.rowAt, hb']
                  exact hrow
                have hcon : A.consume C.E s t (.t m) = some (rw1.2, s.setBox C.E.dp k (cs0.set off .u)) := by
                  simp only [A.consume, hle.slot hx (by simp), if_pos hmine, hrow', Option.bind_some, if_pos htt, St.putAt, hb']
                have hex : execOp R Ω C.E s p.p.d p.p.o = some (.o t (rw1.2 ++ ys.2), (s.setBox C.E.dp k (cs0.set off .u)).dropB (.s dd)) := by
                  rw [hao]
                  simp only [execOp, hdd, Option.bind_some, hle.ev (x := y) rfl hyu, hle.elems hys, hcon, if_pos hc]
                have hsim := sim_op hR hΩ p.p.o h (by rw [hao]; exact hlo) hex
                have he : ∀ r : AV × St, effect p r = ⟨dput p.p.d (frz p.p.fz r.1) ++ p.cs.map (fun m => (m, .u)), [], keepB r.2.bx p.vb, if p.vh = true then some r.2.hp else none⟩ := by
                  intro r
                  unfold effect
                  simp only [hao, h2, if_true, Bool.true_and]
                rw [he] at hK
                obtain ⟨sb1, sb2⟩ := st_boxes (nw := cs0.set off .u) (dput p.p.d (frz p.p.fz (.o t (rw1.2 ++ ys.2))) ++ p.cs.map (fun m => (m, AV.u))) hb
                refine finish hdst hd hsim (fun d' => ?_) sb1 sb2 hK
                simp only [Patch.app, List.append_assoc]
                rw [fget_append, lks_dput, hdd]
                by_cases hm : d' = dd
                · subst hm
                  rw [if_pos (by simp [optL])]
                  exact .inr (by simp [dput, fget, A.put, St.fset])
                · rw [if_neg (by simp [optL, hm]), fget_umap]
                  split
                  · exact .inl rfl
                  · refine .inr ?_
                    simp only [A.put, St.fset, fget, if_neg (fun e => hm (Eq.symm e)), St.dropB, fget_drop, fr_setBox, (hf.fr d').2, Bool.false_eq_true, if_false]
              · cases hput
            · cases hq1
          · cases hqq
      have hnw : isWr p = false := by
        have := hls
        simp only [lightSt, hao, beq_iff_eq] at this
        simp only [isWr, isRowAp, hao, isSt, Bool.false_or, ← this]
        simpa using hrc
      -- what is consumed of the whole
      have hcon : ∃ s1 : St, A.consume C.E s t x = some (qq.1, s1) ∧ (∀ d', d' ∈ p.cs ∨ fget s.fr d' = fget s1.fr d') ∧ (∀ k, s1.box C.E.dp k = s.box C.E.dp k) ∧ s1.hp = s.hp ∧ (∀ d', (fget s1.fr d').bor (.s dd) = false) := by
        unfold A.consume at hqq
        split at hqq
        · obtain rfl := Option.some.inj hqq
          exact ⟨s, rfl, fun _ => .inr rfl, fun _ => rfl, rfl, fun d' => (hf.fr d').2⟩
        · cases hqq
        · rename_i m
          have hcs : m ∈ p.cs := by
            have := hk
            simp only [lightKind, hao, Bool.or_eq_true, beq_iff_eq] at this
            rcases this with e | e <;> rw [e] <;> simp
          split at hqq
          · rename_i hx
            obtain rfl := Option.some.inj hqq
            refine ⟨s, ?_, fun _ => .inr rfl, fun _ => rfl, rfl, fun d' => (hf.fr d').2⟩
            simp only [A.consume, hle.slot hx (by simp)]
          · rename_i t' es hx
            split at hqq
            · rename_i htt
              obtain rfl := Option.some.inj hqq
              refine ⟨s.fset m .u, ?_, fun d' => ?_, fun _ => rfl, rfl, fun d' => ?_⟩
              · simp only [A.consume, hle.slot hx (by simp), if_pos htt]
              · rw [fget_fset]
                by_cases hm : m = d'
                · exact .inl (hm ▸ hcs)
                · exact .inr (by rw [if_neg hm])
              · rw [fget_fset]
                split
                · rfl
                · exact (hf.fr d').2
            · cases hqq
          · rename_i pl hx
            simp only [lightOk, St.ev, hx] at hlt
            simp only [isRC, St.ev, hx] at hrc
            cases pl with
            | s d => cases hlt
            | c k off => exact absurd rfl hrc
          · rename_i pl lo len hx
            simp only [lightOk, St.ev, hx] at hlt
            cases hlt
          · cases hqq
      obtain ⟨s1, h1, h2, h3, h4, h5⟩ := hcon
      refine plain (by rw [hao]; rfl) hnw (s1.dropB (.s dd)) ?_ (fun d' => ?_) (fun k => h3 k) h4
      · rw [hao]
        simp only [execOp, hdd, Option.bind_some, hle.ev (x := y) rfl hyu, hle.elems hys, h1, if_pos hc]
      · rcases h2 d' with h6 | h6
        · exact .inl h6
        · refine .inr (.inr ?_)
          simp only [St.dropB, fget_drop, h5 d', Bool.false_eq_true, if_false]
          exact h6
    · cases hr3
  | al zs =>
    rw [hao] at hr hlt hlo
    simp only [execOp] at hr
    obtain ⟨dd, hdd, hr1⟩ := Option.bind_eq_some_iff.1 hr
    have hf := hfree (by rw [hao]; rfl) dd hdd
    split at hr1
    · rename_i hcd
      have hd6 : dd < 1000000 := by simp only [freeD, Bool.and_eq_true, decide_eq_true_eq] at hcd; exact hcd.1.1.2
      obtain rfl := Option.some.inj hr1
      have he : effect p (.p ⟨C.E.dp, dd⟩ 0, { (view p s) with bx := (dd, zs) :: (view p s).bx }) = ⟨[(dd, .p ⟨C.E.dp, dd⟩ 0)], [(dd, zs)], [], none⟩ := by
        unfold effect
        rw [hao, hdd]
      rw [he] at hK
      refine finish (s := s) hdst hd (sim_al' (d := p.p.d) h hd6 hlo hdd (fun d' => (hf.fr d').1) (fun d' cs' hb c hc => hf.cs d' cs' hb c hc)) (fun d' => .inr ?_) (fun k cs hk => ?_) (fun k cs _ hk => ?_) hK
      · rw [hdd]
        have : frz p.p.fz (.p ⟨C.E.dp, dd⟩ 0) = .p ⟨C.E.dp, dd⟩ 0 := by cases p.p.fz <;> rfl
        rw [this]
        rfl
      · by_cases hkd : k.dp = C.E.dp
        · simp only [St.box, Patch.app, hkd, if_true, bsets, List.cons_append, List.nil_append] at hk ⊢
          exact hk
        · simp only [St.box, Patch.app, if_neg hkd] at hk ⊢
          exact hk
      · exact hk
    · cases hr1
  | st n x y =>
    rw [hao] at hr hlt hlo
    have hdn : p.p.d = none := by
      have := hk
      simp only [lightKind, hao, Bool.and_eq_true, beq_iff_eq] at this
      exact this.1
    simp only [lightOk, Bool.and_eq_true, Bool.or_eq_true] at hlt
    obtain ⟨hyc, hxp⟩ := hlt
    have hyu : (view p s).ev y ≠ .u := by
      intro e; rw [e] at hyc; rcases hyc with h | h <;> cases h
    have hy := hle.ev rfl hyu
    have heff : ∀ r : AV × St, effect p r = ⟨p.cs.map (fun m => (m, .u)), [], keepB r.2.bx p.vb, if p.vh = true then some r.2.hp else none⟩ := by
      intro r
      unfold effect
      rw [hao]
    simp only [execOp] at hr
    split at hr
    · rename_i k off hx
      split at hr
      · rename_i hm
        obtain ⟨cs, hb, hr1⟩ := Option.bind_eq_some_iff.1 hr
        have hb' := hle.bx k cs hb
        split at hr1
        · rename_i t' es hyy
          have hrow : isO ((view p s).ev y) = true := by rw [hyy]; rfl
          have hls2 := hls
          simp only [lightSt, hao, hrow, hx, Bool.not_true, Bool.false_or, Bool.and_eq_true, decide_eq_true_eq, beq_iff_eq] at hls2
          obtain ⟨⟨hkd, hvb⟩, hcs⟩ := hls2
          cases y with
          | c z => cases hcs
          | t m =>
            have hcs' : p.cs = [m] := by simpa using hcs
            have hfb' : FreeB C.E.dp s k.d := hfb (by rw [hao]; simp [isRowSt, hcs']) k.d (by rw [hvb]; simp)
            simp only at hr1
            split at hr1
            · rename_i hc
              obtain rfl := Option.some.inj hr1
              have hex : execOp R Ω C.E s p.p.d p.p.o = some (.u, ((s.fset m .u).dropB (.c k off)).setBox C.E.dp k (cs.set off (.o t' es))) := by
                rw [hao]
                simp only [execOp, hle.ev hx (by simp), if_pos hm, hb', Option.bind_some, hy, hyy]
                rw [if_pos hc]
              have hsim := sim_op (r := (.u, ((s.fset m .u).dropB (.c k off)).setBox C.E.dp k (cs.set off (.o t' es)))) hR hΩ p.p.o h (by rw [hao]; exact hlo) hex
              rw [heff, hcs'] at hK
              have hbx0 : ∀ nw, (((view p s).fset m .u).dropB (.c k off)).setBox C.E.dp k nw = ({ ((view p s).setBox C.E.dp k nw) with fr := (((view p s).fset m .u).dropB (.c k off)).fr } : St) := by
                intro nw
                simp only [St.setBox, hkd, if_true, St.dropB, St.fset]
              rw [hbx0] at hK
              obtain ⟨sb1, sb2⟩ := st_boxes (nw := cs.set off (.o t' es)) [(m, .u)] hb
              have hbx1 : ∀ nw k', ((((s.fset m .u).dropB (.c k off)).setBox C.E.dp k nw).box C.E.dp k') = (s.setBox C.E.dp k nw).box C.E.dp k' := by
                intro nw k'
                simp only [St.setBox, hkd, if_true, St.dropB, St.fset, St.box]
              have hhp1 : ∀ nw, ((((s.fset m .u).dropB (.c k off)).setBox C.E.dp k nw).hp) = (s.setBox C.E.dp k nw).hp := by
                intro nw
                simp only [St.setBox, hkd, if_true, St.dropB, St.fset]
              refine finish hdst hd hsim (fun d' => ?_) (fun k' cs' hk' => ?_) (fun k' cs' hkd' hk' => ?_) hK
              · rw [hdn]
                simp only [Patch.app, A.put, fr_setBox, List.map_cons, List.map_nil, List.cons_append, List.nil_append, fget]
                by_cases hmd : m = d'
                · rw [if_pos hmd]; exact .inl rfl
                · rw [if_neg hmd]
                  refine .inr ?_
                  simp only [St.dropB, St.fset, fget_drop, fget, if_neg hmd]
                  rw [if_neg]
                  intro hbor
                  have := hfb' d'
                  rw [← hkd] at this
                  rw [bor_borX hbor] at this; cases this
              · rw [hbx1]; exact sb1 k' cs' hk'
              · rw [hhp1]; exact sb2 k' cs' hkd' hk'
            · cases hr1
        · rename_i pl lo len hyy
          rw [hyy] at hyc; rcases hyc with h | h <;> cases h
        · rename_i hyo hyv
          have hyc' : ((view p s).ev y).copy = true := by
            rcases hyc with h | h
            · exact h
            · exfalso
              generalize (view p s).ev y = z at h hyo
              cases z <;> first | (exact hyo _ _ rfl) | (exact absurd rfl (hyo _ _)) | (cases h; done)
          split at hr1
          · rename_i hc
            obtain rfl := Option.some.inj hr1
            have hex : execOp R Ω C.E s p.p.d p.p.o = some (.u, s.setBox C.E.dp k (putCells cs off ((view p s).ev y).cl)) := by
              rw [hao]
              simp only [execOp, hle.ev hx (by simp), if_pos hm, hb', Option.bind_some, hy]
              rw [if_pos hc]
            have hsim := sim_op (r := (.u, s.setBox C.E.dp k (putCells cs off ((view p s).ev y).cl))) hR hΩ p.p.o h (by rw [hao]; exact hlo) hex
            rw [heff] at hK
            obtain ⟨sb1, sb2⟩ := st_boxes (nw := putCells cs off ((view p s).ev y).cl) (p.cs.map fun m => (m, AV.u)) hb
            refine finish hdst hd hsim (fun d' => ?_) sb1 sb2 hK
            rw [hdn]
            simp only [Patch.app, A.put, fr_setBox]
            rw [fget_umap]
            split
            · exact .inl rfl
            · exact .inr rfl
          · cases hr1
      · cases hr
    · rename_i hx
      rw [hx] at hxp; cases hxp
    · cases hr
  | _ =>
    have hqk : qk p.p.o = true := by rw [hao]; rfl
    obtain ⟨_, h2⟩ := monoQ hle hqk hlt hr
    exact plain (by rw [hao]; rfl) (by simp [isWr, isRowAp, hao, isSt]) s h2 (fun d' => .inr (.inr rfl)) (fun _ => rfl) rfl
end
end Go.Proofs.Ytmfihcbafljcbaa.A
