/- Regions whose order is drawn: the whole region. -/
import Derived.Test.YtmfihcbafljcbaaAbsL
set_option linter.unusedSectionVars false
set_option linter.unusedVariables false
set_option linter.unusedSimpArgs false
set_option linter.constructorNameAsVariable false
namespace Go.Proofs.Ytmfihcbafljcbaa.A
open Go
variable [Base]
section
variable {C : Cx} {s : St} {a : Act} {w : World} {σ : Sp} {o : Oper} {R : Rec} {Ω : Orc}

/-- a light operation, under its guard. -/
theorem Conc.light {nt i : Nat} {ops : Array Oper} {p : DOp} {q : Patch} {K : Act → World → Prop} {Q : Exit → Act → World → Prop} (hR : RecAll C.P R) (hΩ : OrcOK C.P Ω) (h : Conc C s a w σ) (ho : ops[i]? = some o) (hl : lowG C.P nt ops o p.p = true) (hnt : nt ≤ C.nt)
    (hk : lightKind p = true) (hfree : isMk p.p.o = true → ∀ dd, p.p.d = some dd → FreeS C.E.dp s dd) (hfb : isRowSt p.p.o p.cs = true → ∀ h ∈ p.vb, FreeB C.E.dp s h) (hq : patchL R Ω C.E p s = some q) (hK : ∀ a' w' σ', Stp C w σ w' σ' → Conc C (q.app s) a' w' σ' → K a' w') : wpOp C.P ops Q i K a w := by
  obtain ⟨hlo, hdst, hd, hgd⟩ := lowG_dst hl hnt
  obtain ⟨hg1, hg2⟩ := h.guard hgd
  have hcore : coreL R Ω C.E p (view p s) = some q → o.wp C.P a w K Q := by
    intro hc
    unfold coreL at hc
    split at hc
    · rename_i hlt
      obtain ⟨r, hr, h2⟩ := Option.bind_eq_some_iff.1 hc
      split at h2
      · obtain rfl := Option.some.inj h2
        simp only [Bool.and_eq_true] at hlt
        exact h.lightGo hR hΩ hlo hdst hd hk hfree hlt.1 hlt.2 hfb hr hK
      · cases h2
    · cases hc
  simp only [wpOp, ho]
  unfold patchL at hq
  split at hq
  · rename_i hgn
    rw [if_pos (hg1 hgn)]
    exact .inl (hcore hq)
  · rename_i j want hgs
    obtain ⟨y, hy, hq1⟩ := Option.bind_eq_some_iff.1 hq
    have hwt := hg2 j want y hgs hy
    split at hq1
    · rename_i hyt
      rw [if_pos (by rw [hwt, hyt])]
      exact .inl (hcore hq1)
    · rename_i hyf
      rw [if_neg (by rw [hwt]; exact hyf)]
      refine hK _ _ _ (.refl _ _ _) ?_
      rw [← Option.some.inj hq1, hdst]
      refine (h.putSk hd).se ⟨fun d' => ?_, fun d' => ?_, ?_, fun y => ?_⟩
      · simp only [Patch.app]; rw [fget_dput]
      · cases p.p.d <;> rfl
      · cases p.p.d <;> rfl
      · cases p.p.d <;> exact Iff.rfl

theorem mem_setBox {s : St} {dp : Nat} {k : Key} {cs zs : List AV} {d : Nat} (h : bget (s.setBox dp k cs).bx d = some zs) : bget s.bx d = some zs ∨ zs = cs := by
  unfold St.setBox at h
  split at h
  · simp only [bget_bset] at h
    split at h
    · rename_i e
      cases hb : bget s.bx k.d with
      | none => rw [hb] at h; cases h
      | some z =>
        rw [hb] at h
        exact .inr (Option.some.inj h).symm
    · exact .inl h
  · exact .inl h
theorem noK_cl {k : Key} {y : AV} (h : y.noK k = true) : ∀ c ∈ y.cl, c.noK k = true := by
  intro c hc
  cases y <;> simp only [AV.cl, List.mem_singleton] at hc <;> first | (subst hc; exact h) | skip
  exact noKL_mem (by simpa [AV.noK] using h) c hc
/-- what is free of a slot's name stays so. -/
theorem FreeS.step {p : DOp} {q : Patch} {h : Nat} {op : Op} (hf : FreeS C.E.dp s h) (hlo : lowOp C.P p.p.o op = true) (hk : lightKind p = true) (hn : h ∈ p.nk) (hq : patchL R Ω C.E p s = some q) : FreeS C.E.dp (q.app s) h := by
  have hle := view_le p s C.E.dp
  have hvf : ∀ d, (fget (view p s).fr d).noK ⟨C.E.dp, h⟩ = true := fun d => by
    rcases hle.fr d with e | e
    · rw [e]; rfl
    · rw [e]; exact (hf.fr d).1
  have hgen : ∀ (x : AV) (cs : List Nat), x.noK ⟨C.E.dp, h⟩ = true → x.bor (.s h) = false → FreeS C.E.dp ((⟨dput p.p.d x ++ cs.map (fun m => (m, .u)), [], [], none⟩ : Patch).app s) h := by
    intro x cs hx hb
    refine ⟨fun d => ?_, hf.cs⟩
    simp only [Patch.app, List.append_assoc]
    rw [fget_append]
    split
    · rename_i hm
      cases hd : p.p.d with
      | none => rw [hd] at hm; simp [dput, lks] at hm
      | some dd =>
        rw [hd] at hm
        simp only [dput, lks, List.map_cons, List.map_nil, List.mem_singleton] at hm
        subst hm
        simp [dput, fget, hx, hb]
    · rw [fget_umap]
      split
      · exact ⟨rfl, rfl⟩
      · exact hf.fr d
  have hcore : coreL R Ω C.E p (view p s) = some q → FreeS C.E.dp (q.app s) h := by
    intro hc
    unfold coreL at hc
    split at hc
    · rename_i hlt2
      have hlt := (Bool.and_eq_true_iff.1 hlt2).1
      obtain ⟨r, hr, h2⟩ := Option.bind_eq_some_iff.1 hc
      split at h2
      · rename_i hok2
        have hok := (Bool.and_eq_true_iff.1 hok2).1
        obtain rfl := Option.some.inj h2
        have hx : r.1.noK ⟨C.E.dp, h⟩ = true ∧ r.1.bor (.s h) = false := by
          have := List.all_eq_true.1 hok h hn
          simpa using this
        have hfz : (frz p.p.fz r.1).noK ⟨C.E.dp, h⟩ = true ∧ (frz p.p.fz r.1).bor (.s h) = false := by
          cases p.p.fz with
          | false => simpa [frz] using hx
          | true => cases hr1 : r.1 <;> rw [hr1] at hx <;> first | exact hx | exact ⟨rfl, rfl⟩
        by_cases hal : isAl p.p.o = true
        · cases hao : p.p.o <;> rw [hao] at hal <;> simp [isAl] at hal
          rename_i zs
          rw [hao] at hr hlo
          simp only [execOp] at hr
          obtain ⟨dd, hdd, hr1⟩ := Option.bind_eq_some_iff.1 hr
          split at hr1
          · obtain rfl := Option.some.inj hr1
            have he : effect p (.p ⟨C.E.dp, dd⟩ 0, { (view p s) with bx := (dd, zs) :: (view p s).bx }) = ⟨[(dd, .p ⟨C.E.dp, dd⟩ 0)], [(dd, zs)], [], none⟩ := by
              unfold effect
              rw [hao, hdd]
            rw [he]
            refine ⟨fun d => ?_, fun d cs hb c hc => ?_⟩
            · simp only [Patch.app, List.cons_append, List.nil_append, fget]
              split
              · exact hx
              · exact hf.fr d
            · simp only [Patch.app, List.cons_append, List.nil_append, bget, bsets] at hb
              split at hb
              · obtain rfl := Option.some.inj hb
                exact pure_noK c (al_pure hlo c hc)
              · exact hf.cs d cs hb c hc
          · cases hr1
        · by_cases hst : isSt p.p.o = true
          · cases hao : p.p.o <;> rw [hao] at hst <;> simp [isSt] at hst
            rename_i n x y
            rw [hao] at hr hlo hlt
            simp only [lightOk, Bool.and_eq_true, Bool.or_eq_true] at hlt
            obtain ⟨hyc, hxp⟩ := hlt
            have hyk : ((view p s).ev y).noK ⟨C.E.dp, h⟩ = true := by
              cases y with
              | t m => exact hvf m
              | c z =>
                have hp : z.pure = true := by
                  simp only [lowOp] at hlo
                  split at hlo
                  · simp only [Bool.and_eq_true] at hlo
                    exact opd_pure hlo.1.2
                  · cases hlo
                exact pure_noK z hp
            have hcs : ∀ d cs, bget r.2.bx d = some cs → ∀ c ∈ cs, c.noK ⟨C.E.dp, h⟩ = true := by
              simp only [execOp] at hr
              split at hr
              · rename_i k off hx'
                split at hr
                · rename_i hm
                  obtain ⟨cs0, hb0, hr1⟩ := Option.bind_eq_some_iff.1 hr
                  split at hr1
                  · rename_i t' es hyy
                    split at hr1
                    · rename_i m
                      split at hr1
                      · obtain rfl := Option.some.inj hr1
                        intro d cs hb c hc
                        rcases mem_setBox hb with h3 | rfl
                        · exact hf.cs d cs (bget_keepB h3) c hc
                        · rcases List.mem_or_eq_of_mem_set hc with hc | rfl
                          · by_cases hkd : k.dp = C.E.dp
                            · have h4 : bget (view p s).bx k.d = some cs0 := by simpa [St.box, hkd] using hb0
                              exact hf.cs k.d cs0 (bget_keepB h4) c hc
                            · simp only [St.setBox, if_neg hkd] at hb
                              exact hf.cs d _ (bget_keepB hb) c (by rcases List.mem_or_eq_of_mem_set ‹c ∈ _› with h | h <;> first | exact ‹_› | assumption)
                          · rfl
                      · cases hr1
                    · cases hr1
                  · rename_i pl lo len hyy
                    rw [hyy] at hyc; rcases hyc with h | h <;> cases h
                  · split at hr1
                    · obtain rfl := Option.some.inj hr1
                      intro d cs hb c hc
                      rcases mem_setBox hb with h3 | rfl
                      · exact hf.cs d cs (bget_keepB h3) c hc
                      · -- cells of the box that is written: an own one, or none in sight
                        by_cases hkd : k.dp = C.E.dp
                        · rcases mem_putCells hc with hc | hc
                          · have h4 : bget (view p s).bx k.d = some cs0 := by simpa [St.box, hkd] using hb0
                            exact hf.cs k.d cs0 (bget_keepB h4) c hc
                          · exact noK_cl hyk c hc
                        · simp only [St.setBox, if_neg hkd] at hb
                          exact hf.cs d _ (bget_keepB hb) c hc
                    · cases hr1
                · cases hr
              · rename_i hx'
                rw [hx'] at hxp; cases hxp
              · cases hr
            have he : effect p r = ⟨p.cs.map (fun m => (m, .u)), [], keepB r.2.bx p.vb, if p.vh = true then some r.2.hp else none⟩ := by
              unfold effect
              rw [hao]
            rw [he]
            refine ⟨fun d => ?_, fun d cs hb c hc => ?_⟩
            · simp only [Patch.app]
              rw [fget_umap]
              split
              · exact ⟨rfl, rfl⟩
              · exact hf.fr d
            simp only [Patch.app, List.nil_append, bget_bsets] at hb
            split at hb
            · rename_i zs hz
              cases hb2 : bget s.bx d with
              | none => rw [hb2] at hb; cases hb
              | some z =>
                rw [hb2] at hb
                obtain rfl := Option.some.inj hb
                exact hcs d _ (bget_keepB hz) c hc
            · exact hf.cs d cs hb c hc
          · by_cases hra : isRowAp p = true
            · unfold isRowAp at hra
              split at hra
              · rename_i t sz by_ x y hao
                rw [hao] at hr hlt
                have he : effect p r = ⟨dput p.p.d (frz p.p.fz r.1) ++ p.cs.map (fun m => (m, .u)), [], keepB r.2.bx p.vb, if p.vh = true then some r.2.hp else none⟩ := by
                  unfold effect
                  simp only [hao, hra, if_true, Bool.true_and]
                rw [he]
                simp only [execOp] at hr
                obtain ⟨dd, hdd, hr1⟩ := Option.bind_eq_some_iff.1 hr
                obtain ⟨ys, hys, hr2⟩ := Option.bind_eq_some_iff.1 hr1
                obtain ⟨qq, hqq, hr3⟩ := Option.bind_eq_some_iff.1 hr2
                have hcs : ∀ d cs, bget qq.2.bx d = some cs → ∀ c ∈ cs, c.noK ⟨C.E.dp, h⟩ = true := by
                  unfold A.consume at hqq
                  split at hqq
                  · obtain rfl := Option.some.inj hqq
                    exact fun d cs hb c hc => hf.cs d cs (bget_keepB hb) c hc
                  · cases hqq
                  · rename_i m
                    split at hqq
                    · obtain rfl := Option.some.inj hqq
                      exact fun d cs hb c hc => hf.cs d cs (bget_keepB hb) c hc
                    · split at hqq
                      · obtain rfl := Option.some.inj hqq
                        exact fun d cs hb c hc => hf.cs d cs (bget_keepB hb) c hc
                      · cases hqq
                    · rename_i pl hx
                      split at hqq
                      · obtain ⟨rw1, hrow, hq1⟩ := Option.bind_eq_some_iff.1 hqq
                        split at hq1
                        · obtain ⟨st', hput, hq2⟩ := Option.bind_eq_some_iff.1 hq1
                          obtain rfl := Option.some.inj hq2
                          cases pl with
                          | s d' => simp only [lightOk, St.ev, hx] at hlt; cases hlt
                          | c k off =>
                            simp only [St.putAt] at hput
                            split at hput
                            · rename_i cs0 hb0
                              obtain rfl := Option.some.inj hput
                              intro d cs hb c hc
                              rcases mem_setBox hb with h3 | rfl
                              · exact hf.cs d cs (bget_keepB h3) c hc
                              · rcases List.mem_or_eq_of_mem_set hc with hc | rfl
                                · by_cases hkd : k.dp = C.E.dp
                                  · have h4 : bget (view p s).bx k.d = some cs0 := by simpa [St.box, hkd] using hb0
                                    exact hf.cs k.d cs0 (bget_keepB h4) c hc
                                  · simp only [St.setBox, if_neg hkd] at hb
                                    exact hf.cs d _ (bget_keepB hb) c (by rcases List.mem_or_eq_of_mem_set ‹c ∈ _› with h | h <;> first | exact ‹_› | assumption)
                                · rfl
                            · cases hput
                        · cases hq1
                      · cases hqq
                    · rename_i pl lo len hx
                      simp only [lightOk, St.ev, hx] at hlt
                      cases hlt
                    · cases hqq
                have hbx : r.2.bx = qq.2.bx := by
                  split at hr3
                  · obtain rfl := Option.some.inj hr3; rfl
                  · cases hr3
                refine ⟨fun d => (hgen _ _ hfz.1 hfz.2).fr d, fun d cs hb c hc => ?_⟩
                simp only [Patch.app, List.nil_append, bget_bsets] at hb
                split at hb
                · rename_i zs hz
                  cases hb2 : bget s.bx d with
                  | none => rw [hb2] at hb; cases hb
                  | some z =>
                    rw [hb2] at hb
                    obtain rfl := Option.some.inj hb
                    rw [hbx] at hz
                    exact hcs d _ (bget_keepB hz) c hc
                · exact hf.cs d cs hb c hc
              · cases hra
            · rw [effect_gen (by simpa using hal) (by simp only [isWr, Bool.or_eq_false_iff]; exact ⟨by simpa using hst, by simpa using hra⟩)]
              exact hgen _ _ hfz.1 hfz.2
      · cases h2
    · cases hc
  unfold patchL at hq
  split at hq
  · exact hcore hq
  · obtain ⟨y, hy, hq1⟩ := Option.bind_eq_some_iff.1 hq
    split at hq1
    · exact hcore hq1
    · obtain rfl := Option.some.inj hq1
      have := hgen .sk [] rfl rfl
      simpa using this
end

/-- what borrows of no box of that slot stays so. -/
theorem FreeB.step {dp : Nat} {ro : Bool} {s : St} {R : Rec} {Ω : Orc} {p : DOp} {q : Patch} {h : Nat} (hf : FreeB dp s h) (hn : h ∈ p.nb) (hq : patchL R Ω ⟨dp, ro⟩ p s = some q) : FreeB dp (q.app s) h := by
  have hput : ∀ (x : AV) (cs : List Nat) (nb wb : List (Nat × List AV)) (hp : Option HP), borX ⟨dp, h⟩ x = false → FreeB dp ((⟨dput p.p.d x ++ cs.map (fun m => (m, .u)), nb, wb, hp⟩ : Patch).app s) h := by
    intro x cs nb wb hp hx d
    simp only [Patch.app, List.append_assoc]
    rw [fget_append]
    split
    · rename_i hm
      cases hd : p.p.d with
      | none => rw [hd] at hm; simp [dput, lks] at hm
      | some dd =>
        rw [hd] at hm
        simp only [dput, lks, List.map_cons, List.map_nil, List.mem_singleton] at hm
        subst hm
        simp [dput, fget, hx]
    · rw [fget_umap]
      split
      · rfl
      · exact hf d
  have hcore : coreL R Ω ⟨dp, ro⟩ p (view p s) = some q → FreeB dp (q.app s) h := by
    intro hc
    unfold coreL at hc
    split at hc
    · obtain ⟨r, hr, h2⟩ := Option.bind_eq_some_iff.1 hc
      split at h2
      · rename_i hok2
        have hok := (Bool.and_eq_true_iff.1 hok2).2
        obtain rfl := Option.some.inj h2
        have hx : borX ⟨dp, h⟩ r.1 = false := by
          have := List.all_eq_true.1 (Bool.and_eq_true_iff.1 hok).1 h hn
          simpa using this
        have hfz : borX ⟨dp, h⟩ (frz p.p.fz r.1) = false := by
          cases p.p.fz with
          | false => simpa [frz] using hx
          | true => cases hr1 : r.1 <;> rw [hr1] at hx <;> first | exact hx | rfl
        unfold effect
        split
        · split
          · rename_i dd hd
            intro d
            simp only [Patch.app, List.cons_append, List.nil_append, fget]
            split
            · exact hx
            · exact hf d
          · intro d; exact hf d
        · intro d
          simp only [Patch.app]
          rw [fget_umap]
          split
          · rfl
          · exact hf d
        · exact hput _ _ _ _ _ hfz
        · exact hput _ _ _ _ _ hfz
      · cases h2
    · cases hc
  unfold patchL at hq
  split at hq
  · exact hcore hq
  · obtain ⟨y, hy, hq1⟩ := Option.bind_eq_some_iff.1 hq
    split at hq1
    · exact hcore hq1
    · obtain rfl := Option.some.inj hq1
      have := hput .sk [] [] [] none rfl
      simpa using this
/-- which operations must stand before an operation. -/
def aftOf (o : Oper) : List Nat := (o.after.toList.filter fun e => Region.binds .any e).map (·.on)
def mskOne (acc : List Nat) (l : List Nat) : Nat := l.foldl (fun s e => s ||| (1 <<< e) ||| acc.getD e 0) 0
def msk (acc : List Nat) : List (List Nat) → List Nat
  | [] => acc
  | l :: r => msk (acc ++ [mskOne acc l]) r
theorem fold_bit (f : Nat → Nat) (i : Nat) : ∀ (l : List Nat) (s : Nat), (l.foldl (fun s e => s ||| (1 <<< e) ||| f e) s).testBit i = true → s.testBit i = true ∨ ∃ e ∈ l, e = i ∨ (f e).testBit i = true
  | [], s, h => .inl h
  | e :: l, s, h => by
    simp only [List.foldl_cons] at h
    rcases fold_bit f i l _ h with h | ⟨e', he', h⟩
    · simp only [Nat.testBit_or, Bool.or_eq_true] at h
      rcases h with (h | h) | h
      · exact .inl h
      · refine .inr ⟨e, by simp, .inl ?_⟩
        rw [Nat.one_shiftLeft, Nat.testBit_two_pow] at h
        simpa using h
      · exact .inr ⟨e, by simp, .inr h⟩
    · exact .inr ⟨e', by simp [he'], h⟩
/-- what a mask says: it is one of those named, or stands before one of those. -/
theorem msk_spec : ∀ (L : List (List Nat)) (acc : List Nat) (A : List (List Nat)), acc.length = A.length →
    (∀ j i, j < acc.length → (acc.getD j 0).testBit i = true → i ∈ A.getD j [] ∨ ∃ e ∈ A.getD j [], e < j ∧ (acc.getD e 0).testBit i = true) →
    ∀ j i, ((msk acc L).getD j 0).testBit i = true → i ∈ (A ++ L).getD j [] ∨ ∃ e ∈ (A ++ L).getD j [], e < j ∧ ((msk acc L).getD e 0).testBit i = true
  | [], acc, A, hl, h, j, i, hb => by
    rw [List.append_nil]
    simp only [msk] at hb ⊢
    by_cases hj : j < acc.length
    · exact h j i hj hb
    · rw [List.getD_eq_getElem?_getD, List.getElem?_eq_none (by omega)] at hb
      simp at hb
  | l :: L, acc, A, hl, h, j, i, hb => by
    have := msk_spec L (acc ++ [mskOne acc l]) (A ++ [l]) (by simp [hl]) (fun j i hj hb => ?_) j i hb
    · simpa [msk] using this
    · simp only [List.length_append, List.length_singleton] at hj
      simp only [List.getD_eq_getElem?_getD] at hb ⊢
      by_cases hlt : j < acc.length
      · rw [List.getElem?_append_left hlt] at hb
        rw [List.getElem?_append_left (by omega)]
        rcases h j i hlt (by simpa [List.getD_eq_getElem?_getD] using hb) with h1 | ⟨e, he, h2, h3⟩
        · exact .inl (by simpa [List.getD_eq_getElem?_getD] using h1)
        · refine .inr ⟨e, by simpa [List.getD_eq_getElem?_getD] using he, h2, ?_⟩
          rw [List.getElem?_append_left (by omega)]
          simpa [List.getD_eq_getElem?_getD] using h3
      · have hje : j = acc.length := by omega
        subst hje
        rw [List.getElem?_append_right (Nat.le_refl _)] at hb
        rw [List.getElem?_append_right (by omega), hl]
        simp only [Nat.sub_self, List.getElem?_cons_zero, Option.getD_some] at hb ⊢
        rcases fold_bit (fun e => acc.getD e 0) i l 0 hb with h1 | ⟨e, he, h1 | h1⟩
        · simp at h1
        · exact .inl (h1 ▸ he)
        · have hea : e < acc.length := by
            apply Classical.byContradiction
            intro hn
            rw [List.getD_eq_getElem?_getD, List.getElem?_eq_none (by omega)] at h1
            simp at h1
          refine .inr ⟨e, he, by omega, ?_⟩
          rw [List.getElem?_append_left hea]
          simpa [List.getD_eq_getElem?_getD] using h1

def free2b (gs : List DOp) (i j : Nat) : Bool :=
  match gs[i]?, gs[j]? with
  | some p, some q => (p.lt && q.lt && commD p q) || besideD p q || besideD q p
  | _, _ => false
def lowDs (P : Program) (nt : Nat) (ops : Array Oper) : List Oper → List DOp → Bool
  | [], [] => true
  | o :: os, g :: gs => lowG P nt ops o g.p && (!g.lt || lightKind g) && lowDs P nt ops os gs
  | _, _ => false
/-- a call that is not shown that box. -/
def chOw (q : DOp) (dd : Nat) : Bool := match q.p.o with
  | .ch _ _ _ _ ow => !q.lt && q.p.g.isNone && ow.contains dd
  | _ => false
theorem FreeS.stepH {R : Rec} {Ω : Orc} {E : Env} {s s2 : St} {p : DOp} {h : Nat} (hf : FreeS E.dp s h) (hc : chOw p h = true) (he : execD1 R Ω E s p = some s2) : FreeS E.dp s2 h := by
  unfold chOw at hc
  split at hc
  · rename_i f args sl dl ow ho
    simp only [Bool.and_eq_true, Bool.not_eq_true', Option.isNone_iff_eq_none] at hc
    obtain ⟨⟨h1, h2⟩, h3⟩ := hc
    have h3' : h ∈ ow := by simpa using h3
    simp only [execD1, h1, Bool.false_eq_true, if_false, execG, h2, ho, execOp] at he
    obtain ⟨⟨x, s'⟩, hcall, he⟩ := Option.bind_eq_some_iff.1 he
    obtain rfl := Option.some.inj he
    obtain ⟨hp', hC, e2⟩ := callH_inv hcall
    simp only at e2 hC
    subst e2
    have hx : frz p.p.fz x = x := by
      have := hC.pure
      cases p.p.fz with
      | false => rfl
      | true => cases x <;> first | rfl | cases this
    have hxb : x.noK ⟨E.dp, h⟩ = true ∧ x.bor (.s h) = false := by
      have := hC.pure
      refine ⟨pure_noK x this, ?_⟩
      cases x <;> first | rfl | cases this
    have hb1 := hf.fr
    have hb2 : ∀ d cs, bget (s.backH E.dp (mrgH E.dp s sl dl ow hp')).bx d = some cs → ∀ c ∈ cs, c.noK ⟨E.dp, h⟩ = true := by
      intro d cs hd c hc
      rcases hC.post d cs hd with ho' | ho'
      · refine hf.cs d cs ?_ c hc
        simp only [St.backH, bget_backB'] at hd
        have hm : mrgH E.dp s sl dl ow hp' ⟨E.dp, d⟩ = bget s.bx d := by
          unfold mrgH
          rw [if_pos (hidK_ow ho')]
          simp [St.box]
        rw [hm] at hd
        obtain ⟨_, _, e⟩ := Option.bind_eq_some_iff.1 hd
        exact e
      · exact noKL_mem (ho' h h3') c hc
    rw [hx]
    cases p.p.d with
    | none => exact ⟨hb1, hb2⟩
    | some dd =>
      refine ⟨fun d => ?_, hb2⟩
      simp only [put, St.fset, fget]
      split
      · exact hxb
      · exact hb1 d
  · cases hc
/-- may that slot's name be known to an operation that need not stand behind the one that makes it? -/
def mkOK (M : List Nat) (gs : List DOp) (n k dd : Nat) : Bool :=
  (List.range n).all fun i => i == k || (M.getD i 0).testBit k || (match gs[i]? with
    | some q => (q.lt && q.nk.contains dd) || chOw q dd
    | none => true)
def mksOK (M : List Nat) (gs : List DOp) (mks : List Nat) (n : Nat) : Bool :=
  (List.range n).all fun k => match gs[k]? with
    | some p => !p.lt || !isMk p.p.o || (match p.p.d with
      | some dd => mks.contains dd && mkOK M gs n k dd
      | none => true)
    | none => true
def pairsOK (M : List Nat) (gs : List DOp) (n : Nat) : Bool := (List.range n).all fun j => (List.range j).all fun i => (M.getD j 0).testBit i || free2b gs i j
/-- may a box, into which a row is put, be borrowed of by an operation that need not stand behind? -/
def rwOK (M : List Nat) (gs : List DOp) (n : Nat) : Bool :=
  (List.range n).all fun k => match gs[k]? with
    | some p => !p.lt || !isRowSt p.p.o p.cs || p.vb.all fun h => (List.range n).all fun i => i == k || (M.getD i 0).testBit k || (match gs[i]? with
      | some q => q.lt && q.nb.contains h
      | none => true)
    | none => true
def lowDr (P : Program) (nt : Nat) (ops : Array Oper) (mks : List Nat) (gs : List DOp) : Bool :=
  P.follows .mixedOrders && lowDs P nt ops ops.toList gs && ((List.range ops.size).all fun i => match ops[i]? with
    | some o => (aftOf o).all fun e => decide (e < i)
    | none => true) &&
  pairsOK (msk [] (ops.toList.map aftOf)) gs ops.size && mksOK (msk [] (ops.toList.map aftOf)) gs mks ops.size && rwOK (msk [] (ops.toList.map aftOf)) gs ops.size
theorem lowDs_get {P : Program} {nt : Nat} {ops : Array Oper} : ∀ {os : List Oper} {gs : List DOp}, lowDs P nt ops os gs = true → os.length = gs.length ∧ ∀ (i : Nat) (o : Oper) (p : DOp), os[i]? = some o → gs[i]? = some p → lowG P nt ops o p.p = true ∧ (p.lt = true → lightKind p = true)
  | [], [], _ => ⟨rfl, fun i o p h => by simp at h⟩
  | o :: os, g :: gs, h => by
    simp only [lowDs, Bool.and_eq_true] at h
    obtain ⟨h1, h2⟩ := lowDs_get h.2
    refine ⟨by simp [h1], fun i o' p ho hp => ?_⟩
    cases i with
    | zero =>
      obtain rfl : o = o' := by simpa using ho
      obtain rfl : g = p := by simpa using hp
      refine ⟨h.1.1, fun hl => ?_⟩
      have := h.1.2
      rw [hl] at this
      simpa using this
    | succ i => exact h2 i o' p (by simpa using ho) (by simpa using hp)
  | [], _ :: _, h => by simp [lowDs] at h
  | _ :: _, [], h => by simp [lowDs] at h

section
variable {C : Cx} {st : St} {a : Act} {w : World} {σ : Sp} {R : Rec} {Ω : Orc}
def remL (n : Nat) (listed : Array Bool) : List Nat := (List.range n).filter fun i => !listed.getD i true
theorem closed_bit {ops : Array Oper} {listed : Array Bool} (hback : ∀ i o, ops[i]? = some o → ∀ e ∈ aftOf o, e < i) (hcl : ∀ j o, ops[j]? = some o → listed.getD j false = true → ∀ e ∈ aftOf o, listed.getD e false = true) :
    ∀ (j : Nat) (o : Oper), ops[j]? = some o → (∀ e ∈ aftOf o, listed.getD e false = true) → ∀ i, ((msk [] (ops.toList.map aftOf)).getD j 0).testBit i = true → listed.getD i false = true := by
  intro j
  induction j using Nat.strongRecOn with
  | _ j ih =>
    intro o ho haft i hb
    have hspec := msk_spec (ops.toList.map aftOf) [] [] rfl (fun j i hj => by simp at hj) j i hb
    rw [List.nil_append] at hspec
    have hget : (ops.toList.map aftOf).getD j [] = aftOf o := by
      rw [List.getD_eq_getElem?_getD, List.getElem?_map, Array.getElem?_toList, ho]; rfl
    rw [hget] at hspec
    rcases hspec with h1 | ⟨e, he, hej, h2⟩
    · exact haft i h1
    · have hel := haft e he
      have hes : e < ops.size := by have := Array.getElem?_eq_some_iff.1 ho; obtain ⟨h3, _⟩ := this; omega
      have hoe : ops[e]? = some ops[e] := Array.getElem?_eq_getElem hes
      exact ih e hej ops[e] hoe (hcl e _ hoe hel) i h2
theorem aft_ready {o : Oper} {listed : Array Bool} : (o.after.all fun e => !Region.binds .any e || listed.getD e.on false) = true ↔ ∀ e ∈ aftOf o, listed.getD e false = true := by
  rw [Array.all_eq_true_iff_forall_mem]
  constructor
  · intro h e he
    obtain ⟨x, hx, rfl⟩ := List.mem_map.1 he
    obtain ⟨h1, h2⟩ := List.mem_filter.1 hx
    have := h x (by simpa using h1)
    simpa [h2] using this
  · intro h x hx
    by_cases hb : Region.binds .any x = true
    · have := h x.on (List.mem_map.2 ⟨x, List.mem_filter.2 ⟨by simpa using hx, hb⟩, rfl⟩)
      simp [this]
    · simp [hb]
theorem mem_ready {ops : Array Oper} {listed : Array Bool} {i : Nat} : i ∈ Region.ready .any ops listed ↔ ∃ o, ops[i]? = some o ∧ listed.getD i true = false ∧ ∀ e ∈ aftOf o, listed.getD e false = true := by
  unfold Region.ready
  rw [List.mem_filter]
  constructor
  · rintro ⟨h1, h2⟩
    have hi : i < ops.size := by simpa using h1
    refine ⟨ops[i], Array.getElem?_eq_getElem hi, ?_⟩
    simp only [Array.getElem?_eq_getElem hi, Option.map_some, Option.getD_some, Bool.and_eq_true, Bool.not_eq_true'] at h2
    exact ⟨h2.1, aft_ready.1 h2.2⟩
  · rintro ⟨o, ho, h1, h2⟩
    have hi : i < ops.size := (Array.getElem?_eq_some_iff.1 ho).1
    refine ⟨by simpa using hi, ?_⟩
    simp only [ho, Option.map_some, Option.getD_some, Bool.and_eq_true, Bool.not_eq_true']
    exact ⟨h1, aft_ready.2 h2⟩
theorem getD_size {listed : Array Bool} {n i : Nat} (hs : listed.size = n) (hi : i < n) (x y : Bool) : listed.getD i x = listed.getD i y := by
  have : i < listed.size := by omega
  simp [this]
theorem Conc.any {nt : Nat} {ops : Array Oper} {Q : Exit → Act → World → Prop} {gs : List DOp} {t : St} (hR : RecAll C.P R) (hΩ : OrcOK C.P Ω) (hnt : nt ≤ C.nt)
    (hds : lowDs C.P nt ops ops.toList gs = true) (hback : ∀ i o, ops[i]? = some o → ∀ e ∈ aftOf o, e < i) (hpairs : pairsOK (msk [] (ops.toList.map aftOf)) gs ops.size = true) {mks : List Nat} (hmks : mksOK (msk [] (ops.toList.map aftOf)) gs mks ops.size = true) (hrws : rwOK (msk [] (ops.toList.map aftOf)) gs ops.size = true) :
    ∀ (fuel : Nat) (listed : Array Bool) (s : St) (a : Act) (w : World) (σ : Sp), listed.size = ops.size → fuel = (remL ops.size listed).length → (∀ j o, ops[j]? = some o → listed.getD j false = true → ∀ e ∈ aftOf o, listed.getD e false = true) →
      Goes R Ω C.E gs (remL ops.size listed) s t → Conc C s a w σ → (∀ k p dd, k ∈ remL ops.size listed → gs[k]? = some p → p.lt = true → isMk p.p.o = true → p.p.d = some dd → FreeS C.E.dp s dd) → (∀ k p, k ∈ remL ops.size listed → gs[k]? = some p → p.lt = true → isRowSt p.p.o p.cs = true → ∀ h ∈ p.vb, FreeB C.E.dp s h) →
      (∀ a' w' σ', Stp C w σ w' σ' → Conc C t a' w' σ' → Q .normal a' w') → wpAny C.P .any ops Q fuel listed a w := by
  have hremm : ∀ listed i, i ∈ remL ops.size listed ↔ i < ops.size ∧ listed.getD i true = false := by
    intro listed i; unfold remL; simp [List.mem_filter]
  have hready : ∀ listed i, i ∈ Region.ready .any ops listed → i ∈ remL ops.size listed := by
    intro listed i hi
    obtain ⟨o, ho, h1, _⟩ := mem_ready.1 hi
    exact (hremm _ _).2 ⟨(Array.getElem?_eq_some_iff.1 ho).1, h1⟩
  intro fuel
  induction fuel with
  | zero =>
    intro listed s a w σ hsz hfu hcl hg h hfr hfB hK
    have hrem : remL ops.size listed = [] := List.eq_nil_of_length_eq_zero hfu.symm
    rw [hrem] at hg
    refine ⟨?_, hK a w σ (.refl _ _ _) (h.se hg)⟩
    apply List.eq_nil_iff_forall_not_mem.2
    intro i hi
    have := hready _ _ hi
    rw [hrem] at this; cases this
  | succ fuel ih =>
    intro listed s a w σ hsz hfu hcl hg h hfr hfB hK
    refine ⟨fun hnil => ?_, fun i hi => ?_⟩
    · exfalso
      -- the first that is not listed is ready
      cases hrem : remL ops.size listed with
      | nil => rw [hrem] at hfu; simp at hfu
      | cons i0 rest =>
        have hi0 : i0 ∈ remL ops.size listed := by rw [hrem]; simp
        obtain ⟨h1, h2⟩ := (hremm _ _).1 hi0
        have hsorted : (remL ops.size listed).Pairwise (· < ·) := (List.pairwise_lt_range (n := ops.size)).filter _
        have : i0 ∈ Region.ready .any ops listed := by
          refine mem_ready.2 ⟨ops[i0], Array.getElem?_eq_getElem h1, h2, fun e he => ?_⟩
          have hlt := hback i0 _ (Array.getElem?_eq_getElem h1) e he
          apply Classical.byContradiction
          intro hne
          have hem : e ∈ remL ops.size listed := (hremm _ _).2 ⟨by omega, by rw [getD_size hsz (by omega) true false]; simpa using hne⟩
          rw [hrem] at hem hsorted
          rcases List.mem_cons.1 hem with rfl | hem
          · omega
          · have := (List.pairwise_cons.1 hsorted).1 e hem
            omega
        rw [hnil] at this; cases this
    · obtain ⟨o, ho, hun, haft⟩ := mem_ready.1 hi
      have hin : i < ops.size := (Array.getElem?_eq_some_iff.1 ho).1
      have hir := hready _ _ hi
      obtain ⟨A, B, hAB⟩ := List.append_of_mem hir
      have hsorted : (remL ops.size listed).Pairwise (· < ·) := (List.pairwise_lt_range (n := ops.size)).filter _
      have hnb : ∀ k, k ∈ remL ops.size listed → ((msk [] (ops.toList.map aftOf)).getD i 0).testBit k = false := by
        intro k hk
        cases hb : ((msk [] (ops.toList.map aftOf)).getD i 0).testBit k with
        | false => rfl
        | true =>
          have := closed_bit hback hcl i o ho haft k hb
          obtain ⟨h1, h2⟩ := (hremm _ _).1 hk
          rw [getD_size hsz h1 true false, this] at h2; cases h2
      rw [hAB] at hsorted
      have hsp := List.pairwise_append.1 hsorted
      have hA : ∀ x ∈ A, free2 gs x i := by
        intro x hx
        have hlt : x < i := hsp.2.2 x hx i (by simp)
        have h1 := List.all_eq_true.1 (List.all_eq_true.1 hpairs i (by simpa using hin)) x (by simpa using hlt)
        rw [hnb x (by rw [hAB]; simp [hx]), Bool.false_or] at h1
        unfold free2b at h1
        split at h1
        · rename_i p q hp hq
          simp only [Bool.and_eq_true, Bool.or_eq_true] at h1
          refine ⟨p, q, hp, hq, ?_⟩
          rcases h1 with (h1 | h1) | h1
          · exact .inl ⟨h1.1.1, h1.1.2, h1.2⟩
          · exact .inr (.inl h1)
          · exact .inr (.inr h1)
        · cases h1
      rw [hAB] at hg
      obtain ⟨p, s1, s2, hp, hse, hex, hgo⟩ := Goes.front A s hA hg
      obtain ⟨hlen, hlow⟩ := lowDs_get hds
      obtain ⟨hlg, hlk⟩ := hlow i o p (by simpa using ho) hp
      have hnd : i ∉ A ∧ i ∉ B := by
        refine ⟨fun hm => ?_, fun hm => ?_⟩
        · have := hsp.2.2 i hm i (by simp); omega
        · have := (List.pairwise_cons.1 hsp.2.1).1 i hm; omega
      have hrem' : remL ops.size (listed.setIfInBounds i true) = A ++ B := by
        have hget : ∀ j, j < ops.size → (listed.setIfInBounds i true).getD j true = (if i = j then true else listed.getD j true) := by
          intro j hj
          have hjs : j < listed.size := by omega
          by_cases hij : i = j
          · subst hij; simp [hjs]
          · simp [Array.getElem?_setIfInBounds, hij]
        have e1 : remL ops.size (listed.setIfInBounds i true) = (remL ops.size listed).filter (fun j => j != i) := by
          unfold remL
          rw [List.filter_filter]
          apply List.filter_congr
          intro j hj
          rw [hget j (by simpa using hj)]
          by_cases hij : i = j
          · subst hij; simp
          · have : (j != i) = true := by simpa using fun e => hij e.symm
            simp [hij, this]
        rw [e1, hAB, List.filter_append, List.filter_cons]
        have f1 : A.filter (fun j => j != i) = A := List.filter_eq_self.2 fun x hx => by
          have : x ≠ i := fun e => hnd.1 (e ▸ hx)
          simpa using this
        have f2 : B.filter (fun j => j != i) = B := List.filter_eq_self.2 fun x hx => by
          have : x ≠ i := fun e => hnd.2 (e ▸ hx)
          simpa using this
        rw [f1, f2]
        simp
      have hmk : ∀ k p' dd, k ∈ A ++ B → gs[k]? = some p' → p'.lt = true → isMk p'.p.o = true → p'.p.d = some dd → FreeS C.E.dp s dd ∧ ((p.lt = true ∧ dd ∈ p.nk) ∨ chOw p dd = true) := by
        intro k p' dd hk hp' hlt hm hdd
        have hkr : k ∈ remL ops.size listed := by
          rw [hAB]
          rcases List.mem_append.1 hk with h1 | h1
          · exact List.mem_append_left _ h1
          · exact List.mem_append_right _ (List.mem_cons_of_mem _ h1)
        refine ⟨hfr k p' dd hkr hp' hlt hm hdd, ?_⟩
        have hki : k ≠ i := fun e => by
          rw [e] at hk
          rcases List.mem_append.1 hk with h1 | h1
          · exact hnd.1 h1
          · exact hnd.2 h1
        have h1 := List.all_eq_true.1 hmks k (by simpa using ((hremm _ _).1 hkr).1)
        simp only [hp', hlt, hm, hdd, Bool.not_true, Bool.false_or, Bool.and_eq_true] at h1
        have h2 := List.all_eq_true.1 h1.2 i (by simpa using hin)
        have e1 : (i == k) = false := by simpa using fun e => hki (Eq.symm e)
        simp only [e1, hnb k hkr, hp, Bool.false_or, Bool.and_eq_true, Bool.or_eq_true] at h2
        exact h2.imp (fun h2 => ⟨h2.1, by simpa using h2.2⟩) id
      have hrw : ∀ k p', k ∈ A ++ B → gs[k]? = some p' → p'.lt = true → isRowSt p'.p.o p'.cs = true → ∀ hh ∈ p'.vb, FreeB C.E.dp s hh ∧ (p.lt = true ∧ hh ∈ p.nb) := by
        intro k p' hk hp' hlt hm hh hhm
        have hkr : k ∈ remL ops.size listed := by
          rw [hAB]
          rcases List.mem_append.1 hk with h1 | h1
          · exact List.mem_append_left _ h1
          · exact List.mem_append_right _ (List.mem_cons_of_mem _ h1)
        refine ⟨hfB k p' hkr hp' hlt hm hh hhm, ?_⟩
        have hki : k ≠ i := fun e => by
          rw [e] at hk
          rcases List.mem_append.1 hk with h1 | h1
          · exact hnd.1 h1
          · exact hnd.2 h1
        have h1 := List.all_eq_true.1 hrws k (by simpa using ((hremm _ _).1 hkr).1)
        simp only [hp', hlt, hm, Bool.not_true, Bool.false_or] at h1
        have h2 := List.all_eq_true.1 (List.all_eq_true.1 h1 hh hhm) i (by simpa using hin)
        have e1 : (i == k) = false := by simpa using fun e => hki (Eq.symm e)
        simp only [e1, hnb k hkr, hp, Bool.false_or, Bool.and_eq_true] at h2
        exact ⟨h2.1, by simpa using h2.2⟩
      have hsz' : (listed.setIfInBounds i true).size = ops.size := by simpa using hsz
      have hcl' : ∀ j o', ops[j]? = some o' → (listed.setIfInBounds i true).getD j false = true → ∀ e ∈ aftOf o', (listed.setIfInBounds i true).getD e false = true := by
        have hmono : ∀ e, listed.getD e false = true → (listed.setIfInBounds i true).getD e false = true := by
          intro e he
          simp only [Array.getD_eq_getD_getElem?, Array.getElem?_setIfInBounds] at he ⊢
          split
          · split
            · rfl
            · rename_i h3 h4
              subst h3
              rw [Array.getElem?_eq_none (by omega)] at he; cases he
          · exact he
        intro j o' hj hl e he
        by_cases hij : i = j
        · subst hij
          obtain rfl : o = o' := by rw [ho] at hj; exact Option.some.inj hj
          exact hmono e (haft e he)
        · have : listed.getD j false = true := by
            simpa [Array.getD_eq_getD_getElem?, Array.getElem?_setIfInBounds, hij] using hl
          exact hmono e (hcl j o' hj this e he)
      have hfu' : fuel = (remL ops.size (listed.setIfInBounds i true)).length := by
        rw [hrem']
        rw [hAB] at hfu
        simp only [List.length_append, List.length_cons] at hfu ⊢
        omega
      have h1 := h.se hse
      by_cases hlt : p.lt = true
      · simp only [execD1, if_pos hlt] at hex
        obtain ⟨q, hq, he2⟩ := Option.bind_eq_some_iff.1 hex
        obtain rfl := Option.some.inj he2
        refine h1.light hR hΩ ho hlg hnt (hlk hlt) (fun hm dd hdd => (hfr i p dd hir hp hlt hm hdd).se hse) (fun hm hh hhm => (hfB i p hir hp hlt hm hh hhm).se hse) hq fun a' w' σ' hs' hc' => ?_
        refine ih _ _ a' w' σ' hsz' hfu' hcl' (by rw [hrem']; exact hgo) hc' (fun k p' dd hk hp' hl' hm hdd => ?_) (fun k p' hk hp' hl' hm hh hhm => ?_) fun a'' w'' σ'' hs'' hc'' => hK a'' w'' σ'' (hs'.trans hs'') hc''
        · rw [hrem'] at hk
          obtain ⟨h3, ⟨_, h4⟩ | h4⟩ := hmk k p' dd hk hp' hl' hm hdd
          · exact (h3.se hse).step (lowG_dst hlg hnt).1 (hlk hlt) h4 hq
          · exfalso
            unfold chOw at h4
            split at h4
            · rw [hlt] at h4; simp at h4
            · cases h4
        · rw [hrem'] at hk
          obtain ⟨h3, _, h4⟩ := hrw k p' hk hp' hl' hm hh hhm
          exact (h3.se hse).step h4 hq
      · have hex0 := hex
        simp only [execD1, if_neg hlt] at hex
        refine h1.stepK hR hΩ ho hlg hnt hex fun a' w' σ' hs' hc' => ?_
        refine ih _ _ a' w' σ' hsz' hfu' hcl' (by rw [hrem']; exact hgo) hc' (fun k p' dd hk hp' hl' hm hdd => ?_) (fun k p' hk hp' hl' hm hh hhm => ?_) fun a'' w'' σ'' hs'' hc'' => hK a'' w'' σ'' (hs'.trans hs'') hc''
        · rw [hrem'] at hk
          obtain ⟨h3, h4 | h4⟩ := hmk k p' dd hk hp' hl' hm hdd
          · exact absurd h4.1 hlt
          · exact (h3.se hse).stepH h4 hex0
        · rw [hrem'] at hk
          exact absurd (hrw k p' hk hp' hl' hm hh hhm).2.1 hlt
theorem Conc.drawnAny {nt : Nat} {ops : Array Oper} {Q : Exit → Act → World → Prop} {mks : List Nat} {gs : List DOp} {st' : St} (hR : RecAll C.P R) (hΩ : OrcOK C.P Ω) (hnt : nt ≤ C.nt) (hl : lowDr C.P nt ops mks gs = true) (h : Conc C st a w σ)
    (hm : (mks.all (freeOf C.E.dp st) && gs.all (freeB C.E.dp st)) = true) (he : execD R Ω C.E st gs = some st') (hK : ∀ a' w' σ', Stp C w σ w' σ' → Conc C st' a' w' σ' → Q .normal a' w') : C.P.follows .mixedOrders = true ∧ wpAny C.P .any ops Q ops.size (Array.replicate ops.size false) a { w with drawn := w.drawn + 1 } := by
  simp only [lowDr, Bool.and_eq_true] at hl
  obtain ⟨⟨⟨⟨⟨hfol, hds⟩, hback⟩, hpairs⟩, hmks⟩, hrws⟩ := hl
  obtain ⟨hm, hfb⟩ := Bool.and_eq_true_iff.1 hm
  have hback' : ∀ i o, ops[i]? = some o → ∀ e ∈ aftOf o, e < i := by
    intro i o ho e he
    have h1 := List.all_eq_true.1 hback i (by simpa using (Array.getElem?_eq_some_iff.1 ho).1)
    simp only [ho] at h1
    simpa using List.all_eq_true.1 h1 e he
  have hrem : remL ops.size (Array.replicate ops.size false) = List.range ops.size := by
    unfold remL
    apply List.filter_eq_self.2
    intro i hi
    have : i < ops.size := by simpa using hi
    simp [this]
  obtain ⟨hlen, _⟩ := lowDs_get hds
  have hd : Conc C st a { w with drawn := w.drawn + 1 } σ := h.drew
  refine ⟨hfol, Conc.any hR hΩ hnt hds hback' hpairs hmks hrws ops.size _ st a _ σ (by simp) (by rw [hrem]; simp) (fun j o ho hl => ?_) ?_ hd (fun k p dd hk hp hlt hmk hdd => ?_) (fun k p hk hp hlt hmk hh hhm => ?_) fun a' w' σ' hs hc => hK a' w' σ' (Stp.drew (w := w) hs) hc⟩
  · exfalso
    by_cases hj : j < ops.size <;> simp [hj] at hl
  · rw [hrem]
    have := Goes.text (R := R) (Ω := Ω) (E := C.E) gs 0 st st' rfl he
    have hl2 : gs.length = ops.size := by simpa using hlen.symm
    rwa [hl2, ← List.range_eq_range'] at this
  · have h1 := List.all_eq_true.1 hmks k (by rw [hrem] at hk; exact hk)
    simp only [hp, hlt, hmk, hdd, Bool.not_true, Bool.false_or, Bool.and_eq_true] at h1
    exact FreeS.of (List.all_eq_true.1 hm dd (by simpa using h1.1))
  · have h1 := List.all_eq_true.1 hfb p (List.mem_of_getElem? hp)
    simp only [freeB, hmk, Bool.not_true, Bool.false_or] at h1
    intro d
    have h2 := List.all_eq_true.1 h1 hh hhm
    have := fget_all (p := fun y => !borX ⟨C.E.dp, hh⟩ y) rfl _ h2 d
    simpa using this
theorem Conc.drawn {nt id : Nat} {ops : Array Oper} {Q : Exit → Act → World → Prop} {mks : List Nat} {gs : List DOp} {st' : St} (hR : RecAll C.P R) (hΩ : OrcOK C.P Ω) (hnt : nt ≤ C.nt) (hl : lowDr C.P nt ops mks gs = true) (h : Conc C st a w σ)
    (hm : (mks.all (freeOf C.E.dp st) && gs.all (freeB C.E.dp st)) = true) (he : execD R Ω C.E st gs = some st') (hK : ∀ a' w' σ', Stp C w σ w' σ' → Conc C st' a' w' σ' → Q .normal a' w') : (Code.region id ops true).wp C.P Q a w := by
  obtain ⟨h1, h2⟩ := h.drawnAny hR hΩ hnt hl hm he hK
  exact wp_region_any h1 h2
end
end Go.Proofs.Ytmfihcbafljcbaa.A
