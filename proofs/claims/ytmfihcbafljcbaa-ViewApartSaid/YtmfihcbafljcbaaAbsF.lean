/- What never changes again; what is kept; what a function hands back. -/
import Derived.Test.YtmfihcbafljcbaaAbsE
set_option linter.unusedSectionVars false
set_option linter.unusedVariables false
set_option linter.unusedSimpArgs false
set_option linter.constructorNameAsVariable false
namespace Go.Proofs.Ytmfihcbafljcbaa.A
open Go
variable [Base]
section
variable {C : Cx} {st : St} {a : Act} {w : World} {σ : Sp} {o : Oper} {d : Option Nat} {R : Rec} {Ω : Orc} {r : AV × St}

/-- a block that nobody owns any more never changes again. -/
def Sp.frz (σ : Sp) (g : Nat) : Sp := { σ with ow := fun b => if b = g then none else σ.ow b, I := fun b => σ.I b ∨ b = g }
theorem Conc.frzAt {g : Nat} {L : Lbl} (h : Conc C st a w σ) (hg : σ.ow g = some L) (hi : Idle C st (some L)) : Conc C st a w (σ.frz g) := by
  refine h.sameL (L := some L) ⟨fun b l hb hl => ⟨rfl, ?_⟩, fun _ _ => rfl, fun _ h => .inl h, rfl, Nat.le_refl _, fun b l hb => ?_, fun b hb => ?_⟩ hi
  · have : b ≠ g := fun e => hl (by subst e; rw [← hb, hg])
    simp only [Sp.frz, if_neg this, hb]
  · simp only [Sp.frz] at hb
    split at hb
    · cases hb
    · exact h.own b l hb
  · rcases hb with hb | rfl
    · obtain ⟨h1, h2⟩ := h.imm b hb
      refine ⟨h1, ?_⟩
      simp only [Sp.frz, h2]; split <;> rfl
    · exact ⟨h.own _ _ hg, by simp [Sp.frz]⟩
theorem Stp.frz {g : Nat} (hW : C.W g) : Stp C w σ w (σ.frz g) :=
  ⟨Nat.le_refl _, fun _ _ _ => rfl, fun _ h => .inl h, fun _ _ => rfl, fun b hb => hb.elim .inl fun e => .inr (by rw [e]; exact hW), fun _ _ => rfl, fun b _ hb => if_neg (fun e => hb (by rw [e]; exact hW)), rfl, rfl⟩
theorem RowAt.imm {P : Program} {W : Nat → Prop} {L : Lbl} {wp : Prop} {t : TypeId} {es : List AV} {g cap lo len : Nat} {cs : Array Value} {I : Nat → Prop} (hR : RowAt P W w σ L wp t es g cap cs) (hI : ∀ b, σ.I b → I b) (hg : I g)
    (hle : lo + len ≤ es.length) : VR w I σ.κ (.l t ((es.drop lo).take len)) (.slice (some ⟨g, lo * P.cellsOf t, none⟩) len (cap - lo)) := by
  have hm : ∀ e ∈ (es.drop lo).take len, e ∈ es := fun e he => List.mem_of_mem_drop (List.mem_of_mem_take he)
  have hlen : ((es.drop lo).take len).length = len := by simp; omega
  have hec := hR.ecap
  have := VR.l (w := w) (I := I) (κ := σ.κ) t ((es.drop lo).take len) g (lo * P.cellsOf t) (cap - lo) cs t (0, 0) (P.cellsOf t) hg hR.hh (fun _ => ⟨fun _ => ⟨rfl, rfl⟩, fun h => absurd hR.base (Nat.not_le_of_lt h)⟩) hR.pos (fun e he => hR.nc e (hm e he))
    (by rw [hlen, hR.size, ← Nat.add_mul]; exact Nat.mul_le_mul_right _ (by omega)) (fun e he => hR.pure e (hm e he)) (fun e he => hR.one e (hm e he)) (by omega) (by have := hR.max; omega) (fun j e m c hj hq => by
      rw [List.getElem?_take] at hj
      split at hj
      · rw [List.getElem?_drop] at hj
        have := hR.cell _ e m c hj hq
        rw [Nat.add_mul] at this
        exact this.noI hI (fun _ _ => rfl) (pure_cl (hR.pure e (List.mem_of_getElem? hj)) c (List.mem_of_getElem? hq))
      · cases hj)
  rwa [hlen] at this
theorem RowAt.imm0 {P : Program} {W : Nat → Prop} {L : Lbl} {wp : Prop} {t : TypeId} {es : List AV} {g cap : Nat} {cs : Array Value} {I : Nat → Prop} (hR : RowAt P W w σ L wp t es g cap cs) (hI : ∀ b, σ.I b → I b) (hg : I g) :
    VR w I σ.κ (.l t es) (.slice (some ⟨g, 0, none⟩) es.length cap) := by
  have := hR.imm hI hg (lo := 0) (len := es.length) (by omega)
  simpa using this
/-- a row that lies in hand is frozen. -/
theorem Conc.freeze {L : Lbl} {t : TypeId} {es : List AV} {v : Value} (h : Conc C st a w σ) (ho : OwnAt C.P C.W w σ L True t es v) (hi : Idle C st (some L)) :
    ∃ σ', Stp C w σ w σ' ∧ Conc C st a w σ' ∧ VR w σ'.I σ'.κ (.l t es) v ∧ σ'.κ = σ.κ := by
  rcases ho with ⟨rfl, rfl⟩ | ⟨g, cap, cs, rfl, hR⟩
  · exact ⟨σ, .refl _ _ _, h, .lnil _ _ _, rfl⟩
  · exact ⟨_, .frz (hR.wr trivial), h.frzAt hR.ow hi, hR.imm0 (I := (σ.frz g).I) (fun _ h => .inl h) (.inr rfl), rfl⟩

/-- the slots of a frame by what they hold. -/
theorem Conc.equiv {st' : St} (h : Conc C st a w σ) (hfr : ∀ d, fget st'.fr d = .u ∨ fget st'.fr d = fget st.fr d) (hbx : ∀ k cs, st'.box C.E.dp k = some cs → st.box C.E.dp k = some cs)
    (hhp : ∀ k cs, k.dp ≠ C.E.dp → st'.hp k = some cs → st.hp k = some cs) : Conc C st' a w σ := by
  have h1 : Conc C { st with hp := st'.hp } a w σ → Conc C st' a w σ := fun h1 => h1.forget hfr (fun k cs hk => by
    by_cases hd : k.dp = C.E.dp
    · have := hbx k cs hk
      simpa [St.box, hd] using this
    · simpa [St.box, hd] using hk) rfl
  refine h1 ⟨h.size, h.defers, fun d => (h.fr d).cong fun pl _ ⟨r, hr⟩ => ?_, fun k cs hk => ?_, fun k cs hk hc => h.hpd k cs hk (hhp k cs hk hc), h.own, h.imm, h.new, h.lay⟩
  · refine ⟨?_, rfl⟩
    rw [hr]
    cases pl with
    | s d' => exact hr.symm
    | c k off =>
      by_cases hd : k.dp = C.E.dp
      · simpa [St.rowAt, St.box, hd] using hr.symm
      · simp only [St.rowAt, St.box, if_neg hd] at hr ⊢
        cases hc : st'.hp k with
        | none => simp [hc] at hr
        | some cs =>
          rw [hhp k cs hd hc]
          simpa [hc] using hr.symm
  · by_cases hd : k.dp = C.E.dp
    · exact h.bx k cs (by simpa [St.box, hd] using hk)
    · simp only [St.box, if_neg hd] at hk
      exact h.bx k cs (by simp only [St.box, if_neg hd]; exact hhp k cs hd hk)
theorem fget_keepF (fr : List (Nat × AV)) (ks : List Nat) (d : Nat) : fget (keepF fr ks) d = .u ∨ fget (keepF fr ks) d = fget fr d := by
  induction ks with
  | nil => exact .inl rfl
  | cons k ks ih =>
    simp only [keepF, List.map_cons, fget]
    split
    · rename_i e; subst e; exact .inr rfl
    · exact ih
theorem bget_keepB {bx : List (Nat × List AV)} {ks : List Nat} {d : Nat} {cs : List AV} (h : bget (keepB bx ks) d = some cs) : bget bx d = some cs := by
  induction ks with
  | nil => simp [keepB, bget] at h
  | cons k ks ih =>
    simp only [keepB] at h
    split at h
    · rename_i cs' hk
      simp only [bget] at h
      split at h
      · rename_i e; subst e; rw [hk]; exact h
      · exact ih h
    · exact ih h
theorem Conc.keep (h : Conc C st a w σ) (kf kb : List Nat) : Conc C (st.keep kf kb) a w σ :=
  h.equiv (fget_keepF st.fr kf) (fun k cs hk => by
    by_cases hd : k.dp = C.E.dp
    · simp only [St.box, St.keep, hd, if_true] at hk ⊢
      exact bget_keepB hk
    · simp only [St.box, St.keep, if_neg hd] at hk ⊢
      exact hk) (fun _ _ _ h => h)

theorem Conc.fset {d : Nat} {x : AV} (h : Conc C st a w σ) (hx : SR C w σ st a d x (a.tmps.getD d undef)) (hb : ∀ t es, x = .o t es → ∀ d', (fget st.fr d').bor (.s d) = false) (hd : d < C.nt) : Conc C (st.fset d x) a w σ := by
  have := h.put hd hx hb
  have e : a.put (some d) (a.tmps.getD d undef) = a := by
    have hd' : d < a.tmps.size := h.size ▸ hd
    simp only [Act.put]
    have : a.tmps.setIfInBounds d (a.tmps.getD d undef) = a.tmps := by
      apply Array.ext_getElem?
      intro i
      rw [Array.getElem?_setIfInBounds]
      split
      · rename_i e; subst e; simp [hd']
      · rfl
    rw [this]
  rwa [e] at this
theorem SR_none {d : Nat} {x : AV} {v : Value} (hd : C.nt ≤ d) (h : Conc C st a w σ) (hx : fget st.fr d = x) (hv : a.tmps.getD d undef = v) : v = undef := by
  rw [← hv]
  have : ¬ d < a.tmps.size := by rw [h.size]; omega
  simp [this]
/-- the slots that are named are there. -/
theorem slot_lt {d : Nat} {t : TypeId} {es : List AV} (h : Conc C st a w σ) (hx : fget st.fr d = .o t es) : d < C.nt := by
  rcases Nat.lt_or_ge d C.nt with hd | hd
  · exact hd
  · have := h.fr d
    rw [hx, SR_none hd h rfl rfl] at this
    rcases this with ⟨_, h2⟩ | ⟨_, _, _, h2, _⟩ <;> cases h2
theorem slot_lt' {d : Nat} {x : AV} {v : Value} (h : Conc C st a w σ) (hv : a.tmps.getD d undef = v) (hne : v ≠ undef) : d < C.nt := by
  rcases Nat.lt_or_ge d C.nt with hd | hd
  · exact hd
  · exact absurd (by rw [← hv]; exact SR_none (x := fget st.fr d) hd h rfl rfl) hne
theorem CR_noO {k : Key} {off : Nat} {c : AV} {v : Value} (hc : c.pure = true) (h : CR C w σ k off c v) : VR w σ.I σ.κ c v := by
  cases c <;> first | exact h | cases hc

/-- a cell of a box is told to be another thing, which the same value is. -/
theorem Conc.recell {k : Key} {cs : List AV} {off : Nat} {x : AV} (h : Conc C st a w σ) (hb : st.box C.E.dp k = some cs) (hno : ∀ t es, cs[off]? ≠ some (.o t es)) (hx : x.one = true)
    (hdeep : k.dp ≠ C.E.dp → x.deep k.dp = true) (hbor : ∀ d, (fget st.fr d).bor (.c k off) = false)
    (hv : ∀ vs T, w.heap[σ.κ k]? = some (.cells vs T (0, 0)) → CR C w σ k off x (vs.getD off undef))
    (hzt : ∀ t kk u, x = .bp t kk u → ∀ vs T, w.heap[σ.κ k]? = some (.cells vs T (0, 0)) → t = T ∧ vs.size = cs.length := by intro _ _ _ e; cases e) : Conc C (st.setBox C.E.dp k (cs.set off x)) a w σ := by
  have hbox := fun k' => box_setBox (cs' := cs.set off x) hb k'
  obtain ⟨vs, T, hB⟩ := h.bx k cs hb
  refine ⟨h.size, h.defers, fun d => ?_, fun k' cs' hk => ?_, fun k' cs' hk hc' => ?_, h.own, h.imm, h.new, h.lay⟩
  · rw [fr_setBox]
    refine (h.fr d).cong fun pl hpl ⟨r, hr⟩ => ⟨?_, rfl⟩
    rw [hr]
    cases pl with
    | s d' => rw [rowAt_setBox_s] at hr; exact hr.symm
    | c k' off' =>
      simp only [St.rowAt, hbox] at hr ⊢
      by_cases hk : k' = k
      · subst hk
        by_cases ho : off = off'
        · subst ho
          rw [hbor d] at hpl; cases hpl
        · simp only [if_true, List.getElem?_set, if_neg ho] at hr
          simp only [hb]; exact hr.symm
      · simp only [if_neg hk] at hr
        exact hr.symm
  · rw [hbox] at hk
    by_cases hkk : k' = k
    · subst hkk
      simp only [if_true] at hk
      obtain rfl := Option.some.inj hk
      refine ⟨vs, T, hB.hh, by simpa using hB.size, hB.ow, hB.wr, fun c hm => ?_, fun i c hi => ?_, fun t kk u ht => (List.mem_or_eq_of_mem_set ht).elim (fun hm => by simpa using hB.ty t kk u hm) (fun e => by simpa using hzt t kk u e.symm vs T hB.hh), hB.kb⟩
      · rcases List.mem_or_eq_of_mem_set hm with hm | rfl
        · exact hB.one c hm
        · exact .inl hx
      · rw [List.getElem?_set] at hi
        split at hi
        · rename_i e
          split at hi
          · obtain rfl := Option.some.inj hi
            subst e
            exact hv vs T hB.hh
          · cases hi
        · exact hB.cell i c hi
    · simp only [if_neg hkk] at hk
      exact h.bx k' cs' hk
  · by_cases hkd : k.dp = C.E.dp
    · simp only [St.setBox, hkd, if_true] at hc'
      exact h.hpd k' cs' hk hc'
    · simp only [St.setBox, if_neg hkd, upd] at hc'
      split at hc'
      · rename_i hkk
        subst hkk
        obtain rfl := Option.some.inj hc'
        have hold := h.hpd k' cs hk (by simpa [St.box, hkd] using hb)
        refine ⟨hold.1, fun c hm => ?_⟩
        rcases List.mem_or_eq_of_mem_set hm with hm | rfl
        · exact hold.2 c hm
        · exact hdeep hkd
      · exact h.hpd k' cs' hk hc'

theorem set_set (cs : List AV) (off : Nat) (x y : AV) : (cs.set off x).set off y = cs.set off y := by
  apply List.ext_getElem?
  intro i
  simp only [List.getElem?_set, List.length_set]
  split <;> rfl
theorem bset_bset (bx : List (Nat × List AV)) (d : Nat) (x y : List AV) : bset (bset bx d x) d y = bset bx d y := by
  induction bx with
  | nil => rfl
  | cons z bx ih =>
    obtain ⟨k, c⟩ := z
    simp only [bset]
    split
    · rename_i e; subst e; simp [bset]
    · rename_i hne; simp only [bset, if_neg hne, ih]
theorem setBox_setBox (dp : Nat) (st : St) (k : Key) (x y : List AV) : (st.setBox dp k x).setBox dp k y = st.setBox dp k y := by
  unfold St.setBox
  split
  · simp only [bset_bset]
  · congr 1
    funext k'
    simp only [upd]
    split <;> rfl
theorem bor_dropped {st : St} {pl : Pl} (d : Nat) : (fget (st.dropB pl).fr d).bor pl = false := dropB_bor st pl d

theorem mine_dp {k : Key} {off : Nat} (h : k.dp = C.E.dp) : (Pl.c k off).mine C.E = true := by simp [Pl.mine, h]
def Lbl.dpt : Lbl → Nat
  | .box k => k.dp
  | .rowS dp _ => dp
  | .rowC k _ => k.dp
  | .grp dp _ => dp
  | .mark dp => dp
/-- a box that another function made becomes the slot's. -/
theorem Conc.adopt {d : Nat} {cs : List AV} {vs : Array Value} {T : TypeId} {g : Nat} {ow' : Nat → Option Lbl} (h : Conc C st a w σ) (how : ∀ b l, σ.ow b = some l → l.dpt ≤ C.E.dp → ow' b = some l) (hown : ∀ b l, ow' b = some l → b < w.heap.size) (himm : ∀ b, σ.I b → ow' b = none)
    (hh : w.heap[g]? = some (.cells vs T (0, 0))) (hkb : (1000000 ≤ d → T = (d - 1000000) / 1000) ∧ Base.n0 ≤ g) (hsz : cs.length ≤ vs.size) (hg : ow' g = some (.box ⟨C.E.dp, d⟩)) (hW : C.W g) (h1 : ∀ c ∈ cs, c.one = true ∨ c = .u)
    (hcell : ∀ (off : Nat) (c : AV), cs[off]? = some c → match c with
      | .o t es => OwnAt C.P C.W w ⟨σ.κ, ow', σ.I⟩ (.rowC ⟨C.E.dp, d⟩ off) True t es (vs.getD off undef)
      | c => c.pure = true ∧ VR w σ.I σ.κ c (vs.getD off undef))
    (hfr : ∀ d', (fget st.fr d').noK ⟨C.E.dp, d⟩ = true) (hbx : ∀ d' cs', bget st.bx d' = some cs' → ∀ c ∈ cs', c.noK ⟨C.E.dp, d⟩ = true) :
    Conc C { st with bx := (d, cs) :: st.bx } a w ⟨fun k => if k = ⟨C.E.dp, d⟩ then g else σ.κ k, ow', σ.I⟩ := by
  have hhp := hpd_noK h d
  have hkap : ∀ k, k ≠ ⟨C.E.dp, d⟩ → (if k = ⟨C.E.dp, d⟩ then g else σ.κ k) = σ.κ k := fun k hk => if_neg hk
  have hnk : ∀ (x : AV), x.noK ⟨C.E.dp, d⟩ = true → ∀ k, x.noK k = false → k ≠ ⟨C.E.dp, d⟩ := by
    intro x hx k hk e
    subst e
    rw [hx] at hk; cases hk
  have hrow : ∀ pl r, ({ st with bx := (d, cs) :: st.bx } : St).rowAt C.E.dp pl = some r → (∀ off, pl ≠ .c ⟨C.E.dp, d⟩ off) → st.rowAt C.E.dp pl = some r := by
    intro pl r hr hne
    cases pl with
    | s d' => exact hr
    | c k off =>
      simp only [St.rowAt, St.box] at hr ⊢
      by_cases hk : k.dp = C.E.dp
      · have hkd : d ≠ k.d := fun e => hne off (by cases k; simp at hk e; subst hk; subst e; rfl)
        simp only [hk, if_true, bget, if_neg hkd] at hr ⊢
        exact hr
      · simp only [if_neg hk] at hr ⊢
        exact hr
  have hmk : Marks C a.defers w ⟨fun k => if k = ⟨C.E.dp, d⟩ then g else σ.κ k, ow', σ.I⟩ := by
    obtain ⟨Ds, h0, h1, h2⟩ := h.defers
    exact ⟨Ds, h0, h1, fun D hD => ⟨how D _ (h2 D hD).1 (Nat.le_refl _), (h2 D hD).2⟩⟩
  refine ⟨h.size, hmk, fun d' => ?_, fun k cs' hk => ?_, h.hpd, hown, fun b hb => ⟨(h.imm b hb).1, himm b hb⟩, h.new, h.lay⟩
  · have hx := h.fr d'
    have hn := hfr d'
    have hpv : ∀ pl, (∀ off, pl ≠ .c ⟨C.E.dp, d⟩ off) → pval w ⟨fun k => if k = ⟨C.E.dp, d⟩ then g else σ.κ k, ow', σ.I⟩ a pl = pval w σ a pl := by
      intro pl hne
      cases pl with
      | s d'' => rfl
      | c k off =>
        have : k ≠ ⟨C.E.dp, d⟩ := fun e => hne off (by rw [e])
        simp only [pval, if_neg this]
    generalize fget st.fr d' = x at hx hn ⊢
    show SR _ _ _ _ _ _ x _
    cases x with
    | o t es => exact OwnAt.keep (C := C) hx (fun g hg => ⟨rfl, how _ _ hg (Nat.le_refl _)⟩) (fun _ h => h) (fun _ _ => rfl)
    | r pl =>
      have hne : ∀ off, pl ≠ .c ⟨C.E.dp, d⟩ off := fun off e => by subst e; simp [AV.noK] at hn
      intro hsm
      obtain ⟨r, hr⟩ := Option.isSome_iff_exists.1 hsm
      rw [hpv pl hne]
      exact hx (by rw [hrow pl r hr hne]; rfl)
    | v pl lo len =>
      have hne : ∀ off, pl ≠ .c ⟨C.E.dp, d⟩ off := fun off e => by subst e; simp [AV.noK] at hn
      intro t es ht hll
      rw [hpv pl hne]
      exact hx t es (hrow pl _ ht hne) hll
    | q pl i sz off =>
      have hne : ∀ off, pl ≠ .c ⟨C.E.dp, d⟩ off := fun off e => by subst e; simp [AV.noK] at hn
      intro t es ht hll
      rw [hpv pl hne]
      exact hx t es (hrow pl _ ht hne) hll
    | w g t x => exact WAt.keep hx (fun b hb => ⟨rfl, how _ _ hb (Nat.le_refl _)⟩) fun _ h => h
    | _ => exact VR.mono hx (fun _ h => h) (fun _ _ => rfl) fun k hk => hkap k (hnk _ hn k hk)
  · by_cases hK : k = ⟨C.E.dp, d⟩
    · subst hK
      simp only [St.box, if_true, bget] at hk
      obtain rfl := Option.some.inj hk
      refine ⟨vs, T, by simp only [if_true]; exact hh, hsz, by simp only [if_true]; exact hg, fun _ => by simp only [if_true]; exact hW, h1, fun off c hc => ?_, fun t _ _ ht => (by obtain ⟨m, hm⟩ := List.mem_iff_getElem?.1 ht; cases (hcell m _ hm).1), by simp only [if_true]; exact hkb⟩
      have hv := hcell off c hc
      by_cases ho : ∃ t es, c = .o t es
      · obtain ⟨t, es, rfl⟩ := ho
        rcases hv with hv | ⟨g', cap, cs', hv, hr⟩
        · exact .inl hv
        · exact .inr ⟨g', cap, cs', hv, ⟨hr.ow, fun _ => hr.wr trivial, hr.hh, hr.pos, hr.nc, hr.ecap, hr.max, hr.size, hr.pure, hr.one, fun j e m c he hc => (hr.cell j e m c he hc).noI (fun _ h => h) (fun _ _ => rfl) (pure_cl (hr.pure e (List.mem_of_getElem? he)) c (List.mem_of_getElem? hc)), hr.base⟩⟩
      · split at hv
        · exact absurd ⟨_, _, rfl⟩ ho
        · exact CR_any (hv.2.noI (fun _ h => h) (fun _ _ => rfl) hv.1)
    · have hk' : st.box C.E.dp k = some cs' := by
        simp only [St.box] at hk ⊢
        by_cases hkd : k.dp = C.E.dp
        · have hne : d ≠ k.d := fun e => hK (by cases k; simp at hkd e; subst hkd; subst e; rfl)
          simpa only [hkd, if_true, bget, if_neg hne] using hk
        · simpa only [if_neg hkd] using hk
      obtain ⟨vs', T', hB⟩ := h.bx k cs' hk'
      have hkdp : k.dp ≤ C.E.dp := by
        by_cases hkd : k.dp = C.E.dp
        · omega
        · simp only [St.box, if_neg hkd] at hk'
          exact Nat.le_of_lt (h.hpd k cs' hkd hk').1
      have hmem : ∀ c ∈ cs', c.noK ⟨C.E.dp, d⟩ = true := by
        by_cases hkd : k.dp = C.E.dp
        · simp only [St.box, hkd, if_true] at hk'
          exact hbx _ _ hk'
        · simp only [St.box, if_neg hkd] at hk'
          exact hhp k cs' hkd hk'
      refine ⟨vs', T', by simp only [if_neg hK]; exact hB.hh, hB.size, by simp only [if_neg hK]; exact how _ _ hB.ow hkdp, fun hw => by simp only [if_neg hK]; exact hB.wr hw, hB.one, fun off c hc => ?_, hB.ty, by simp only [if_neg hK]; exact hB.kb⟩
      exact CR.keep (C := C) (hB.cell off c hc) (fun g hg => ⟨rfl, how _ _ hg hkdp⟩) (fun _ h => h) (fun _ _ => rfl) (fun k hk => hkap k (hnk c (hmem c (List.mem_of_getElem? hc)) k hk)) fun b g hg => ⟨rfl, how _ _ hg (Nat.le_refl _)⟩
theorem flat_get (sz : Nat) : ∀ {es : List AV} {i : Nat} {c : AV}, (∀ e ∈ es, e.nc = sz) → (es.flatMap AV.cl)[i]? = some c → ∃ (j m : Nat) (e : AV), es[j]? = some e ∧ e.cl[m]? = some c ∧ i = j * sz + m
  | [], i, c, _, h => by simp at h
  | x :: es, i, c, hn, h => by
    have hx : x.cl.length = sz := hn x (by simp)
    rw [List.flatMap_cons] at h
    rcases Nat.lt_or_ge i sz with hi | hi
    · rw [List.getElem?_append_left (by omega)] at h
      exact ⟨0, i, x, rfl, h, by omega⟩
    · rw [List.getElem?_append_right (by omega)] at h
      obtain ⟨j, m, e, h1, h2, h3⟩ := flat_get sz (fun e he => hn e (by simp [he])) h
      exact ⟨j + 1, m, e, by simpa using h1, h2, by rw [Nat.add_mul]; omega⟩
theorem flat_len (sz : Nat) : ∀ {es : List AV}, (∀ e ∈ es, e.nc = sz) → (es.flatMap AV.cl).length = es.length * sz
  | [], _ => by simp
  | x :: es, hn => by
    have hx : x.cl.length = sz := hn x (by simp)
    rw [List.flatMap_cons, List.length_append, flat_len sz (fun e he => hn e (by simp [he])), hx, List.length_cons, Nat.add_mul]
    omega
theorem chunks_len (sz : Nat) : ∀ (n : Nat) (cs : List AV), (chunks sz n cs).length = n
  | 0, _ => rfl
  | n + 1, cs => by simp [chunks, chunks_len sz n]
theorem chunks_get (sz : Nat) (hsz : 0 < sz) : ∀ {n : Nat} {cs : List AV} {j : Nat} {e : AV}, (∀ c ∈ cs, c.one = true) → n * sz ≤ cs.length → (chunks sz n cs)[j]? = some e → e.cl = (cs.drop (j * sz)).take sz ∧ (j + 1) * sz ≤ cs.length ∧ (AV.pureL cs = true → e.pure = true)
  | 0, cs, j, e, _, _, h => by simp [chunks] at h
  | n + 1, cs, 0, e, h1, hl, h => by
    simp only [chunks, List.getElem?_cons_zero, Option.some.injEq] at h
    have hl' : sz ≤ cs.length := by rw [Nat.add_mul] at hl; omega
    refine ⟨?_, by omega, fun hp => ?_⟩
    · rw [Nat.zero_mul, List.drop_zero, ← h]
      split
      · rename_i e1
        subst e1
        cases cs with
        | nil => simp at hl'
        | cons c cs =>
          have hc := h1 c (by simp)
          cases c <;> first | rfl | (simp [AV.one] at hc)
      · rfl
    · rw [← h]
      split
      · rename_i e1
        subst e1
        cases cs with
        | nil => simp at hl'
        | cons c cs => exact pureL_mem hp c (by simp)
      · exact pureL_of fun c hc => pureL_mem hp c (List.mem_of_mem_take hc)
  | n + 1, cs, j + 1, e, h1, hl, h => by
    simp only [chunks, List.getElem?_cons_succ] at h
    have hl' : n * sz ≤ (cs.drop sz).length := by rw [List.length_drop]; rw [Nat.add_mul] at hl; omega
    obtain ⟨h2, h3, h4⟩ := chunks_get sz hsz (fun c hc => h1 c (List.mem_of_mem_drop hc)) hl' h
    rw [List.length_drop] at h3
    have hs : sz ≤ cs.length := by rw [Nat.add_mul] at hl; omega
    refine ⟨by rw [h2, List.drop_drop]; congr 2; rw [Nat.add_mul]; omega, by rw [Nat.add_mul]; omega, fun hp => h4 (pureL_of fun c hc => pureL_mem hp c (List.mem_of_mem_drop hc))⟩
/-- a row of a box becomes a box of its own. -/
theorem Conc.pin {k : Key} {off nd sz : Nat} {cs es : List AV} {t : TypeId} (h : Conc C st a w σ) (hkd : k.dp = C.E.dp) (hb : bget st.bx k.d = some cs) (hz : cs[off]? = some (.o t es)) (hne : es ≠ [])
    (hnc : ∀ e ∈ es, e.nc = sz) (hno : noPin C.E.dp (st.setBox C.E.dp k (cs.set off .u)) t nd = true) :
    ∃ σ', Stp C w σ w σ' ∧ Conc C ((({ (st.setBox C.E.dp k (cs.set off .u)) with bx := (nd, es.flatMap AV.cl) :: (st.setBox C.E.dp k (cs.set off .u)).bx } : St).dropB (.c k off)).setBox C.E.dp k ((cs.set off .u).set off (.sp ⟨C.E.dp, nd⟩ 0 es.length sz))) a w σ' := by
  have hb' : st.box C.E.dp k = some cs := by simp [St.box, hkd, hb]
  obtain ⟨vs, T, hB⟩ := h.bx k cs hb'
  have ho : OwnAt C.P C.W w σ (.rowC k off) ((Pl.c k off).mine C.E = true) t es (vs.getD off undef) := hB.cell _ _ hz
  rcases ho with ⟨rfl, _⟩ | ⟨g, cap, cs', hv, hR⟩
  · exact absurd rfl hne
  obtain ⟨h1, hi⟩ := h.losePl (pl := .c k off) (st' := st.setBox C.E.dp k (cs.set off .u)) (by simp [St.putAt, hb'])
  have h2 := h1.relabel (M := .box ⟨C.E.dp, nd⟩) hR.ow hi
  simp only [noPin, Bool.and_eq_true, decide_eq_true_eq] at hno
  have hsz : sz = C.P.cellsOf t := by
    cases es with
    | nil => exact absurd rfl hne
    | cons e es => exact (hnc e (by simp)).symm.trans (hR.nc e (by simp))
  have hWg : C.W g := hR.wr (mine_dp hkd)
  have h3 := h2.adopt (d := nd) (cs := es.flatMap AV.cl) (vs := cs') (T := t) (g := g) (ow' := fun b => if b = g then some (.box ⟨C.E.dp, nd⟩) else σ.ow b) (fun b l hb _ => hb) (fun b l hb => h2.own b l hb) (fun b hb => (h2.imm b hb).2)
    hR.hh ⟨fun _ => hno.1.1.2.symm, hR.base⟩ (by rw [flat_len sz hnc, hR.size, hsz]; exact Nat.mul_le_mul_right _ hR.ecap) (by simp) hWg (fun c hc => by
      obtain ⟨e, he, hce⟩ := List.mem_flatMap.1 hc
      exact .inl (hR.one e he c hce)) (fun i c hc => by
      obtain ⟨j, m, e, he, hm, rfl⟩ := flat_get sz hnc hc
      have hp := pure_cl (hR.pure e (List.mem_of_getElem? he)) c (List.mem_of_getElem? hm)
      have hcell := hR.cell j e m c he hm
      rw [← hsz] at hcell
      cases c with
      | o t' es' => cases hp
      | _ => exact ⟨hp, hcell⟩)
    (fget_all rfl _ hno.1.2) (fun d' cs2 hb2 c hc => noKL_mem (bget_all _ hno.2 d' cs2 hb2) c hc)
  have hnd : nd ≠ k.d := by
    intro e
    have h4 : bget (st.setBox C.E.dp k (cs.set off .u)).bx nd = none := by simpa using hno.1.1.1.1
    have h5 := box_setBox (cs' := cs.set off .u) hb' k
    rw [if_pos rfl] at h5
    simp only [St.box, hkd, if_true] at h5
    rw [e] at h4
    rw [h5] at h4; cases h4
  have hkk : k ≠ ⟨C.E.dp, nd⟩ := fun e => hnd (by rw [e])
  have hb4 : (({ (st.setBox C.E.dp k (cs.set off .u)) with bx := (nd, es.flatMap AV.cl) :: (st.setBox C.E.dp k (cs.set off .u)).bx } : St).dropB (.c k off)).box C.E.dp k = some (cs.set off .u) := by
    rw [box_dropB]
    have h5 := box_setBox (cs' := cs.set off .u) hb' k
    rw [if_pos rfl] at h5
    simp only [St.box, hkd, if_true, bget, if_neg hnd] at h5 ⊢
    exact h5
  have h5 := (h3.dropB (.c k off)).recell (x := .sp ⟨C.E.dp, nd⟩ 0 es.length sz) (off := off) hb4 (fun t' es' e => by rw [List.getElem?_set] at e; simp [lt_of_get hz] at e) rfl (fun hne => absurd hkd hne) (fun d' => dropB_bor _ _ _) (fun vs' T' hh => by
    simp only [if_neg hkk] at hh
    have hh : w.heap[σ.κ k]? = some (.cells vs' T' (0, 0)) := hh
    rw [hB.hh] at hh
    simp only [Option.some.injEq, Obj.cells.injEq] at hh
    rw [← hh.1, hv]
    have := VR.sp (w := w) (I := σ.I) (κ := fun k => if k = ⟨C.E.dp, nd⟩ then g else σ.κ k) ⟨C.E.dp, nd⟩ 0 es.length sz cap hR.ecap hR.max
    simp only [if_true] at this
    exact this)
  refine ⟨⟨fun k => if k = ⟨C.E.dp, nd⟩ then g else σ.κ k, fun b => if b = g then some (Lbl.box ⟨C.E.dp, nd⟩) else σ.ow b, σ.I⟩, ⟨Nat.le_refl _, fun _ _ _ => rfl, fun _ h => h, fun _ _ => rfl, fun _ h => .inl h, fun k' hk' => ?_, fun b _ hW => ?_, rfl, rfl⟩, h5⟩
  · have : k' ≠ ⟨C.E.dp, nd⟩ := fun e => by rw [e] at hk'; exact Nat.lt_irrefl _ hk'
    simp only [if_neg this]
  · have : b ≠ g := fun e => hW (by rw [e]; exact hWg)
    simp only [if_neg this]
theorem bget_filter_ne {bx : List (Nat × List AV)} {d e : Nat} (h : e ≠ d) : bget (bx.filter fun y => y.1 != d) e = bget bx e := by
  induction bx with
  | nil => rfl
  | cons z bx ih =>
    simp only [List.filter_cons]
    split
    · simp only [bget]
      split
      · rfl
      · exact ih
    · rename_i hz
      have hz' : z.1 = d := by simpa using hz
      simp only [bget]
      rw [if_neg (fun e2 => h (by rw [← e2, hz']))]
      exact ih
theorem bget_filter_eq {bx : List (Nat × List AV)} {d : Nat} : bget (bx.filter fun y => y.1 != d) d = none := by
  induction bx with
  | nil => rfl
  | cons z bx ih =>
    simp only [List.filter_cons]
    split
    · rename_i hz
      have hz' : z.1 ≠ d := by simpa using hz
      simp only [bget, if_neg hz', ih]
    · exact ih
/-- a box of its own becomes a row that never changes. -/
theorem Conc.unpin {k k2 : Key} {off n sz : Nat} {cs cs2 : List AV} (h : Conc C st a w σ) (hkd : k.dp = C.E.dp) (hb : bget st.bx k.d = some cs) (hz : cs[off]? = some (.sp k2 0 n sz)) (hk2 : k2.dp = C.E.dp) (hne : k2 ≠ k)
    (hb2 : bget st.bx k2.d = some cs2) (hp : AV.pureL cs2 = true) (hsz : 0 < sz) (hle : n * sz ≤ cs2.length) :
    ∃ σ', Stp C w σ w σ' ∧ Conc C ((({ st with bx := st.bx.filter fun y => y.1 != k2.d } : St).dropB (.c k off)).setBox C.E.dp k (cs.set off (.l 0 (chunks sz n cs2)))) a w σ' := by
  have hb' : st.box C.E.dp k = some cs := by simp [St.box, hkd, hb]
  have hb2' : st.box C.E.dp k2 = some cs2 := by simp [St.box, hk2, hb2]
  obtain ⟨vs, T, hB⟩ := h.bx k cs hb'
  obtain ⟨vs2, T2, hB2⟩ := h.bx k2 cs2 hb2'
  have hdd : k.d ≠ k2.d := fun e => hne (by cases k; cases k2; simp at hkd hk2 e; rw [hkd, hk2, e])
  have hpl := pureL_mem hp
  have hone : ∀ c ∈ cs2, c.one = true := fun c hc => (hB2.one c hc).resolve_right fun e => by have := hpl c hc; rw [e] at this; cases this
  have h1 : Conc C { st with bx := st.bx.filter fun y => y.1 != k2.d } a w σ := by
    refine h.equiv (fun _ => .inr rfl) (fun k' cs' hk => ?_) (fun _ _ _ h => h)
    by_cases hd : k'.dp = C.E.dp
    · simp only [St.box, hd, if_true] at hk ⊢
      by_cases he : k'.d = k2.d
      · rw [he, bget_filter_eq] at hk; cases hk
      · rw [bget_filter_ne he] at hk; exact hk
    · simp only [St.box, if_neg hd] at hk ⊢; exact hk
  have hgone : ({ st with bx := st.bx.filter fun y => y.1 != k2.d } : St).box C.E.dp k2 = none := by
    simp only [St.box, hk2, if_true]; exact bget_filter_eq
  have hi : Idle C { st with bx := st.bx.filter fun y => y.1 != k2.d } (some (.box k2)) :=
    ⟨fun _ _ _ _ => by simp, fun k' cs' hk e => (by simp only [Option.some.injEq, Lbl.box.injEq] at e; subst e; rw [hgone] at hk; cases hk), fun _ _ _ _ _ _ _ => by simp, fun _ => by simp, by simp⟩
  have h2 := h1.frzAt hB2.ow hi
  have hW : C.W (σ.κ k2) := hB2.wr (mine_dp hk2)
  have hb4 : (({ st with bx := st.bx.filter fun y => y.1 != k2.d } : St).dropB (.c k off)).box C.E.dp k = some cs := by
    rw [box_dropB]
    simp only [St.box, hkd, if_true]
    rw [bget_filter_ne hdd]; exact hb
  refine ⟨_, .frz hW, (h2.dropB (.c k off)).recell (x := .l 0 (chunks sz n cs2)) (off := off) hb4 (fun t' es' e => by rw [hz] at e; cases e) rfl (fun hne => absurd hkd hne) (fun d' => dropB_bor _ _ _) (fun vs' T' hh => ?_)⟩
  have hh' : w.heap[σ.κ k]? = some (.cells vs' T' (0, 0)) := hh
  rw [hB.hh] at hh'
  simp only [Option.some.injEq, Obj.cells.injEq] at hh'
  rw [← hh'.1]
  have hcell : VR w σ.I σ.κ (.sp k2 0 n sz) (vs.getD off undef) := hB.cell off _ hz
  generalize vs.getD off undef = v at hcell
  cases hcell with
  | sp _ _ _ _ cap hc1 hc2 =>
    show VR w _ _ _ _
    have hlen := chunks_len sz n cs2
    have := VR.l (w := w) (I := (σ.frz (σ.κ k2)).I) (κ := σ.κ) 0 (chunks sz n cs2) (σ.κ k2) 0 cap vs2 T2 (0, 0) sz (.inr rfl) hB2.hh (fun h => absurd rfl h) hsz (fun e he => ?_) ?_ (fun e he => ?_) (fun e he c hc => ?_) (by omega) hc2 (fun j e m c he hc => ?_)
    · rw [hlen] at this; exact this
    · obtain ⟨j, hj⟩ := List.mem_iff_getElem?.1 he
      obtain ⟨h3, h4, _⟩ := chunks_get sz hsz hone hle hj
      unfold AV.nc
      rw [h3, List.length_take, List.length_drop]
      rw [Nat.add_mul] at h4
      omega
    · rw [hlen]; have := hB2.size; omega
    · obtain ⟨j, hj⟩ := List.mem_iff_getElem?.1 he
      exact (chunks_get sz hsz hone hle hj).2.2 hp
    · obtain ⟨j, hj⟩ := List.mem_iff_getElem?.1 he
      obtain ⟨h3, _, _⟩ := chunks_get sz hsz hone hle hj
      rw [h3] at hc
      exact hone c (List.mem_of_mem_drop (List.mem_of_mem_take hc))
    · obtain ⟨h3, _, _⟩ := chunks_get sz hsz hone hle he
      rw [h3, List.getElem?_take] at hc
      split at hc
      · rw [List.getElem?_drop] at hc
        have hcm := List.mem_of_getElem? hc
        rw [Nat.zero_add]
        exact (CR_noO (hpl c hcm) (hB2.cell _ c hc)).noI (fun _ h => .inl h) (fun _ _ => rfl) (hpl c hcm)
      · cases hc
/-- what is told anew between two regions. -/
theorem Conc.pre1 {p : Pre} {st' : St} (h : Conc C st a w σ) (he : doPre1 C.E st p = some st') : ∃ σ', Stp C w σ w σ' ∧ Conc C st' a w σ' := by
  cases p with
  | own d t =>
    simp only [doPre1] at he
    split at he
    · rename_i hx
      obtain rfl := Option.some.inj he
      have hs := h.fr d
      rw [hx] at hs
      have hv := VR.n_inv hs
      refine ⟨σ, .refl _ _ _, (h.dropB (.s d)).fset (.inl ⟨rfl, hv⟩) (fun _ _ _ d' => dropB_bor _ _ _) (slot_lt' (x := .n) h hv (by simp [undef]))⟩
    · obtain rfl := Option.some.inj he
      exact ⟨σ, .refl _ _ _, h⟩
    · cases he
  | fz d =>
    simp only [doPre1] at he
    split at he
    · rename_i t es hx
      obtain rfl := Option.some.inj he
      have hs := h.fr d
      rw [hx] at hs
      obtain ⟨σ', hst, hc, hv, _⟩ := (h.lose d).freeze (L := .rowS C.E.dp d) hs (idle_slot fun t es => by rw [fget_fset, if_pos rfl]; simp)
      have := hc.fset (d := d) (x := .l t es) hv (fun _ _ e => by cases e) (slot_lt h hx)
      refine ⟨σ', hst, this.equiv (fun d' => .inr ?_) (fun _ _ h => h) (fun _ _ _ h => h)⟩
      simp only [fget_fset]; split <;> rfl
    · cases he
  | ownC d off t =>
    simp only [doPre1] at he
    split at he
    · rename_i k o hx
      split at he
      · rename_i hm
        obtain ⟨cs, hb, he1⟩ := Option.bind_eq_some_iff.1 he
        clear he
        split at he1
        · rename_i hcn
          obtain rfl := Option.some.inj he1
          refine ⟨σ, .refl _ _ _, (h.dropB (.c k (o + off))).recell hb (fun _ _ e => by rw [hcn] at e; cases e) rfl (fun _ => rfl) (fun d' => dropB_bor _ _ _) fun vs T hh => ?_⟩
          obtain ⟨vs', T', hB⟩ := h.bx k cs hb
          have := hB.cell _ _ hcn
          rw [hB.hh] at hh
          simp only [Option.some.injEq, Obj.cells.injEq] at hh
          rw [← hh.1]
          exact .inl ⟨rfl, VR.n_inv this⟩
        · obtain rfl := Option.some.inj he1
          exact ⟨σ, .refl _ _ _, h⟩
        · cases he1
      · cases he
    · cases he
  | fzC d off =>
    simp only [doPre1] at he
    split at he
    · rename_i k o hx
      split at he
      · rename_i hm
        obtain ⟨cs, hb, he1⟩ := Option.bind_eq_some_iff.1 he
        clear he
        split at he1
        · rename_i t es hco
          obtain rfl := Option.some.inj he1
          obtain ⟨vs, T, hB⟩ := h.bx k cs hb
          have ho : OwnAt C.P C.W w σ (.rowC k (o + off)) ((Pl.c k (o + off)).mine C.E = true) t es (vs.getD (o + off) undef) := hB.cell _ _ hco
          obtain ⟨h1, hi⟩ := h.losePl (pl := .c k (o + off)) (st' := st.setBox C.E.dp k (cs.set (o + off) .u)) (by simp [St.putAt, hb])
          obtain ⟨σ', hst, hc, hv, hkap⟩ := h1.freeze (ho.weak fun _ => hm) hi
          have hbx1 : (st.setBox C.E.dp k (cs.set (o + off) .u)).box C.E.dp k = some (cs.set (o + off) .u) := by rw [box_setBox hb, if_pos rfl]
          have hcell : (cs.set (o + off) AV.u)[o + off]? = some .u := by
            rw [List.getElem?_set]; simp [lt_of_get hco]
          have h2 := (hc.dropB (.c k (o + off))).recell (x := .l t es) (off := o + off) (cs := cs.set (o + off) .u) hbx1 (fun _ _ e => by rw [hcell] at e; cases e) rfl (fun _ => rfl) (fun d' => dropB_bor _ _ _) (fun vs' T' hh => by
            rw [hkap, hB.hh] at hh
            simp only [Option.some.injEq, Obj.cells.injEq] at hh
            rw [← hh.1]
            exact hv)
          rw [set_set] at h2
          -- the borrowed slots stay as they are: they borrow a place that owns nothing
          refine ⟨σ', hst, ?_⟩
          have e1 : ((st.setBox C.E.dp k (cs.set (o + off) .u)).dropB (.c k (o + off))).setBox C.E.dp k (cs.set (o + off) (.l t es)) =
              (st.setBox C.E.dp k (cs.set (o + off) (.l t es))).dropB (.c k (o + off)) := by
            have := setBox_setBox C.E.dp st k (cs.set (o + off) .u) (cs.set (o + off) (.l t es))
            unfold St.dropB
            unfold St.setBox at this ⊢
            split
            · rename_i hd; simp only [if_pos hd, bset_bset]
            · rename_i hd
              simp only [if_neg hd]
              congr 1
              funext k'
              simp only [upd]
              split <;> rfl
          rw [e1] at h2
          refine ⟨h2.size, h2.defers, fun d' => ?_, h2.bx, h2.hpd, h2.own, h2.imm, h2.new, h2.lay⟩
          have hnr : (st.setBox C.E.dp k (cs.set (o + off) (.l t es))).rowAt C.E.dp (.c k (o + off)) = none := by
            simp only [St.rowAt, box_setBox hb, if_true, List.getElem?_set, if_pos (lt_of_get hco)]
          by_cases hbb : (fget (st.setBox C.E.dp k (cs.set (o + off) (.l t es))).fr d').bor (.c k (o + off)) = true
          · cases hy : fget (st.setBox C.E.dp k (cs.set (o + off) (.l t es))).fr d' <;> rw [hy] at hbb <;> simp [AV.bor] at hbb
            · subst hbb; intro hs; rw [hnr] at hs; cases hs
            · subst hbb; intro t' es' hs; rw [hnr] at hs; cases hs
            · subst hbb; intro t' es' hs; rw [hnr] at hs; cases hs
          · have := h2.fr d'
            have e2 : fget ((st.setBox C.E.dp k (cs.set (o + off) (.l t es))).dropB (.c k (o + off))).fr d' = fget (st.setBox C.E.dp k (cs.set (o + off) (.l t es))).fr d' := by
              simp only [St.dropB, fget_drop, if_neg hbb]
            rw [e2] at this
            exact this.cong fun pl _ _ => ⟨(rowAt_dropB _ _ _ _).symm, rfl⟩
        · obtain rfl := Option.some.inj he1
          exact ⟨σ, .refl _ _ _, h⟩
        · obtain rfl := Option.some.inj he1
          exact ⟨σ, .refl _ _ _, h.loseCell hb⟩
        · obtain rfl := Option.some.inj he1
          exact ⟨σ, .refl _ _ _, h⟩
        · cases he1
      · cases he
    · cases he
  | fzB d agg =>
    simp only [doPre1] at he
    split at he
    · rename_i k hx
      split at he
      · rename_i hkd
        obtain ⟨cs, hb, he1⟩ := Option.bind_eq_some_iff.1 he
        clear he
        split at he1
        · rename_i hp
          have hb' : st.box C.E.dp k = some cs := by simp [St.box, hkd, hb]
          obtain ⟨vs, T, hB⟩ := h.bx k cs hb'
          have hs := h.fr d
          rw [hx] at hs
          have hv := VR.p_inv hs
          have hpl := pureL_mem hp
          have hno : ∀ c ∈ cs, ∀ t es, c ≠ .o t es := fun c hc t es e => by have := hpl c hc; rw [e] at this; cases this
          have hone : ∀ c ∈ cs, c.one = true := fun c hc => (hB.one c hc).resolve_right fun e => by have := hpl c hc; rw [e] at this; cases this
          -- the box is out of sight
          have h1 : Conc C { st with bx := st.bx.filter fun y => y.1 != k.d } a w σ := by
            refine h.equiv (fun _ => .inr rfl) (fun k' cs' hk => ?_) (fun _ _ _ h => h)
            by_cases hd : k'.dp = C.E.dp
            · simp only [St.box, hd, if_true] at hk ⊢
              have hf : ∀ bx : List (Nat × List AV), bget (bx.filter fun y => y.1 != k.d) k'.d = some cs' → bget bx k'.d = some cs' := by
                intro bx
                induction bx with
                | nil => exact id
                | cons z bx ih =>
                  intro hz
                  simp only [List.filter_cons] at hz
                  split at hz
                  · simp only [bget] at hz ⊢
                    split
                    · rename_i e; rw [if_pos e] at hz; exact hz
                    · rename_i e; rw [if_neg e] at hz; exact ih hz
                  · rename_i hne
                    simp only [bget]
                    split
                    · rename_i e
                      exfalso
                      have h3 : z.1 = k.d := by simpa using hne
                      have hf2 : ∀ bx : List (Nat × List AV), bget (bx.filter fun y => y.1 != k.d) k.d = none := by
                        intro bx
                        induction bx with
                        | nil => rfl
                        | cons y bx ih =>
                          simp only [List.filter_cons]
                          split
                          · rename_i h4
                            have : y.1 ≠ k.d := by simpa using h4
                            simp only [bget, if_neg this, ih]
                          · exact ih
                      rw [← e, h3, hf2] at hz; cases hz
                    · exact ih hz
              exact hf _ hk
            · simp only [St.box, if_neg hd] at hk ⊢; exact hk
          have hgone : ({ st with bx := st.bx.filter fun y => y.1 != k.d } : St).box C.E.dp k = none := by
            simp only [St.box, hkd, if_true]
            have hf2 : ∀ bx : List (Nat × List AV), bget (bx.filter fun y => y.1 != k.d) k.d = none := by
              intro bx
              induction bx with
              | nil => rfl
              | cons y bx ih =>
                simp only [List.filter_cons]
                split
                · rename_i h4
                  have : y.1 ≠ k.d := by simpa using h4
                  simp only [bget, if_neg this, ih]
                · exact ih
            exact hf2 _
          have hi : Idle C { st with bx := st.bx.filter fun y => y.1 != k.d } (some (.box k)) :=
            ⟨fun _ _ _ _ => by simp, fun k' cs' hk e => (by simp only [Option.some.injEq, Lbl.box.injEq] at e; subst e; rw [hgone] at hk; cases hk), fun _ _ _ _ _ _ _ => by simp, fun _ => by simp, by simp⟩
          have h2 := h1.frzAt hB.ow hi
          have hW : C.W (σ.κ k) := hB.wr (mine_dp hkd)
          have hlt : d < C.nt := slot_lt' (x := .p k 0) h hv (by simp [undef])
          have hfin : ∀ x : AV, x.cl = cs → x.pure = true → (∀ t es, x ≠ .o t es) → Conc C { (st.fset d (.e x 0)) with bx := st.bx.filter fun y => y.1 != k.d } a w (σ.frz (σ.κ k)) := by
            intro x hcl hxp _
            refine h2.fset (d := d) (x := .e x 0) ?_ (fun _ _ e => by cases e) hlt
            rw [hv]
            have := VR.e (w := w) (I := (σ.frz (σ.κ k)).I) (κ := (σ.frz (σ.κ k)).κ) x 0 (σ.κ k) 0 vs T (0, 0) (.inr rfl) hB.hh hxp (by unfold AV.nc; rw [hcl]; have := hB.size; omega) (by rw [hcl]; exact hone) (fun m c hm => by
              rw [hcl] at hm
              rw [Nat.zero_add]
              have hcm := List.mem_of_getElem? hm
              exact (CR_noO (hpl c hcm) (hB.cell m c hm)).noI (fun _ h => .inl h) (fun _ _ => rfl) (hpl c hcm))
            exact this
          split at he1
          · obtain rfl := Option.some.inj he1
            exact ⟨_, .frz hW, hfin (.a cs) rfl (pureL_of hpl) (fun _ _ e => by cases e)⟩
          · split at he1
            · rename_i c
              obtain rfl := Option.some.inj he1
              have hc1 := hone c (by simp)
              have hcl : c.cl = [c] := by cases c <;> first | rfl | (simp [AV.one] at hc1)
              exact ⟨_, .frz hW, hfin c hcl (hpl c (by simp)) (hno c (by simp))⟩
            · cases he1
        · cases he1
      · cases he
    · cases he
  | pin d off nd sz =>
    simp only [doPre1] at he
    split at he
    · rename_i k o hx
      split at he
      · rename_i hkd
        obtain ⟨cs, hb, he1⟩ := Option.bind_eq_some_iff.1 he
        clear he
        have hb' : st.box C.E.dp k = some cs := by simp [St.box, hkd, hb]
        split at he1
        · rename_i t es hco
          split at he1
          · rename_i hem
            obtain rfl := Option.some.inj he1
            obtain rfl : es = [] := by simpa using hem
            obtain ⟨vs, T, hB⟩ := h.bx k cs hb'
            have ho : OwnAt C.P C.W w σ (.rowC k (o + off)) ((Pl.c k (o + off)).mine C.E = true) t [] (vs.getD (o + off) undef) := hB.cell _ _ hco
            obtain ⟨h1, hi⟩ := h.losePl (pl := .c k (o + off)) (st' := st.setBox C.E.dp k (cs.set (o + off) .u)) (by simp [St.putAt, hb'])
            have hb1 : ((st.setBox C.E.dp k (cs.set (o + off) .u)).dropB (.c k (o + off))).box C.E.dp k = some (cs.set (o + off) .u) := by rw [box_dropB, box_setBox hb', if_pos rfl]
            refine ⟨σ, .refl _ _ _, (h1.dropB (.c k (o + off))).recell (x := .l 0 []) (off := o + off) hb1 (fun t' es' e => by rw [List.getElem?_set] at e; simp [lt_of_get hco] at e) rfl (fun _ => rfl) (fun d' => dropB_bor _ _ _) (fun vs' T' hh => ?_)⟩
            rw [hB.hh] at hh
            simp only [Option.some.injEq, Obj.cells.injEq] at hh
            rw [← hh.1]
            rcases ho with ⟨_, hv⟩ | ⟨g, cap, cs', hv, _⟩
            · rw [hv]; exact VR.lnil _ _ _
            · rw [hv]; exact VR.lnil _ _ _
          · rename_i hem
            split at he1
            · rename_i hc
              obtain rfl := Option.some.inj he1
              simp only [Bool.and_eq_true] at hc
              exact h.pin hkd hb hco (fun e => hem (by simp [e])) (fun e he => by simpa using List.all_eq_true.1 hc.1 e he) hc.2
            · cases he1
        · obtain rfl := Option.some.inj he1
          exact ⟨σ, .refl _ _ _, h⟩
        · cases he1
      · cases he
    · cases he
  | unp d off =>
    simp only [doPre1] at he
    split at he
    · rename_i k o hx
      split at he
      · rename_i hkd
        obtain ⟨cs, hb, he1⟩ := Option.bind_eq_some_iff.1 he
        clear he
        split at he1
        · rename_i k2 n sz hco
          split at he1
          · rename_i hk2
            obtain ⟨cs2, hb2, he2⟩ := Option.bind_eq_some_iff.1 he1
            split at he2
            · rename_i hc
              obtain rfl := Option.some.inj he2
              simp only [Bool.and_eq_true, decide_eq_true_eq] at hc
              exact h.unpin hkd hb hco hk2.1 hk2.2 hb2 hc.1.1 hc.1.2 hc.2
            · cases he2
          · cases he1
        · obtain rfl := Option.some.inj he1
          exact ⟨σ, .refl _ _ _, h⟩
        · cases he1
      · cases he
    · cases he
theorem Conc.pre : ∀ (ps : List Pre) {st st' : St} {σ : Sp}, Conc C st a w σ → doPre C.E st ps = some st' → ∃ σ', Stp C w σ w σ' ∧ Conc C st' a w σ'
  | [], st, st', σ, h, he => by obtain rfl := Option.some.inj he; exact ⟨σ, .refl _ _ _, h⟩
  | p :: ps, st, st', σ, h, he => by
    obtain ⟨st1, h1, h2⟩ := Option.bind_eq_some_iff.1 he
    obtain ⟨σ1, hs1, hc1⟩ := h.pre1 h1
    obtain ⟨σ2, hs2, hc2⟩ := Conc.pre ps hc1 h2
    exact ⟨σ2, hs1.trans hs2, hc2⟩
end
end Go.Proofs.Ytmfihcbafljcbaa.A
