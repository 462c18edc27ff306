/- Stores: the model does what the abstract run says. -/
import Derived.Test.YtmfihcbafljcbaaAbsA
set_option linter.unusedSectionVars false
set_option linter.unusedVariables false
set_option linter.unusedSimpArgs false
set_option linter.constructorNameAsVariable false
namespace Go.Proofs.Ytmfihcbafljcbaa.A
open Go
variable [Base]
section
variable {C : Cx} {st : St} {a : Act} {w : World} {σ : Sp} {o : Oper} {d : Option Nat} {R : Rec} {Ω : Orc} {r : AV × St}

theorem bget_bset (bx : List (Nat × List AV)) (d : Nat) (cs : List AV) (d' : Nat) :
    bget (bset bx d cs) d' = if d' = d then (bget bx d).map fun _ => cs else bget bx d' := by
  induction bx with
  | nil => simp [bset, bget]
  | cons x bx ih =>
    obtain ⟨k, c⟩ := x
    simp only [bset]
    by_cases hk : k = d
    · subst hk
      simp only [if_true, bget]
      by_cases hd : d' = k
      · subst hd; simp
      · rw [if_neg (fun e => hd e.symm), if_neg hd, if_neg (fun e => hd e.symm)]
    · simp only [if_neg hk, bget]
      by_cases hd : d' = d
      · subst hd
        simp only [if_neg hk, ih, if_true]
      · by_cases hkd : k = d'
        · subst hkd; simp [hd]
        · simp only [if_neg hkd, ih, if_neg hd]
theorem box_setBox {dp : Nat} {k : Key} {cs cs' : List AV} (h : st.box dp k = some cs) (k' : Key) :
    (st.setBox dp k cs').box dp k' = if k' = k then some cs' else st.box dp k' := by
  simp only [St.box] at h
  by_cases hk : k.dp = dp
  · simp only [hk, if_true] at h
    simp only [St.box, St.setBox, hk, if_true, bget_bset, h, Option.map_some]
    by_cases hk' : k' = k
    · subst hk'; simp [hk]
    · by_cases hd : k'.dp = dp
      · have : k'.d ≠ k.d := fun e => hk' (by cases k; cases k'; simp at hk hd e; subst hk; subst hd; subst e; rfl)
        simp [hd, this, hk']
      · simp [hd, hk']
  · simp only [if_neg hk] at h
    simp only [St.box, St.setBox, if_neg hk, upd]
    by_cases hk' : k' = k
    · subst hk'; simp [hk]
    · simp [hk']
theorem fr_setBox (dp : Nat) (st : St) (k : Key) (cs : List AV) : (st.setBox dp k cs).fr = st.fr := by
  unfold St.setBox; split <;> rfl
theorem rowAt_setBox_s {dp : Nat} {k : Key} {cs : List AV} (d : Nat) : (st.setBox dp k cs).rowAt dp (.s d) = st.rowAt dp (.s d) := by
  simp only [St.rowAt, fr_setBox]

theorem Same.setRow (h : Conc C st a w σ) {g : Nat} {L : Lbl} (how : σ.ow g = some L) (cs : Array Value) : Same C w σ (w.setRow g cs) σ (some L) :=
  ⟨fun b l hb hl => ⟨setRow_other w g b cs (fun e => hl (by subst e; rw [← hb, how])), hb⟩,
   fun b hb => setRow_other w g b cs (fun e => by subst e; have := (h.imm b hb).2; rw [how] at this; cases this),
   fun _ h => h, rfl, by simp, fun b l hb => by simpa using h.own b l hb, fun b hb => by simpa using h.imm b hb⟩
theorem Stp.setRow (h : Conc C st a w σ) {g : Nat} {L : Lbl} (how : σ.ow g = some L) (hW : C.W g) (cs : Array Value) : Stp C w σ (w.setRow g cs) σ :=
  ⟨by simp, fun b _ hb => setRow_other w g b cs (fun e => hb (by subst e; exact hW)), fun _ h => h, (Same.setRow h how cs).imm, fun _ h => .inl h, fun _ _ => rfl, fun _ _ _ => rfl, rfl, rfl⟩
/-- the memory of a row of cells, some of them written anew. -/
def wrt (vs : Array Value) (off : Nat) (us : List Value) : Array Value := (vs.toList.take off ++ us ++ vs.toList.drop (off + us.length)).toArray
theorem size_wrt (vs : Array Value) (off : Nat) (us : List Value) (h : off + us.length ≤ vs.size) : (wrt vs off us).size = vs.size := by
  simp [wrt]; omega
theorem getD_wrt (vs : Array Value) (off : Nat) (us : List Value) (h : off + us.length ≤ vs.size) (i : Nat) :
    (wrt vs off us).getD i undef = if off ≤ i ∧ i < off + us.length then us[i - off]?.getD undef else vs.getD i undef := by
  have h1 : (vs.toList.take off).length = off := by simp; omega
  simp only [wrt, Array.getD_eq_getD_getElem?, List.getElem?_toArray]
  rw [List.append_assoc, List.getElem?_append, h1]
  by_cases hi : i < off
  · rw [if_pos hi, if_neg (by omega), List.getElem?_take, if_pos hi]; simp
  · rw [if_neg hi, List.getElem?_append]
    by_cases hj : i < off + us.length
    · rw [if_pos (by omega), if_pos (by omega)]
    · rw [if_neg (by omega), if_neg (by omega), List.getElem?_drop]
      have : off + us.length + (i - off - us.length) = i := by omega
      rw [this]; simp

/-- cells of a box are written. -/
theorem Conc.storeBox {k : Key} {cs : List AV} {vs : Array Value} {T : TypeId} {off : Nat} {ys : List AV} {us : List Value} (h : Conc C st a w σ) (hb : st.box C.E.dp k = some cs) (hB : BoxAt C w σ k cs vs T)
    (hl : ys.length = us.length) (hle : off + ys.length ≤ cs.length) (h1 : ∀ c ∈ ys, c.one = true) (hc : ∀ (j : Nat) (c : AV), ys[j]? = some c → CR C w σ k (off + j) c (us[j]?.getD undef))
    (hbor : ∀ (j : Nat) t es, ys[j]? = some (.o t es) → ∀ d, (fget st.fr d).bor (.c k (off + j)) = false) (hdeep : k.dp ≠ C.E.dp → ∀ c ∈ ys, c.deep k.dp = true) (hzt : ∀ t k u, AV.bp t k u ∈ ys → t = T ∧ vs.size = cs.length) :
    Conc C (st.setBox C.E.dp k (putCells cs off ys)) a (w.setRow (σ.κ k) (wrt vs off us)) σ := by
  have hs := Same.setRow h hB.ow (wrt vs off us)
  have hsz : off + us.length ≤ vs.size := by have := hB.size; omega
  have hbox := fun k' => box_setBox (cs' := putCells cs off ys) hb k'
  have hheap : (w.setRow (σ.κ k) (wrt vs off us)).heap[σ.κ k]? = some (.cells (wrt vs off us) T (0, 0)) := setRow_heap w _ _ _ _ _ hB.hh
  have hother : ∀ k', k' ≠ k → st.box C.E.dp k' ≠ none → (w.setRow (σ.κ k) (wrt vs off us)).heap[σ.κ k']? = w.heap[σ.κ k']? := by
    intro k' hne hb'
    obtain ⟨cs', hcs'⟩ := Option.ne_none_iff_exists'.1 hb'
    obtain ⟨vs', T', hB'⟩ := h.bx k' cs' hcs'
    exact (hs.blk _ _ hB'.ow (by simp [hne])).1
  have hinside : ∀ i, ¬ (off ≤ i ∧ i < off + ys.length) → (putCells cs off ys)[i]? = cs[i]? := by
    intro i hi; rw [getElem?_putCells _ _ _ hle, if_neg hi]
  -- a row that is borrowed lies where it lay
  have hrow : ∀ pl r, (st.setBox C.E.dp k (putCells cs off ys)).rowAt C.E.dp pl = some r → (∀ j t es, ys[j]? = some (.o t es) → pl ≠ .c k (off + j)) →
      st.rowAt C.E.dp pl = some r ∧ pval (w.setRow (σ.κ k) (wrt vs off us)) σ a pl = pval w σ a pl := by
    intro pl r hr hne
    cases pl with
    | s d' => rw [rowAt_setBox_s] at hr; exact ⟨hr, rfl⟩
    | c k' off' =>
      simp only [St.rowAt, hbox] at hr
      by_cases hk : k' = k
      · subst hk
        simp only [if_true] at hr
        by_cases hi : off ≤ off' ∧ off' < off + ys.length
        · exfalso
          rw [getElem?_putCells _ _ _ hle, if_pos hi] at hr
          cases hy : ys[off' - off]? with
          | none => simp [hy] at hr
          | some c =>
            cases c <;> simp [hy] at hr
            exact hne _ _ _ hy (by rw [show off + (off' - off) = off' by omega])
        · rw [hinside off' hi] at hr
          refine ⟨by simp only [St.rowAt, hb]; exact hr, ?_⟩
          simp only [pval, hheap, hB.hh]
          rw [getD_wrt _ _ _ hsz, if_neg (by omega)]
      · simp only [if_neg hk] at hr
        refine ⟨by simp only [St.rowAt]; exact hr, ?_⟩
        have : st.box C.E.dp k' ≠ none := fun e => by simp [e] at hr
        simp only [pval, hother k' hk this]
  refine ⟨h.size, h.defers.same hs (by simp), fun d' => ?_, fun k' cs' hk => ?_, fun k' cs' hk hc' => ?_, hs.own, hs.dn, fun b hb => h.new b (by simpa using hb), h.lay.keep hs.up hs.imm⟩
  · have hx := h.fr d'
    have hnb : ∀ pl, (fget st.fr d').bor pl = true → ∀ j t es, ys[j]? = some (.o t es) → pl ≠ .c k (off + j) := by
      intro pl hpl j t es hj e
      subst e
      rw [hbor j t es hj d'] at hpl; cases hpl
    rw [fr_setBox]
    generalize fget st.fr d' = x at hx hnb ⊢
    cases x with
    | o t es => exact OwnAt.same hs (by simp) hx
    | r pl =>
      intro hsm
      obtain ⟨r, hr⟩ := Option.isSome_iff_exists.1 hsm
      obtain ⟨h2, h3⟩ := hrow pl r hr (hnb pl (by simp [AV.bor]))
      rw [h3]
      exact hx (by rw [h2]; rfl)
    | v pl lo len =>
      intro t es ht hll
      obtain ⟨h2, h3⟩ := hrow pl _ ht (hnb pl (by simp [AV.bor]))
      rw [h3]
      exact hx t es h2 hll
    | q pl i sz off =>
      intro t es ht hll
      obtain ⟨h2, h3⟩ := hrow pl _ ht (hnb pl (by simp [AV.bor]))
      rw [h3]
      exact hx t es h2 hll
    | w g t x => exact WAt.same hs (by simp [Pl.lbl]) hx
    | _ => exact VR.same hs hx
  · rw [hbox] at hk
    by_cases hkk : k' = k
    · subst hkk
      simp only [if_true] at hk
      obtain rfl := Option.some.inj hk
      refine ⟨wrt vs off us, T, hheap, by rw [size_wrt _ _ _ hsz, length_putCells _ _ _ hle]; exact hB.size, hB.ow, hB.wr, fun c hm => ?_, fun i c hi => ?_, fun t kk u ht => ?_, hB.kb⟩
      · unfold putCells at hm
        rcases List.mem_append.1 hm with hm | hm
        · rcases List.mem_append.1 hm with hm | hm
          · exact hB.one c (List.mem_of_mem_take hm)
          · exact .inl (h1 c hm)
        · exact hB.one c (List.mem_of_mem_drop hm)
      · rw [getD_wrt _ _ _ hsz]
        rw [getElem?_putCells _ _ _ hle] at hi
        rw [hl] at hi
        by_cases hin : off ≤ i ∧ i < off + us.length
        · rw [if_pos hin] at hi ⊢
          have := hc (i - off) c hi
          rw [show off + (i - off) = i by omega] at this
          exact CR.same hs (by simp) this
        · rw [if_neg hin] at hi ⊢
          exact CR.same hs (by simp) (hB.cell i c hi)
      · rw [size_wrt _ _ _ hsz, length_putCells _ _ _ hle]
        unfold putCells at ht
        rcases List.mem_append.1 ht with ht | ht
        · rcases List.mem_append.1 ht with ht | ht
          · exact hB.ty t kk u (List.mem_of_mem_take ht)
          · exact hzt t kk u ht
        · exact hB.ty t kk u (List.mem_of_mem_drop ht)
    · simp only [if_neg hkk] at hk
      obtain ⟨vs', T', hB'⟩ := h.bx k' cs' hk
      exact ⟨vs', T', (hother k' hkk (by simp [hk])).trans hB'.hh, hB'.size, hB'.ow, hB'.wr, hB'.one, fun i c hi => CR.same hs (by simp) (hB'.cell i c hi), hB'.ty, hB'.kb⟩
  · by_cases hkd : k.dp = C.E.dp
    · simp only [St.setBox, hkd, if_true] at hc'
      exact h.hpd k' cs' hk hc'
    · simp only [St.setBox, if_neg hkd, upd] at hc'
      split at hc'
      · rename_i hkk
        subst hkk
        obtain rfl := Option.some.inj hc'
        have hold := h.hpd k' cs hk (by simpa [St.box, hkd] using hb)
        refine ⟨hold.1, fun c hm => ?_⟩
        unfold putCells at hm
        rcases List.mem_append.1 hm with hm | hm
        · rcases List.mem_append.1 hm with hm | hm
          · exact hold.2 c (List.mem_of_mem_take hm)
          · exact hdeep hkd c hm
        · exact hold.2 c (List.mem_of_mem_drop hm)
      · exact h.hpd k' cs' hk hc'

theorem set_putCells (cs : List AV) (off : Nat) (x : AV) (h : off < cs.length) : cs.set off x = putCells cs off [x] := by
  apply List.ext_getElem?
  intro i
  rw [getElem?_putCells _ _ _ (by simp only [List.length_singleton]; omega), List.getElem?_set]
  by_cases hi : off = i
  · subst hi; simp [h]
  · rw [if_neg hi, if_neg (by simp; omega)]
/-- a store into cells of a block that is not frozen. -/
theorem run_storeAt {t : TypeId} {g off : Nat} {vs : Array Value} {T : TypeId} {v : Value} {n : Nat} (hh : w.heap[g]? = some (.cells vs T (0, 0))) (hs : sized C.P t n = true) (hn : v.cells.size = n)
    (hle : off + n ≤ vs.size) (h1 : ∀ u ∈ v.cells.toList, u.oneCell' = true) :
    (Instr.storeAt t (.pointer (some ⟨g, off, none⟩)) v).run C.P w = .ok () (w.setRow g (wrt vs off v.cells.toList)) := by
  obtain ⟨hinfo, hcells, _⟩ := sized_inv hs
  have := run_storeCells_at C.P g off T v.cells.toList 0 vs w hh (by simp; omega) h1
  simp only [Nat.add_zero] at this
  simp [Instr.storeAt, Instr.sureAddr, storeVar, run_sizeOf' hinfo, hcells, hn, this, wrt]

theorem putCl_cl {e : AV} {off : Nat} {ys : List AV} (hle : off + ys.length ≤ e.nc) (h1 : ∀ c ∈ ys, c.one = true) : (putCl e off ys).cl = putCells e.cl off ys := by
  by_cases ha : ∃ cs, e = .a cs
  · obtain ⟨cs, rfl⟩ := ha; rfl
  · have hcl : e.cl = [e] := by cases e <;> first | rfl | exact absurd ⟨_, rfl⟩ ha
    have hnc : e.nc = 1 := by simp [AV.nc, hcl]
    have hput : putCl e off ys = onlyOr e ys := by cases e <;> first | rfl | exact absurd ⟨_, rfl⟩ ha
    rw [hput, hcl]
    rw [hnc] at hle
    match ys, hle, h1 with
    | [], hle, _ =>
      have : off = 0 ∨ off = 1 := by simp at hle; omega
      rcases this with rfl | rfl <;> simp [putCells, hcl, onlyOr]
    | [y], hle, h1 =>
      have : off = 0 := by simp at hle; omega
      subst this
      have := h1 y (by simp)
      have hy : y.cl = [y] := by cases y <;> first | rfl | (simp [AV.one] at this)
      simp [putCells, hy, onlyOr]
    | y :: z :: ys, hle, _ => simp at hle; omega
theorem pureL_cl {x : AV} (h : ∀ c ∈ x.cl, c.pure = true) : x.pure = true := by
  cases x with
  | a cs => exact pureL_of h
  | _ => exact h _ (by simp [AV.cl])
theorem mem_putCells {cs : List AV} {off : Nat} {ys : List AV} {c : AV} (h : c ∈ putCells cs off ys) : c ∈ cs ∨ c ∈ ys := by
  unfold putCells at h
  rcases List.mem_append.1 h with h | h
  · rcases List.mem_append.1 h with h | h
    · exact .inl (List.mem_of_mem_take h)
    · exact .inr h
  · exact .inl (List.mem_of_mem_drop h)
/-- an element of a row, some of its cells written anew. -/
theorem RowAt.put {P : Program} {W : Nat → Prop} {L : Lbl} {wp : Prop} {t : TypeId} {es : List AV} {g cap : Nat} {cs : Array Value} {i off : Nat} {e : AV} {ys : List AV} {us : List Value}
    (hR : RowAt P W w σ L wp t es g cap cs) (hs : Same C w σ (w.setRow g (wrt cs (i * P.cellsOf t + off) us)) σ (some L)) (he : es[i]? = some e) (hl : ys.length = us.length) (hle : off + ys.length ≤ P.cellsOf t)
    (h1 : ∀ c ∈ ys, c.one = true) (hp : ∀ c ∈ ys, c.pure = true) (hv : ∀ (m : Nat) (c : AV), ys[m]? = some c → VR w σ.I σ.κ c (us[m]?.getD undef)) :
    RowAt P W (w.setRow g (wrt cs (i * P.cellsOf t + off) us)) σ L wp t (es.set i (putCl e off ys)) g cap (wrt cs (i * P.cellsOf t + off) us) := by
  have hem := List.mem_of_getElem? he
  have hi := lt_of_get he
  have hnc := hR.nc e hem
  have hcl := putCl_cl (e := e) (off := off) (ys := ys) (by rw [hnc]; exact hle) h1
  have hecl : e.cl.length = P.cellsOf t := hnc
  have hsz : i * P.cellsOf t + off + us.length ≤ cs.size := by
    rw [hR.size]
    have : (i + 1) * P.cellsOf t ≤ cap * P.cellsOf t := Nat.mul_le_mul_right _ (by have := hR.ecap; omega)
    rw [Nat.add_mul] at this
    omega
  have hmem : ∀ x ∈ es.set i (putCl e off ys), x ∈ es ∨ x = putCl e off ys := fun x hx => List.mem_or_eq_of_mem_set hx
  refine ⟨hR.ow, hR.wr, setRow_heap w _ _ _ _ _ hR.hh, hR.pos, fun x hx => ?_, by simpa using hR.ecap, hR.max, by rw [size_wrt _ _ _ hsz, hR.size], fun x hx => ?_, fun x hx c hc => ?_, fun j x m c hj hm => ?_, hR.base⟩
  · rcases hmem x hx with hx | rfl
    · exact hR.nc x hx
    · unfold AV.nc; rw [hcl, length_putCells _ _ _ (by omega)]; exact hnc
  · rcases hmem x hx with hx | rfl
    · exact hR.pure x hx
    · refine pureL_cl fun c hc => ?_
      rw [hcl] at hc
      rcases mem_putCells hc with hc | hc
      · exact pure_cl (hR.pure e hem) c hc
      · exact hp c hc
  · rcases hmem x hx with hx | rfl
    · exact hR.one x hx c hc
    · rw [hcl] at hc
      rcases mem_putCells hc with hc | hc
      · exact hR.one e hem c hc
      · exact h1 c hc
  · rw [getD_wrt _ _ _ hsz]
    rw [List.getElem?_set] at hj
    by_cases hij : i = j
    · subst hij
      rw [if_pos rfl, if_pos hi] at hj
      obtain rfl := Option.some.inj hj
      rw [hcl, getElem?_putCells _ _ _ (by omega)] at hm
      by_cases hin : off ≤ m ∧ m < off + ys.length
      · rw [if_pos hin] at hm
        rw [if_pos (by omega), show i * P.cellsOf t + m - (i * P.cellsOf t + off) = m - off by omega]
        exact VR.same hs (hv _ c hm)
      · rw [if_neg hin] at hm
        rw [if_neg (by omega)]
        exact VR.same hs (hR.cell i e m c he hm)
    · rw [if_neg hij] at hj
      have hxn := hR.nc x (List.mem_of_getElem? hj)
      have hml := lt_of_get hm
      have hxl : x.cl.length = P.cellsOf t := hxn
      have : ¬ (i * P.cellsOf t + off ≤ j * P.cellsOf t + m ∧ j * P.cellsOf t + m < i * P.cellsOf t + off + us.length) := by
        rintro ⟨h2, h3⟩
        rcases Nat.lt_or_ge i j with h4 | h4
        · have : (i + 1) * P.cellsOf t ≤ j * P.cellsOf t := Nat.mul_le_mul_right _ h4
          rw [Nat.add_mul] at this
          omega
        · have : (j + 1) * P.cellsOf t ≤ i * P.cellsOf t := Nat.mul_le_mul_right _ (by omega)
          rw [Nat.add_mul] at this
          omega
      rw [if_neg this]
      exact VR.same hs (hR.cell j x m c hj hm)
/-- a row gets another content, as long. -/
theorem Conc.putRow {pl : Pl} {t : TypeId} {es es' : List AV} {w' : World} {st' : St} (h : Conc C st a w σ) (hrow : st.rowAt C.E.dp pl = some (t, es)) (hlen : es'.length = es.length)
    (hs : Same C w σ w' σ (some (pl.lbl C.E.dp))) (hnew : OwnAt C.P C.W w' σ (pl.lbl C.E.dp) (pl.mine C.E = true) t es' (pval w σ a pl)) (hp : st.putAt C.E.dp (.o t es') pl = some st') :
    Conc C st' a w' σ := by
  have hhk : ∀ k, st.box C.E.dp k ≠ none → w'.heap[σ.κ k]? = w.heap[σ.κ k]? := by
    intro k hb'
    obtain ⟨cs', hcs'⟩ := Option.ne_none_iff_exists'.1 hb'
    obtain ⟨vs', T', hB'⟩ := h.bx k cs' hcs'
    exact (hs.blk _ _ hB'.ow (by cases pl <;> simp [Pl.lbl])).1
  have hpvs : ∀ p r, st.rowAt C.E.dp p = some r → pval w' σ a p = pval w σ a p := by
    intro p r hr
    cases p with
    | s d => rfl
    | c k off =>
      have : st.box C.E.dp k ≠ none := fun e => by simp [St.rowAt, e] at hr
      simp only [pval, hhk k this]
  cases pl with
  | s d =>
    obtain rfl := Option.some.inj hp
    have hd : fget st.fr d = .o t es := by
      simp only [St.rowAt] at hrow
      split at hrow
      · rename_i t' es' hx; rw [hx]; simp at hrow; rw [hrow.1, hrow.2]
      · cases hrow
    have hr2 : ∀ p t2 es2, (st.fset d (.o t es')).rowAt C.E.dp p = some (t2, es2) → ∃ es0, st.rowAt C.E.dp p = some (t2, es0) ∧ es0.length = es2.length := by
      intro p t2 es2 hr
      cases p with
      | s d2 =>
        simp only [St.rowAt, St.fset, fget_cons] at hr
        by_cases hdd : d = d2
        · subst hdd
          simp only [if_true, Option.some.injEq, Prod.mk.injEq] at hr
          exact ⟨es, by rw [hrow, hr.1], by rw [← hr.2, hlen]⟩
        · simp only [if_neg hdd] at hr
          exact ⟨es2, hr, rfl⟩
      | c k off => exact ⟨es2, hr, rfl⟩
    refine ⟨h.size, h.defers.same hs (by simp [Pl.lbl]), fun d' => ?_, fun k cs hk => ?_, h.hpd, hs.own, hs.dn, fun b hb => h.new b (Nat.le_trans hs.size hb), h.lay.keep hs.up hs.imm⟩
    · simp only [St.fset, fget_cons]
      by_cases hdd : d = d'
      · subst hdd
        rw [if_pos rfl]
        exact OwnAt.weak hnew fun _ => rfl
      · rw [if_neg hdd]
        have hx := h.fr d'
        generalize fget st.fr d' = x at hx ⊢
        cases x with
        | o t2 es2 => exact OwnAt.same hs (by simp [Pl.lbl]; exact fun e => hdd e.symm) hx
        | r p =>
          intro hsm
          obtain ⟨⟨t2, es2⟩, hr⟩ := Option.isSome_iff_exists.1 hsm
          obtain ⟨es0, h2, _⟩ := hr2 p t2 es2 hr
          rw [hpvs p _ h2]
          exact hx (by rw [h2]; rfl)
        | v p lo len =>
          intro t2 es2 hr hll
          obtain ⟨es0, h2, h3⟩ := hr2 p t2 es2 hr
          rw [hpvs p _ h2]
          exact hx t2 es0 h2 (by omega)
        | q p i sz off =>
          intro t2 es2 hr hll
          obtain ⟨es0, h2, h3⟩ := hr2 p t2 es2 hr
          rw [hpvs p _ h2]
          exact hx t2 es0 h2 (by omega)
        | w g t x => exact WAt.same hs (by simp [Pl.lbl]) hx
        | _ => exact VR.same hs hx
    · obtain ⟨vs, T, hB⟩ := h.bx k cs hk
      exact ⟨vs, T, (hhk k (by rw [show st.box C.E.dp k = some cs from hk]; simp)).trans hB.hh, hB.size, hB.ow, hB.wr, hB.one, fun off c hc => CR.same hs (by simp [Pl.lbl]) (hB.cell off c hc), hB.ty, hB.kb⟩
  | c k off =>
    simp only [St.rowAt] at hrow
    cases hb : st.box C.E.dp k with
    | none => simp [hb] at hrow
    | some cs =>
      simp only [hb] at hrow
      have hco : cs[off]? = some (.o t es) := by
        split at hrow
        · rename_i t' es' hx; rw [hx]; simp at hrow; rw [hrow.1, hrow.2]
        · cases hrow
      have hol := lt_of_get hco
      simp only [St.putAt, hb, Option.some.injEq] at hp
      subst hp
      have hbox := fun k' => box_setBox (cs' := cs.set off (.o t es')) hb k'
      have hr2 : ∀ p t2 es2, (st.setBox C.E.dp k (cs.set off (.o t es'))).rowAt C.E.dp p = some (t2, es2) → ∃ es0, st.rowAt C.E.dp p = some (t2, es0) ∧ es0.length = es2.length := by
        intro p t2 es2 hr
        cases p with
        | s d2 => rw [rowAt_setBox_s] at hr; exact ⟨es2, hr, rfl⟩
        | c k' off' =>
          simp only [St.rowAt, hbox] at hr
          by_cases hk : k' = k
          · subst hk
            simp only [if_true] at hr
            by_cases ho : off = off'
            · subst ho
              rw [List.getElem?_set, if_pos rfl, if_pos hol] at hr
              simp only [Option.some.injEq, Prod.mk.injEq] at hr
              exact ⟨es, by simp only [St.rowAt, hb, hco, hr.1], by rw [← hr.2, hlen]⟩
            · rw [List.getElem?_set, if_neg ho] at hr
              exact ⟨es2, by simp only [St.rowAt, hb]; exact hr, rfl⟩
          · simp only [if_neg hk] at hr
            exact ⟨es2, by simp only [St.rowAt]; exact hr, rfl⟩
      refine ⟨h.size, h.defers.same hs (by simp [Pl.lbl]), fun d' => ?_, fun k' cs' hk => ?_, fun k' cs' hk hc' => ?_, hs.own, hs.dn, fun b hb => h.new b (Nat.le_trans hs.size hb), h.lay.keep hs.up hs.imm⟩
      · rw [fr_setBox]
        have hx := h.fr d'
        generalize fget st.fr d' = x at hx ⊢
        cases x with
        | o t2 es2 => exact OwnAt.same hs (by simp [Pl.lbl]) hx
        | r p =>
          intro hsm
          obtain ⟨⟨t2, es2⟩, hr⟩ := Option.isSome_iff_exists.1 hsm
          obtain ⟨es0, h2, _⟩ := hr2 p t2 es2 hr
          rw [hpvs p _ h2]
          exact hx (by rw [h2]; rfl)
        | v p lo len =>
          intro t2 es2 hr hll
          obtain ⟨es0, h2, h3⟩ := hr2 p t2 es2 hr
          rw [hpvs p _ h2]
          exact hx t2 es0 h2 (by omega)
        | q p i sz off =>
          intro t2 es2 hr hll
          obtain ⟨es0, h2, h3⟩ := hr2 p t2 es2 hr
          rw [hpvs p _ h2]
          exact hx t2 es0 h2 (by omega)
        | w g t x => exact WAt.same hs (by simp [Pl.lbl]) hx
        | _ => exact VR.same hs hx
      · rw [hbox] at hk
        by_cases hkk : k' = k
        · subst hkk
          simp only [if_true] at hk
          obtain rfl := Option.some.inj hk
          obtain ⟨vs, T, hB⟩ := h.bx k' cs hb
          refine ⟨vs, T, (hhk k' (by simp [hb])).trans hB.hh, by simpa using hB.size, hB.ow, hB.wr, fun c hm => ?_, fun i c hi => ?_, fun t kk u ht => ?_, hB.kb⟩
          · rcases List.mem_or_eq_of_mem_set hm with hm | rfl
            · exact hB.one c hm
            · exact .inl rfl
          · rw [List.getElem?_set] at hi
            by_cases ho : off = i
            · subst ho
              rw [if_pos rfl, if_pos hol] at hi
              obtain rfl := Option.some.inj hi
              have : pval w σ a (.c k' off) = vs.getD off undef := by simp only [pval, hB.hh]
              rw [this] at hnew
              exact hnew
            · rw [if_neg ho] at hi
              exact CR.same hs (by simp [Pl.lbl]; exact fun e => ho e.symm) (hB.cell i c hi)
          · rcases List.mem_or_eq_of_mem_set ht with ht | ht
            · simpa using hB.ty t kk u ht
            · cases ht
        · simp only [if_neg hkk] at hk
          obtain ⟨vs, T, hB⟩ := h.bx k' cs' hk
          exact ⟨vs, T, (hhk k' (by simp [hk])).trans hB.hh, hB.size, hB.ow, hB.wr, hB.one, fun i c hi => CR.same hs (by simp [Pl.lbl]; exact fun e => absurd e hkk) (hB.cell i c hi), hB.ty, hB.kb⟩
      · by_cases hkd : k.dp = C.E.dp
        · simp only [St.setBox, hkd, if_true] at hc'
          exact h.hpd k' cs' hk hc'
        · simp only [St.setBox, if_neg hkd, upd] at hc'
          split at hc'
          · rename_i hkk
            subst hkk
            obtain rfl := Option.some.inj hc'
            have hold := h.hpd k' cs hk (by simpa [St.box, hkd] using hb)
            refine ⟨hold.1, fun c hm => ?_⟩
            rcases List.mem_or_eq_of_mem_set hm with hm | rfl
            · exact hold.2 c hm
            · rfl
          · exact h.hpd k' cs' hk hc'
end
end Go.Proofs.Ytmfihcbafljcbaa.A
