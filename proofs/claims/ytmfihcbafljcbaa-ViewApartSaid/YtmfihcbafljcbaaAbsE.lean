/- append: the model does what the abstract run says. -/
import Derived.Test.YtmfihcbafljcbaaAbsD
set_option linter.unusedSectionVars false
set_option linter.unusedVariables false
set_option linter.unusedSimpArgs false
set_option linter.constructorNameAsVariable false
namespace Go.Proofs.Ytmfihcbafljcbaa.A
open Go
variable [Base]
/-- elements, laid flat. -/
structure Flat (w : World) (I : Nat → Prop) (κ : Key → Nat) (sz : Nat) (es : List AV) (vs : List Value) : Prop where
  len : vs.length = es.length * sz
  nc : ∀ e ∈ es, e.nc = sz
  pure : ∀ e ∈ es, e.pure = true
  one : ∀ e ∈ es, ∀ c ∈ e.cl, c.one = true
  cell : ∀ (j : Nat) (e : AV) (m : Nat) (c : AV), es[j]? = some e → e.cl[m]? = some c → VR w I κ c (vs[j * sz + m]?.getD undef)
section
variable {w : World} {I : Nat → Prop} {κ : Key → Nat} {sz : Nat}
theorem flat_lt {e : AV} {j m n : Nat} (hj : j < n) (hm : m < e.cl.length) (he : e.nc = sz) : j * sz + m < n * sz := by
  have : (j + 1) * sz ≤ n * sz := Nat.mul_le_mul_right _ hj
  rw [Nat.add_mul] at this
  have he' : e.cl.length = sz := he
  omega
theorem Flat.nil : Flat w I κ sz [] [] := ⟨by simp, by simp, by simp, by simp, fun j e m c h => by simp at h⟩
theorem Flat.append {es fs : List AV} {vs us : List Value} (h : Flat w I κ sz es vs) (h' : Flat w I κ sz fs us) : Flat w I κ sz (es ++ fs) (vs ++ us) := by
  refine ⟨by simp [h.len, h'.len, Nat.add_mul], fun e he => ?_, fun e he => ?_, fun e he => ?_, fun j e m c hj hm => ?_⟩
  · rcases List.mem_append.1 he with he | he
    · exact h.nc e he
    · exact h'.nc e he
  · rcases List.mem_append.1 he with he | he
    · exact h.pure e he
    · exact h'.pure e he
  · rcases List.mem_append.1 he with he | he
    · exact h.one e he
    · exact h'.one e he
  · have hml := lt_of_get hm
    rw [List.getElem?_append] at hj
    split at hj
    · rename_i hlt
      have := flat_lt hlt hml (h.nc e (List.mem_of_getElem? hj))
      rw [List.getElem?_append, if_pos (by rw [h.len]; exact this)]
      exact h.cell j e m c hj hm
    · rename_i hge
      have hle : es.length * sz ≤ j * sz := Nat.mul_le_mul_right _ (by omega)
      rw [List.getElem?_append, if_neg (by rw [h.len]; omega), h.len]
      have := h'.cell (j - es.length) e m c hj hm
      rw [Nat.sub_mul] at this
      rwa [show j * sz + m - es.length * sz = j * sz - es.length * sz + m by omega]
theorem Flat.ones {es : List AV} {vs : List Value} (h : Flat w I κ sz es vs) : ∀ u ∈ vs, u.oneCell' = true := by
  intro u hu
  obtain ⟨i, hi⟩ := List.mem_iff_getElem?.1 hu
  have hil := lt_of_get hi
  rw [h.len] at hil
  have hpos : 0 < sz := Nat.pos_of_ne_zero fun e => by subst e; simp at hil
  have hj : i / sz < es.length := Nat.div_lt_of_lt_mul (by rw [Nat.mul_comm]; exact hil)
  have hm : i % sz < sz := Nat.mod_lt _ hpos
  have he := List.getElem_mem hj
  have hml : i % sz < (es[i / sz]).cl.length := by
    have : (es[i / sz]).cl.length = sz := h.nc _ he
    omega
  have := h.cell _ _ _ _ (List.getElem?_eq_getElem hj) (List.getElem?_eq_getElem hml)
  rw [Nat.mul_comm, Nat.div_add_mod, hi] at this
  exact this.oneCell (h.one _ he _ (List.getElem_mem hml))
/-- elements behind a place of a block. -/
theorem Flat.of_block {es : List AV} {cs : Array Value} {o : Nat} (hnc : ∀ e ∈ es, e.nc = sz) (hp : ∀ e ∈ es, e.pure = true) (h1 : ∀ e ∈ es, ∀ c ∈ e.cl, c.one = true) (hs : o + es.length * sz ≤ cs.size)
    (hc : ∀ (j : Nat) (e : AV) (m : Nat) (c : AV), es[j]? = some e → e.cl[m]? = some c → VR w I κ c (cs.getD (o + j * sz + m) undef)) : Flat w I κ sz es ((cs.toList.drop o).take (es.length * sz)) := by
  refine ⟨by simp; omega, hnc, hp, h1, fun j e m c hj hm => ?_⟩
  have := flat_lt (lt_of_get hj) (lt_of_get hm) (hnc e (List.mem_of_getElem? hj))
  have hv := hc j e m c hj hm
  rw [List.getElem?_take, if_pos this, List.getElem?_drop]
  rw [Nat.add_assoc] at hv
  simpa [Array.getD_eq_getD_getElem?] using hv
theorem cells_at {g o n : Nat} {cs : Array Value} {T : TypeId} {fz : Nat × Nat} (hh : w.heap[g]? = some (.cells cs T fz)) : ∀ j u, ((cs.toList.drop o).take n)[j]? = some u → w.cell? ((⟨g, o, none⟩ : Addr).add j) = some u := by
  intro j u hj
  rw [add_lit, cell_lit hh]
  rw [List.getElem?_take] at hj
  split at hj
  · rw [List.getElem?_drop] at hj
    simpa using hj
  · cases hj
end
section
variable {C : Cx} {st : St} {a : Act} {w : World} {σ : Sp} {o : Oper} {d : Option Nat} {R : Rec} {Ω : Orc} {r : AV × St}
theorem RowAt.flat {L : Lbl} {wp : Prop} {t : TypeId} {es : List AV} {g cap : Nat} {cs : Array Value} (hR : RowAt C.P C.W w σ L wp t es g cap cs) : Flat w σ.I σ.κ (C.P.cellsOf t) es ((cs.toList.drop 0).take (es.length * C.P.cellsOf t)) :=
  .of_block hR.nc hR.pure hR.one (by rw [hR.size, Nat.zero_add]; exact Nat.mul_le_mul_right _ hR.ecap) (fun j e m c hj hm => by rw [Nat.zero_add]; exact hR.cell j e m c hj hm)
theorem Flat.part {sz lo len : Nat} {es : List AV} {vs : List Value} {I : Nat → Prop} {κ : Key → Nat} (h : Flat w I κ sz es vs) (hle : lo + len ≤ es.length) : Flat w I κ sz ((es.drop lo).take len) ((vs.drop (lo * sz)).take (len * sz)) := by
  have hm : ∀ e ∈ (es.drop lo).take len, e ∈ es := fun e he => List.mem_of_mem_drop (List.mem_of_mem_take he)
  refine ⟨?_, fun e he => h.nc e (hm e he), fun e he => h.pure e (hm e he), fun e he => h.one e (hm e he), fun j e m c hj hq => ?_⟩
  · have : (lo + len) * sz ≤ es.length * sz := Nat.mul_le_mul_right _ hle
    rw [Nat.add_mul] at this
    have e1 : min len (es.length - lo) = len := by omega
    simp [h.len, e1]; omega
  · rw [List.getElem?_take] at hj
    split at hj
    · rename_i hlt
      rw [List.getElem?_drop] at hj
      have := flat_lt hlt (lt_of_get hq) (h.nc e (List.mem_of_getElem? hj))
      rw [List.getElem?_take, if_pos this, List.getElem?_drop]
      have hv := h.cell _ e m c hj hq
      rwa [Nat.add_mul, Nat.add_assoc] at hv
    · cases hj

/-- what an append takes from. -/
theorem Conc.src (h : Conc C st a w σ) {y : Operand} {x : Opd} {q : TypeId × List AV} {sz : Nat} {tx e' : TypeId} (hk : C.P.underlying tx = some (.slice e')) (hl : lowO y x = true) (he : st.elems C.E.dp (st.ev x) = some q) (hnc : ∀ e ∈ q.2, e.nc = sz) :
    ∃ news, Src C.P sz tx (a.eval y) q.2.length news w ∧ Flat w σ.I σ.κ sz q.2 news ∧ (q.2 ≠ [] → ∃ b n c, a.eval y = .slice (some b) n c ∧ n = q.2.length ∧ ∀ j u, news[j]? = some u → w.cell? (b.add j) = some u) := by
  have hnil : ∀ A c, a.eval y = .slice A 0 c → q.2 = [] → ∃ news, Src C.P sz tx (a.eval y) q.2.length news w ∧ Flat w σ.I σ.κ sz q.2 news ∧ (q.2 ≠ [] → ∃ b n c, a.eval y = .slice (some b) n c ∧ n = q.2.length ∧ ∀ j u, news[j]? = some u → w.cell? (b.add j) = some u) := by
    intro A c hv hq
    refine ⟨[], ?_, by rw [hq]; exact .nil, fun hne => absurd hq hne⟩
    rw [hv, hq]
    cases A with
    | none => exact Src.ofNil w hk c
    | some b => exact Src.ofSlice w hk b 0 c [] (by simp) (fun j u hj => by simp at hj) (fun u hu => by cases hu)
  have hsome : ∀ b n c news, a.eval y = .slice (some b) n c → n = q.2.length → Flat w σ.I σ.κ sz q.2 news → (∀ j u, news[j]? = some u → w.cell? (b.add j) = some u) →
      ∃ news, Src C.P sz tx (a.eval y) q.2.length news w ∧ Flat w σ.I σ.κ sz q.2 news ∧ (q.2 ≠ [] → ∃ b n c, a.eval y = .slice (some b) n c ∧ n = q.2.length ∧ ∀ j u, news[j]? = some u → w.cell? (b.add j) = some u) := by
    intro b n c news hv hn hf hcell
    refine ⟨news, ?_, hf, fun _ => ⟨b, n, c, hv, hn, hcell⟩⟩
    rw [hv, hn]
    exact Src.ofSlice w hk b _ c news hf.len hcell hf.ones
  have hrow : ∀ pl t es, st.rowAt C.E.dp pl = some (t, es) → a.eval y = pval w σ a pl → q = (t, es) →
      ∃ news, Src C.P sz tx (a.eval y) q.2.length news w ∧ Flat w σ.I σ.κ sz q.2 news ∧ (q.2 ≠ [] → ∃ b n c, a.eval y = .slice (some b) n c ∧ n = q.2.length ∧ ∀ j u, news[j]? = some u → w.cell? (b.add j) = some u) := by
    intro pl t es hr hv hq
    subst hq
    rcases h.row hr with ⟨h1, h2⟩ | ⟨g, cap, cs, h2, hR⟩
    · exact hnil none 0 (hv.trans h2) h1
    · by_cases hne : es = []
      · exact hnil (some ⟨g, 0, none⟩) cap (by rw [hv, h2, hne]; rfl) hne
      · have hsz : C.P.cellsOf t = sz := by
          cases es with
          | nil => exact absurd rfl hne
          | cons e es => exact (hR.nc e (by simp)).symm.trans (hnc e (by simp))
        have hf := hR.flat
        rw [hsz] at hf
        exact hsome _ _ cap _ (hv.trans h2) rfl hf (cells_at hR.hh)
  cases hx : st.ev x with
  | l t es =>
    rw [hx] at he
    obtain rfl := Option.some.inj he
    obtain ⟨A, cap, hv, hes⟩ := (hx ▸ h.opdV hl (by rw [hx]; simp) (by rw [hx]; rfl)).l_inv
    rcases hes with hes | ⟨g, o, cs, T, fz, sz', rfl, hI, hh, ht, hpos, hnc', hsize, hp, h1, hcap, hmax, hc⟩
    · subst hes
      exact hnil A cap hv rfl
    · by_cases hne : es = []
      · subst hne; exact hnil _ cap hv rfl
      · have hsz : sz' = sz := by
          cases es with
          | nil => exact absurd rfl hne
          | cons e es => exact (hnc' e (by simp)).symm.trans (hnc e (by simp))
        subst hsz
        exact hsome _ _ cap _ hv rfl (.of_block hnc' hp h1 hsize hc) (cells_at hh)
  | n =>
    rw [hx] at he
    obtain rfl := Option.some.inj he
    exact hnil none 0 (hx ▸ h.opdV hl (by rw [hx]; simp) (by rw [hx]; rfl)).n_inv rfl
  | o t es =>
    rw [hx] at he
    obtain rfl := Option.some.inj he
    obtain ⟨n, rfl, hn⟩ := slot_of_place hx rfl hl
    exact hrow (.s n) t es (by simp [St.rowAt, hn]) (by rw [opd_tmp hl]; rfl) rfl
  | r pl =>
    rw [hx] at he
    obtain ⟨n, rfl, hn⟩ := slot_of_place hx rfl hl
    have hr : st.rowAt C.E.dp pl = some q := he
    exact hrow pl q.1 q.2 hr ((hn ▸ h.slot hl) (by rw [hr]; rfl)) rfl
  | v pl lo len =>
    rw [hx] at he
    obtain ⟨n, rfl, hn⟩ := slot_of_place hx rfl hl
    simp only [St.elems] at he
    split at he
    · rename_i t es hr
      split at he
      · rename_i hll
        obtain rfl := Option.some.inj he
        obtain ⟨A, n', cap, hpv, hv⟩ := (hn ▸ h.slot hl) t es hr hll
        have hlen : ((es.drop lo).take len).length = len := by simp; omega
        by_cases hne : len = 0
        · subst hne
          refine hnil _ _ hv (by simp)
        · obtain ⟨g, cap', cs, hpv', hR⟩ := h.rowNE hr (fun e => by subst e; simp at hll; omega)
          obtain ⟨rfl, rfl, rfl⟩ : A = some ⟨g, 0, none⟩ ∧ n' = es.length ∧ cap = cap' := by
            rw [hpv] at hpv'; simpa using hpv'
          have hec := hR.ecap
          have hsz : C.P.cellsOf t = sz := by
            cases hq : (es.drop lo).take len with
            | nil => rw [hq] at hlen; simp at hlen; omega
            | cons e fs =>
              have he : e ∈ (es.drop lo).take len := by rw [hq]; simp
              exact (hR.nc e (List.mem_of_mem_drop (List.mem_of_mem_take he))).symm.trans (hnc e he)
          rw [if_neg (by omega), hsz] at hv
          simp only [Option.map_some, add_lit, Nat.zero_add] at hv
          refine hsome ⟨g, lo * sz, none⟩ len (cap - lo) ((cs.toList.drop (lo * sz)).take (((es.drop lo).take len).length * sz)) hv hlen.symm ?_ (cells_at hR.hh)
          refine .of_block hnc (fun e he => hR.pure e (List.mem_of_mem_drop (List.mem_of_mem_take he))) (fun e he => hR.one e (List.mem_of_mem_drop (List.mem_of_mem_take he))) ?_ fun j e m c hj hm => ?_
          · rw [hlen, hR.size, hsz, ← Nat.add_mul]
            exact Nat.mul_le_mul_right _ (by omega)
          · rw [List.getElem?_take] at hj
            split at hj
            · rw [List.getElem?_drop] at hj
              have := hR.cell _ e m c hj hm
              rwa [hsz, Nat.add_mul] at this
            · cases hj
      · cases he
    · cases he
  | _ => rw [hx] at he; cases he

/-- what a cell holds is forgotten. -/
theorem Conc.loseCell {k : Key} {cs : List AV} {off : Nat} (h : Conc C st a w σ) (hb : st.box C.E.dp k = some cs) : Conc C (st.setBox C.E.dp k (cs.set off .u)) a w σ := by
  have hbox := fun k' => box_setBox (cs' := cs.set off .u) hb k'
  have hget : ∀ (i : Nat) (c : AV), (cs.set off AV.u)[i]? = some c → c = AV.u ∨ cs[i]? = some c := by
    intro i c hi
    rw [List.getElem?_set] at hi
    split at hi
    · split at hi
      · exact .inl (Option.some.inj hi).symm
      · cases hi
    · exact .inr hi
  refine ⟨h.size, h.defers, fun d => ?_, fun k' cs' hk => ?_, fun k' cs' hk hc' => ?_, h.own, h.imm, h.new, h.lay⟩
  · rw [fr_setBox]
    refine (h.fr d).cong fun pl _ ⟨r, hr⟩ => ⟨?_, rfl⟩
    rw [hr]
    cases pl with
    | s d' => rw [rowAt_setBox_s] at hr; exact hr.symm
    | c k' off' =>
      simp only [St.rowAt, hbox] at hr ⊢
      by_cases hk : k' = k
      · subst hk
        simp only [if_true] at hr
        cases hc : (cs.set off AV.u)[off']? with
        | none => simp [hc] at hr
        | some c =>
          rw [hc] at hr
          rcases hget _ _ hc with rfl | h2
          · simp at hr
          · simp only [hb, h2]; exact hr.symm
      · simp only [if_neg hk] at hr
        exact hr.symm
  · rw [hbox] at hk
    by_cases hkk : k' = k
    · subst hkk
      simp only [if_true] at hk
      obtain rfl := Option.some.inj hk
      obtain ⟨vs, T, hB⟩ := h.bx k' cs hb
      refine ⟨vs, T, hB.hh, by simpa using hB.size, hB.ow, hB.wr, fun c hm => ?_, fun i c hi => ?_, fun t kk u ht => (List.mem_or_eq_of_mem_set ht).elim (fun hm => by simpa using hB.ty t kk u hm) (fun e => by cases e), hB.kb⟩
      · rcases List.mem_or_eq_of_mem_set hm with hm | rfl
        · exact hB.one c hm
        · exact .inr rfl
      · rcases hget i c hi with rfl | h2
        · exact VR.u _
        · exact hB.cell i c h2
    · simp only [if_neg hkk] at hk
      exact h.bx k' cs' hk
  · by_cases hkd : k.dp = C.E.dp
    · simp only [St.setBox, hkd, if_true] at hc'
      exact h.hpd k' cs' hk hc'
    · simp only [St.setBox, if_neg hkd, upd] at hc'
      split at hc'
      · rename_i hkk
        subst hkk
        obtain rfl := Option.some.inj hc'
        have hold := h.hpd k' cs hk (by simpa [St.box, hkd] using hb)
        refine ⟨hold.1, fun c hm => ?_⟩
        rcases List.mem_or_eq_of_mem_set hm with hm | rfl
        · exact hold.2 c hm
        · rfl
      · exact h.hpd k' cs' hk hc'
/-- what a place owned is taken from it. -/
theorem Conc.losePl {pl : Pl} {st' : St} (h : Conc C st a w σ) (hp : st.putAt C.E.dp .u pl = some st') : Conc C st' a w σ ∧ Idle C st' (some (pl.lbl C.E.dp)) := by
  cases pl with
  | s d =>
    obtain rfl := Option.some.inj hp
    exact ⟨h.lose d, idle_slot fun t es => by rw [fget_fset, if_pos rfl]; simp⟩
  | c k off =>
    simp only [St.putAt] at hp
    split at hp
    · rename_i cs hb
      obtain rfl := Option.some.inj hp
      refine ⟨h.loseCell hb, ⟨fun _ _ _ _ => by simp [Pl.lbl], fun _ _ _ => by simp [Pl.lbl], fun k' cs' off' t es hk hc e => ?_, fun _ => by simp [Pl.lbl], by simp [Pl.lbl]⟩⟩
      simp only [Pl.lbl, Option.some.injEq, Lbl.rowC.injEq] at e
      obtain ⟨rfl, rfl⟩ := e
      rw [box_setBox hb, if_pos rfl] at hk
      obtain rfl := Option.some.inj hk
      rw [List.getElem?_set] at hc
      simp at hc
    · cases hp
/-- what an append writes to. -/
theorem Conc.consume (h : Conc C st a w σ) {y : Operand} {x : Opd} {t : TypeId} {q : List AV × St} (hl : lowO y x = true) (he : consume C.E st t x = some q) :
    Conc C q.2 a w σ ∧ ((q.1 = [] ∧ a.eval y = .slice none 0 0) ∨
      ∃ L g cap cs, a.eval y = .slice (some ⟨g, 0, none⟩) q.1.length cap ∧ RowAt C.P C.W w σ L True t q.1 g cap cs ∧ Idle C q.2 (some L)) := by
  have hfin : ∀ {pl es st' v}, Conc C st' a w σ → Idle C st' (some (Pl.lbl C.E.dp pl)) → OwnAt C.P C.W w σ (pl.lbl C.E.dp) True t es v → a.eval y = v → q = (es, st') →
      Conc C q.2 a w σ ∧ ((q.1 = [] ∧ a.eval y = .slice none 0 0) ∨ ∃ L g cap cs, a.eval y = .slice (some ⟨g, 0, none⟩) q.1.length cap ∧ RowAt C.P C.W w σ L True t q.1 g cap cs ∧ Idle C q.2 (some L)) := by
    intro pl es st' v hc hi ho hv hq
    subst hq
    refine ⟨hc, ?_⟩
    rcases ho with ⟨h1, h2⟩ | ⟨g, cap, cs, h2, hR⟩
    · exact .inl ⟨h1, hv.trans h2⟩
    · exact .inr ⟨_, g, cap, cs, hv.trans h2, hR, hi⟩
  unfold A.consume at he
  split at he
  · obtain rfl := Option.some.inj he
    exact ⟨h, .inl ⟨rfl, (h.opd (x := .c .n) hl rfl).n_inv⟩⟩
  · cases he
  · rename_i m
    have hs := h.slot hl
    split at he
    · rename_i hx
      obtain rfl := Option.some.inj he
      rw [hx] at hs
      exact ⟨h, .inl ⟨rfl, VR.n_inv hs⟩⟩
    · rename_i t' es hx
      split at he
      · rename_i htt
        subst htt
        rw [hx] at hs
        exact hfin (pl := .s m) (h.lose m) (idle_slot fun t es => by rw [fget_fset, if_pos rfl]; simp) hs rfl (Option.some.inj he).symm
      · cases he
    · rename_i pl hx
      split at he
      · rename_i hm
        obtain ⟨⟨t', es⟩, hr, he1⟩ := Option.bind_eq_some_iff.1 he
        clear he
        simp only at he1
        split at he1
        · rename_i htt
          subst htt
          obtain ⟨st', hp, he2⟩ := Option.bind_eq_some_iff.1 he1
          clear he1
          obtain ⟨h1, h2⟩ := h.losePl hp
          rw [hx] at hs
          exact hfin h1 h2 ((h.row hr).weak fun _ => hm) (hs (by rw [hr]; rfl)) (Option.some.inj he2).symm
        · cases he1
      · cases he
    · rename_i pl lo len hx
      split at he
      · rename_i hm
        simp only [Bool.and_eq_true, beq_iff_eq] at hm
        obtain ⟨hm, hlo⟩ := hm
        obtain ⟨⟨t', es⟩, hr, he1⟩ := Option.bind_eq_some_iff.1 he
        clear he
        simp only at he1
        split at he1
        · rename_i htt
          obtain ⟨hle, htt⟩ := htt
          obtain ⟨st', hp, he2⟩ := Option.bind_eq_some_iff.1 he1
          clear he1
          obtain ⟨h1, h2⟩ := h.losePl hp
          rw [hx] at hs
          subst hlo
          have hv := hs t' es hr (by omega)
          subst htt
          exact hfin h1 h2 (((h.row hr).short hle hv).weak fun _ => hm) rfl (Option.some.inj he2).symm
        · cases he1
      · cases he
    · cases he

theorem sim_ap {t sz by_ : Nat} {x y : Opd} (h : Conc C st a w σ) (hl : lowOp C.P (.ap t sz by_ x y) o.op = true) (he : execOp R Ω C.E st d (.ap t sz by_ x y) = some r) :
    Sim C o d a w σ r.2 r.1 := by
  obtain ⟨c, x', y', ty, hop, hcal, hargs, htys, hlx, hly, hty, hsz, hby, hz⟩ : ∃ c x' y' ty, o.op = .call c ∧ c.callee = .builtin .append ∧ c.args.toList = [x', y'] ∧ c.argTypes.toList = [ty, ty] ∧ lowO x' x = true ∧ lowO y' y = true ∧
      sliceOf C.P ty = some t ∧ sized C.P t sz = true ∧ C.P.bytesOf t = by_ ∧ ∃ zv, zeroOf C.P t = some zv ∧ zv.cells.size = sz := by
    simp only [lowOp] at hl; split at hl
    · rename_i c hy
      simp only [Bool.and_eq_true] at hl
      obtain ⟨h1, h2⟩ := hl
      split at h1
      · rename_i hcal
        split at h2
        · rename_i x' y' t1 t2 ha ht
          simp only [Bool.and_eq_true, beq_iff_eq] at h2
          obtain ⟨⟨⟨⟨⟨⟨h3, h4⟩, h5⟩, h6⟩, h7⟩, h8⟩, h9⟩ := h2
          subst h5
          split at h9
          · rename_i zv hzv
            exact ⟨c, x', y', t1, hy, hcal, ha, ht, h3, h4, h6, h7, h8, zv, hzv, by simpa using h9⟩
          · cases h9
        · cases h2
      · cases h1
    · cases hl
  obtain ⟨zv, hzv, hzs⟩ := hz
  have hu := sliceOf_inv' hty
  obtain ⟨i, hi, hiz⟩ := zeroOf_inv hzv
  obtain ⟨_, hcells, hpos⟩ := sized_inv hsz
  have hisz : i.size = sz := by rw [← hcells]; simp [Program.cellsOf, hi]
  have hiby : i.bytes = by_ := by rw [← hby]; simp [Program.bytesOf, hi]
  have hargs' : c.args = #[x', y'] := by rw [← Array.toArray_toList (xs := c.args), hargs]
  have htys' : c.argTypes = #[ty, ty] := by rw [← Array.toArray_toList (xs := c.argTypes), htys]
  have hrun : ∀ cv w', (Builtin.append_ #[ty, ty] o.type #[a.eval x', a.eval y']).run C.P w = .ok cv w' → (Go.execOp a.eval o).run C.P w = .ok (.value cv) w' := by
    intro cv w' hr
    unfold Go.execOp
    simp [hop, resolve, hcal, hargs', htys', invoke, builtin, hr]
  simp only [execOp] at he
  obtain ⟨dd, hdd, he1⟩ := Option.bind_eq_some_iff.1 he
  clear he
  obtain ⟨ys, hys, he2⟩ := Option.bind_eq_some_iff.1 he1
  clear he1
  obtain ⟨q, hq, he3⟩ := Option.bind_eq_some_iff.1 he2
  clear he2
  split at he3
  · rename_i hcond
    simp only [Bool.and_eq_true, decide_eq_true_eq] at hcond
    obtain ⟨⟨hnc, hbytes⟩, hmax⟩ := hcond
    obtain rfl := Option.some.inj he3
    have hnc' : ∀ e ∈ ys.2, e.nc = sz := fun e he => by simpa using List.all_eq_true.1 hnc e he
    obtain ⟨news, hsrc, hf, hsl⟩ := h.src (sz := sz) hu hly hys hnc'
    obtain ⟨hc, hdst⟩ := h.consume hlx hq
    have hsrc' : Src C.P i.size ty (a.eval y') ys.2.length news w := by rw [hisz]; exact hsrc
    have hm63 : (((q.1.length + ys.2.length : Nat) : Int)) ≤ 9223372036854775807 := by simp [maxLen] at hmax; omega
    -- a new row
    have hgrow : ∀ A cap olds, a.eval x' = .slice A q.1.length cap → q.1.length ≤ cap → (Builtin.firstCells i.size q.1.length (.slice A q.1.length cap)).run C.P w.drew = .ok olds.toArray w.drew → Flat w σ.I σ.κ sz q.1 olds →
        cap < q.1.length + ys.2.length → Sim C o d a w σ (q.2.dropB (.s dd)) (.o t (q.1 ++ ys.2)) := by
      intro A cap olds hv hle hold hfo hlt
      have hap := run_append_grow_src (P := C.P) w ty ty o.type t i zv hu hi hiz A q.1.length cap olds hold _ _ news hsrc' hlt hm63
        (growslice_fits hlt (by rw [hiby]; exact hbytes))
      have hge := grownCap_ge w (q.1.length + ys.2.length) cap t
      have hgm := grownCap_le_maxLen w (q.1.length + ys.2.length) cap t hmax
      generalize hN : grownCap w (q.1.length + ys.2.length) cap t = N at hap hge hgm
      have hff := hfo.append hf
      have hlen : (olds ++ news).length = (q.1.length + ys.2.length) * sz := by rw [hff.len, List.length_append]
      obtain ⟨σ', hst, hc', ho, _⟩ := (hc.dropB (.s dd)).drew.newRow (L := .rowS C.E.dp dd) (t := t) (es := q.1 ++ ys.2) (cap := N) (cs := (olds ++ news).toArray ++ Builtin.zeroCells zv.cells (N - (q.1.length + ys.2.length)))
        (by omega) (fun e he => by rw [hcells]; exact hff.nc e he) (by simpa using hge) hgm
        (by
          rw [Array.size_append, size_zeroCells, hzs, hcells, List.size_toArray, hlen, ← Nat.add_mul]
          congr 1; omega) hff.pure hff.one (fun j e m c hj hq' => by
            have hlt2 := flat_lt (lt_of_get hj) (lt_of_get hq') (hff.nc e (List.mem_of_getElem? hj))
            rw [List.length_append] at hlt2
            rw [hcells, Array.getD_eq_getD_getElem?, Array.getElem?_append, if_pos (by rw [List.size_toArray, hlen]; exact hlt2), List.getElem?_toArray]
            exact (hff.cell j e m c hj hq').mono (fun _ h => h) (fun _ _ => rfl) (fun _ _ => rfl))
      rw [List.length_append] at ho
      exact .of_run (hrun _ _ (by rw [hv]; exact hap)) (Conc.own_put hdd hst.drew hc' ho)
    rcases hdst with ⟨h1, h2⟩ | ⟨L, g, cap, cs, hv, hR, hid⟩
    · -- onto nothing
      rw [h1] at hgrow hm63 ⊢
      by_cases hys0 : ys.2 = []
      · have hap := run_append_nothing (P := C.P) w ty ty o.type t i hu hi none 0 0 (Nat.le_refl _) (a.eval y') (by
          have := hsrc'
          rw [hys0] at this
          have hn : news = [] := List.eq_nil_of_length_eq_zero (by rw [hf.len, hys0]; simp)
          rw [hn] at this
          exact this)
        rw [hys0]
        exact .of_run (hrun _ _ (by rw [h2]; exact hap)) (Conc.own_put hdd (.refl _ _ _) (hc.dropB _) (.inl ⟨rfl, rfl⟩))
      · have hpos' : 0 < ys.2.length := by cases hq : ys.2 with | nil => exact absurd hq hys0 | cons => simp
        exact hgrow none 0 [] h2 (Nat.le_refl _) (by rw [run_firstCells_none]) .nil (by simpa using hpos')
    · have hszt : C.P.cellsOf t = sz := hcells
      by_cases hys0 : ys.2 = []
      · have hap := run_append_nothing (P := C.P) w ty ty o.type t i hu hi (some ⟨g, 0, none⟩) q.1.length cap hR.ecap (a.eval y') (by
          have := hsrc'
          rw [hys0] at this
          have hn : news = [] := List.eq_nil_of_length_eq_zero (by rw [hf.len, hys0]; simp)
          rw [hn] at this
          exact this)
        rw [hys0, List.append_nil]
        refine .of_run (hrun _ _ (by rw [hv]; exact hap)) (Conc.own_put hdd (.relabel (hR.wr trivial)) ((hc.relabel hR.ow hid).dropB _) (.inr ⟨g, cap, cs, rfl, hR.relabel⟩))
      · by_cases hroom : q.1.length + ys.2.length ≤ cap
        · obtain ⟨b, n, c', hvy, hn, hcell⟩ := hsl hys0
          have hfit : q.1.length * i.size + news.length ≤ cs.size := by
            rw [hf.len, hR.size, hisz, hszt, ← Nat.add_mul]; exact Nat.mul_le_mul_right _ hroom
          have hap := run_append_room (P := C.P) w ty o.type t i hu hi g q.1.length cap cs hR.hh b n c' news (by rw [hisz, hn]; exact hf.len) hcell hf.ones (by rw [hn]; exact hroom) hfit
          have hw : ((cs.toList.take (q.1.length * i.size) ++ news ++ cs.toList.drop (q.1.length * i.size + news.length)).toArray) = wrt cs (q.1.length * sz) news := by rw [hisz]; rfl
          rw [hw, hn] at hap
          have hfit' : q.1.length * sz + news.length ≤ cs.size := by rw [← hisz]; exact hfit
          have hsame := Same.setRow hc hR.ow (wrt cs (q.1.length * sz) news)
          have hc' := hc.sameL hsame hid
          have hst := Stp.setRow hc hR.ow (hR.wr trivial) (wrt cs (q.1.length * sz) news)
          have hfo := hR.flat
          rw [hszt] at hfo
          have hff := hfo.append hf
          have hR' : RowAt C.P C.W (w.setRow g (wrt cs (q.1.length * sz) news)) σ L True t (q.1 ++ ys.2) g cap (wrt cs (q.1.length * sz) news) := by
            refine ⟨hR.ow, hR.wr, setRow_heap w _ _ _ _ _ hR.hh, hR.pos, fun e he => by rw [hszt]; exact hff.nc e he, by simpa using hroom, hR.max, by rw [size_wrt _ _ _ hfit', hR.size], hff.pure, hff.one, fun j e m c hj hm => ?_, hR.base⟩
            have hv' := hff.cell j e m c hj hm
            have hlt2 := flat_lt (lt_of_get hj) (lt_of_get hm) (hff.nc e (List.mem_of_getElem? hj))
            rw [hszt, getD_wrt _ _ _ hfit']
            refine VR.same hsame ?_
            have hol : ((cs.toList.drop 0).take (q.1.length * sz)).length = q.1.length * sz := hfo.len
            rw [List.getElem?_append, hol] at hv'
            rw [List.length_append, Nat.add_mul] at hlt2
            by_cases hj2 : j * sz + m < q.1.length * sz
            · rw [if_pos hj2] at hv'
              rw [if_neg (by omega)]
              rw [List.getElem?_take, if_pos hj2, List.drop_zero] at hv'
              simpa [Array.getD_eq_getD_getElem?] using hv'
            · rw [if_neg hj2] at hv'
              rw [if_pos ⟨by omega, by rw [hf.len]; exact hlt2⟩]
              exact hv'
          refine .of_run (hrun _ _ (by rw [hv, hvy, hn]; exact hap)) (Conc.own_put hdd (hst.trans (.relabel (hR.wr trivial))) ((hc'.relabel hR.ow hid).dropB _) (.inr ⟨g, cap, _, by rw [List.length_append], hR'.relabel⟩))
        · have hfo := hR.flat
          rw [hszt] at hfo
          refine hgrow (some ⟨g, 0, none⟩) cap _ hv hR.ecap (run_firstCells_some w.drew i.size _ _ _ _ _ (by rw [hisz]; exact hfo.len) (fun j u hj => ?_)) hfo (by omega)
          have := cells_at hR.hh j u hj
          simpa using this
  · cases he3
end
end Go.Proofs.Ytmfihcbafljcbaa.A
