/- Rows that are made: the model does what the abstract run says. -/
import Derived.Test.YtmfihcbafljcbaaAbsC
import Derived.Great.BuildSlice
import Derived.Laws.MakeOwn
import Derived.Deep.AppendSrc
import Derived.Deep.Upon
set_option linter.unusedSectionVars false
set_option linter.unusedVariables false
set_option linter.unusedSimpArgs false
set_option linter.constructorNameAsVariable false
namespace Go.Proofs.Ytmfihcbafljcbaa.A
open Go
variable [Base]
section
variable {C : Cx} {st : St} {a : Act} {w : World} {σ : Sp} {o : Oper} {d : Option Nat} {R : Rec} {Ω : Orc} {r : AV × St}

theorem VR.noI {w w' : World} {I I' : Nat → Prop} {κ κ' : Key → Nat} {x : AV} {v : Value} (h : VR w I κ x v) (hI : ∀ b, I b → I' b) (hh : ∀ b, I b → w'.heap[b]? = w.heap[b]?) (hp : x.pure = true) : VR w' I' κ' x v :=
  h.mono hI hh fun k hk => by rw [pure_noK x hp] at hk; cases hk
/-- a row in a new block. -/
theorem Conc.newRow (h : Conc C st a w σ) {L : Lbl} {t : TypeId} {es : List AV} {cap : Nat} {cs : Array Value} (hpos : 0 < C.P.cellsOf t) (hnc : ∀ e ∈ es, e.nc = C.P.cellsOf t) (hcap : es.length ≤ cap) (hmax : cap ≤ maxLen)
    (hsize : cs.size = cap * C.P.cellsOf t) (hp : ∀ e ∈ es, e.pure = true) (h1 : ∀ e ∈ es, ∀ c ∈ e.cl, c.one = true)
    (hc : ∀ (j : Nat) (e : AV) (m : Nat) (c : AV), es[j]? = some e → e.cl[m]? = some c → VR w σ.I σ.κ c (cs.getD (j * C.P.cellsOf t + m) undef)) :
    ∃ σ', Stp C w σ (w.alloc (.cells cs t)) σ' ∧ Conc C st a (w.alloc (.cells cs t)) σ' ∧ OwnAt C.P C.W (w.alloc (.cells cs t)) σ' L True t es (.slice (some ⟨w.heap.size, 0, none⟩) es.length cap) ∧ σ'.κ = σ.κ := by
  have hs := Same.alloc h (.cells cs t) (some L)
  refine ⟨_, Stp.alloc h _ (some L), h.same hs, .inr ⟨w.heap.size, cap, cs, rfl, by simp [Sp.add], fun _ => (h.new _ (Nat.le_refl _)).1, heap_alloc_new w _, hpos, hnc, hcap, hmax, hsize, hp, h1, fun j e m c he hm => VR.same hs (hc j e m c he hm), (h.new _ (Nat.le_refl _)).2⟩, rfl⟩
/-- the tape is no part of it. -/
theorem Conc.drew (h : Conc C st a w σ) : Conc C st a w.drew σ :=
  h.same ⟨fun _ _ hb _ => ⟨rfl, hb⟩, fun _ _ => rfl, fun _ h => h, rfl, Nat.le_refl _, h.own, h.imm⟩
theorem Stp.drew {w' : World} {σ' : Sp} (h : Stp C w.drew σ w' σ') : Stp C w σ w' σ' := ⟨h.size, h.keep, h.up, h.imm, h.dn, h.kap, h.ow, h.io⟩

theorem run_fillS (h : Conc C st a w σ) {sz : Nat} :
    ∀ (ps : List (Nat × Operand)) (xs : List Opd) (i : Nat) (vs : Array Value), ps.map (·.1) = List.range' i ps.length → lowOL (ps.map (·.2)) xs = true → i * sz + xs.length * sz ≤ vs.size →
      (∀ x ∈ xs, (st.ev x).copy = true ∧ (st.ev x).nc = sz ∧ ∀ c ∈ (st.ev x).cl, c.one = true) →
      ∃ vs', Instr.fill (fun i => some (i * sz, sz)) vs (ps.map fun p => (p.1, a.eval p.2)) = some vs' ∧ vs'.size = vs.size ∧ (∀ j, j < i * sz → vs'[j]? = vs[j]?) ∧
        ∀ (j : Nat) (x : Opd) (m : Nat) (c : AV), xs[j]? = some x → (st.ev x).cl[m]? = some c → VR w σ.I σ.κ c (vs'.getD ((i + j) * sz + m) undef)
  | [], [], i, vs, _, _, _, _ => ⟨vs, rfl, rfl, fun _ _ => rfl, fun j x m c hj => by simp at hj⟩
  | (i', y) :: ps, x :: xs, i, vs, hi, hl, hle, hq => by
    simp only [List.map_cons, List.length_cons, List.range'_succ, List.cons.injEq] at hi
    obtain ⟨rfl, hi⟩ := hi
    simp only [List.map_cons, lowOL, Bool.and_eq_true] at hl
    obtain ⟨hlo, hrest⟩ := hl
    obtain ⟨hcp, hnc, h1⟩ := hq x (by simp)
    obtain ⟨hcl, hcc⟩ := (h.opd hlo hcp).cells h1
    have hnc' : (st.ev x).cl.length = sz := hnc
    have hcs : (a.eval y).cells.size = sz := by omega
    simp only [List.length_cons, Nat.add_mul, Nat.one_mul] at hle
    have hlt : ¬ (i' * sz + sz > vs.size) := by omega
    have hval := fill_step (i' * sz) (a.eval y).cells.toList 0 vs (by simp; omega)
    have hsz2 := fold_set (i' * sz) ((a.eval y).cells.toList.zipIdx) vs (fun z hz => by
      have := List.snd_lt_of_mem_zipIdx hz
      simp at this; omega)
    have hfold : (a.eval y).cells.zipIdx.foldl (fun cs x => cs.setIfInBounds (i' * sz + x.2) x.1) vs = (a.eval y).cells.toList.zipIdx.foldl (fun cs x => cs.setIfInBounds (i' * sz + x.2) x.1) vs := by
      rw [← Array.toList_zipIdx, Array.foldl_toList]
    generalize hvs2 : (a.eval y).cells.toList.zipIdx.foldl (fun cs x => cs.setIfInBounds (i' * sz + x.2) x.1) vs = vs2 at hval hsz2 hfold
    obtain ⟨vs', hfill, hsize, hold, hnew⟩ := run_fillS h ps xs (i' + 1) vs2 hi hrest (by rw [hsz2, Nat.add_mul, Nat.one_mul]; omega) (fun z hz => hq z (by simp [hz]))
    refine ⟨vs', ?_, hsize.trans hsz2, fun j hj => ?_, fun j z m c hj hm => ?_⟩
    · simp only [List.map_cons, Instr.fill, hcs, ne_eq, not_true_eq_false, decide_false, Bool.false_or, hlt, Bool.false_eq_true, if_false]
      rw [hfold]
      exact hfill
    · rw [hold j (by rw [Nat.add_mul]; omega), hval, if_neg (by omega)]
    · cases j with
      | zero =>
        obtain rfl : x = z := by simpa using hj
        have hml := lt_of_get hm
        have := hcc m c hm
        rw [Array.getD_eq_getD_getElem?, Nat.add_zero, hold _ (by rw [Nat.add_mul]; omega), hval, if_pos (by simp; omega)]
        rw [show i' * sz + m - i' * sz - 0 = m by omega]
        simpa [Array.getD_eq_getD_getElem?] using this
      | succ j =>
        have := hnew j z m c (by simpa using hj) hm
        rwa [show i' + 1 + j = i' + (j + 1) by omega] at this
  | [], _ :: _, _, _, _, hl, _, _ => by simp [lowOL] at hl
  | _ :: _, [], _, _, _, hl, _, _ => by simp [lowOL] at hl

theorem Conc.own_put {σ' : Sp} {w' : World} {st' : St} {dd : Nat} {t : TypeId} {es : List AV} {cv : Value} (hdd : d = some dd) (hs : Stp C w σ w' σ') (hc : Conc C (st'.dropB (.s dd)) a w' σ') (ho : OwnAt C.P C.W w' σ' (.rowS C.E.dp dd) True t es cv) :
    OpR C (st'.dropB (.s dd)) a w σ d (.o t es) cv w' σ' := by
  refine ⟨hs, hc, fun d2 hd2 => ?_, fun d2 _ _ hd2 _ d' => ?_⟩
  · rw [hdd] at hd2; obtain rfl := Option.some.inj hd2; exact ho
  · rw [hdd] at hd2; obtain rfl := Option.some.inj hd2; exact dropB_bor _ _ _

theorem sliceOf_inv' {P : Program} {ty t : TypeId} (h : sliceOf P ty = some t) : P.underlying ty = some (.slice t) := by
  unfold sliceOf at h
  split at h
  · rename_i e hu; rw [hu]; simp at h; rw [h]
  · cases h
theorem sim_bs {t sz : Nat} {xs : List Opd} (h : Conc C st a w σ) (hl : lowOp C.P (.bs t sz xs) o.op = true) (he : execOp R Ω C.E st d (.bs t sz xs) = some r) :
    Sim C o d a w σ r.2 r.1 := by
  simp only [lowOp] at hl
  split at hl
  · rename_i ty len parts hop
    simp only [Bool.and_eq_true, beq_iff_eq, decide_eq_true_eq] at hl
    obtain ⟨⟨⟨⟨⟨⟨hty, hsz⟩, hlen⟩, hidx⟩, hlo⟩, hbig⟩, hz⟩ := hl
    split at hz
    · rename_i zv hzv
      have hzs : zv.cells.size = sz := by simpa using hz
      have hu := sliceOf_inv' hty
      obtain ⟨i, hi, hiz⟩ := zeroOf_inv hzv
      obtain ⟨_, hcells, hpos⟩ := sized_inv hsz
      have hisz : i.size = sz := by rw [← hcells]; simp [Program.cellsOf, hi]
      simp only [execOp] at he
      obtain ⟨dd, hdd, he1⟩ := Option.bind_eq_some_iff.1 he
      clear he
      split at he1
      · rename_i hall
        obtain rfl := Option.some.inj he1
        have hall' : ∀ x ∈ xs, (st.ev x).pure = true ∧ (st.ev x).nc = sz ∧ ∀ c ∈ (st.ev x).cl, c.one = true := by
          intro x hx
          have := List.all_eq_true.1 hall (st.ev x) (List.mem_map_of_mem hx)
          simp only [Bool.and_eq_true, beq_iff_eq] at this
          exact ⟨this.1.1, this.2, fun c hc => List.all_eq_true.1 this.1.2 c hc⟩
        have hpl : parts.toList.length = len := by simpa using congrArg List.length hidx
        have hxl : xs.length = len := hlen.symm
        let vs : Array Value := if len * sz = 0 then #[] else (Array.range (len * sz)).map (zv.cells[· % zv.cells.size]!)
        have hvs : vs.size = len * sz := by
          by_cases h0 : len * sz = 0 <;> simp [vs, h0]
        obtain ⟨vs', hfill, hsize, _, hnew⟩ := run_fillS h (sz := sz) parts.toList xs 0 vs (by rw [hidx, hpl, List.range_eq_range']) hlo (by rw [hvs, hxl]; omega) (fun x hx => ⟨pure_copy _ (hall' x hx).1, (hall' x hx).2⟩)
        have hmem : ∀ e ∈ xs.map st.ev, e.pure = true ∧ e.nc = sz ∧ ∀ c ∈ e.cl, c.one = true := by
          intro e he
          obtain ⟨x, hx, rfl⟩ := List.mem_map.1 he
          exact hall' x hx
        obtain ⟨σ', hst, hc, ho, _⟩ := (h.dropB (.s dd)).newRow (L := .rowS C.E.dp dd) (t := t) (es := xs.map st.ev) (cap := len) (cs := vs') (by omega) (fun e he => by rw [hcells]; exact (hmem e he).2.1) (by simp [hxl]) (by simp [maxLen]; have := Nat.le_mul_of_pos_right len hpos; omega)
          (by rw [hsize, hvs, hcells]) (fun e he => (hmem e he).1) (fun e he => (hmem e he).2.2) (fun j e m c hj hm => by
            rw [List.getElem?_map] at hj
            cases hx : xs[j]? with
            | none => simp [hx] at hj
            | some x =>
              obtain rfl : st.ev x = e := by simpa [hx] using hj
              have := hnew j x m c hx hm
              rw [hcells]
              simpa using this)
        rw [List.length_map, hxl] at ho
        refine .of_run ?_ (Conc.own_put hdd hst hc ho)
        have hfill' : Instr.fill (fun i => some (i * sz, sz)) vs (parts.map fun x => (x.1, a.eval x.2)).toList = some vs' := by rw [Array.toList_map]; exact hfill
        unfold Go.execOp
        simp only [hop]
        by_cases h0 : len * sz = 0
        · have hl0 : len = 0 := by
            rcases Nat.mul_eq_zero.1 h0 with e | e
            · exact e
            · omega
          have hp0 : parts = #[] := by
            apply Array.ext'
            exact List.eq_nil_of_length_eq_zero (by omega)
          have hv0 : vs' = #[] := Array.eq_empty_of_size_eq_zero (by omega)
          subst hp0; subst hv0; subst hl0
          simp [Instr.buildSlice, run_underlying hu, sizeOf, typeInfo, hi, Instr.fill, Go.newRow, Array.range_zero']
        · simp only [vs, h0, if_false] at hfill'
          rw [Sem.run_bind, run_buildSlice w ty t len _ vs' i zv hu hi hiz (by rw [hisz]; omega) (by rw [hisz]; exact h0) (by rw [hisz]; exact hfill')]
          simp
      · cases he1
    · cases hz
  · cases hl

theorem sim_ms {t sz by_ : Nat} {z : AV} {n : Opd} (h : Conc C st a w σ) (hl : lowOp C.P (.ms t sz by_ z n) o.op = true) (he : execOp R Ω C.E st d (.ms t sz by_ z n) = some r) :
    Sim C o d a w σ r.2 r.1 := by
  simp only [lowOp] at hl
  split at hl
  · rename_i ty l' c' hop
    simp only [Bool.and_eq_true, beq_iff_eq] at hl
    obtain ⟨⟨⟨⟨⟨hty, hsz⟩, hby⟩, hlo⟩, hlo'⟩, hz⟩ := hl
    split at hz
    · rename_i zv hzv
      simp only [Bool.and_eq_true, beq_iff_eq] at hz
      obtain ⟨⟨hlz, hzs⟩, h1⟩ := hz
      have hu := sliceOf_inv' hty
      obtain ⟨i, hi, hiz⟩ := zeroOf_inv hzv
      obtain ⟨_, hcells, hpos⟩ := sized_inv hsz
      have hisz : i.size = sz := by rw [← hcells]; simp [Program.cellsOf, hi]
      have hiby : i.bytes = by_ := by rw [← hby]; simp [Program.bytesOf, hi]
      simp only [execOp] at he
      obtain ⟨dd, hdd, he1⟩ := Option.bind_eq_some_iff.1 he
      clear he
      obtain ⟨m, hm, he2⟩ := Option.bind_eq_some_iff.1 he1
      clear he1
      obtain ⟨k, x, hx, hx0, hxm⟩ := natOf_inv hm
      split at he2
      · rename_i hc
        simp only [Bool.and_eq_true, decide_eq_true_eq] at hc
        obtain ⟨hbytes, hmax⟩ := hc
        obtain rfl := Option.some.inj he2
        have hvl := (hx ▸ h.opdV hlo (by rw [hx]; simp) (by rw [hx]; rfl)).i_inv
        have hvc := (hx ▸ h.opdV hlo' (by rw [hx]; simp) (by rw [hx]; rfl)).i_inv
        have hxe : x = (m : Int) := by omega
        have hb2 : (i.bytes : Int) * x ≤ 281474976710656 := by
          rw [hxe, hiby]
          have : m * by_ = by_ * m := Nat.mul_comm _ _
          have h2 : ((by_ * m : Nat) : Int) ≤ 281474976710656 := by omega
          rwa [Int.natCast_mul] at h2
        have hmax' : x ≤ 9223372036854775807 := by simp [maxLen] at hmax; omega
        have hrun := run_make (P := C.P) w ty t i zv hu hi hiz k k x x hx0 (Int.le_refl _) hb2 hmax'
        obtain ⟨hzv', hzp⟩ := lowV_VR (w := w) (I := σ.I) (κ := σ.κ) zv z hlz
        have h1' : ∀ c ∈ z.cl, c.one = true := fun c hc => List.all_eq_true.1 h1 c hc
        obtain ⟨hzl, hzc⟩ := hzv'.cells h1'
        have hmem : ∀ e ∈ List.replicate m z, e = z := fun e he => (List.mem_replicate.1 he).2
        obtain ⟨σ', hst, hc, ho, _⟩ := (h.dropB (.s dd)).newRow (L := .rowS C.E.dp dd) (t := t) (es := List.replicate m z) (cap := m) (cs := madeCells zv.cells (m * sz)) (by omega) (fun e he => by rw [hmem e he, hcells]; exact hzl.trans hzs) (by simp) hmax
          (by rw [size_madeCells, hcells]) (fun e he => by rw [hmem e he]; exact hzp) (fun e he => by rw [hmem e he]; exact h1') (fun j e q c hj hq => by
            have hjm := lt_of_get hj
            simp only [List.length_replicate] at hjm
            have hez := hmem e (List.mem_of_getElem? hj)
            subst hez
            have hql := lt_of_get hq
            have := hzc q c hq
            rw [hcells]
            have hlt : j * sz + q < m * sz := by
              have : (j + 1) * sz ≤ m * sz := Nat.mul_le_mul_right _ (by omega)
              rw [Nat.add_mul] at this
              omega
            have hmod : (j * sz + q) % zv.cells.size = q := by rw [hzs, Nat.mul_comm, Nat.mul_add_mod]; exact Nat.mod_eq_of_lt (by omega)
            have : (madeCells zv.cells (m * sz)).getD (j * sz + q) undef = zv.cells.getD q undef := by
              simp [madeCells, Array.getD_eq_getD_getElem?, hlt, hmod]
              have hqs : q < zv.cells.size := by omega
              simp [hqs]
            rw [this]
            exact hzc q c hq)
        rw [List.length_replicate] at ho
        refine .of_run ?_ (Conc.own_put hdd hst hc ho)
        unfold Go.execOp
        rw [hisz, hxm] at hrun
        simp [hop, hvl, hvc, hrun]
      · cases he2
    · cases hz
  · cases hl
end
end Go.Proofs.Ytmfihcbafljcbaa.A
