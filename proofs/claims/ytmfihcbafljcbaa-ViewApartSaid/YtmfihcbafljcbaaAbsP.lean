/- A strings.Builder that lies in a box: a cell that is nil in a block of a known type, pointers that are compared and turned, bytes of a string that are appended. -/
import Derived.Test.YtmfihcbafljcbaaAbsF
import Derived.Lib.Builder
import Derived.Lib.AppendStr
import Derived.Laws.Externs
import Derived.Laws.IdiomStrings
set_option linter.unusedSectionVars false
set_option linter.unusedVariables false
set_option linter.unusedSimpArgs false
set_option linter.constructorNameAsVariable false
namespace Go.Proofs.Ytmfihcbafljcbaa.A
open Go
variable [Base]
section
variable {C : Cx} {st : St} {a : Act} {w : World} {σ : Sp} {o : Oper} {d : Option Nat} {R : Rec} {Ω : Orc} {r : AV × St}
theorem noK_bor {x : AV} {k : Key} {off : Nat} (h : x.noK k = true) : x.bor (.c k off) = false := by
  cases x with
  | r pl => cases pl with
    | s d => rfl
    | c k' o => simp only [AV.noK, decide_eq_true_eq] at h; simp only [AV.bor, decide_eq_false_iff_not, Pl.c.injEq, not_and]; exact fun e => absurd e h
  | v pl lo len => cases pl with
    | s d => rfl
    | c k' o => simp only [AV.noK, decide_eq_true_eq] at h; simp only [AV.bor, decide_eq_false_iff_not, Pl.c.injEq, not_and]; exact fun e => absurd e h
  | q pl i sz o' => cases pl with
    | s d => rfl
    | c k' o => simp only [AV.noK, decide_eq_true_eq] at h; simp only [AV.bor, decide_eq_false_iff_not, Pl.c.injEq, not_and]; exact fun e => absurd e h
  | _ => rfl
theorem VR.z_inv {w : World} {I : Nat → Prop} {κ : Key → Nat} {v : Value} (h : VR w I κ .z v) : v = .pointer none := by cases h; rfl
theorem sim_bz {t off : Nat} {x : Opd} (h : Conc C st a w σ) (hl : lowOp C.P (.bz t off x) o.op = true) (he : execOp R Ω C.E st d (.bz t off x) = some r) :
    Sim C o d a w σ r.2 r.1 := by
  simp only [lowOp] at hl
  split at hl
  · rename_i t' y hop
    simp only [Bool.and_eq_true, beq_iff_eq] at hl
    obtain ⟨rfl, hl⟩ := hl
    simp only [execOp] at he
    obtain ⟨dd, hdd, he⟩ := Option.bind_eq_some_iff.1 he
    split at he
    · rename_i hc
      simp only [Bool.and_eq_true] at hc
      obtain ⟨⟨⟨⟨⟨hcp, h1⟩, hdp⟩, hno⟩, hfr⟩, hbx⟩ := hc
      split at he
      · rename_i hz
        have hd : dd < 1000000 := by simp only [freeD, Bool.and_eq_true, decide_eq_true_eq] at hno; exact hno.2
        obtain rfl := Option.some.inj he
        have hv := h.opd hl hcp
        have h1' : ∀ c ∈ (st.ev x).cl, c.one = true := fun c hm => List.all_eq_true.1 h1 c hm
        obtain ⟨hlen, hcell⟩ := hv.cells h1'
        have hca : CA w σ.I σ.κ (st.ev x).cl (a.eval y).cells := ⟨hlen, h1', hcell⟩
        have hK : (st.ev x).noK ⟨C.E.dp, dd⟩ = true := by
          cases x with
          | t n => exact fget_all (p := fun y => y.noK ⟨C.E.dp, dd⟩) rfl _ hfr n
          | c z => exact pure_noK _ (opd_pure hl)
        have hKc : ∀ c ∈ (st.ev x).cl, c.noK ⟨C.E.dp, dd⟩ = true := by
          intro c hm
          generalize st.ev x = z at hm hK
          cases z <;> simp only [AV.cl, List.mem_singleton] at hm <;> first | (subst hm; exact hK) | exact noKL_mem hK c hm
        have hno' : ∀ c ∈ (st.ev x).cl, ∀ t es, c ≠ .o t es := by
          intro c hm t es e
          subst e
          obtain ⟨m, hm⟩ := List.mem_iff_getElem?.1 hm
          have := hcell m _ hm
          cases this
        obtain ⟨σ', hst, hco, hk, hI⟩ := h.newBox (T := t) hd hca hKc hno'
          (fget_all rfl _ hfr) (fun d' cs' hb c hm => noKL_mem (bget_all _ hbx d' cs' hb) c hm) (hpd_noK h dd)
        have hbk : ({ st with bx := (dd, (st.ev x).cl) :: st.bx } : St).box C.E.dp ⟨C.E.dp, dd⟩ = some (st.ev x).cl := by simp [St.box, bget]
        have hco2 := hco.recell (k := ⟨C.E.dp, dd⟩) (off := off) (x := .bp t ⟨C.E.dp, dd⟩ false) hbk (fun t es e => by rw [hz] at e; cases e) rfl (fun hne => absurd rfl hne)
          (fun d' => noK_bor (fget_all (p := fun y => y.noK ⟨C.E.dp, dd⟩) rfl _ hfr d')) (fun vs T hh => by
            obtain ⟨vs', T', hB⟩ := hco.bx _ _ hbk
            have e := hB.hh.symm.trans hh
            simp only [Option.some.injEq, Obj.cells.injEq] at e
            obtain ⟨rfl, _⟩ := e
            have := hB.cell off _ hz
            exact ⟨rfl, VR.z_inv this⟩) (fun t' kk u e vs T hh => by
            cases e
            rw [hk, heap_alloc_new] at hh
            simp only [Option.some.injEq, Obj.cells.injEq] at hh
            exact ⟨hh.2.1, by rw [← hh.1]; exact hca.len.symm⟩)
        refine .of_run (cv := .pointer (some ⟨w.heap.size, 0, none⟩)) ?_ ⟨hst, hco2, fun _ _ => SR_VR (VR_at hk), fun _ _ _ _ e => by cases e⟩
        · unfold Go.execOp
          simp [hop, Instr.box, newVar, newRow]
      · cases he
    · cases he
  · cases hl
theorem sim_lz {x : Opd} (h : Conc C st a w σ) (hl : lowOp C.P (.lz x) o.op = true) (he : execOp R Ω C.E st d (.lz x) = some r) :
    Sim C o d a w σ r.2 r.1 := by
  have hl' : lowOp C.P (.ld none x) o.op = true := hl
  obtain ⟨t, y, hop, hlo, hn⟩ : ∃ t y, o.op = .load t y ∧ lowO y x = true ∧ lowN C.P t none = true := by
    simp only [lowOp] at hl; split at hl
    · rename_i t y hy
      simp only [Bool.and_eq_true] at hl
      exact ⟨t, y, hy, hl.1, hl.2⟩
    · cases hl
  simp only [execOp] at he
  split at he
  · rename_i k off hx
    obtain ⟨cs, hbx, he⟩ := Option.bind_eq_some_iff.1 he
    split at he
    · rename_i t' k' u hz
      obtain rfl := Option.some.inj he
      have hv := (hx ▸ h.opdV hlo (by rw [hx]; simp) (by rw [hx]; rfl)).p_inv
      obtain ⟨vs, T, hB⟩ := h.bx k cs hbx
      have hlt : off < vs.size := Nat.lt_of_lt_of_le (lt_of_get hz) hB.size
      obtain ⟨hkk, hcell⟩ := hB.cell off _ hz
      subst hkk
      have hc : w.cell? ⟨σ.κ k', off, none⟩ = some vs[off] := by rw [cell_lit hB.hh]; simp [hlt]
      obtain ⟨hag, _⟩ : aggT C.P t = some false ∧ C.P.cellsOf t = 1 := by simpa [lowN] using hn
      have hv2 : vs[off] = if u = true then .pointer (some ⟨σ.κ k', off, none⟩) else .pointer none := by simpa [Array.getD_eq_getD_getElem?, hlt] using hcell
      have hrun : (Go.execOp a.eval o).run C.P w = .ok (.value vs[off]) w := by
        unfold Go.execOp
        simp [hop, hv, Instr.loadAt, Instr.sureAddr, loadVar, run_isAgg hag w, hc]
      cases u with
      | false => rw [hv2] at hrun; exact .quiet h hrun rfl .z
      | true => rw [hv2] at hrun; exact .quiet h hrun rfl (.p k' off)
    · rename_i k2 o2 hz
      refine sim_ld (R := R) (Ω := Ω) (n := none) (x := x) h hl' ?_
      simp only [execOp, hx, hbx, Option.bind_some, pick, hz]
      exact he
    · cases he
  · cases he
theorem eqGuard_ptr (op : BinOp) (t : TypeId) (x y : Operand) (p q : Option Addr) : eqGuard op t x y (.pointer p) (.pointer q) = pure () := by
  cases op <;> rfl
theorem run_eql_nil {P : Program} {tp te : TypeId} (hp : P.underlying tp = some (.pointer te)) (p : Option Addr) (w : World) :
    (Go.binOp .eql tp (.pointer p) (.pointer none)).run P w = .ok (.bool p.isNone) w ∧ (Go.binOp .neq tp (.pointer p) (.pointer none)).run P w = .ok (.bool (!p.isNone)) w := by
  have h : ∀ d : Nat, (Op.equalIn (d + 1) tp (.pointer p) (.pointer none)).run P w = .ok p.isNone w := fun d => by
    cases p <;> simp [Op.equalIn, run_underlying hp]
  constructor <;> simp only [Go.binOp] <;> simp [Op.equal, Op.maxDepth, h 9999]
theorem sim_pe {ng : Bool} {x y : Opd} (h : Conc C st a w σ) (hl : lowOp C.P (.pe ng x y) o.op = true) (he : execOp R Ω C.E st d (.pe ng x y) = some r) :
    Sim C o d a w σ r.2 r.1 := by
  simp only [lowOp] at hl
  split at hl
  · rename_i o' t x' y' ty hop
    simp only [Bool.and_eq_true, decide_eq_true_eq] at hl
    obtain ⟨⟨⟨ho, hlx⟩, hly⟩, hp⟩ := hl
    obtain ⟨te, j, hpt, hj⟩ : ∃ te j, C.P.underlying t = some (.pointer te) ∧ C.P.info? te = some j := by
      unfold ptrT at hp
      split at hp
      · rename_i e he
        obtain ⟨j, hj⟩ := Option.isSome_iff_exists.1 hp
        exact ⟨e, j, he, hj⟩
      · cases hp
    have key : ∀ p q b, a.eval x' = .pointer p → a.eval y' = .pointer q → (Go.binOp (if ng then .neq else .eql) t (.pointer p) (.pointer q)).run C.P w = .ok (.bool b) w → r = (.b b, st) → Sim C o d a w σ r.2 r.1 := by
      intro p q b hx hy hr e
      subst e
      refine .quiet h (cv := .bool b) ?_ rfl (.b _)
      unfold Go.execOp
      simp only [hop, hx, hy, eqGuard_ptr, Sem.run_bind, Sem.run_pure, Result.andThen_ok, ho, hr]
    simp only [execOp] at he
    split at he
    · rename_i hx hy
      have hvx : a.eval x' = .pointer none := VR.z_inv (hx ▸ h.opdV hlx (by rw [hx]; simp) (by rw [hx]; rfl))
      have hvy : a.eval y' = .pointer none := VR.z_inv (hy ▸ h.opdV hly (by rw [hy]; simp) (by rw [hy]; rfl))
      refine key _ _ _ hvx hvy ?_ (Option.some.inj he).symm
      cases ng <;> simp [run_eql_nil hpt]
    · rename_i k off hx hy
      have hvx := (hx ▸ h.opdV hlx (by rw [hx]; simp) (by rw [hx]; rfl)).p_inv
      have hvy : a.eval y' = .pointer none := VR.z_inv (hy ▸ h.opdV hly (by rw [hy]; simp) (by rw [hy]; rfl))
      refine key _ _ _ hvx hvy ?_ (Option.some.inj he).symm
      cases ng <;> simp [run_eql_nil hpt]
    · rename_i k off k' off' hx hy
      have hvx := (hx ▸ h.opdV hlx (by rw [hx]; simp) (by rw [hx]; rfl)).p_inv
      have hvy := (hy ▸ h.opdV hly (by rw [hy]; simp) (by rw [hy]; rfl)).p_inv
      split at he
      · rename_i hk
        obtain ⟨rfl, rfl⟩ := hk
        refine key _ _ _ hvx hvy ?_ (Option.some.inj he).symm
        cases ng
        · exact run_eql_ptr_same w _ hpt hj
        · exact Lib.run_neq_ptr_same w _ hpt hj
      · cases he
    · cases he
  · cases hl
theorem noEsc_run {P : Program} {f : FuncId} (h : noEsc P f = true) (v : Value) (w : World) : (callFunc f #[v]).run P w = .ok (.value v) w := by
  unfold noEsc at h
  split at h
  · rename_i fn hf
    simp only [Bool.and_eq_true, beq_iff_eq] at h
    obtain ⟨⟨h1, h2⟩, h3⟩ := h
    rw [run_callFunc_extern hf (by rw [h2]; kernel_rfl) h1 (by unfold Extern.findNext; rw [h2, h3]; kernel_rfl) (e := Extern.AbiNoEscape.same) (by unfold Extern.find; rw [h2, h3]; kernel_rfl)]
    rw [Lib.run_noEscape]
    rfl
  · cases h
theorem sim_cp {t n off : Nat} {x : Opd} (h : Conc C st a w σ) (hl : lowOp C.P (.cp t n off x) o.op = true) (he : execOp R Ω C.E st d (.cp t n off x) = some r) :
    Sim C o d a w σ r.2 r.1 := by
  simp only [execOp] at he
  split at he
  · rename_i k off' hx
    obtain ⟨cs, hbx, he2⟩ := Option.bind_eq_some_iff.1 he
    clear he
    have he := he2
    clear he2
    split at he
    · rename_i hon
      obtain ⟨hoo, hn⟩ := hon
      subst hoo
      split at he
      · rename_i t' _ _ hz
        split at he
        · rename_i htt
          subst htt
          obtain rfl := Option.some.inj he
          obtain ⟨vs, T, hB⟩ := h.bx k cs hbx
          obtain ⟨rfl, hsze⟩ : t' = T ∧ vs.size = cs.length := hB.ty t' _ _ (List.mem_of_getElem? hz)
          have hsh : w.shape? (σ.κ k) = some (t', n) := by simp [World.shape?, hB.hh, hsze, hn]
          have hoff : off' < n := by rw [← hn]; exact lt_of_get hz
          have hfin : ∀ y, lowO y x = true → ((Go.execOp a.eval o).run C.P w = .ok (.value (a.eval y)) w) → Sim C o d a w σ st (.p k off') := by
            intro y hly hr
            have hv := (hx ▸ h.opdV hly (by rw [hx]; simp) (by rw [hx]; rfl)).p_inv
            exact .quiet h (cv := a.eval y) hr rfl (by rw [hv]; exact .p k off')
          simp only [lowOp] at hl
          split at hl
          · rename_i s dt y hop
            simp only [Bool.and_eq_true] at hl
            obtain ⟨hly, hc⟩ := hl
            have hv := (hx ▸ h.opdV hly (by rw [hx]; simp) (by rw [hx]; rfl)).p_inv
            refine hfin y hly ?_
            unfold convOK at hc
            split at hc
            · rename_i u hs hd
              simp only [Bool.and_eq_true] at hc
              obtain ⟨hc, _⟩ := hc
              split at hc
              · rename_i j hj
                have := Lib.run_to_unsafe (P := C.P) w ⟨σ.κ k, off', none⟩ hs hd hj (by simpa using hc) hsh hoff
                unfold Go.execOp
                simp [hop, hv, this]
              · cases hc
            · rename_i u hs hd
              simp only [Bool.and_eq_true] at hc
              obtain ⟨hc, hlies⟩ := hc
              obtain ⟨j, hj⟩ := Option.isSome_iff_exists.1 hc
              have := Lib.run_from_unsafe (P := C.P) w ⟨σ.κ k, off', none⟩ hs hd hj hsh hlies
              unfold Go.execOp
              simp [hop, hv, this]
            · cases hc
          · rename_i c hop
            simp only [Bool.and_eq_true] at hl
            obtain ⟨hcal, h2⟩ := hl
            split at hcal
            · rename_i f' hc
              obtain ⟨y', hargs, hly⟩ : ∃ y', c.args.toList = [y'] ∧ lowO y' x = true := by
                cases ha : c.args.toList with
                | nil => rw [ha] at h2; simp [lowOL] at h2
                | cons y' l =>
                  rw [ha] at h2
                  cases l with
                  | nil => exact ⟨y', rfl, by simpa [lowOL] using h2⟩
                  | cons z l => simp [lowOL] at h2
              refine hfin y' hly ?_
              have hargs' : c.args = #[y'] := by rw [← Array.toArray_toList (xs := c.args), hargs]
              have hev : a.eval (.func f') = .func (.func f') #[] #[] := rfl
              have hcf := noEsc_run hcal (a.eval y') w
              unfold Go.execOp
              simp [hop, resolve, hc, hev, Deferred.ofValue, invoke, hargs']
              exact hcf
            · cases hcal
          · cases hl
        · cases he
      · cases he
    · cases he
  · cases he
theorem byteFlat {I : Nat → Prop} {κ : Key → Nat} (l : List UInt8) : Flat w I κ 1 (l.map byteAV) (byteCells ⟨l.toArray⟩) := by
  refine ⟨by simp [byteCells], fun e he => ?_, fun e he => ?_, fun e he c hc => ?_, fun j e m c hj hm => ?_⟩
  · obtain ⟨b, _, rfl⟩ := List.mem_map.1 he; rfl
  · obtain ⟨b, _, rfl⟩ := List.mem_map.1 he; rfl
  · obtain ⟨b, _, rfl⟩ := List.mem_map.1 he
    simp only [byteAV, AV.cl, List.mem_singleton] at hc
    subst hc; rfl
  · rw [List.getElem?_map] at hj
    obtain ⟨b, hb, rfl⟩ := Option.map_eq_some_iff.1 hj
    cases m with
    | zero =>
      simp only [byteAV, AV.cl, List.getElem?_cons_zero, Option.some.injEq] at hm
      subst hm
      have : (byteCells ⟨l.toArray⟩)[j * 1 + 0]? = some (.int .u8 b.toNat) := by simp [byteCells, hb]
      rw [this]
      exact .i _ _
    | succ m => simp [byteAV, AV.cl] at hm
theorem sim_aq {t : Nat} {x y : Opd} (h : Conc C st a w σ) (hl : lowOp C.P (.aq t x y) o.op = true) (he : execOp R Ω C.E st d (.aq t x y) = some r) :
    Sim C o d a w σ r.2 r.1 := by
  obtain ⟨c, x', y', ty, tx, hop, hcal, hargs, htys, hlx, hly, htx, hty, hsz, hby, hz⟩ : ∃ c x' y' ty tx, o.op = .call c ∧ c.callee = .builtin .append ∧ c.args.toList = [x', y'] ∧ c.argTypes.toList = [ty, tx] ∧ lowO x' x = true ∧ lowO y' y = true ∧ isStrT C.P tx = true ∧
      sliceOf C.P ty = some t ∧ sized C.P t 1 = true ∧ C.P.bytesOf t = 1 ∧ ∃ zv, zeroOf C.P t = some zv ∧ zv.cells.size = 1 := by
    simp only [lowOp] at hl; split at hl
    · rename_i c hy
      simp only [Bool.and_eq_true] at hl
      obtain ⟨h1, h2⟩ := hl
      split at h1
      · rename_i hcal
        split at h2
        · rename_i x' y' t1 t2 ha ht
          simp only [Bool.and_eq_true, beq_iff_eq] at h2
          obtain ⟨⟨⟨⟨⟨⟨h3, h4⟩, h5⟩, h6⟩, h7⟩, h8⟩, h9⟩ := h2
          split at h9
          · rename_i zv hzv
            exact ⟨c, x', y', t1, t2, hy, hcal, ha, ht, h3, h4, h5, h6, h7, h8, zv, hzv, by simpa using h9⟩
          · cases h9
        · cases h2
      · cases h1
    · cases hl
  obtain ⟨zv, hzv, hzs⟩ := hz
  have hu := sliceOf_inv' hty
  have hus : C.P.underlying tx = some .string := by
    unfold isStrT at htx
    split at htx
    · assumption
    · cases htx
  obtain ⟨i, hi, hiz⟩ := zeroOf_inv hzv
  obtain ⟨_, hcells, hpos⟩ := sized_inv hsz
  have hisz : i.size = 1 := by rw [← hcells]; simp [Program.cellsOf, hi]
  have hiby : i.bytes = 1 := by rw [← hby]; simp [Program.bytesOf, hi]
  have hargs' : c.args = #[x', y'] := by rw [← Array.toArray_toList (xs := c.args), hargs]
  have htys' : c.argTypes = #[ty, tx] := by rw [← Array.toArray_toList (xs := c.argTypes), htys]
  have hrun : ∀ cv w', (Builtin.append_ #[ty, tx] o.type #[a.eval x', a.eval y']).run C.P w = .ok cv w' → (Go.execOp a.eval o).run C.P w = .ok (.value cv) w' := by
    intro cv w' hr
    unfold Go.execOp
    simp [hop, resolve, hcal, hargs', htys', invoke, builtin, hr]
  simp only [execOp] at he
  obtain ⟨dd, hdd, he1⟩ := Option.bind_eq_some_iff.1 he
  clear he
  split at he1
  · rename_i l hyl
    obtain ⟨q, hq, he3⟩ := Option.bind_eq_some_iff.1 he1
    clear he1
    split at he3
    · rename_i hcond
      simp only [Bool.and_eq_true, decide_eq_true_eq] at hcond
      obtain ⟨hbytes, hmax⟩ := hcond
      obtain rfl := Option.some.inj he3
      have hvy : a.eval y' = .string ⟨l.toArray⟩ := (hyl ▸ h.opdV hly (by rw [hyl]; simp) (by rw [hyl]; rfl)).s_inv
      have hls : (⟨l.toArray⟩ : ByteArray).size = l.length := by simp [ByteArray.size]
      have hf : Flat w σ.I σ.κ 1 (l.map byteAV) (byteCells ⟨l.toArray⟩) := byteFlat l
      have hsrc' : Src C.P i.size tx (a.eval y') l.length (byteCells ⟨l.toArray⟩) w := by
        rw [hisz, hvy, ← hls]; exact Src.ofString w hus _
      obtain ⟨hc, hdst⟩ := h.consume hlx hq
      have hm63 : (((q.1.length + l.length : Nat) : Int)) ≤ 9223372036854775807 := by simp [maxLen] at hmax; omega
      have hgrow : ∀ A cap olds, a.eval x' = .slice A q.1.length cap → q.1.length ≤ cap → (Builtin.firstCells i.size q.1.length (.slice A q.1.length cap)).run C.P w.drew = .ok olds.toArray w.drew → Flat w σ.I σ.κ 1 q.1 olds →
          cap < q.1.length + l.length → Sim C o d a w σ (q.2.dropB (.s dd)) (.o t (q.1 ++ l.map byteAV)) := by
        intro A cap olds hv hle hold hfo hlt
        have hap := run_append_grow_src (P := C.P) w ty tx o.type t i zv hu hi hiz A q.1.length cap olds hold _ _ _ hsrc' hlt hm63
          (growslice_fits hlt (by rw [hiby]; omega))
        have hge := grownCap_ge w (q.1.length + l.length) cap t
        have hgm := grownCap_le_maxLen w (q.1.length + l.length) cap t hmax
        generalize hN : grownCap w (q.1.length + l.length) cap t = N at hap hge hgm
        have hff := hfo.append hf
        have hlen : (olds ++ byteCells ⟨l.toArray⟩).length = q.1.length + l.length := by rw [hff.len, List.length_append]; simp
        obtain ⟨σ', hst, hc', ho, _⟩ := (hc.dropB (.s dd)).drew.newRow (L := .rowS C.E.dp dd) (t := t) (es := q.1 ++ l.map byteAV) (cap := N) (cs := (olds ++ byteCells ⟨l.toArray⟩).toArray ++ Builtin.zeroCells zv.cells (N - (q.1.length + l.length)))
          (by omega) (fun e he => by rw [hcells]; exact hff.nc e he) (by simpa using hge) hgm
          (by
            rw [Array.size_append, size_zeroCells, hzs, hcells, List.size_toArray, hlen]
            omega) hff.pure hff.one (fun j e m c hj hq' => by
              have hlt2 := flat_lt (lt_of_get hj) (lt_of_get hq') (hff.nc e (List.mem_of_getElem? hj))
              rw [List.length_append, List.length_map] at hlt2
              rw [hcells, Array.getD_eq_getD_getElem?, Array.getElem?_append, if_pos (by rw [List.size_toArray, hlen]; omega), List.getElem?_toArray]
              exact (hff.cell j e m c hj hq').mono (fun _ h => h) (fun _ _ => rfl) (fun _ _ => rfl))
        rw [List.length_append, List.length_map] at ho
        exact .of_run (hrun _ _ (by rw [hv]; exact hap)) (Conc.own_put hdd hst.drew hc' ho)
      rcases hdst with ⟨h1, h2⟩ | ⟨L, g, cap, cs, hv, hR, hid⟩
      · -- onto nothing
        rw [h1] at hgrow hm63 ⊢
        by_cases hl0 : l = []
        · subst hl0
          have hap := run_append_nothing (P := C.P) w ty tx o.type t i hu hi none 0 0 (Nat.le_refl _) (a.eval y') hsrc'
          exact .of_run (hrun _ _ (by rw [h2]; exact hap)) (Conc.own_put hdd (.refl _ _ _) (hc.dropB _) (.inl ⟨rfl, rfl⟩))
        · have hpos' : 0 < l.length := List.length_pos_iff.2 hl0
          exact hgrow none 0 [] h2 (Nat.le_refl _) (by rw [run_firstCells_none]) .nil (by simpa using hpos')
      · have hszt : C.P.cellsOf t = 1 := hcells
        by_cases hroom : q.1.length + l.length ≤ cap
        · have hfit : q.1.length + (⟨l.toArray⟩ : ByteArray).size ≤ cs.size := by rw [hls, hR.size, hszt]; omega
          have hap := Lib.run_append_room_string (P := C.P) w ty tx o.type t i hu hus hi hisz g q.1.length cap cs hR.hh ⟨l.toArray⟩ (by rw [hls]; exact hroom) hfit
          have hsl : (Lib.strCells ⟨l.toArray⟩) = byteCells ⟨l.toArray⟩ := rfl
          have hbl : (byteCells ⟨l.toArray⟩).length = l.length := by rw [byteCells_length, hls]
          have hw : ((cs.toList.take q.1.length ++ Lib.strCells ⟨l.toArray⟩ ++ cs.toList.drop (q.1.length + (⟨l.toArray⟩ : ByteArray).size)).toArray) = wrt cs (q.1.length * 1) (byteCells ⟨l.toArray⟩) := by
            unfold wrt; rw [hls, hbl, hsl, Nat.mul_one]
          rw [hw, hls] at hap
          have hfit' : q.1.length * 1 + (byteCells ⟨l.toArray⟩).length ≤ cs.size := by rw [hbl, Nat.mul_one, ← hls]; exact hfit
          have hsame := Same.setRow hc hR.ow (wrt cs (q.1.length * 1) (byteCells ⟨l.toArray⟩))
          have hc' := hc.sameL hsame hid
          have hst := Stp.setRow hc hR.ow (hR.wr trivial) (wrt cs (q.1.length * 1) (byteCells ⟨l.toArray⟩))
          have hfo := hR.flat
          rw [hszt] at hfo
          have hff := hfo.append hf
          have hR' : RowAt C.P C.W (w.setRow g (wrt cs (q.1.length * 1) (byteCells ⟨l.toArray⟩))) σ L True t (q.1 ++ l.map byteAV) g cap (wrt cs (q.1.length * 1) (byteCells ⟨l.toArray⟩)) := by
            refine ⟨hR.ow, hR.wr, setRow_heap w _ _ _ _ _ hR.hh, hR.pos, fun e he => by rw [hszt]; exact hff.nc e he, by simpa using hroom, hR.max, by rw [size_wrt _ _ _ hfit', hR.size], hff.pure, hff.one, fun j e m c hj hm => ?_, hR.base⟩
            have hv' := hff.cell j e m c hj hm
            have hlt2 := flat_lt (lt_of_get hj) (lt_of_get hm) (hff.nc e (List.mem_of_getElem? hj))
            rw [hszt, getD_wrt _ _ _ hfit']
            refine VR.same hsame ?_
            have hol : ((cs.toList.drop 0).take (q.1.length * 1)).length = q.1.length * 1 := hfo.len
            rw [List.getElem?_append, hol] at hv'
            rw [List.length_append, Nat.add_mul] at hlt2
            by_cases hj2 : j * 1 + m < q.1.length * 1
            · rw [if_pos hj2] at hv'
              rw [if_neg (by omega)]
              rw [List.getElem?_take, if_pos hj2, List.drop_zero] at hv'
              simpa [Array.getD_eq_getD_getElem?] using hv'
            · rw [if_neg hj2] at hv'
              rw [if_pos ⟨by omega, by rw [hf.len]; exact hlt2⟩]
              exact hv'
          refine .of_run (hrun _ _ (by rw [hv, hvy]; exact hap)) (Conc.own_put hdd (hst.trans (.relabel (hR.wr trivial))) ((hc'.relabel hR.ow hid).dropB _) (.inr ⟨g, cap, _, by rw [List.length_append, List.length_map], hR'.relabel⟩))
        · have hfo := hR.flat
          rw [hszt] at hfo
          refine hgrow (some ⟨g, 0, none⟩) cap _ hv hR.ecap (run_firstCells_some w.drew i.size _ _ _ _ _ (by rw [hisz]; exact hfo.len) (fun j u hj => ?_)) hfo (by omega)
          have := cells_at hR.hh j u hj
          simpa using this
    · cases he3
  · cases he1
theorem bytesOf_get : ∀ {es : List AV} {l : List UInt8}, bytesOf es = some l → es = l.map byteAV
  | [], l, h => by cases h; rfl
  | x :: es, l, h => by
    unfold bytesOf at h
    split at h
    · rename_i heq; cases heq
    · rename_i n r heq
      cases heq
      split at h
      · rename_i hn
        obtain ⟨m, hm, rfl⟩ := Option.map_eq_some_iff.1 h
        rw [bytesOf_get hm]
        simp only [List.map_cons, byteAV, List.cons.injEq, AV.i.injEq, true_and, and_true]
        have : (UInt8.ofNat n.toNat).toNat = n.toNat := by simp [UInt8.toNat_ofNat']; omega
        rw [this]
        omega
      · cases h
    · cases h
theorem sim_tx {x : Opd} (h : Conc C st a w σ) (hl : lowOp C.P (.tx x) o.op = true) (he : execOp R Ω C.E st d (.tx x) = some r) :
    Sim C o d a w σ r.2 r.1 := by
  simp only [lowOp] at hl
  split at hl
  · rename_i s dt y hop
    simp only [Bool.and_eq_true] at hl
    obtain ⟨⟨hly, hst⟩, hsl⟩ := hl
    split at hsl
    · rename_i e hse
      simp only [Bool.and_eq_true, beq_iff_eq] at hsl
      have hd : C.P.underlying dt = some .string := by
        unfold isStrT at hst
        split at hst
        · assumption
        · cases hst
      have hu := sliceOf_inv' hse
      have hue : C.P.underlying e = some (.int .u8) := by
        have := hsl.1
        unfold intT at this
        split at this
        · rename_i k hk; cases this; exact hk
        · cases this
      simp only [execOp] at he
      obtain ⟨q, hq, he1⟩ := Option.bind_eq_some_iff.1 he
      clear he
      obtain ⟨l, hb, he2⟩ := Option.bind_eq_some_iff.1 he1
      clear he1
      split at he2
      · cases he2
      · rename_i hne
        obtain rfl := Option.some.inj he2
        have hes := bytesOf_get hb
        obtain ⟨news, _, hf, hsl2⟩ := h.src (sz := 1) hu hly hq (fun e he => by
          rw [hes] at he
          obtain ⟨b, _, rfl⟩ := List.mem_map.1 he; rfl)
        have hl0 : l ≠ [] := hne
        obtain ⟨b, n, c, hv, hn, hcell⟩ := hsl2 (by rw [hes]; simpa using hl0)
        refine .quiet h (cv := .string ⟨l.toArray⟩) ?_ rfl (.s l)
        have hlen : n = l.length := by rw [hn, hes, List.length_map]
        have hrun := run_convert_bytes_back (P := C.P) w s dt e b c l hu hue hd (fun j hj => by
          have hm : l[j]? = some l[j] := List.getElem?_eq_getElem hj
          have h1 := hf.cell j (byteAV l[j]) 0 (byteAV l[j]) (by rw [hes, List.getElem?_map, hm]; rfl) rfl
          rw [Nat.mul_one, Nat.add_zero] at h1
          have hjl : j < news.length := by rw [hf.len, hes, List.length_map, Nat.mul_one]; exact hj
          rw [List.getElem?_eq_getElem hjl] at h1
          have h2 := VR.i_inv h1
          simp only [Option.getD_some] at h2
          exact (hcell j _ (List.getElem?_eq_getElem hjl)).trans (congrArg some h2))
        unfold Go.execOp
        rw [hlen] at hv
        simp [hop, hv, hrun]
    · cases hsl
  · cases hl
theorem sim_sz {x y : Opd} (h : Conc C st a w σ) (hl : lowOp C.P (.sz x y) o.op = true) (he : execOp R Ω C.E st d (.sz x y) = some r) :
    Sim C o d a w σ r.2 r.1 := by
  simp only [lowOp] at hl
  split at hl
  · rename_i t x' y' hop
    simp only [Bool.and_eq_true] at hl
    obtain ⟨⟨hlx, hly⟩, hsz⟩ := hl
    simp only [execOp] at he
    split at he
    · rename_i k off k2 o2 hx hy
      split at he
      · rename_i hm
        obtain ⟨cs, hbx, he2⟩ := Option.bind_eq_some_iff.1 he
        clear he
        split at he2
        · rename_i T0 k' u hz
          split at he2
          · rename_i hk
            obtain ⟨h1, h2, h3⟩ := hk
            subst h3; subst h1; subst h2
            obtain rfl := Option.some.inj he2
            have hvx := (hx ▸ h.opdV hlx (by rw [hx]; simp) (by rw [hx]; rfl)).p_inv
            have hvy := (hy ▸ h.opdV hly (by rw [hy]; simp) (by rw [hy]; rfl)).p_inv
            obtain ⟨vs, T, hB⟩ := h.bx k2 cs hbx
            have hlt : o2 < cs.length := lt_of_get hz
            have hty := hB.ty T0 k2 u (List.mem_of_getElem? hz)
            have hone : ∀ v ∈ (Value.pointer (some ⟨σ.κ k2, o2, none⟩)).cells.toList, v.oneCell' = true := by
              intro v hv
              have : v = .pointer (some ⟨σ.κ k2, o2, none⟩) := by simpa [Value.cells] using hv
              subst this; rfl
            have hst := run_storeAt (C := C) (w := w) (t := t) (off := o2) (v := .pointer (some ⟨σ.κ k2, o2, none⟩)) (n := 1) hB.hh hsz rfl (by have := hB.size; omega) hone
            have hrun : (Go.execOp a.eval o).run C.P w = .ok .skip (w.setRow (σ.κ k2) (wrt vs o2 (Value.pointer (some ⟨σ.κ k2, o2, none⟩)).cells.toList)) := by
              unfold Go.execOp
              simp [hop, hvx, hvy, hst]
            have hcc : (Value.pointer (some ⟨σ.κ k2, o2, none⟩)).cells.toList = [Value.pointer (some ⟨σ.κ k2, o2, none⟩)] := rfl
            rw [hcc] at hrun
            refine .of_skip hrun ⟨.setRow h hB.ow (hB.wr hm) _, ?_, fun _ _ => VR.u _, fun _ _ _ _ e => by cases e⟩
            rw [set_putCells _ _ _ hlt]
            refine h.storeBox hbx hB (by simp) (by simp only [List.length_singleton]; omega) (fun c hc => ?_) (fun j c hj => ?_) (fun j t' es' hj => ?_) (fun _ c hc => ?_) (fun t' kk uu ht => ?_)
            · have : c = .bp T0 k2 true := by simpa using hc
              subst this; rfl
            · cases j with
              | zero =>
                have : AV.bp T0 k2 true = c := by simpa using hj
                subst this
                exact ⟨rfl, rfl⟩
              | succ j => simp at hj
            · cases j <;> simp at hj
            · have : c = .bp T0 k2 true := by simpa using hc
              subst this
              simp [AV.deep]
            · have : t' = T0 := by
                have := List.mem_singleton.1 ht
                cases this; rfl
              rw [this]; exact hty
          · cases he2
        · cases he2
      · cases he
    · cases he
  · cases hl
end
end Go.Proofs.Ytmfihcbafljcbaa.A
