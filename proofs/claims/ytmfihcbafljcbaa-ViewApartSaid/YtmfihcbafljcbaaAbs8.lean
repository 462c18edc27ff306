/- Addresses of elements, sums and comparisons, lengths, pieces: the model does what the abstract run says. -/
import Derived.Test.YtmfihcbafljcbaaAbs7
set_option linter.unusedSectionVars false
set_option linter.unusedVariables false
set_option linter.unusedSimpArgs false
set_option linter.constructorNameAsVariable false
namespace Go.Proofs.Ytmfihcbafljcbaa.A
open Go
variable [Base]
section
variable {C : Cx} {st : St} {a : Act} {w : World} {σ : Sp} {o : Oper} {d : Option Nat} {R : Rec} {Ω : Orc} {r : AV × St}

theorem natOf_inv {x : AV} {j : Nat} (h : natOf x = some j) : ∃ k n, x = .i k n ∧ 0 ≤ n ∧ n.toNat = j := by
  cases x <;> simp [natOf] at h
  exact ⟨_, _, rfl, h.1, h.2⟩
theorem sized_inv {P : Program} {t sz : Nat} (h : sized P t sz = true) : (P.info? t).isSome = true ∧ P.cellsOf t = sz ∧ 0 < sz := by
  simp only [sized, Bool.and_eq_true, decide_eq_true_eq] at h
  exact ⟨h.1.1, h.1.2, h.2⟩
theorem elemAt_inv {sz : Nat} {e : Option AV} {f : AV → AV} (h : elemAt sz st e f = some r) : ∃ x, e = some x ∧ x.nc = sz ∧ r = (f x, st) := by
  unfold elemAt at h
  obtain ⟨x, hx, h⟩ := Option.bind_eq_some_iff.1 h
  split at h
  · rename_i hn; exact ⟨x, hx, hn, (Option.some.inj h).symm⟩
  · cases h
theorem lt_of_get {α : Type} {l : List α} {i : Nat} {x : α} (h : l[i]? = some x) : i < l.length := by
  rcases Nat.lt_or_ge i l.length with h2 | h2
  · exact h2
  · simp [h2] at h

theorem sim_ia {sz : Nat} {arr : Option Nat} {x i : Opd} (h : Conc C st a w σ) (hl : lowOp C.P (.ia sz arr x i) o.op = true) (he : execOp R Ω C.E st d (.ia sz arr x i) = some r) :
    Sim C o d a w σ r.2 r.1 := by
  obtain ⟨t, x', i', hop, hlx, hli, hty⟩ : ∃ t x' i', o.op = .indexAddr t x' i' ∧ lowO x' x = true ∧ lowO i' i = true ∧
      ((arr = none ∧ ∃ e, C.P.underlying t = some (.slice e) ∧ sized C.P e sz = true) ∨ ∃ n e, arr = some n ∧ C.P.underlying t = some (.array n e) ∧ sized C.P e sz = true) := by
    simp only [lowOp] at hl; split at hl
    · rename_i t y hy hyy
      simp only [Bool.and_eq_true] at hl
      refine ⟨_, _, _, hyy, hl.1.1, hl.1.2, ?_⟩
      have := hl.2
      split at this
      · rename_i e hu; exact .inl ⟨rfl, e, hu, this⟩
      · rename_i n n' e hu
        simp only [Bool.and_eq_true, beq_iff_eq] at this
        obtain ⟨rfl, h2⟩ := this
        exact .inr ⟨_, e, rfl, hu, h2⟩
      · cases this
    · cases hl
  simp only [execOp] at he
  obtain ⟨j, hj, he⟩ := Option.bind_eq_some_iff.1 he
  obtain ⟨k, n, hi, hn0, rfl⟩ := natOf_inv hj
  have hvi := (hi ▸ h.opdV hli (by rw [hi]; simp) (by rw [hi]; rfl)).i_inv
  rcases hty with ⟨rfl, e, hu, hsz⟩ | ⟨len, e, rfl, hu, hsz⟩
  · obtain ⟨hinfo, hcells, hpos⟩ := sized_inv hsz
    have hrun : ∀ g b len cap, a.eval x' = .slice (some ⟨g, b, none⟩) len cap → n.toNat < len →
        (Go.execOp a.eval o).run C.P w = .ok (.value (.pointer (some ⟨g, b + n.toNat * sz, none⟩))) w := by
      intro g b len cap hv hlt
      unfold Go.execOp
      have : 0 ≤ n ∧ n < (len : Int) := ⟨hn0, by omega⟩
      simp [hop, hv, hvi, Instr.indexAt, asIntOf, run_underlying hu, this, run_sizeOf' hinfo, hcells, add_lit]
    simp only at he
    split at he
    · rename_i t' es hx
      obtain ⟨e', hee, hnc, rfl⟩ := elemAt_inv he
      have hlt := lt_of_get hee
      obtain ⟨A, cap, hv, hes⟩ := (hx ▸ h.opdV hlx (by rw [hx]; simp) (by rw [hx]; rfl)).l_inv
      rcases hes with hes | ⟨g, b, cs, T, fz, sz', rfl, hI, hh, ht, hsz', hnc', hsize, hp, h1, hcap, hmax, hc⟩
      · subst hes; simp at hlt
      · have hm := List.mem_of_getElem? hee
        obtain rfl : sz = sz' := hnc.symm.trans (hnc' e' hm)
        refine .quiet h (hrun _ _ _ _ hv hlt) rfl ?_
        refine VR.e e' 0 g (b + n.toNat * sz) cs T fz hI hh (hp e' hm) ?_ (h1 e' hm) fun m c hmc => hc _ e' m c hee hmc
        rw [hnc]
        have : (n.toNat + 1) * sz ≤ es.length * sz := Nat.mul_le_mul_right _ (by omega)
        rw [Nat.add_mul] at this
        omega
    · rename_i t' es hx
      cases x with
      | c z => cases he
      | t m =>
        simp only at he
        obtain ⟨e', hee, hnc, rfl⟩ := elemAt_inv he
        have hlt := lt_of_get hee
        have hx' : fget st.fr m = .o t' es := hx
        have hrow : st.rowAt C.E.dp (.s m) = some (t', es) := by simp [St.rowAt, hx']
        obtain ⟨g, cap, cs, hpv, hR⟩ := h.rowNE hrow (fun e => by subst e; simp at hlt)
        have hv : a.eval x' = .slice (some ⟨g, 0, none⟩) es.length cap := by rw [opd_tmp hlx]; exact hpv
        refine .lent h (hrun _ _ _ _ hv hlt) (fun _ _ e => by cases e) fun dd => ?_
        intro t2 es2 h2 hl2
        exact ⟨g, _, cap, hpv, by simp⟩
    · rename_i pl hx
      obtain ⟨⟨t', es⟩, hrow, he⟩ := Option.bind_eq_some_iff.1 he
      obtain ⟨e', hee, hnc, rfl⟩ := elemAt_inv he
      have hlt := lt_of_get hee
      obtain ⟨m, rfl, hm⟩ := slot_of_place hx rfl hlx
      have hs := hm ▸ h.slot hlx
      have hv : a.eval x' = pval w σ a pl := hs (by rw [hrow]; rfl)
      obtain ⟨g, cap, cs, hpv, hR⟩ := h.rowNE hrow (fun e => by subst e; simp at hlt)
      refine .lent h (hrun _ _ _ _ (hv.trans hpv) hlt) (fun _ _ e => by cases e) fun dd => ?_
      intro t2 es2 h2 hl2
      exact ⟨g, _, cap, hpv, by simp⟩
    · rename_i pl lo len hx
      split at he
      · rename_i hjl
        obtain ⟨⟨t', es⟩, hrow, he⟩ := Option.bind_eq_some_iff.1 he
        split at he
        · rename_i hll
          obtain ⟨e', hee, hnc, rfl⟩ := elemAt_inv he
          simp only at hll hee
          have hlt := lt_of_get hee
          obtain ⟨m, rfl, hm⟩ := slot_of_place hx rfl hlx
          obtain ⟨A, n', cap, hpv, hv⟩ := (hm ▸ h.slot hlx) t' es hrow hll
          obtain ⟨g, cap', cs, hpv', hR⟩ := h.rowNE hrow (fun e => by subst e; simp at hlt)
          obtain ⟨rfl, rfl, rfl⟩ : A = some ⟨g, 0, none⟩ ∧ n' = es.length ∧ cap = cap' := by
            rw [hpv] at hpv'; simpa using hpv'
          have hec := hR.ecap
          have hszz : C.P.cellsOf t' = sz := (hR.nc e' (List.mem_of_getElem? hee)).symm.trans hnc
          rw [if_neg (by omega), hszz] at hv
          simp only [Option.map_some, add_lit, Nat.zero_add] at hv
          refine .lent h (hrun _ _ _ _ hv hjl) (fun _ _ e => by cases e) fun dd => ?_
          intro t2 es2 h2 hl2
          exact ⟨g, _, cap, hpv, by rw [Nat.add_mul, Nat.add_zero]⟩
        · cases he
      · cases he
    · rename_i k b m s hx
      split at he
      · rename_i hc
        obtain rfl := Option.some.inj he
        obtain ⟨cap, _, _, hv⟩ := (hx ▸ h.opdV hlx (by rw [hx]; simp) (by rw [hx]; rfl)).sp_inv
        exact .quiet h (hrun _ _ _ _ hv hc.1) rfl (.p _ _)
      · cases he
    · cases he
  · obtain ⟨hinfo, hcells, hpos⟩ := sized_inv hsz
    simp only at he
    split at he
    · rename_i hlt
      have hrun : ∀ g b, a.eval x' = .pointer (some ⟨g, b, none⟩) → (Go.execOp a.eval o).run C.P w = .ok (.value (.pointer (some ⟨g, b + n.toNat * sz, none⟩))) w := by
        intro g b hv
        unfold Go.execOp
        have : 0 ≤ n ∧ n < (len : Int) := ⟨hn0, by omega⟩
        simp [hop, hv, hvi, Instr.indexAt, asIntOf, run_underlying hu, this, run_sizeOf' hinfo, hcells, add_lit, Instr.sureAddr]
      split at he
      · rename_i k b hx
        obtain rfl := Option.some.inj he
        have hv := (hx ▸ h.opdV hlx (by rw [hx]; simp) (by rw [hx]; rfl)).p_inv
        exact .quiet h (hrun _ _ hv) rfl (.p _ _)
      · rename_i z b hx
        obtain rfl := Option.some.inj he
        obtain ⟨g, b', cs, T, fz, hv, hI, hh, hpu, hs, h1, hc⟩ := (hx ▸ h.opdV hlx (by rw [hx]; simp) (by rw [hx]; rfl)).e_inv
        exact .quiet h (by rw [hrun _ _ hv, Nat.add_assoc]) rfl (.e z _ g b' cs T fz hI hh hpu hs h1 hc)
      · cases he
    · cases he

theorem bytes_append (l m : List UInt8) : (⟨l.toArray⟩ : ByteArray) ++ ⟨m.toArray⟩ = ⟨(l ++ m).toArray⟩ := by
  apply Go.WideShapes.bytes_inj
  simp
theorem bytes_size (l : List UInt8) : (⟨l.toArray⟩ : ByteArray).size = l.length := by simp [ByteArray.size]
theorem bytes_list (l : List UInt8) : (⟨l.toArray⟩ : ByteArray).toList = l := by simp [ByteArray.toList_eq]
theorem bytes_extract (l : List UInt8) (i j : Nat) : (⟨l.toArray⟩ : ByteArray).extract i j = ⟨((l.take j).drop i).toArray⟩ := by
  apply Go.WideShapes.bytes_inj
  simp [ByteArray.data_extract, List.drop_take]
theorem eqGuard_int (op : BinOp) (t : TypeId) (x y : Operand) (k k' : IntKind) (m n : Int) : eqGuard op t x y (.int k m) (.int k' n) = pure () := by
  unfold eqGuard; split <;> rfl
theorem eqGuard_bool (op : BinOp) (t : TypeId) (x y : Operand) (m n : Bool) : eqGuard op t x y (.bool m) (.bool n) = pure () := by
  unfold eqGuard; split <;> rfl
theorem eqGuard_string (op : BinOp) (t : TypeId) (x y : Operand) (m n : ByteArray) : eqGuard op t x y (.string m) (.string n) = pure () := by
  unfold eqGuard; split <;> rfl

theorem run_eqFlat {P : Program} {I : Nat → Prop} {κ : Key → Nat} (dd : Nat) (vs ws : Array Value) : ∀ (fs : List Field) (i : Nat) (ks : List Nat) (xs ys : List AV) (b : Bool), flatFields P i ks fs = true → sameCells ks xs ys = some b →
    (∀ (j : Nat) (c : AV), xs[j]? = some c → i + j < vs.size ∧ VR w I κ c (vs.getD (i + j) undef)) → (∀ (j : Nat) (c : AV), ys[j]? = some c → i + j < ws.size ∧ VR w I κ c (ws.getD (i + j) undef)) →
    (Op.eqFields (dd + 1) vs ws fs).run P w = .ok b w
  | [], i, ks, xs, ys, b, hf, he, hx, hy => by
    cases ks with
    | nil =>
      cases xs <;> cases ys <;> simp only [sameCells] at he <;> try contradiction
      obtain rfl := Option.some.inj he
      simp [Op.eqFields]
    | cons k ks => simp [flatFields] at hf
  | f :: fs, i, ks, xs, ys, b, hf, he, hx, hy => by
    cases ks with
    | nil => simp [flatFields] at hf
    | cons k ks =>
      simp only [flatFields, Bool.and_eq_true, bne_iff_ne, ne_eq, beq_iff_eq] at hf
      obtain ⟨⟨⟨⟨h1, h2⟩, h3⟩, h4⟩, h5⟩ := hf
      cases xs with
      | nil => unfold sameCells at he; split at he <;> simp_all
      | cons x xs =>
      cases ys with
      | nil => unfold sameCells at he; split at he <;> simp_all
      | cons y ys =>
      obtain ⟨sx, vx⟩ := hx 0 x rfl
      obtain ⟨sy, vy⟩ := hy 0 y rfl
      rw [Nat.add_zero] at sx sy vx vy
      rw [Array.getD_eq_getD_getElem?, Array.getElem?_eq_getElem sx] at vx
      rw [Array.getD_eq_getD_getElem?, Array.getElem?_eq_getElem sy] at vy
      simp only [Option.getD_some] at vx vy
      have p1 := run_part_plain (w := w) h3 (Array.getElem?_eq_getElem sx)
      have p2 := run_part_plain (w := w) h3 (Array.getElem?_eq_getElem sy)
      have hx' : ∀ (j : Nat) (c : AV), xs[j]? = some c → i + 1 + j < vs.size ∧ VR w I κ c (vs.getD (i + 1 + j) undef) := fun j c hc => by
        have := hx (j + 1) c (by simpa using hc)
        rwa [show i + (j + 1) = i + 1 + j by omega] at this
      have hy' : ∀ (j : Nat) (c : AV), ys[j]? = some c → i + 1 + j < ws.size ∧ VR w I κ c (ws.getD (i + 1 + j) undef) := fun j c hc => by
        have := hy (j + 1) c (by simpa using hc)
        rwa [show i + (j + 1) = i + 1 + j by omega] at this
      have step : ∀ (q r : Bool), (Op.equalIn (dd + 1) f.type vs[i] ws[i]).run P w = .ok q w → sameCells ks xs ys = some r → (q && r) = b → (Op.eqFields (dd + 1) vs ws (f :: fs)).run P w = .ok b w := by
        intro q r hq hr hb
        have ih := run_eqFlat dd vs ws fs (i + 1) ks xs ys r h5 hr hx' hy'
        simp only [Op.eqFields, h1, ne_eq, not_false_eq_true, if_true, Sem.run_bind, h2, p1, p2, hq, Result.andThen_ok]
        cases q with
        | false => obtain rfl : false = b := hb
                   simp
        | true =>
          obtain rfl : r = b := hb
          simpa using ih
      unfold sameCells at he
      split at he
      · rename_i hc _ _; cases hc
      · rename_i hk0 hxx hyy
        obtain ⟨rfl, rfl⟩ := List.cons.inj hk0
        obtain ⟨rfl, rfl⟩ := List.cons.inj hxx
        obtain ⟨rfl, rfl⟩ := List.cons.inj hyy
        obtain ⟨r, hr, rfl⟩ := Option.map_eq_some_iff.1 he
        split at h4 <;> try contradiction
        rename_i hu
        exact step _ r (by rw [vx.b_inv, vy.b_inv]; exact run_equalIn_bool' w dd f.type _ _ hu) hr rfl
      · rename_i hk0 hxx hyy
        obtain ⟨rfl, rfl⟩ := List.cons.inj hk0
        obtain ⟨rfl, rfl⟩ := List.cons.inj hxx
        obtain ⟨rfl, rfl⟩ := List.cons.inj hyy
        split at he
        · rename_i hkk
          subst hkk
          obtain ⟨r, hr, rfl⟩ := Option.map_eq_some_iff.1 he
          split at h4 <;> try contradiction
          rename_i hu
          exact step _ r (by rw [vx.i_inv, vy.i_inv]; exact run_equalIn_int w dd f.type _ _ _ _ hu) hr rfl
        · cases he
      · rename_i hk0 hxx hyy
        obtain ⟨rfl, rfl⟩ := List.cons.inj hk0
        obtain ⟨rfl, rfl⟩ := List.cons.inj hxx
        obtain ⟨rfl, rfl⟩ := List.cons.inj hyy
        obtain ⟨r, hr, rfl⟩ := Option.map_eq_some_iff.1 he
        split at h4 <;> try contradiction
        rename_i hu
        refine step _ r ?_ hr rfl
        rw [vx.s_inv, vy.s_inv, run_equalIn_string w dd f.type _ _ hu]
        simp [ByteArray.toList_eq]
      · cases he
theorem sim_ae {ks : List Nat} {ng : Bool} {x y : Opd} (h : Conc C st a w σ) (hl : lowOp C.P (.ae ks ng x y) o.op = true) (he : execOp R Ω C.E st d (.ae ks ng x y) = some r) :
    Sim C o d a w σ r.2 r.1 := by
  obtain ⟨t, x', y', t', op, hop, hopn, hlx, hly, hfl⟩ : ∃ t x' y' t' op, o.op = .binOp op t x' y' t' ∧ op = (if ng then BinOp.neq else .eql) ∧ lowO x' x = true ∧ lowO y' y = true ∧ flatT C.P ks t = true := by
    simp only [lowOp] at hl; split at hl
    · rename_i o' t x' y' t' hy
      simp only [Bool.and_eq_true, decide_eq_true_eq] at hl
      obtain ⟨⟨⟨h1, h2⟩, h3⟩, h4⟩ := hl
      exact ⟨_, _, _, _, _, hy, h1, h2, h3, h4⟩
    · cases hl
  simp only [execOp] at he
  split at he
  · rename_i xs ys hx hy
    obtain ⟨q, hq, he⟩ := Option.bind_eq_some_iff.1 he
    obtain rfl := Option.some.inj he
    have hvx := hx ▸ h.opdV hlx (by rw [hx]; simp) (by rw [hx]; rfl)
    have hvy := hy ▸ h.opdV hly (by rw [hy]; simp) (by rw [hy]; rfl)
    generalize hvv : a.eval x' = vx at hvx
    generalize hww : a.eval y' = vy at hvy
    cases hvx with | a _ vs sx _ cx =>
    cases hvy with | a _ ws sy _ cy =>
    unfold flatT at hfl
    split at hfl
    · rename_i fs hu
      simp only [Bool.and_eq_true, Bool.not_eq_eq_eq_not, Bool.not_true] at hfl
      obtain ⟨⟨f1, f2⟩, f3⟩ := hfl
      have hfo : C.P.fieldsOf t = fs := by simp [Program.fieldsOf, hu]
      have hrun : (Op.equal t (.agg vs) (.agg ws)).run C.P w = .ok q w := by
        show (Op.equalIn (9999 + 1) t (.agg vs) (.agg ws)).run C.P w = .ok q w
        rw [run_equalIn_struct w 9999 t vs ws (by rw [hfo]; exact hu) f2, hfo]
        exact run_eqFlat 9998 vs ws fs.toList 0 ks xs ys q f1 hq
          (fun j c hc => ⟨by have := (List.getElem?_eq_some_iff.1 hc).1; omega, by simpa using cx j c hc⟩)
          (fun j c hc => ⟨by have := (List.getElem?_eq_some_iff.1 hc).1; omega, by simpa using cy j c hc⟩)
      have hguard : (eqGuard op t x' y' (.agg vs) (.agg ws)).run C.P w = .ok () w := by
        subst hopn
        cases ng <;> simp [eqGuard, run_program, f3]
      refine .quiet h (cv := .bool (if ng then !q else q)) ?_ rfl (.b _)
      unfold Go.execOp
      subst hopn
      cases ng <;> simp [hop, hvv, hww, hguard, Go.binOp, hrun] <;> simp_all
    · cases hfl
  · cases he
theorem sim_bo {op : BinOp} {bl : Bool} {x y : Opd} (h : Conc C st a w σ) (hl : lowOp C.P (.bo op bl x y) o.op = true) (he : execOp R Ω C.E st d (.bo op bl x y) = some r) :
    Sim C o d a w σ r.2 r.1 := by
  by_cases hm : op = .or
  · -- the greater of two numbers
    subst hm
    obtain ⟨c, x', y', hop, hcal, hargs, hlx, hly⟩ : ∃ c x' y', o.op = .call c ∧ c.callee = .builtin .max ∧ c.args.toList = [x', y'] ∧ lowO x' x = true ∧ lowO y' y = true := by
      simp only [lowOp] at hl; split at hl
      · simp at hl
      · rename_i c hy
        simp only [Bool.and_eq_true] at hl
        obtain ⟨h1, h2⟩ := hl
        split at h1
        · rename_i hcal
          split at h2
          · rename_i x' y' ha
            simp only [Bool.and_eq_true] at h2
            exact ⟨c, x', y', hy, hcal, ha, h2.1.1, h2.1.2⟩
          · cases h2
        · cases h1
      · cases hl
    have hargs' : c.args = #[x', y'] := by rw [← Array.toArray_toList (xs := c.args), hargs]
    simp only [execOp] at he
    obtain ⟨z, hz, he⟩ := Option.bind_eq_some_iff.1 he
    obtain rfl := Option.some.inj he
    unfold bop at hz
    split at hz
    · rename_i k m k' n hx hy
      have hvx := (hx ▸ h.opdV hlx (by rw [hx]; simp) (by rw [hx]; rfl)).i_inv
      have hvy := (hy ▸ h.opdV hly (by rw [hy]; simp) (by rw [hy]; rfl)).i_inv
      split at hz
      · obtain rfl := Option.some.inj hz
        refine .quiet h (cv := .int k (if n > m then n else m)) ?_ rfl (.i _ _)
        unfold Go.execOp
        have := run_max_int2 (P := C.P) w c.argTypes o.type k k' m n
        simp [hop, resolve, hcal, hargs', invoke, builtin, hvx, hvy, this]
      · cases hz
    · split at hz
      · cases hz
      · cases hz
    · cases hz
    · cases hz
  obtain ⟨t, x', y', t', hop, hlx, hly, hbl⟩ : ∃ t x' y' t', o.op = .binOp op t x' y' t' ∧ lowO x' x = true ∧ lowO y' y = true ∧ bl = isBoolT C.P t := by
    simp only [lowOp] at hl; split at hl
    · rename_i o' t x' y' t' hy
      simp only [Bool.and_eq_true, beq_iff_eq, decide_eq_true_eq] at hl
      obtain ⟨⟨⟨⟨rfl, h2⟩, h3⟩, h4⟩, _⟩ := hl
      exact ⟨_, _, _, _, hy, h2, h3, h4⟩
    · split at hl
      · simp only [Bool.and_eq_true] at hl
        obtain ⟨_, h2⟩ := hl
        split at h2
        · simp only [Bool.and_eq_true, decide_eq_true_eq] at h2
          exact absurd h2.2 hm
        · cases h2
      · simp at hl
    · cases hl
  simp only [execOp] at he
  obtain ⟨z, hz, he⟩ := Option.bind_eq_some_iff.1 he
  obtain rfl := Option.some.inj he
  unfold bop at hz
  split at hz
  · rename_i k m k' n hx hy
    have hvx := (hx ▸ h.opdV hlx (by rw [hx]; simp) (by rw [hx]; rfl)).i_inv
    have hvy := (hy ▸ h.opdV hly (by rw [hy]; simp) (by rw [hy]; rfl)).i_inv
    split at hz
    · rename_i hk
      subst hk
      have key : ∀ cv, (Go.binOp op t (.int k m) (.int k n)).run C.P w = .ok cv w → z.copy = true → VR w σ.I σ.κ z cv → Sim C o d a w σ st z := by
        intro cv hrun hc hv
        refine .quiet h (cv := cv) ?_ hc hv
        unfold Go.execOp
        simp [hop, hvx, hvy, eqGuard_int, hrun]
      cases op <;> simp only [bopI] at hz <;> first
        | exact absurd rfl hm
        | (cases hz; done)
        | (obtain rfl := Option.some.inj hz; exact key _ (by simp [Go.binOp, Op.intArith]) rfl (.i _ _))
        | (obtain rfl := Option.some.inj hz; exact key _ (by simp [Go.binOp, Op.intCmp]) rfl (.b _))
        | skip
      · split at hz
        · cases hz
        · rename_i hn
          obtain rfl := Option.some.inj hz
          exact key _ (by simp [Go.binOp, Op.intDiv, hn]) rfl (.i _ _)
      · split at hz
        · cases hz
        · rename_i hn
          obtain rfl := Option.some.inj hz
          exact key _ (by simp [Go.binOp, Op.intDiv, hn]) rfl (.i _ _)
    · cases hz
  · rename_i m n hx hy
    have hvx := (hx ▸ h.opdV hlx (by rw [hx]; simp) (by rw [hx]; rfl)).b_inv
    have hvy := (hy ▸ h.opdV hly (by rw [hy]; simp) (by rw [hy]; rfl)).b_inv
    split at hz
    · rename_i hb
      have hu : C.P.underlying t = some .bool := by
        rw [hb] at hbl
        have := hbl.symm
        unfold isBoolT at this
        split at this
        · assumption
        · cases this
      have he1 := run_eql_bool (P := C.P) w t m n hu
      have he2 : (Go.binOp .neq t (.bool m) (.bool n)).run C.P w = .ok (.bool (!(m == n))) w := by
        simp only [Go.binOp] at he1 ⊢
        simp only [Sem.run_bind, Sem.run_pure] at he1 ⊢
        cases hq : (Op.equal t (.bool m) (.bool n)).run C.P w with
        | ok x w' => simp only [hq, Result.andThen_ok, Result.ok.injEq, Value.bool.injEq] at he1 ⊢; exact ⟨by rw [he1.1], he1.2⟩
        | halt x w' => simp [hq] at he1
      split at hz
      · obtain rfl := Option.some.inj hz
        refine .quiet h (cv := .bool (m == n)) ?_ rfl (.b _)
        unfold Go.execOp
        simp only [hop, hvx, hvy, eqGuard_bool, Sem.run_bind, Sem.run_pure, Result.andThen_ok, he1]
      · obtain rfl := Option.some.inj hz
        refine .quiet h (cv := .bool (!(m == n))) ?_ rfl (.b _)
        unfold Go.execOp
        simp only [hop, hvx, hvy, eqGuard_bool, Sem.run_bind, Sem.run_pure, Result.andThen_ok, he2]
      · cases hz
    · cases hz
  · rename_i m n hx hy
    have hvx := (hx ▸ h.opdV hlx (by rw [hx]; simp) (by rw [hx]; rfl)).s_inv
    have hvy := (hy ▸ h.opdV hly (by rw [hy]; simp) (by rw [hy]; rfl)).s_inv
    split at hz
    · split at hz
      · rename_i hle
        obtain rfl := Option.some.inj hz
        refine .quiet h (cv := .string ⟨(m ++ n).toArray⟩) ?_ rfl (.s _)
        unfold Go.execOp
        have : ¬ (((m.length + n.length : Nat) : Int) > IntKind.i64.max) := by
          simp [IntKind.max, IntKind.signed, IntKind.bits]; omega
        simp only [hop, hvx, hvy, eqGuard_string, Sem.run_bind, Sem.run_pure, Result.andThen_ok, Go.binOp, Op.stringOp, bytes_size, this, if_false, bytes_append]
      · cases hz
    · obtain rfl := Option.some.inj hz
      refine .quiet h (cv := .bool (m == n)) ?_ rfl (.b _)
      unfold Go.execOp
      simp only [hop, hvx, hvy, eqGuard_string, Sem.run_bind, Sem.run_pure, Result.andThen_ok, Go.binOp, Op.stringOp, bytes_list]
    · obtain rfl := Option.some.inj hz
      refine .quiet h (cv := .bool (!(m == n))) ?_ rfl (.b _)
      unfold Go.execOp
      simp only [hop, hvx, hvy, eqGuard_string, Sem.run_bind, Sem.run_pure, Result.andThen_ok, Go.binOp, Op.stringOp, bytes_list]
    · cases hz
  · cases hz

/-- the length of a slice, whoever holds it. -/
theorem Conc.len (h : Conc C st a w σ) {y : Operand} {x : Opd} {q : TypeId × List AV} (hl : lowO y x = true) (he : st.elems C.E.dp (st.ev x) = some q) :
    ∃ A cap, a.eval y = .slice A q.2.length cap ∧ q.2.length ≤ cap := by
  cases hx : st.ev x with
  | l t es =>
    rw [hx] at he
    obtain rfl := Option.some.inj he
    obtain ⟨A, cap, hv, hes⟩ := (hx ▸ h.opdV hl (by rw [hx]; simp) (by rw [hx]; rfl)).l_inv
    refine ⟨A, cap, hv, ?_⟩
    rcases hes with hes | ⟨_, _, _, _, _, _, _, _, _, _, _, _, _, _, _, hcap, _⟩
    · subst hes; exact Nat.zero_le _
    · exact hcap
  | n =>
    rw [hx] at he
    obtain rfl := Option.some.inj he
    exact ⟨_, _, (hx ▸ h.opdV hl (by rw [hx]; simp) (by rw [hx]; rfl)).n_inv, Nat.le_refl _⟩
  | o t es =>
    rw [hx] at he
    obtain rfl := Option.some.inj he
    obtain ⟨n, rfl, hn⟩ := slot_of_place hx rfl hl
    have hrow : st.rowAt C.E.dp (.s n) = some (t, es) := by simp [St.rowAt, hn]
    obtain ⟨A, cap, hv, hle⟩ := h.rowLen hrow
    exact ⟨A, cap, by rw [opd_tmp hl]; exact hv, hle⟩
  | r pl =>
    rw [hx] at he
    obtain ⟨n, rfl, hn⟩ := slot_of_place hx rfl hl
    have hrow : st.rowAt C.E.dp pl = some q := he
    obtain ⟨A, cap, hv, hle⟩ := h.rowLen (t := q.1) (es := q.2) hrow
    exact ⟨A, cap, ((hn ▸ h.slot hl) (by rw [hrow]; rfl)).trans hv, hle⟩
  | v pl lo len =>
    rw [hx] at he
    obtain ⟨n, rfl, hn⟩ := slot_of_place hx rfl hl
    simp only [St.elems] at he
    split at he
    · rename_i t es hrow
      split at he
      · rename_i hll
        obtain rfl := Option.some.inj he
        obtain ⟨A, n', cap, hpv, hv⟩ := (hn ▸ h.slot hl) t es hrow hll
        obtain ⟨A', cap', hpv', hle⟩ := h.rowLen hrow
        obtain ⟨rfl, rfl, rfl⟩ : A = A' ∧ n' = es.length ∧ cap = cap' := by
          rw [hpv] at hpv'; simpa using hpv'
        have e1 : ((es.drop lo).take len).length = len := by simp; omega
        simp only [e1]
        exact ⟨_, _, hv, by omega⟩
      · cases he
    · cases he
  | _ => rw [hx] at he; cases he

theorem sim_ln {str : Bool} {x : Opd} (h : Conc C st a w σ) (hl : lowOp C.P (.ln str x) o.op = true) (he : execOp R Ω C.E st d (.ln str x) = some r) :
    Sim C o d a w σ r.2 r.1 := by
  obtain ⟨c, y, t, hop, hcal, hargs, htys, hlo, hty⟩ : ∃ c y t, o.op = .call c ∧ c.callee = .builtin .len ∧ c.args.toList = [y] ∧ c.argTypes.toList = [t] ∧ lowO y x = true ∧
      (if str then isStrT C.P t else (sliceOf C.P t).isSome) = true := by
    simp only [lowOp] at hl; split at hl
    · rename_i c hy
      simp only [Bool.and_eq_true] at hl
      obtain ⟨h1, h2⟩ := hl
      split at h1
      · rename_i hcal
        split at h2
        · rename_i y t ha ht
          simp only [Bool.and_eq_true] at h2
          exact ⟨c, y, t, hy, hcal, ha, ht, h2.1, h2.2⟩
        · cases h2
      · cases h1
    · cases hl
  have hargs' : c.args = #[y] := by rw [← Array.toArray_toList (xs := c.args), hargs]
  have htys' : c.argTypes = #[t] := by rw [← Array.toArray_toList (xs := c.argTypes), htys]
  have hrun : ∀ cv, (Builtin.len_ #[t] o.type #[a.eval y]).run C.P w = .ok cv w → (Go.execOp a.eval o).run C.P w = .ok (.value cv) w := by
    intro cv hr
    unfold Go.execOp
    simp [hop, resolve, hcal, hargs', htys', invoke, builtin, hr]
  simp only [execOp] at he
  split at he
  · rename_i l hx
    split at he
    · rename_i hs
      obtain rfl := Option.some.inj he
      rw [hs] at hty
      simp only [if_true] at hty
      have hu : C.P.underlying t = some .string := by
        unfold isStrT at hty
        split at hty
        · assumption
        · cases hty
      have hv := (hx ▸ h.opdV hlo (by rw [hx]; simp) (by rw [hx]; rfl)).s_inv
      refine .quiet h (hrun (.int .i64 l.length) ?_) rfl (.i _ _)
      simp [Builtin.len_, run_underlying hu, hv, goInt, bytes_size]
    · cases he
  · rename_i k b n s hx
    split at he
    · cases he
    · rename_i hs
      obtain rfl := Option.some.inj he
      rw [if_neg hs] at hty
      obtain ⟨e, hu⟩ : ∃ e, C.P.underlying t = some (.slice e) := by
        unfold sliceOf at hty
        split at hty
        · exact ⟨_, by assumption⟩
        · cases hty
      obtain ⟨cap, _, _, hv⟩ := (hx ▸ h.opdV hlo (by rw [hx]; simp) (by rw [hx]; rfl)).sp_inv
      refine .quiet h (hrun (.int .i64 n) ?_) rfl (.i _ _)
      simp [Builtin.len_, run_underlying hu, hv, goInt]
  · split at he
    · cases he
    · rename_i hs
      obtain ⟨q, hq, he⟩ := Option.bind_eq_some_iff.1 he
      obtain rfl := Option.some.inj he
      rw [if_neg hs] at hty
      obtain ⟨e, hu⟩ : ∃ e, C.P.underlying t = some (.slice e) := by
        unfold sliceOf at hty
        split at hty
        · rename_i e hu; exact ⟨e, hu⟩
        · cases hty
      obtain ⟨A, cap, hv, _⟩ := h.len hlo hq
      refine .quiet h (hrun (.int .i64 q.2.length) ?_) rfl (.i _ _)
      simp [Builtin.len_, run_underlying hu, hv, goInt]

theorem bnd_run (h : Conc C st a w σ) {y : Option Operand} {x : Option Opd} {dflt n cap : Nat} {code : BoundsCode} (hl : lowOO y x = true) (hb : bndOf st x dflt = some n) (hn : n ≤ cap) :
    (match y.map a.eval with
      | some v => Instr.sliceBound v cap code
      | none => pure dflt : Sem Nat).run C.P w = .ok n w := by
  cases y with
  | none =>
    cases x with
    | none => obtain rfl := Option.some.inj hb; rfl
    | some x => simp [lowOO] at hl
  | some y =>
    cases x with
    | none => simp [lowOO] at hl
    | some x =>
      have hl' : lowO y x = true := hl
      obtain ⟨k, m, hi, hm0, rfl⟩ := natOf_inv (x := st.ev x) hb
      have hv := (hi ▸ h.opdV hl' (by rw [hi]; simp) (by rw [hi]; rfl)).i_inv
      have : 0 ≤ m ∧ m ≤ (cap : Int) := ⟨hm0, by omega⟩
      simp [hv, Instr.sliceBound, asIntOf, this]
theorem run_sliceBounds (h : Conc C st a w σ) {lo' hi' : Option Operand} {lo hi : Option Opd} {i j len cap : Nat} (sl : Bool) (hlo : lowOO lo' lo = true) (hhi : lowOO hi' hi = true)
    (hi0 : bndOf st lo 0 = some i) (hj0 : bndOf st hi len = some j) (hij : i ≤ j) (hjc : j ≤ cap) :
    (Instr.sliceBounds sl len cap (lo'.map a.eval) (hi'.map a.eval) none).run C.P w = .ok (i, j, cap) w := by
  have h1 := bnd_run h (cap := cap) (code := if sl then .sliceAcap else .sliceAlen) hhi hj0 hjc
  have h2 := bnd_run h (cap := j) (code := .sliceB) hlo hi0 hij
  unfold Instr.sliceBounds
  cases hi' with
  | none =>
    cases lo' with
    | none => simp at h1 h2 ⊢; exact ⟨h2, h1⟩
    | some y => simp at h1 h2 ⊢; simp [h1, h2]
  | some z =>
    cases lo' with
    | none => simp at h1 h2 ⊢; simp [h1, h2]
    | some y => simp at h1 h2 ⊢; simp [h1, h2]

theorem isStr_inv {P : Program} {t : TypeId} (h : isStrT P t = true) : P.underlying t = some .string := by
  unfold isStrT at h
  split at h
  · assumption
  · cases h
theorem sliceOf_inv {P : Program} {t e : TypeId} (h : sliceOf P t = some e) : P.underlying t = some (.slice e) := by
  unfold sliceOf at h
  split at h
  · rename_i e' hu; rw [hu, Option.some.inj h]
  · cases h
theorem sim_sl {t sz : Nat} {x : Opd} {lo hi : Option Opd} (h : Conc C st a w σ) (hl : lowOp C.P (.sl t sz x lo hi) o.op = true) (he : execOp R Ω C.E st d (.sl t sz x lo hi) = some r) :
    Sim C o d a w σ r.2 r.1 := by
  obtain ⟨ty, x', lo', hi', hop, hlx, hlo, hhi, hty⟩ : ∃ ty x' lo' hi', o.op = .slice ty x' lo' hi' none ∧ lowO x' x = true ∧ lowOO lo' lo = true ∧ lowOO hi' hi = true ∧
      (if t = 0 then isStrT C.P ty else sliceOf C.P ty == some t && sized C.P t sz) = true := by
    simp only [lowOp] at hl; split at hl
    · rename_i ty x' lo' hi' hy
      simp only [Bool.and_eq_true] at hl
      exact ⟨_, _, _, _, hy, hl.1.1.1, hl.1.1.2, hl.1.2, hl.2⟩
    · cases hl
  have hslice : ∀ A n cap i j, a.eval x' = .slice A n cap → bndOf st lo 0 = some i → bndOf st hi n = some j → i ≤ j → j ≤ cap → t ≠ 0 →
      C.P.cellsOf t = sz ∧ (Go.execOp a.eval o).run C.P w = .ok (.value (.slice (if cap = i then A else A.map (·.add (i * C.P.cellsOf t))) (j - i) (cap - i))) w := by
    intro A n cap i j hv hi0 hj0 hij hjc ht
    rw [if_neg ht] at hty
    simp only [Bool.and_eq_true, beq_iff_eq] at hty
    obtain ⟨hinfo, hcells, hpos⟩ := sized_inv hty.2
    have hu := sliceOf_inv hty.1
    have hb := run_sliceBounds h (len := n) (cap := cap) true hlo hhi hi0 hj0 hij hjc
    refine ⟨hcells, ?_⟩
    unfold Go.execOp
    simp only [hop, Instr.sliceAt, Instr.slice, hv, Sem.run_bind, run_underlying hu, Result.andThen_ok, hb, Option.map_none, run_sizeOf' hinfo, Sem.run_pure]
  simp only [execOp] at he
  split at he
  · rename_i l hx
    obtain ⟨i, hi0, he⟩ := Option.bind_eq_some_iff.1 he
    obtain ⟨j, hj0, he⟩ := Option.bind_eq_some_iff.1 he
    split at he
    · rename_i hc
      simp only [Bool.and_eq_true, beq_iff_eq, decide_eq_true_eq] at hc
      obtain ⟨⟨ht0, hij⟩, hjl⟩ := hc
      obtain rfl := Option.some.inj he
      have hv := (hx ▸ h.opdV hlx (by rw [hx]; simp) (by rw [hx]; rfl)).s_inv
      have hu := isStr_inv (by rw [if_pos ht0] at hty; exact hty)
      have hb := run_sliceBounds h (len := l.length) (cap := l.length) false hlo hhi hi0 hj0 hij hjl
      refine .quiet h (cv := .string ⟨((l.take j).drop i).toArray⟩) ?_ rfl (.s _)
      unfold Go.execOp
      simp only [hop, Instr.sliceAt, Instr.slice, hv, Sem.run_bind, run_underlying hu, Result.andThen_ok, Option.map_none, Option.isSome_none, Bool.false_eq_true, if_false, bytes_size, hb, Sem.run_pure, bytes_extract]
    · cases he
  · rename_i t' es hx
    obtain ⟨i, hi0, he⟩ := Option.bind_eq_some_iff.1 he
    obtain ⟨j, hj0, he⟩ := Option.bind_eq_some_iff.1 he
    split at he
    · rename_i hc
      simp only [Bool.and_eq_true, bne_iff_ne, decide_eq_true_eq] at hc
      obtain ⟨⟨⟨ht, hall⟩, hij⟩, hjl⟩ := hc
      obtain rfl := Option.some.inj he
      obtain ⟨A, cap, hv, hes⟩ := (hx ▸ h.opdV hlx (by rw [hx]; simp) (by rw [hx]; rfl)).l_inv
      have hjc : j ≤ cap := by
        rcases hes with hes | ⟨_, _, _, _, _, _, _, _, _, _, _, _, _, _, _, hcap, _⟩
        · subst hes; simp only [List.length_nil] at hjl; omega
        · omega
      obtain ⟨hcells, hrun⟩ := hslice A _ cap i j hv hi0 hj0 hij hjc ht
      refine .quiet h hrun rfl ?_
      have hlen : ((es.take j).drop i).length = j - i := by simp; omega
      by_cases hji : j = i
      · subst hji
        have : (es.take j).drop j = [] := List.eq_nil_of_length_eq_zero (by rw [hlen]; omega)
        rw [this, Nat.sub_self]
        exact .lnil _ _ _
      · rcases hes with hes | ⟨g, b, cs, T, fz, sz', rfl, hI, hh, ht', hsz', hnc', hsize, hp, h1, hcap, hmax, hcc⟩
        · subst hes; simp only [List.length_nil] at hjl; omega
        · have hzz : C.P.cellsOf t = sz' := by
            have hm : es[i]? = some (es[i]'(by omega)) := List.getElem?_eq_getElem _
            have := List.mem_of_getElem? hm
            rw [hcells, ← hnc' _ this]
            have := List.all_eq_true.1 hall _ this
            simpa using (beq_iff_eq.1 this).symm
          rw [if_neg (by omega), hzz, ← hlen]
          simp only [Option.map_some, add_lit]
          have hsub : ∀ e ∈ (es.take j).drop i, e ∈ es := fun e he => List.mem_of_mem_take (List.mem_of_mem_drop he)
          refine VR.l t' _ g (b + i * sz') (cap - i) cs T fz sz' hI hh ht' hsz' (fun e he => hnc' e (hsub e he)) ?_ (fun e he => hp e (hsub e he)) (fun e he => h1 e (hsub e he)) (by rw [hlen]; omega) (by omega) fun k e m c hk hm => ?_
          · rw [hlen]
            have : i * sz' + (j - i) * sz' ≤ es.length * sz' := by rw [← Nat.add_mul]; exact Nat.mul_le_mul_right _ (by omega)
            omega
          · have hk' : es[i + k]? = some e := by
              rw [List.getElem?_drop, List.getElem?_take] at hk
              split at hk
              · exact hk
              · cases hk
            have := hcc (i + k) e m c hk' hm
            rwa [Nat.add_mul, ← Nat.add_assoc] at this
    · cases he
  · rename_i pl hx
    obtain ⟨⟨t', es⟩, hrow, he⟩ := Option.bind_eq_some_iff.1 he
    obtain ⟨i, hi0, he⟩ := Option.bind_eq_some_iff.1 he
    obtain ⟨j, hj0, he⟩ := Option.bind_eq_some_iff.1 he
    split at he
    · rename_i hc
      simp only [Bool.and_eq_true, bne_iff_ne, beq_iff_eq, decide_eq_true_eq] at hc
      obtain ⟨⟨⟨ht, htt⟩, hij⟩, hjl⟩ := hc
      obtain rfl := Option.some.inj he
      subst htt
      obtain ⟨m, rfl, hm⟩ := slot_of_place hx rfl hlx
      obtain ⟨A, cap, hpv, hle⟩ := h.rowLen hrow
      have hv : a.eval x' = .slice A es.length cap := ((hm ▸ h.slot hlx) (by rw [hrow]; rfl)).trans hpv
      obtain ⟨hcells, hrun⟩ := hslice A _ cap i j hv hi0 hj0 hij (by omega) ht
      refine .lent h hrun (fun _ _ e => by cases e) fun dd => ?_
      intro t2 es2 h2 _
      obtain ⟨rfl, rfl⟩ : t' = t2 ∧ es = es2 := by simpa [hrow] using h2
      exact ⟨A, _, cap, hpv, rfl⟩
    · cases he
  · cases he
end
end Go.Proofs.Ytmfihcbafljcbaa.A
