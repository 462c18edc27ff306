/- The operations that change no memory of the function's own: the model does what the abstract run says. -/
import Derived.Test.YtmfihcbafljcbaaAbs4
set_option linter.unusedSectionVars false
set_option linter.unusedVariables false
set_option linter.unusedSimpArgs false
set_option linter.constructorNameAsVariable false
namespace Go.Proofs.Ytmfihcbafljcbaa.A
open Go
variable [Base]

mutual
def lowV : Value → AV → Bool
  | .bool x, .b y => x == y
  | .int k n, .i k' n' => decide (k = k') && n == n'
  | .string s, .s l => s.data.toList == l
  | .slice none 0 0, .n => true
  | .slice none 0 0, .l _ [] => true
  | .pointer none, .z => true
  | .nilFunc, .nf => true
  | .nilIface, .ni => true
  | .agg vs, .a cs => lowVL vs.toList cs && cs.all AV.one
  | .tuple vs, .tp cs => lowVL vs.toList cs
  | _, _ => false
def lowVL : List Value → List AV → Bool
  | [], [] => true
  | v :: vs, c :: cs => lowV v c && lowVL vs cs
  | _, _ => false
end
def lowO : Operand → Opd → Bool
  | .tmp t, .t n => t == n
  | .const v, .c x => lowV v x
  | .func f, .c (.f g []) => f == g
  | _, _ => false
def lowOL : List Operand → List Opd → Bool
  | [], [] => true
  | y :: ys, x :: xs => lowO y x && lowOL ys xs
  | _, _ => false

section
variable {w : World} {I : Nat → Prop} {κ : Key → Nat}
mutual
theorem lowV_VR : (v : Value) → (x : AV) → lowV v x = true → VR w I κ x v ∧ x.pure = true
  | .bool x, .b y, h => by
    have : x = y := by simpa [lowV] using h
    subst this; exact ⟨.b _, rfl⟩
  | .int k n, .i k' n', h => by
    obtain ⟨h1, h2⟩ : k = k' ∧ n = n' := by simpa [lowV] using h
    subst h1; subst h2; exact ⟨.i _ _, rfl⟩
  | .string s, .s l, h => by
    have : s.data.toList = l := by simpa [lowV] using h
    subst this
    have e : s = ⟨s.data.toList.toArray⟩ := by cases s; simp
    refine ⟨?_, rfl⟩
    rw [e]
    exact .s _
  | .slice none 0 0, .n, _ => ⟨.n, rfl⟩
  | .slice none 0 0, .l t [], _ => ⟨.lnil t none 0, rfl⟩
  | .pointer none, .z, _ => ⟨.z, rfl⟩
  | .nilFunc, .nf, _ => ⟨.nf, rfl⟩
  | .nilIface, .ni, _ => ⟨.ni, rfl⟩
  | .agg vs, .a cs, h => by
    obtain ⟨h1, h2⟩ : lowVL vs.toList cs = true ∧ cs.all AV.one = true := by simpa [lowV] using h
    obtain ⟨hl, hc⟩ := lowVL_VR vs.toList cs h1
    refine ⟨.a cs vs (by simpa using hl.symm) (fun c hc => by simpa using List.all_eq_true.1 h2 c hc) fun m c hm => ?_, ?_⟩
    · have := (hc m c hm).1; simpa using this
    · exact pureL_of fun x hx => by
        obtain ⟨m, hm⟩ := List.mem_iff_getElem?.1 hx
        exact (hc m x hm).2
  | .tuple vs, .tp cs, h => by
    have h1 : lowVL vs.toList cs = true := by simpa [lowV] using h
    obtain ⟨hl, hc⟩ := lowVL_VR vs.toList cs h1
    refine ⟨.tp cs vs (by simpa using hl.symm) fun m c hm => ?_, ?_⟩
    · have := (hc m c hm).1; simpa using this
    · exact pureL_of fun x hx => by
        obtain ⟨m, hm⟩ := List.mem_iff_getElem?.1 hx
        exact (hc m x hm).2
theorem lowVL_VR : (vs : List Value) → (cs : List AV) → lowVL vs cs = true →
    vs.length = cs.length ∧ ∀ (m : Nat) (c : AV), cs[m]? = some c → VR w I κ c (vs[m]?.getD undef) ∧ c.pure = true
  | [], [], _ => ⟨rfl, fun m c h => by simp at h⟩
  | v :: vs, c :: cs, h => by
    obtain ⟨h1, h2⟩ : lowV v c = true ∧ lowVL vs cs = true := by simpa [lowVL] using h
    obtain ⟨hl, hc⟩ := lowVL_VR vs cs h2
    refine ⟨by simp [hl], fun m d hm => ?_⟩
    cases m with
    | zero =>
      have : c = d := by simpa using hm
      subst this
      simpa using lowV_VR v c h1
    | succ m => simpa using hc m d (by simpa using hm)
end
end

section
variable {C : Cx} {st : St} {a : Act} {w : World} {σ : Sp}
theorem eval_tmp (a : Act) (n : Nat) : a.eval (.tmp n) = a.tmps.getD n undef := rfl
/-- an operand that may be copied. -/
theorem Conc.opd (h : Conc C st a w σ) {y : Operand} {x : Opd} (hl : lowO y x = true) (hc : (st.ev x).copy = true) : VR w σ.I σ.κ (st.ev x) (a.eval y) := by
  cases x with
  | t n =>
    cases y with
    | tmp t =>
      have : t = n := by simpa [lowO] using hl
      subst this
      exact (h.fr t).toVR hc
    | _ => simp [lowO] at hl
  | c z =>
    cases y with
    | const v => exact (lowV_VR v z hl).1
    | func f =>
      cases z <;> simp [lowO] at hl
      rename_i g caps
      cases caps <;> simp at hl
      subst hl
      exact VR.f _ [] #[] rfl fun m c hm => by simp at hm
    | _ => simp [lowO] at hl
theorem opd_pure {y : Operand} {z : AV} (hl : lowO y (.c z) = true) : z.pure = true := by
  cases y with
  | const v => exact (lowV_VR (w := default) (I := fun _ => False) (κ := fun _ => 0) v z hl).2
  | func f =>
    cases z <;> simp [lowO] at hl
    rename_i g caps
    cases caps <;> simp at hl
    rfl
  | _ => simp [lowO] at hl
theorem opd_tmp {y : Operand} {n : Nat} (hl : lowO y (.t n) = true) : y = .tmp n := by
  cases y with
  | tmp t =>
    have : t = n := by simpa [lowO] using hl
    rw [this]
  | _ => simp [lowO] at hl
/-- an operand in a slot. -/
theorem Conc.slot (h : Conc C st a w σ) {y : Operand} {n : Nat} (hl : lowO y (.t n) = true) : SR C w σ st a n (fget st.fr n) (a.eval y) := by
  rw [opd_tmp hl]; exact h.fr n

theorem OwnAt.weak {P : Program} {W : Nat → Prop} {L : Lbl} {wr wr' : Prop} {t : TypeId} {es : List AV} {v : Value} (h : OwnAt P W w σ L wr t es v) (hw : wr' → wr) : OwnAt P W w σ L wr' t es v := by
  rcases h with h | ⟨g, cap, cs, hv, hr⟩
  · exact .inl h
  · exact .inr ⟨g, cap, cs, hv, hr.ow, fun x => hr.wr (hw x), hr.hh, hr.pos, hr.nc, hr.ecap, hr.max, hr.size, hr.pure, hr.one, hr.cell, hr.base⟩
/-- what a place owns. -/
theorem Conc.row (h : Conc C st a w σ) {pl : Pl} {t : TypeId} {es : List AV} (hr : st.rowAt C.E.dp pl = some (t, es)) :
    OwnAt C.P C.W w σ (pl.lbl C.E.dp) (pl.mine C.E = true) t es (pval w σ a pl) := by
  cases pl with
  | s d =>
    simp only [St.rowAt] at hr
    have := h.fr d
    cases hx : fget st.fr d <;> rw [hx] at hr this <;> simp at hr
    obtain ⟨rfl, rfl⟩ := hr
    exact OwnAt.weak this fun _ => trivial
  | c k off =>
    simp only [St.rowAt] at hr
    cases hb : st.box C.E.dp k with
    | none => simp [hb] at hr
    | some cs =>
      simp only [hb] at hr
      cases hc : cs[off]? with
      | none => simp [hc] at hr
      | some c =>
        obtain ⟨vs, T, hbx⟩ := h.bx k cs hb
        have := hbx.cell off c hc
        simp only [hc] at hr
        cases c <;> simp at hr
        obtain ⟨rfl, rfl⟩ := hr
        simp only [pval, hbx.hh]
        exact this

def aggT (P : Program) (t : TypeId) : Option Bool := (P.underlying t).map fun
  | .struct _ => true
  | .array _ _ => true
  | _ => false
/-- does a type take that many cells (none: one that is no struct)? -/
def lowN (P : Program) (t : TypeId) (n : Option Nat) : Bool :=
  match n with
  | none => aggT P t == some false && decide (P.cellsOf t = 1)
  | some m => aggT P t == some true && (P.info? t).isSome && decide (P.cellsOf t = m)
theorem run_isAgg {P : Program} {t : TypeId} {x : Bool} (h : aggT P t = some x) (w : World) : (isAgg t).run P w = .ok x w := by
  unfold aggT at h
  cases hu : P.underlying t with
  | none => simp [hu] at h
  | some d =>
    simp only [hu, Option.map_some, Option.some.injEq] at h
    unfold isAgg
    rw [Sem.run_bind, run_underlying hu w]
    cases d <;> simp_all
theorem run_sizeOf' {P : Program} {t : TypeId} (h : (P.info? t).isSome = true) (w : World) : (sizeOf t).run P w = .ok (P.cellsOf t) w := by
  obtain ⟨i, hi⟩ := Option.isSome_iff_exists.1 h
  simp [sizeOf, typeInfo, hi, Program.cellsOf]
theorem add_lit (g o j : Nat) : (⟨g, o, none⟩ : Addr).add j = ⟨g, o + j, none⟩ := by unfold Addr.add; split <;> simp_all
theorem cell_lit {g : Nat} {vs : Array Value} {T : TypeId} {fz : Nat × Nat} (hh : w.heap[g]? = some (.cells vs T fz)) (o : Nat) : w.cell? ⟨g, o, none⟩ = vs[o]? := by
  simp [World.cell?, hh]

/-- a read of some cells that lie from a place on. -/
theorem load_pick {P : Program} {I : Nat → Prop} {κ : Key → Nat} {g b : Nat} {vs : Array Value} {T : TypeId} {fz : Nat × Nat} {cs : List AV} {n : Option Nat} {off : Nat} {y : AV} {t : TypeId}
    (hh : w.heap[g]? = some (.cells vs T fz)) (hsize : b + cs.length ≤ vs.size) (hcell : ∀ off c, cs[off]? = some c → c.copy = true → VR w I κ c (vs.getD (b + off) undef))
    (hone : ∀ c ∈ cs, c.copy = true → c.one = true) (hy : y.copy = true) (hp : pick n off cs = some y) (hn : lowN P t n = true) :
    ∃ v, (loadVar t ⟨g, b + off, none⟩).run P w = .ok v w ∧ VR w I κ y v := by
  cases n with
  | none =>
    simp only [pick] at hp
    have hlt : off < cs.length := by
      rcases Nat.lt_or_ge off cs.length with h | h
      · exact h
      · simp [h] at hp
    have hlt' : b + off < vs.size := by omega
    obtain ⟨h1, _⟩ : aggT P t = some false ∧ P.cellsOf t = 1 := by simpa [lowN] using hn
    have hc : w.cell? ⟨g, b + off, none⟩ = some vs[b + off] := by rw [cell_lit hh]; simp [hlt']
    refine ⟨vs[b + off], ?_, ?_⟩
    · unfold loadVar
      simp [run_isAgg h1 w, hc]
    · have := hcell off y hp hy
      simpa [hlt'] using this
  | some m =>
    simp only [pick] at hp
    split at hp
    · rename_i hle
      have hy' : y = .a ((cs.drop off).take m) := by simpa using hp.symm
      subst hy'
      have hcp := copyL_mem (l := (cs.drop off).take m) (by simpa [AV.copy] using hy)
      obtain ⟨⟨h1, h2⟩, h3⟩ : (aggT P t = some true ∧ (P.info? t).isSome = true) ∧ P.cellsOf t = m := by simpa [lowN] using hn
      have hl := run_loadCells (P := P) w ⟨g, b + off, none⟩ m (fun j => vs.getD (b + off + j) undef) (fun j hj => by
        rw [add_lit, cell_lit hh]
        have : b + off + j < vs.size := by omega
        simp [this])
      refine ⟨.agg (((List.range m).map fun j => vs.getD (b + off + j) undef).toArray), ?_, ?_⟩
      · unfold loadVar
        simp only [Sem.run_bind, run_isAgg h1 w, Result.andThen_ok, if_true, run_sizeOf' h2, h3, hl, Sem.run_pure]
      · refine VR.a _ _ ?_ (fun c hc => hone c (List.mem_of_mem_drop (List.mem_of_mem_take hc)) (hcp c hc)) fun j c hj => ?_
        · simp; omega
        · have hjm : j < m := by
            rcases Nat.lt_or_ge j m with h | h
            · exact h
            · simp [List.getElem?_take, Nat.not_lt.2 h] at hj
          have hj2 : cs[off + j]? = some c := by
            rw [List.getElem?_take, if_pos hjm, List.getElem?_drop] at hj
            exact hj
          have hv := hcell (off + j) c hj2 (hcp c (List.mem_of_getElem? hj))
          simpa [hjm, Nat.add_assoc] using hv
    · cases hp
end
end Go.Proofs.Ytmfihcbafljcbaa.A
