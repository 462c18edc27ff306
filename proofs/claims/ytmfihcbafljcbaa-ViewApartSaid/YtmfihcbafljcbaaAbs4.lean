/- How an abstract state lies in the model: who owns which block of memory. -/
import Derived.Test.YtmfihcbafljcbaaAbs3
import Derived.Test.YtmfihcbafljcbaaGl
set_option linter.unusedSectionVars false
set_option linter.unusedVariables false
set_option linter.unusedSimpArgs false
set_option linter.constructorNameAsVariable false
namespace Go.Proofs.Ytmfihcbafljcbaa.A
open Go

/-- who owns a block -/
inductive Lbl where
  | box (k : Key)
  | rowS (dp d : Nat)
  | rowC (k : Key) (off : Nat)
  | grp (dp g : Nat)
  | mark (dp : Nat)
deriving DecidableEq
def Pl.lbl (dp : Nat) : Pl → Lbl
  | .s d => .rowS dp d
  | .c k off => .rowC k off
/-- where boxes lie, who owns, what never changes. -/
structure Sp where
  κ : Key → Nat
  ow : Nat → Option Lbl
  I : Nat → Prop

variable [Base]
/-- a row that a place owns. -/
structure RowAt (P : Program) (W : Nat → Prop) (w : World) (σ : Sp) (L : Lbl) (wr : Prop) (t : TypeId) (es : List AV) (g cap : Nat) (cs : Array Value) : Prop where
  ow : σ.ow g = some L
  wr : wr → W g
  hh : w.heap[g]? = some (.cells cs t (0, 0))
  pos : 0 < P.cellsOf t
  nc : ∀ e ∈ es, e.nc = P.cellsOf t
  ecap : es.length ≤ cap
  max : cap ≤ maxLen
  size : cs.size = cap * P.cellsOf t
  pure : ∀ e ∈ es, e.pure = true
  one : ∀ e ∈ es, ∀ c ∈ e.cl, c.one = true
  cell : ∀ (j : Nat) (e : AV) (m : Nat) (c : AV), es[j]? = some e → e.cl[m]? = some c → VR w σ.I σ.κ c (cs.getD (j * P.cellsOf t + m) undef)
  base : Base.n0 ≤ g
def OwnAt (P : Program) (W : Nat → Prop) (w : World) (σ : Sp) (L : Lbl) (wr : Prop) (t : TypeId) (es : List AV) (v : Value) : Prop :=
  (es = [] ∧ v = .slice none 0 0) ∨ ∃ g cap cs, v = .slice (some ⟨g, 0, none⟩) es.length cap ∧ RowAt P W w σ L wr t es g cap cs

/-- what lies in memory of a group. -/
def WAt (W : Nat → Prop) (dp : Nat) (w : World) (σ : Sp) (g : Nat) (t : TypeId) (x : AV) (v : Value) : Prop :=
  x.pure = true ∧ VR w (fun b => σ.ow b = some (.grp dp g) ∧ W b ∧ Base.n0 ≤ b ∧ ∃ cs, w.heap[b]? = some (.cells cs t (0, 0))) σ.κ x v
theorem WAt.keep {W W' : Nat → Prop} {dp : Nat} {w w' : World} {σ σ' : Sp} {g : Nat} {t : TypeId} {x : AV} {v : Value} (h : WAt W dp w σ g t x v)
    (hb : ∀ b, σ.ow b = some (.grp dp g) → w'.heap[b]? = w.heap[b]? ∧ σ'.ow b = some (.grp dp g)) (hW : ∀ b, W b → W' b) : WAt W' dp w' σ' g t x v :=
  ⟨h.1, h.2.mono (fun b h1 => ⟨(hb b h1.1).2, hW _ h1.2.1, h1.2.2.1, by obtain ⟨cs, e⟩ := h1.2.2.2; exact ⟨cs, (hb b h1.1).1.trans e⟩⟩) (fun b h1 => (hb b h1.1).1) (fun k hk => by rw [pure_noK _ h.1] at hk; cases hk)⟩
structure Cx where
  P : Program
  W : Nat → Prop
  E : Env
  nt : Nat

/-- the value that lies at a place -/
def pval (w : World) (σ : Sp) (a : Act) : Pl → Value
  | .s d => a.tmps.getD d undef
  | .c k off => match w.heap[σ.κ k]? with
    | some (.cells vs _ _) => vs.getD off undef
    | _ => undef

def CR (C : Cx) (w : World) (σ : Sp) (k : Key) (off : Nat) (c : AV) (v : Value) : Prop :=
  match c with
  | .o t es => OwnAt C.P C.W w σ (.rowC k off) ((Pl.c k off).mine C.E = true) t es v
  | .w g t x => WAt C.W C.E.dp w σ g t x v
  | .bp _ k' u => k' = k ∧ v = if u = true then .pointer (some ⟨σ.κ k, off, none⟩) else .pointer none
  | c => VR w σ.I σ.κ c v
theorem CR_any {C : Cx} {w : World} {σ : Sp} {k : Key} {off : Nat} {c : AV} {v : Value} (h : VR w σ.I σ.κ c v) : CR C w σ k off c v := by
  cases c <;> first | exact h | cases h
structure BoxAt (C : Cx) (w : World) (σ : Sp) (k : Key) (cs : List AV) (vs : Array Value) (T : TypeId) : Prop where
  hh : w.heap[σ.κ k]? = some (.cells vs T (0, 0))
  size : cs.length ≤ vs.size
  ow : σ.ow (σ.κ k) = some (.box k)
  wr : (Pl.c k 0).mine C.E = true → C.W (σ.κ k)
  one : ∀ c ∈ cs, c.one = true ∨ c = .u
  cell : ∀ (off : Nat) (c : AV), cs[off]? = some c → CR C w σ k off c (vs.getD off undef)
  ty : ∀ t k u, AV.bp t k u ∈ cs → t = T ∧ vs.size = cs.length
  kb : (1000000 ≤ k.d → T = (k.d - 1000000) / 1000) ∧ Base.n0 ≤ σ.κ k
def SR (C : Cx) (w : World) (σ : Sp) (st : St) (a : Act) (d : Nat) (x : AV) (v : Value) : Prop :=
  match x with
  | .o t es => OwnAt C.P C.W w σ (.rowS C.E.dp d) True t es v
  | .r pl => (st.rowAt C.E.dp pl).isSome = true → v = pval w σ a pl
  | .v pl lo len => ∀ t es, st.rowAt C.E.dp pl = some (t, es) → lo + len ≤ es.length →
      ∃ A n cap, pval w σ a pl = .slice A n cap ∧ v = .slice (if cap = lo then A else A.map (·.add (lo * C.P.cellsOf t))) len (cap - lo)
  | .q pl i sz off => ∀ t es, st.rowAt C.E.dp pl = some (t, es) → i < es.length →
      ∃ g n cap, pval w σ a pl = .slice (some ⟨g, 0, none⟩) n cap ∧ v = .pointer (some ⟨g, i * sz + off, none⟩)
  | .w g t x => WAt C.W C.E.dp w σ g t x v
  | x => VR w σ.I σ.κ x v

/-- package-level variables that never change hold what they hold. -/
def Lay (w : World) (I : Nat → Prop) : Prop := ∀ q ∈ glP, I q.1 ∧ ∃ T fz, w.heap[q.1]? = some (.cells q.2 T fz)
theorem Lay.keep {w w' : World} {I I' : Nat → Prop} (h : Lay w I) (hI : ∀ b, I b → I' b) (hh : ∀ b, I b → w'.heap[b]? = w.heap[b]?) : Lay w' I' := fun q hq => by
  obtain ⟨h1, T, fz, h2⟩ := h q hq
  exact ⟨hI _ h1, T, fz, (hh _ h1).trans h2⟩
def markOf (D : Nat) : Deferred := { target := .collected D, args := #[] }
/-- what a function has put off: nothing, or what a range over a function has gathered, which is nothing. -/
def Marks (C : Cx) (ds : List Deferred) (w : World) (σ : Sp) : Prop :=
  ∃ Ds : List Nat, Ds.Nodup ∧ ds = Ds.map markOf ∧ ∀ D ∈ Ds, σ.ow D = some (.mark C.E.dp) ∧ C.W D ∧ w.heap[D]? = some (.deferred (some []))
theorem Marks.nil {C : Cx} {w : World} {σ : Sp} : Marks C [] w σ := ⟨[], List.nodup_nil, rfl, fun _ h => by cases h⟩
structure Conc (C : Cx) (st : St) (a : Act) (w : World) (σ : Sp) : Prop where
  size : a.tmps.size = C.nt
  defers : Marks C a.defers w σ
  fr : ∀ d, SR C w σ st a d (fget st.fr d) (a.tmps.getD d undef)
  bx : ∀ k cs, st.box C.E.dp k = some cs → ∃ vs T, BoxAt C w σ k cs vs T
  hpd : ∀ k cs, k.dp ≠ C.E.dp → st.hp k = some cs → k.dp < C.E.dp ∧ ∀ c ∈ cs, c.deep k.dp = true
  own : ∀ b l, σ.ow b = some l → b < w.heap.size
  imm : ∀ b, σ.I b → b < w.heap.size ∧ σ.ow b = none
  new : ∀ b, w.heap.size ≤ b → C.W b ∧ Base.n0 ≤ b
  lay : Lay w σ.I
/-- a step of the function: what is not its own stays. -/
structure Stp (C : Cx) (w : World) (σ : Sp) (w' : World) (σ' : Sp) : Prop where
  size : w.heap.size ≤ w'.heap.size
  keep : ∀ b, b < w.heap.size → ¬ C.W b → w'.heap[b]? = w.heap[b]?
  up : ∀ b, σ.I b → σ'.I b
  imm : ∀ b, σ.I b → w'.heap[b]? = w.heap[b]?
  dn : ∀ b, σ'.I b → σ.I b ∨ C.W b
  kap : ∀ k, k.dp < C.E.dp → σ'.κ k = σ.κ k
  ow : ∀ b, b < w.heap.size → ¬ C.W b → σ'.ow b = σ.ow b
  io : w'.os = w.os ∧ w'.output = w.output

theorem Stp.refl (C : Cx) (w : World) (σ : Sp) : Stp C w σ w σ := ⟨Nat.le_refl _, fun _ _ _ => rfl, fun _ h => h, fun _ _ => rfl, fun _ h => .inl h, fun _ _ => rfl, fun _ _ _ => rfl, rfl, rfl⟩
theorem Stp.trans {C : Cx} {w w' w'' : World} {σ σ' σ'' : Sp} (h : Stp C w σ w' σ') (h' : Stp C w' σ' w'' σ'') : Stp C w σ w'' σ'' :=
  ⟨Nat.le_trans h.size h'.size, fun b hb hW => (h'.keep b (Nat.lt_of_lt_of_le hb h.size) hW).trans (h.keep b hb hW), fun b hb => h'.up b (h.up b hb),
    fun b hb => (h'.imm b (h.up b hb)).trans (h.imm b hb), fun b hb => (h'.dn b hb).elim (fun h1 => h.dn b h1) .inr,
    fun k hk => (h'.kap k hk).trans (h.kap k hk), fun b hb hW => (h'.ow b (Nat.lt_of_lt_of_le hb h.size) hW).trans (h.ow b hb hW), h'.io.1.trans h.io.1, h'.io.2.trans h.io.2⟩

section
variable {C : Cx} {w w' : World} {σ σ' : Sp}
theorem RowAt.keep {L : Lbl} {wr : Prop} {t : TypeId} {es : List AV} {g cap : Nat} {cs : Array Value} (h : RowAt C.P C.W w σ L wr t es g cap cs)
    (hg : w'.heap[g]? = w.heap[g]?) (how : σ'.ow g = some L) (hI : ∀ b, σ.I b → σ'.I b) (hh : ∀ b, σ.I b → w'.heap[b]? = w.heap[b]?) : RowAt C.P C.W w' σ' L wr t es g cap cs :=
  ⟨how, h.wr, hg.trans h.hh, h.pos, h.nc, h.ecap, h.max, h.size, h.pure, h.one, fun j e m c he hc => (h.cell j e m c he hc).mono hI hh (fun k hk => by
    have := pure_noK (k := k) c (pure_cl (h.pure e (List.mem_of_getElem? he)) c (List.mem_of_getElem? hc))
    rw [this] at hk; cases hk), h.base⟩
theorem OwnAt.keep {L : Lbl} {wr : Prop} {t : TypeId} {es : List AV} {v : Value} (h : OwnAt C.P C.W w σ L wr t es v)
    (hg : ∀ g, σ.ow g = some L → w'.heap[g]? = w.heap[g]? ∧ σ'.ow g = some L) (hI : ∀ b, σ.I b → σ'.I b) (hh : ∀ b, σ.I b → w'.heap[b]? = w.heap[b]?) : OwnAt C.P C.W w' σ' L wr t es v := by
  rcases h with h | ⟨g, cap, cs, hv, hr⟩
  · exact .inl h
  · exact .inr ⟨g, cap, cs, hv, hr.keep (hg g hr.ow).1 (hg g hr.ow).2 hI hh⟩
theorem CR.keep {k : Key} {off : Nat} {c : AV} {v : Value} (h : CR C w σ k off c v)
    (hg : ∀ g, σ.ow g = some (.rowC k off) → w'.heap[g]? = w.heap[g]? ∧ σ'.ow g = some (.rowC k off)) (hI : ∀ b, σ.I b → σ'.I b) (hh : ∀ b, σ.I b → w'.heap[b]? = w.heap[b]?)
    (hk : ∀ k, c.noK k = false → σ'.κ k = σ.κ k) (hw : ∀ b g, σ.ow b = some (.grp C.E.dp g) → w'.heap[b]? = w.heap[b]? ∧ σ'.ow b = some (.grp C.E.dp g)) : CR C w' σ' k off c v := by
  cases c with
  | o t es => exact OwnAt.keep h hg hI hh
  | w g t x => exact WAt.keep h (fun b hb => hw b g hb) fun _ h => h
  | bp t k' u =>
    obtain ⟨rfl, h2⟩ := h
    exact ⟨rfl, by rw [hk k' (by simp [AV.noK])]; exact h2⟩
  | _ => exact VR.mono h hI hh hk

/-- what changes nothing but blocks of one owner leaves all else as it lay. -/
structure Same (C : Cx) (w : World) (σ : Sp) (w' : World) (σ' : Sp) (L : Option Lbl) : Prop where
  blk : ∀ b l, σ.ow b = some l → some l ≠ L → w'.heap[b]? = w.heap[b]? ∧ σ'.ow b = some l
  imm : ∀ b, σ.I b → w'.heap[b]? = w.heap[b]?
  up : ∀ b, σ.I b → σ'.I b
  kap : σ'.κ = σ.κ
  size : w.heap.size ≤ w'.heap.size
  own : ∀ b l, σ'.ow b = some l → b < w'.heap.size
  dn : ∀ b, σ'.I b → b < w'.heap.size ∧ σ'.ow b = none
theorem Marks.same {ds : List Deferred} {M : Option Lbl} (h : Marks C ds w σ) (hs : Same C w σ w' σ' M) (hM : some (.mark C.E.dp) ≠ M) : Marks C ds w' σ' := by
  obtain ⟨Ds, h0, h1, h2⟩ := h
  refine ⟨Ds, h0, h1, fun D hD => ?_⟩
  obtain ⟨h3, h4, h5⟩ := h2 D hD
  obtain ⟨h6, h7⟩ := hs.blk D _ h3 hM
  exact ⟨h7, h4, h6.trans h5⟩
theorem OwnAt.same {L : Lbl} {M : Option Lbl} {wr : Prop} {t : TypeId} {es : List AV} {v : Value} (h : Same C w σ w' σ' M) (hL : some L ≠ M) (ho : OwnAt C.P C.W w σ L wr t es v) :
    OwnAt C.P C.W w' σ' L wr t es v := ho.keep (fun g hg => h.blk g L hg hL) h.up h.imm
theorem VR.same {M : Option Lbl} {x : AV} {v : Value} (h : Same C w σ w' σ' M) (hv : VR w σ.I σ.κ x v) : VR w' σ'.I σ'.κ x v :=
  hv.mono h.up h.imm fun k _ => by rw [h.kap]
theorem CR.same {M : Option Lbl} {k : Key} {off : Nat} {c : AV} {v : Value} (h : Same C w σ w' σ' M) (hL : some (.rowC k off) ≠ M) (hc : CR C w σ k off c v) (hG : ∀ g, some (.grp C.E.dp g) ≠ M := by simp [Pl.lbl]) : CR C w' σ' k off c v :=
  hc.keep (fun g hg => h.blk g _ hg hL) h.up h.imm (fun k _ => by rw [h.kap]) fun b g hb => h.blk b _ hb (hG g)
theorem WAt.same {M : Option Lbl} {g : Nat} {t : TypeId} {x : AV} {v : Value} (h : Same C w σ w' σ' M) (hG : some (.grp C.E.dp g) ≠ M) (hw : WAt C.W C.E.dp w σ g t x v) : WAt C.W C.E.dp w' σ' g t x v :=
  hw.keep (fun b hb => h.blk b _ hb hG) fun _ h => h
end
theorem fget_cons (d : Nat) (x : AV) (fr : List (Nat × AV)) (d' : Nat) : fget ((d, x) :: fr) d' = if d = d' then x else fget fr d' := rfl
theorem fget_drop (fr : List (Nat × AV)) (pl : Pl) (d : Nat) :
    fget (fr.map fun x => (x.1, if x.2.bor pl = true then .u else x.2)) d = if (fget fr d).bor pl = true then .u else fget fr d := by
  induction fr with
  | nil => simp [fget, AV.bor]
  | cons y fr ih =>
    simp only [List.map_cons, fget]
    split
    · rfl
    · exact ih
theorem bor_u (pl : Pl) : AV.bor pl .u = false := rfl
theorem dropB_bor (st : St) (pl : Pl) (d : Nat) : (fget (st.dropB pl).fr d).bor pl = false := by
  unfold St.dropB
  rw [fget_drop]
  split
  · rfl
  · rename_i h; simpa using h
theorem rowAt_dropB (dp : Nat) (st : St) (pl p : Pl) : (st.dropB pl).rowAt dp p = st.rowAt dp p := by
  cases p with
  | s d =>
    simp only [St.rowAt, St.dropB, fget_drop]
    generalize fget st.fr d = y
    cases y with
    | r p => by_cases h : p = pl <;> simp [AV.bor, h]
    | v p lo len => by_cases h : p = pl <;> simp [AV.bor, h]
    | q p i sz off => by_cases h : p = pl <;> simp [AV.bor, h]
    | _ => simp [AV.bor]
  | c k off => rfl
theorem box_fset (dp : Nat) (st : St) (d : Nat) (x : AV) (k : Key) : (st.fset d x).box dp k = st.box dp k := rfl
theorem box_dropB (dp : Nat) (st : St) (pl : Pl) (k : Key) : (st.dropB pl).box dp k = st.box dp k := rfl
theorem tmps_put (a : Act) (d d' : Nat) (v : Value) (hd : d < a.tmps.size) : (a.put (some d) v).tmps.getD d' undef = if d = d' then v else a.tmps.getD d' undef := by
  simp only [Act.put, Array.getD_eq_getD_getElem?, Array.getElem?_setIfInBounds]
  split
  · rename_i h; subst h; simp
  · rfl

section
variable {C : Cx} {st : St} {a : Act} {w : World} {σ : Sp}
theorem SR_of_VR {d : Nat} {x : AV} {v : Value} (hx : x.copy = true ∨ x = .u) (h : VR w σ.I σ.κ x v) : SR C w σ st a d x v := by
  cases x <;> first | exact h | (rcases hx with hx | hx <;> simp [AV.copy] at hx)
theorem SR.toVR {d : Nat} {x : AV} {v : Value} (hx : x.copy = true) (h : SR C w σ st a d x v) : VR w σ.I σ.κ x v := by
  cases x <;> first | exact h | (simp [AV.copy] at hx)
/-- what a slot is told to be depends on the frame by the rows that are borrowed alone. -/
theorem SR.cong {st' : St} {a' : Act} {d : Nat} {x : AV} {v : Value} (h : SR C w σ st a d x v)
    (hr : ∀ pl, x.bor pl = true → (∃ r, st'.rowAt C.E.dp pl = some r) → st'.rowAt C.E.dp pl = st.rowAt C.E.dp pl ∧ pval w σ a' pl = pval w σ a pl) : SR C w σ st' a' d x v := by
  cases x with
  | r pl =>
    intro hs
    obtain ⟨r, hr'⟩ := Option.isSome_iff_exists.1 hs
    obtain ⟨h1, h2⟩ := hr pl (by simp [AV.bor]) ⟨r, hr'⟩
    exact (h (by rw [← h1, hr']; rfl)).trans h2.symm
  | v pl lo len =>
    intro t es ht hl
    obtain ⟨h1, h2⟩ := hr pl (by simp [AV.bor]) ⟨_, ht⟩
    rw [h2]
    exact h t es (h1 ▸ ht) hl
  | q pl i sz off =>
    intro t es ht hl
    obtain ⟨h1, h2⟩ := hr pl (by simp [AV.bor]) ⟨_, ht⟩
    rw [h2]
    exact h t es (h1 ▸ ht) hl
  | _ => exact h
theorem bor_one {x : AV} {p p' : Pl} (h : x.bor p = true) (h' : x.bor p' = true) : p = p' := by
  cases x <;> simp [AV.bor] at h h' <;> (subst h; exact h')
/-- a slot gets a value. -/
theorem Conc.put {d : Nat} {x : AV} {v : Value} (h : Conc C st a w σ) (hd : d < C.nt) (hx : SR C w σ st a d x v)
    (hb : ∀ t es, x = .o t es → ∀ d', (fget st.fr d').bor (.s d) = false) : Conc C (st.fset d x) (a.put (some d) v) w σ := by
  have hd' : d < a.tmps.size := h.size ▸ hd
  have hrow : ∀ pl, pl ≠ .s d → (st.fset d x).rowAt C.E.dp pl = st.rowAt C.E.dp pl ∧ pval w σ (a.put (some d) v) pl = pval w σ a pl := by
    intro pl hne
    cases pl with
    | s d' =>
      have hdd : d ≠ d' := fun e => hne (by rw [e])
      exact ⟨by simp [St.rowAt, St.fset, fget_cons, hdd], by simp only [pval]; rw [tmps_put a d d' v hd', if_neg hdd]⟩
    | c k off => exact ⟨rfl, rfl⟩
  have hself : ∀ r, (st.fset d x).rowAt C.E.dp (.s d) = some r → ∃ t es, x = .o t es := by
    intro r hr
    simp only [St.rowAt, St.fset, fget_cons, if_true] at hr
    cases x <;> simp at hr
    exact ⟨_, _, rfl⟩
  refine ⟨by simp [Act.put, h.size], (show Marks C (a.put (some d) v).defers w σ from h.defers), fun d' => ?_, h.bx, h.hpd, h.own, h.imm, h.new, h.lay⟩
  rw [tmps_put a d d' v hd']
  simp only [St.fset, fget_cons]
  split
  · rename_i hdd
    subst hdd
    refine hx.cong fun pl hpl ⟨r, hr⟩ => ?_
    by_cases hp : pl = .s d
    · subst hp
      obtain ⟨t, es, rfl⟩ := hself r hr
      simp [AV.bor] at hpl
    · exact hrow pl hp
  · refine (h.fr d').cong fun pl hpl ⟨r, hr⟩ => ?_
    by_cases hp : pl = .s d
    · subst hp
      obtain ⟨t, es, rfl⟩ := hself r hr
      rw [hb t es rfl d'] at hpl
      cases hpl
    · exact hrow pl hp
/-- what is known of a slot is forgotten. -/
theorem Conc.forget {st' : St} (h : Conc C st a w σ) (hfr : ∀ d, fget st'.fr d = .u ∨ fget st'.fr d = fget st.fr d)
    (hbx : ∀ k cs, st'.box C.E.dp k = some cs → st.box C.E.dp k = some cs) (hhp : st'.hp = st.hp) : Conc C st' a w σ := by
  refine ⟨h.size, h.defers, fun d => ?_, fun k cs hk => h.bx k cs (hbx k cs hk), hhp ▸ h.hpd, h.own, h.imm, h.new, h.lay⟩
  have hrow : ∀ pl r, st'.rowAt C.E.dp pl = some r → st.rowAt C.E.dp pl = some r := by
    intro pl r hr
    cases pl with
    | s d' =>
      simp only [St.rowAt] at hr ⊢
      rcases hfr d' with e | e
      · rw [e] at hr; cases hr
      · rw [e] at hr; exact hr
    | c k off =>
      simp only [St.rowAt] at hr ⊢
      cases hb : st'.box C.E.dp k with
      | none => simp [hb] at hr
      | some cs => rw [hbx k cs hb]; simpa [hb] using hr
  rcases hfr d with e | e
  · rw [e]; exact VR.u _
  · rw [e]
    exact (h.fr d).cong fun pl _ ⟨r, hr⟩ => ⟨hr.trans (hrow pl r hr).symm, rfl⟩
theorem Conc.dropB (h : Conc C st a w σ) (pl : Pl) : Conc C (st.dropB pl) a w σ :=
  h.forget (fun d => by
    simp only [St.dropB, fget_drop]
    split
    · exact .inl rfl
    · exact .inr rfl) (fun _ _ h => h) rfl
/-- is an owner named nowhere? -/
structure Idle (C : Cx) (st : St) (L : Option Lbl) : Prop where
  sl : ∀ d t es, fget st.fr d = .o t es → some (.rowS C.E.dp d) ≠ L
  bx : ∀ k cs, st.box C.E.dp k = some cs → some (.box k) ≠ L
  ce : ∀ k cs off t es, st.box C.E.dp k = some cs → cs[off]? = some (.o t es) → some (.rowC k off) ≠ L
  gr : ∀ g, some (.grp C.E.dp g) ≠ L := by simp
  mrk : some (.mark C.E.dp) ≠ L := by simp
theorem Idle.none : Idle C st none := ⟨fun _ _ _ _ => by simp, fun _ _ _ => by simp, fun _ _ _ _ _ _ _ => by simp, fun _ => by simp, by simp⟩
/-- as Idle, but for the mark. -/
structure Idle0 (C : Cx) (st : St) (L : Option Lbl) : Prop where
  sl : ∀ d t es, fget st.fr d = .o t es → some (.rowS C.E.dp d) ≠ L
  bx : ∀ k cs, st.box C.E.dp k = some cs → some (.box k) ≠ L
  ce : ∀ k cs off t es, st.box C.E.dp k = some cs → cs[off]? = some (.o t es) → some (.rowC k off) ≠ L
  gr : ∀ g, some (.grp C.E.dp g) ≠ L
/-- memory that is not in sight changes. -/
theorem Conc.sameL0 {w' : World} {σ' : Sp} {L : Option Lbl} (h : Conc C st a w σ) (hs : Same C w σ w' σ' L) (hi : Idle0 C st L) (hm : Marks C a.defers w' σ') : Conc C st a w' σ' := by
  have hbox : ∀ k cs, st.box C.E.dp k = some cs → w'.heap[σ'.κ k]? = w.heap[σ.κ k]? := by
    intro k cs hk
    obtain ⟨vs, T, hb⟩ := h.bx k cs hk
    rw [hs.kap]
    exact (hs.blk _ _ hb.ow (hi.bx k cs hk)).1
  refine ⟨h.size, hm, fun d => ?_, fun k cs hk => ?_, h.hpd, hs.own, hs.dn, fun b hb => h.new b (Nat.le_trans hs.size hb), h.lay.keep hs.up hs.imm⟩
  · have := h.fr d
    have hpv : ∀ pl r, st.rowAt C.E.dp pl = some r → pval w' σ' a pl = pval w σ a pl := by
      intro pl r hr
      cases pl with
      | s d' => rfl
      | c k off =>
        simp only [St.rowAt] at hr
        cases hb : st.box C.E.dp k with
        | none => simp [hb] at hr
        | some cs => simp only [pval, hbox k cs hb]
    cases hx : fget st.fr d with
    | o t es => rw [hx] at this; exact OwnAt.same hs (hi.sl d t es hx) this
    | r pl =>
      rw [hx] at this
      intro hsome
      obtain ⟨r, hr⟩ := Option.isSome_iff_exists.1 hsome
      rw [hpv pl r hr]
      exact this hsome
    | v pl lo len =>
      rw [hx] at this
      intro t es ht hl
      rw [hpv pl _ ht]
      exact this t es ht hl
    | q pl i sz off =>
      rw [hx] at this
      intro t es ht hl
      rw [hpv pl _ ht]
      exact this t es ht hl
    | w g t x => rw [hx] at this; exact WAt.same hs (hi.gr g) this
    | _ => rw [hx] at this; exact VR.same hs this
  · obtain ⟨vs, T, hb⟩ := h.bx k cs hk
    refine ⟨vs, T, (hbox k cs hk).trans hb.hh, hb.size, ?_, fun hw => ?_, hb.one, fun off c hc => ?_, hb.ty, by rw [hs.kap]; exact hb.kb⟩
    · rw [hs.kap]; exact (hs.blk _ _ hb.ow (hi.bx k cs hk)).2
    · rw [hs.kap]; exact hb.wr hw
    · have := hb.cell off c hc
      cases c with
      | o t es => exact OwnAt.same hs (hi.ce k cs off t es hk hc) this
      | w g t x => exact WAt.same hs (hi.gr g) this
      | bp t k' u => exact ⟨this.1, by rw [hs.kap]; exact this.2⟩
      | _ => exact VR.same hs this
theorem Conc.sameL {w' : World} {σ' : Sp} {L : Option Lbl} (h : Conc C st a w σ) (hs : Same C w σ w' σ' L) (hi : Idle C st L) : Conc C st a w' σ' :=
  h.sameL0 hs ⟨hi.sl, hi.bx, hi.ce, hi.gr⟩ (h.defers.same hs hi.mrk)
theorem Conc.same {w' : World} {σ' : Sp} (h : Conc C st a w σ) (hs : Same C w σ w' σ' none) : Conc C st a w' σ' := h.sameL hs .none
end
end Go.Proofs.Ytmfihcbafljcbaa.A
