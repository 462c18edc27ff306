/- The function that spoils a level: it changes the elements of two rows, and nothing else; that nothing of the table is told of it but that. -/
import Derived.Test.YtjnhiggknkflfaaAbsG
import Derived.Test.YtjnhiggknkflfaaAbsO
import Derived.Test.YtjnhiggknkflfaaProg
import Derived.StillTailTactics
import Derived.WalkKit
set_option linter.unusedSectionVars false
set_option linter.unusedVariables false
set_option linter.unusedSimpArgs false
namespace Go.Proofs.Ytjnhiggknkflfaa.A
open Go Go.Proofs
variable [Base]
variable [Base]
variable [Base]
variable [Base]
variable [Base]
/-- what the slots of an activation hold. -/
structure Rep (a : Act) (f : Nat → Value) : Prop where
  size : a.tmps.size = 38
  defers : a.defers = []
  get : ∀ n, a.tmps.getD n undef = f n
def fs (f : Nat → Value) (d : Nat) (v : Value) : Nat → Value := fun n => if d = n then v else f n
theorem Rep.put {a : Act} {f : Nat → Value} {d : Nat} {v : Value} (h : Rep a f) (hd : d < 38) : Rep (a.put (some d) v) (fs f d v) :=
  ⟨by simp [Act.put, h.size], by simp [Act.put, h.defers], fun n => by rw [tmps_put a d n v (by rw [h.size]; exact hd), h.get]; rfl⟩
section
variable {P : Program} {ops rest : Array Oper} {a : Act} {w : World} {f : Nat → Value} {o : Oper} {l : List Oper} {d : Nat} {cv : Value} {Q : Exit → Act → World → Prop}
theorem stepV (hR : Rep a f) (hg : o.guard = none) (hd : o.dst = some d) (hdl : d < 38) {w' : World} (hr : (Go.execOp a.eval o).run P w = .ok (.value cv) w') (h : ∀ a', Rep a' (fs f d cv) → wpList P ops Q l a' w') : wpList P ops Q (o :: l) a w :=
  wpList_plain hg fun K hK => by
    unfold Oper.wp
    rw [hr]
    exact hK _ _ (by rw [hd]; exact h _ (hR.put hdl))
theorem stepS (hR : Rep a f) (hg : o.guard = none) (hd : o.dst = none) {w' : World} (hr : (Go.execOp a.eval o).run P w = .ok .skip w') (h : wpList P ops Q l a w') : wpList P ops Q (o :: l) a w :=
  wpList_plain hg fun K hK => by
    unfold Oper.wp
    rw [hr]
    exact hK _ _ (by rw [hd]; exact h)
theorem stillV {q : Act → Prop} (hR : Rep a f) (hg : o.guard = none) (hd : o.dst = some d) (hdl : d < 38) (hr : (Go.execOp a.eval o).run P w = .ok (.value cv) w) (h : ∀ a', Rep a' (fs f d cv) → wpStill P ops w q l a') : wpStill P ops w q (o :: l) a := by
  unfold wpStill
  rw [if_pos (by simp [Region.wanted, hg])]
  unfold Oper.still
  rw [hr]
  exact ⟨rfl, by rw [hd]; exact h _ (hR.put hdl)⟩
theorem Rep.ev (h : Rep a f) (n : Nat) : a.eval (.tmp n) = f n := h.get n
theorem ex_mv {y : Operand} {v : Value} (hop : o.op = .move y) (hv : a.eval y = v) : (Go.execOp a.eval o).run P w = .ok (.value v) w := by
  unfold Go.execOp; simp [hop, hv]
theorem ex_as {y : Operand} {v : Value} (hop : o.op = .assign y) (hv : a.eval y = v) : (Go.execOp a.eval o).run P w = .ok (.value v) w := by
  unfold Go.execOp; simp [hop, hv]
theorem ex_fa {s : TypeId} {y : Operand} {i : Nat} {fd : Field} {g b : Nat} (hop : o.op = .fieldAddr s y i) (hf : fieldOf P s i = some fd) (hi : (P.info? fd.type).isSome = true) (hp : 0 < P.cellsOf fd.type) (hv : a.eval y = .pointer (some ⟨g, b, none⟩)) :
    (Go.execOp a.eval o).run P w = .ok (.value (.pointer (some ⟨g, b + fd.offset, none⟩))) w := by
  unfold Go.execOp
  simp [hop, hv, run_fieldAt hf hi hp]
theorem ex_ld {t : TypeId} {y : Operand} {g b : Nat} {v : Value} (hop : o.op = .load t y) (hag : aggT P t = some false) (hv : a.eval y = .pointer (some ⟨g, b, none⟩)) (hc : w.cell? ⟨g, b, none⟩ = some v) :
    (Go.execOp a.eval o).run P w = .ok (.value v) w := by
  unfold Go.execOp
  simp [hop, hv, Instr.loadAt, Instr.sureAddr, loadVar, run_isAgg hag w, hc]
theorem ex_len {t e : TypeId} {y : Operand} {c : Call} {A : Option Addr} {n cap : Nat} (hop : o.op = .call c) (hcal : c.callee = .builtin .len) (ha : c.args = #[y]) (ht : c.argTypes = #[t]) (hu : P.underlying t = some (.slice e)) (hv : a.eval y = .slice A n cap) :
    (Go.execOp a.eval o).run P w = .ok (.value (.int .i64 n)) w := by
  have hr : (Builtin.len_ #[t] o.type #[a.eval y]).run P w = .ok (.int .i64 n) w := by simp [Builtin.len_, run_underlying hu, hv, goInt]
  unfold Go.execOp
  simp [hop, resolve, hcal, ha, ht, invoke, builtin, hr]
theorem ex_lt {t t' : TypeId} {x y : Operand} {m n : Int} (hop : o.op = .binOp .lss t x y t') (hx : a.eval x = .int .i64 m) (hy : a.eval y = .int .i64 n) : (Go.execOp a.eval o).run P w = .ok (.value (.bool (decide (m < n)))) w := by
  have hrun : (Go.binOp .lss t (.int .i64 m) (.int .i64 n)).run P w = .ok (.bool (decide (m < n))) w := by simp [Go.binOp, Op.intCmp]
  unfold Go.execOp
  simp [hop, hx, hy, eqGuard_int, hrun]
theorem ex_add {t t' : TypeId} {x y : Operand} {m n : Int} (hop : o.op = .binOp .add t x y t') (hx : a.eval x = .int .i64 m) (hy : a.eval y = .int .i64 n) : (Go.execOp a.eval o).run P w = .ok (.value (.int .i64 (IntKind.i64.wrap (m + n)))) w := by
  have hrun : (Go.binOp .add t (.int .i64 m) (.int .i64 n)).run P w = .ok (.int .i64 (IntKind.i64.wrap (m + n))) w := by simp [Go.binOp, Op.intArith]
  unfold Go.execOp
  simp [hop, hx, hy, eqGuard_int, hrun]
theorem ex_ia {t e : TypeId} {x i : Operand} {g b n cap j : Nat} (hop : o.op = .indexAddr t x i) (hu : P.underlying t = some (.slice e)) (hs : sized P e 1 = true) (hx : a.eval x = .slice (some ⟨g, b, none⟩) n cap) (hi : a.eval i = .int .i64 j) (hj : j < n) :
    (Go.execOp a.eval o).run P w = .ok (.value (.pointer (some ⟨g, b + j, none⟩))) w := by
  obtain ⟨hinfo, hcells, hpos⟩ := sized_inv hs
  unfold Go.execOp
  have : (0 : Int) ≤ j ∧ (j : Int) < n := ⟨by omega, by omega⟩
  simp [hop, hx, hi, Instr.indexAt, asIntOf, run_underlying hu, this, run_sizeOf' hinfo, hcells, add_lit]
  omega
theorem ex_box {t : TypeId} {y : Operand} {vs : Array Value} (hop : o.op = .box t y) (hv : a.eval y = .agg vs) : (Go.execOp a.eval o).run P w = .ok (.value (.pointer (some ⟨w.heap.size, 0, none⟩))) (w.alloc (.cells vs t)) := by
  unfold Go.execOp
  simp [hop, hv, Instr.box, newVar, newRow, Value.cells]
theorem ex_not {t : TypeId} {y : Operand} {b : Bool} (hop : o.op = .unOp .not t y) (hv : a.eval y = .bool b) : (Go.execOp a.eval o).run P w = .ok (.value (.bool (!b))) w := by
  unfold Go.execOp
  simp [hop, hv, Op.unary]
theorem ex_st {C : Cx} {t : TypeId} {x y : Operand} {g b : Nat} {vs : Array Value} {T : TypeId} {v : Bool} (hop : o.op = .store t x y) (hx : a.eval x = .pointer (some ⟨g, b, none⟩)) (hy : a.eval y = .bool v) (hh : w.heap[g]? = some (.cells vs T (0, 0))) (hs : sized C.P t 1 = true) (hle : b + 1 ≤ vs.size) :
    (Go.execOp a.eval o).run C.P w = .ok .skip (w.setRow g (wrt vs b [.bool v])) := by
  have := run_storeAt (C := C) (w := w) (t := t) (off := b) (v := .bool v) (n := 1) hh hs rfl hle (fun u hu => by
    obtain rfl : u = .bool v := by simpa [Value.cells] using hu
    rfl)
  have h2 : (Value.bool v).cells.toList = [.bool v] := rfl
  rw [h2] at this
  unfold Go.execOp
  simp [hop, hx, hy, this]
end
/-- a row of bools in memory that may be written. -/
def BL (w : World) (I : Nat → Prop) (s : Value) (n : Nat) : Prop := ∃ A cap, s = .slice A n cap ∧ n ≤ maxLen ∧
  (n = 0 ∨ ∃ g o cs T, A = some ⟨g, o, none⟩ ∧ I g ∧ w.heap[g]? = some (.cells cs T (0, 0)) ∧ o + n ≤ cs.size ∧ ∀ j, j < n → ∃ b, cs.getD (o + j) undef = .bool b)
theorem BL.of {w : World} {I : Nat → Prop} {κ : Key → Nat} {t : TypeId} {es : List AV} {v : Value} (hI : ∀ b, I b → ∃ cs T, w.heap[b]? = some (.cells cs T (0, 0))) (h : VR w I κ (.l t es) v) (hb : es.all isBool = true) : BL w I v es.length := by
  cases h with
  | lnil _ A cap => exact ⟨A, cap, rfl, Nat.zero_le _, .inl rfl⟩
  | l _ _ g o cap cs T fz sz hIg hh ht hsz hnc hsize hp h1 hcap hmax hc =>
    refine ⟨_, cap, rfl, Nat.le_trans hcap hmax, ?_⟩
    by_cases hn : es.length = 0
    · exact .inl hn
    · refine .inr ⟨g, o, cs, T, rfl, hIg, ?_, ?_, fun j hj => ?_⟩
      · obtain ⟨cs', T', h2⟩ := hI g hIg
        rw [hh] at h2 ⊢
        simp only [Option.some.injEq, Obj.cells.injEq] at h2
        rw [h2.2.2]
      · have : es.length * 1 ≤ es.length * sz := Nat.mul_le_mul_left _ hsz
        omega
      · have he := List.getElem?_eq_getElem hj
        have hbe := List.all_eq_true.1 hb _ (List.getElem_mem hj)
        generalize es[j] = e at he hbe
        have hem := List.mem_of_getElem? he
        cases e <;> first | (cases hbe; done) | skip
        rename_i x
        have h3 := hnc _ hem
        obtain rfl : 1 = sz := h3
        have h4 := hc j _ 0 _ he rfl
        rw [Nat.mul_one, Nat.add_zero] at h4
        exact ⟨x, h4.b_inv⟩
theorem BL.put {w : World} {I : Nat → Prop} {s : Value} {n g p : Nat} {cs : Array Value} {T : TypeId} {x : Bool} (h : BL w I s n) (hh : w.heap[g]? = some (.cells cs T (0, 0))) (hp : p + 1 ≤ cs.size) : BL (w.setRow g (wrt cs p [.bool x])) I s n := by
  obtain ⟨A, cap, h1, h2, h3⟩ := h
  refine ⟨A, cap, h1, h2, h3.imp id ?_⟩
  rintro ⟨g', o, cs', T', h4, h5, h6, h7, h8⟩
  by_cases hg : g' = g
  · subst hg
    rw [hh] at h6
    simp only [Option.some.injEq, Obj.cells.injEq] at h6
    obtain ⟨rfl, rfl, _⟩ := h6
    refine ⟨g', o, wrt cs p [.bool x], T, h4, h5, setRow_heap w _ _ _ _ _ hh, by rw [size_wrt _ _ _ hp]; exact h7, fun j hj => ?_⟩
    rw [getD_wrt _ _ _ hp]
    split
    · rename_i hc
      have : o + j - p = 0 := by simp at hc; omega
      rw [this]
      exact ⟨x, rfl⟩
    · exact h8 j hj
  · exact ⟨g', o, cs', T', h4, h5, (setRow_other w g g' _ hg).trans h6, h7, h8⟩
/-- how the world stands while a level is spoilt. -/
structure WI (w0 : World) (I : Nat → Prop) (s1 s2 : Value) (n1 n2 : Nat) (w : World) : Prop where
  size : w.heap.size = w0.heap.size + 1
  box : ∃ T, w.heap[w0.heap.size]? = some (.cells #[s1, s2] T (0, 0))
  old : ∀ b, b < w0.heap.size → ¬ I b → w.heap[b]? = w0.heap[b]?
  io : w.os = w0.os ∧ w.output = w0.output
  r1 : BL w I s1 n1
  r2 : BL w I s2 n2
theorem WI.put {w0 w : World} {I : Nat → Prop} {s1 s2 : Value} {n1 n2 g p : Nat} {cs : Array Value} {T : TypeId} {x : Bool} (h : WI w0 I s1 s2 n1 n2 w) (hI : ∀ b, I b → b < w0.heap.size) (hg : I g) (hh : w.heap[g]? = some (.cells cs T (0, 0))) (hp : p + 1 ≤ cs.size) :
    WI w0 I s1 s2 n1 n2 (w.setRow g (wrt cs p [.bool x])) := by
  have hne : ∀ b, ¬ I b → (w.setRow g (wrt cs p [.bool x])).heap[b]? = w.heap[b]? := fun b hb => setRow_other w g b _ (fun e => hb (by rw [e]; exact hg))
  exact ⟨by simpa using h.size, h.box.imp fun T e => (hne _ fun hi => Nat.lt_irrefl _ (hI _ hi)).trans e, fun b hb hn => (hne b hn).trans (h.old b hb hn), h.io, h.r1.put hh hp, h.r2.put hh hp⟩
theorem WI.drew {w0 w : World} {I : Nat → Prop} {s1 s2 : Value} {n1 n2 : Nat} (h : WI w0 I s1 s2 n1 n2 w) : WI w0 I s1 s2 n1 n2 { w with drawn := w.drawn + 1 } := ⟨h.size, h.box, h.old, h.io, h.r1, h.r2⟩
theorem Rep.ext {a : Act} {f f' : Nat → Value} (h : Rep a f) (he : ∀ n, f n = f' n) : Rep a f' := ⟨h.size, h.defers, fun n => (h.get n).trans (he n)⟩
/-- where a loop stands: the box's address, how far. -/
structure SJ (nb ti i : Nat) (a : Act) : Prop where
  size : a.tmps.size = 38
  defers : a.defers = []
  t1 : a.tmps.getD 1 undef = .pointer (some ⟨nb, 0, none⟩)
  ti : a.tmps.getD ti undef = .int .i64 i
theorem SJ.rep {nb ti i : Nat} {a : Act} (h : SJ nb ti i a) : Rep a (fun n => a.tmps.getD n undef) := ⟨h.size, h.defers, fun _ => rfl⟩
/-- a loop that goes over a row. -/
theorem spoil_loop {P : Program} {w0 : World} {I : Nat → Prop} {s1 s2 : Value} {n1 n2 len nb ti t8 bid b2 : Nat} {c2 c4 c3 : Code} {Q : Exit → Act → World → Prop} {a : Act} {w : World}
    (h2 : ∀ (Q : Exit → Act → World → Prop) a w i, SJ nb ti i a → WI w0 I s1 s2 n1 n2 w → (∀ a', SJ nb ti i a' → a'.tmps.getD t8 undef = .bool (decide ((i : Int) < len)) → Q .normal a' w) → c2.wp P Q a w)
    (h4 : ∀ (Q : Exit → Act → World → Prop) a w i, SJ nb ti i a → WI w0 I s1 s2 n1 n2 w → i < len → (∀ a' w', SJ nb ti i a' → WI w0 I s1 s2 n1 n2 w' → Q .normal a' w') → c4.wp P Q a w)
    (h3 : ∀ (Q : Exit → Act → World → Prop) a w i, SJ nb ti i a → i < len → (∀ a', SJ nb ti (i + 1) a' → Q .normal a' w) → c3.wp P Q a w)
    (ha : SJ nb ti 0 a) (hw : WI w0 I s1 s2 n1 n2 w) (hQ : ∀ a' w', SJ nb ti len a' → WI w0 I s1 s2 n1 n2 w' → Q .normal a' w') :
    (Code.block bid (Code.loop (.seq (.seq c2 (.cond (.tmp t8) .skip (.exit bid))) (.seq (.block b2 c4) c3)))).wp P Q a w := by
  refine wp_block ?_
  refine wp_loop (fun a w => ∃ i, i ≤ len ∧ SJ nb ti i a ∧ WI w0 I s1 s2 n1 n2 w) (fun a _ => match a.tmps.getD ti undef with
    | .int _ i => len - i.toNat
    | _ => 0) ⟨0, Nat.zero_le _, ha, hw⟩ ?_
  rintro a w ⟨i, hi, hj, hw⟩
  refine wp_seq (wp_seq (h2 _ a w i hj hw fun a' hj' ht => ?_))
  by_cases hlt : i < len
  · refine wp_cond (t := true) (by show a'.tmps.getD t8 undef = _; rw [ht]; simp [hlt]) ?_
    refine wp_skip ?_
    refine wp_seq (wp_block (h4 _ a' w i hj' hw hlt fun a2 w2 hj2 hw2 => ?_))
    refine h3 _ a2 w2 i hj2 hlt fun a3 hj3 => ⟨⟨i + 1, hlt, hj3, hw2⟩, ?_⟩
    rw [hj3.ti, hj.ti]
    simp only [Int.toNat_natCast]
    omega
  · have he : i = len := by omega
    subst he
    refine wp_cond (t := false) (by show a'.tmps.getD t8 undef = _; rw [ht]; simp) ?_
    refine wp_exit ?_
    show (if bid = bid then Q .normal a' w else _)
    rw [if_pos rfl]
    exact hQ a' w hj' hw
noncomputable def fdl (i : Nat) : Field := (fieldOf Try.prog 27 i).getD default
theorem fdl0 : fieldOf Try.prog 27 0 = some (fdl 0) ∧ (fdl 0).offset = 0 ∧ (Try.prog.info? (fdl 0).type).isSome = true ∧ 0 < Try.prog.cellsOf (fdl 0).type := ⟨by kernel_rfl, by kernel_rfl, by kernel_rfl, Nat.lt_of_succ_le (Nat.le_of_ble_eq_true (by kernel_rfl))⟩
theorem fdl1 : fieldOf Try.prog 27 1 = some (fdl 1) ∧ (fdl 1).offset = 1 ∧ (Try.prog.info? (fdl 1).type).isSome = true ∧ 0 < Try.prog.cellsOf (fdl 1).type := ⟨by kernel_rfl, by kernel_rfl, by kernel_rfl, Nat.lt_of_succ_le (Nat.le_of_ble_eq_true (by kernel_rfl))⟩
theorem agg25 : aggT Try.prog 25 = some false := by kernel_rfl
theorem agg4 : aggT Try.prog 4 = some false := by kernel_rfl
theorem und25 : Try.prog.underlying 25 = some (.slice 4) := by kernel_rfl
theorem szd4 : sized Try.prog 4 1 = true := by kernel_rfl
/-- what it may be told to spoil. -/
theorem spoilOK {y : AV} (h : spoilO 4 [y] = some .u) : SpoilOK Try.prog 14 y := by
  unfold spoilO at h
  split at h
  · rename_i t1 es1 t2 es2 heq
    obtain rfl : y = .a [.l t1 es1, .l t2 es2] := by simpa using heq
    split at h
    · rename_i hb
      simp only [Bool.and_eq_true] at hb
      refine ⟨⟨Try.f14, Try.func14, by kernel_rfl, by kernel_rfl⟩, fun w I κ v hI hv => ?_⟩
      obtain ⟨vs, rfl, hl, _, hc⟩ := hv.a_inv
      have r1 := BL.of hI (hc 0 _ rfl) hb.1
      have r2 := BL.of hI (hc 1 _ rfl) hb.2
      have hvs : vs = #[vs.getD 0 undef, vs.getD 1 undef] := by
        apply Array.ext (by simpa using hl.symm)
        intro i h1 h2
        have : i = 0 ∨ i = 1 := by simp at h2; omega
        rcases this with rfl | rfl <;> simp [Array.getD, h1]
      generalize vs.getD 0 undef = s1 at *
      generalize vs.getD 1 undef = s2 at *
      subst hvs
      have hIl : ∀ b, I b → b < w.heap.size := fun b hb => by
        obtain ⟨cs, T, h⟩ := hI b hb
        exact (Array.getElem?_eq_some_iff.1 h).1
      generalize es1.length = n1 at *
      generalize es2.length = n2 at *
      have hm : Try.prog.follows .mixedOrders = true := by kernel_rfl
      have hold : ∀ b, b < w.heap.size → (w.alloc (.cells #[s1, s2] 27)).heap[b]? = w.heap[b]? := fun b hb => heap_alloc_old w _ hb
      have hBL : ∀ {s n}, BL w I s n → BL (w.alloc (.cells #[s1, s2] 27)) I s n := by
        rintro s n ⟨A, cap, h1, h2, h3⟩
        refine ⟨A, cap, h1, h2, h3.imp id ?_⟩
        rintro ⟨g, o, cs, T, h4, h5, h6, h7⟩
        exact ⟨g, o, cs, T, h4, h5, (hold g (hIl g h5)).trans h6, h7⟩
      have hw0 : WI w I s1 s2 n1 n2 (w.alloc (.cells #[s1, s2] 27)) := ⟨by simp, ⟨27, heap_alloc_new w _⟩, fun b hb _ => hold b hb, ⟨rfl, rfl⟩, hBL r1, hBL r2⟩
      refine calls_of_wp Try.func14 rfl ?_
      generalize ha0 : ({ tmps := #[Value.agg #[s1, s2]] ++ Array.replicate (Try.f14.ntmps - #[Value.agg #[s1, s2]].size) undef, defers := [] } : Act) = a0
      have hn : Try.f14.ntmps = 38 := rfl
      have hR0 : Rep a0 (fun n => a0.tmps.getD n undef) := ⟨by rw [← ha0]; simp [hn], by rw [← ha0], fun _ => rfl⟩
      have h00 : a0.tmps.getD 0 undef = .agg #[s1, s2] := by rw [← ha0]; simp [hn]
      clear ha0
      refine wp_seq (wp_region_lit ?_)
      refine stepV hR0 rfl rfl (by decide) (ex_box rfl h00) fun a hR => wpList_nil ?_
      refine wp_seq (wp_seq (wp_region_lit ?_))
      refine stepV hR rfl rfl (by decide) (ex_as rfl rfl) fun a hR => wpList_nil ?_
      refine spoil_loop (nb := w.heap.size) (ti := 2) (len := n1) (w0 := w) (I := I) (s1 := s1) (s2 := s2) (n1 := n1) (n2 := n2) ?_ ?_ ?_ ⟨hR.size, hR.defers, hR.get 1, hR.get 2⟩ hw0 ?_
      · intro Q a w' i hj hw hk
        obtain ⟨T, hbox⟩ := hw.box
        obtain ⟨A, cap, hs, hmax, _⟩ := hw.r1
        refine wp_region_lit ?_
        refine stepV hj.rep rfl rfl (by decide) (ex_mv rfl hj.ti) fun a1 hR1 => ?_
        refine stepV hR1 rfl rfl (by decide) (ex_fa rfl fdl0.1 fdl0.2.2.1 fdl0.2.2.2 ((hR1.ev 1).trans hj.t1)) fun a2 hR2 => ?_
        refine stepV hR2 rfl rfl (by decide) (ex_ld (v := s1) rfl agg25 (hR2.ev 5) (by rw [fdl0.2.1, cell_lit hbox]; rfl)) fun a3 hR3 => ?_
        refine stepV hR3 rfl rfl (by decide) (ex_len rfl rfl rfl rfl und25 ((hR3.ev 6).trans hs)) fun a4 hR4 => ?_
        refine stepV hR4 rfl rfl (by decide) (ex_lt rfl (hR4.ev 4) (hR4.ev 7)) fun a5 hR5 => wpList_nil ?_
        exact hk a5 ⟨hR5.size, hR5.defers, (hR5.get 1).trans hj.t1, (hR5.get 2).trans hj.ti⟩ (hR5.get 8)
      · intro Q a w' i hj hw hlt hk
        have hw := hw.drew
        refine wp_region_still_tail 10 hm (by kernel_rfl) ?_
        simp only [List.take_succ_cons, List.take_zero, List.drop_succ_cons, List.drop_zero]
        generalize hw2 : ({ w' with drawn := w'.drawn + 1 } : World) = w2 at *
        obtain ⟨T, hbox⟩ := hw.box
        obtain ⟨A, cap, hs, hmax, hrow⟩ := hw.r1
        obtain ⟨g, o, cs, T', rfl, hIg, hh, hsz, hcell⟩ := hrow.resolve_left (by omega)
        obtain ⟨bv, hbv⟩ := hcell i hlt
        have hci : w2.cell? ⟨g, o + i, none⟩ = some (.bool bv) := by
          rw [cell_lit hh]
          have hlt' : o + i < cs.size := by omega
          simpa [Array.getD_eq_getD_getElem?, hlt'] using hbv
        refine stillV hj.rep rfl rfl (by decide) (ex_fa rfl fdl0.1 fdl0.2.2.1 fdl0.2.2.2 hj.t1) fun a1 hR1 => ?_
        refine stillV hR1 rfl rfl (by decide) (ex_ld (v := s1) rfl agg25 (hR1.ev 11) (by rw [fdl0.2.1, cell_lit hbox]; rfl)) fun a2 hR2 => ?_
        refine stillV hR2 rfl rfl (by decide) (ex_mv rfl ((hR2.ev 2).trans hj.ti)) fun a3 hR3 => ?_
        refine stillV hR3 rfl rfl (by decide) (ex_fa rfl fdl0.1 fdl0.2.2.1 fdl0.2.2.2 ((hR3.ev 1).trans hj.t1)) fun a4 hR4 => ?_
        refine stillV hR4 rfl rfl (by decide) (ex_ld (v := s1) rfl agg25 (hR4.ev 14) (by rw [fdl0.2.1, cell_lit hbox]; rfl)) fun a5 hR5 => ?_
        refine stillV hR5 rfl rfl (by decide) (ex_mv rfl ((hR5.ev 2).trans hj.ti)) fun a6 hR6 => ?_
        refine stillV hR6 rfl rfl (by decide) (ex_ia rfl und25 szd4 ((hR6.ev 15).trans hs) (hR6.ev 16) hlt) fun a7 hR7 => ?_
        refine stillV hR7 rfl rfl (by decide) (ex_ld rfl agg4 (hR7.ev 17) hci) fun a8 hR8 => ?_
        refine stillV hR8 rfl rfl (by decide) (ex_not rfl (hR8.ev 18)) fun a9 hR9 => ?_
        refine stillV hR9 rfl rfl (by decide) (ex_ia rfl und25 szd4 ((hR9.ev 12).trans hs) (hR9.ev 13) hlt) fun a10 hR10 => wpStill_nil ?_
        refine stepS hR10 rfl rfl (ex_st (C := ⟨Try.prog, fun _ => True, ⟨0, false⟩, 0⟩) rfl (hR10.ev 20) (hR10.ev 19) hh szd4 (by omega)) (wpList_nil ?_)
        exact hk a10 _ ⟨hR10.size, hR10.defers, (hR10.get 1).trans hj.t1, (hR10.get 2).trans hj.ti⟩ (hw.put hIl hIg hh (by omega))
      · intro Q a w' i hj hlt hk
        have hmax : n1 ≤ maxLen := by
          obtain ⟨_, _, _, h, _⟩ := r1
          exact h
        have hwr : IntKind.i64.wrap ((i : Int) + 1) = ((i + 1 : Nat) : Int) := by
          have : maxLen ≤ 9223372036854775807 := by decide
          exact IntWalk.i64_in _ ⟨by omega, by omega⟩
        refine wp_region_lit ?_
        refine stepV hj.rep rfl rfl (by decide) (ex_mv rfl hj.ti) fun a1 hR1 => ?_
        refine stepV hR1 rfl rfl (by decide) (ex_add rfl (hR1.ev 9) rfl) fun a2 hR2 => ?_
        refine stepV hR2 rfl rfl (by decide) (ex_as rfl (hR2.ev 10)) fun a3 hR3 => wpList_nil ?_
        refine hk a3 ⟨hR3.size, hR3.defers, (hR3.get 1).trans hj.t1, (hR3.get 2).trans ?_⟩
        show Value.int .i64 _ = _
        rw [hwr]
      intro a w' hj hw
      refine wp_seq (wp_region_lit ?_)
      refine stepV hj.rep rfl rfl (by decide) (ex_as rfl rfl) fun a hR => wpList_nil ?_
      refine spoil_loop (nb := w.heap.size) (ti := 3) (len := n2) (w0 := w) (I := I) (s1 := s1) (s2 := s2) (n1 := n1) (n2 := n2) ?_ ?_ ?_ ⟨hR.size, hR.defers, (hR.get 1).trans hj.t1, hR.get 3⟩ hw ?_
      · intro Q a w' i hj hw hk
        obtain ⟨T, hbox⟩ := hw.box
        obtain ⟨A, cap, hs, hmax, _⟩ := hw.r2
        refine wp_region_lit ?_
        refine stepV hj.rep rfl rfl (by decide) (ex_mv rfl hj.ti) fun a1 hR1 => ?_
        refine stepV hR1 rfl rfl (by decide) (ex_fa rfl fdl1.1 fdl1.2.2.1 fdl1.2.2.2 ((hR1.ev 1).trans hj.t1)) fun a2 hR2 => ?_
        refine stepV hR2 rfl rfl (by decide) (ex_ld (v := s2) rfl agg25 (hR2.ev 22) (by rw [fdl1.2.1, cell_lit hbox]; rfl)) fun a3 hR3 => ?_
        refine stepV hR3 rfl rfl (by decide) (ex_len rfl rfl rfl rfl und25 ((hR3.ev 23).trans hs)) fun a4 hR4 => ?_
        refine stepV hR4 rfl rfl (by decide) (ex_lt rfl (hR4.ev 21) (hR4.ev 24)) fun a5 hR5 => wpList_nil ?_
        exact hk a5 ⟨hR5.size, hR5.defers, (hR5.get 1).trans hj.t1, (hR5.get 3).trans hj.ti⟩ (hR5.get 25)
      · intro Q a w' i hj hw hlt hk
        have hw := hw.drew
        refine wp_region_still_tail 10 hm (by kernel_rfl) ?_
        simp only [List.take_succ_cons, List.take_zero, List.drop_succ_cons, List.drop_zero]
        generalize hw2 : ({ w' with drawn := w'.drawn + 1 } : World) = w2 at *
        obtain ⟨T, hbox⟩ := hw.box
        obtain ⟨A, cap, hs, hmax, hrow⟩ := hw.r2
        obtain ⟨g, o, cs, T', rfl, hIg, hh, hsz, hcell⟩ := hrow.resolve_left (by omega)
        obtain ⟨bv, hbv⟩ := hcell i hlt
        have hci : w2.cell? ⟨g, o + i, none⟩ = some (.bool bv) := by
          rw [cell_lit hh]
          have hlt' : o + i < cs.size := by omega
          simpa [Array.getD_eq_getD_getElem?, hlt'] using hbv
        refine stillV hj.rep rfl rfl (by decide) (ex_fa rfl fdl1.1 fdl1.2.2.1 fdl1.2.2.2 hj.t1) fun a1 hR1 => ?_
        refine stillV hR1 rfl rfl (by decide) (ex_ld (v := s2) rfl agg25 (hR1.ev 28) (by rw [fdl1.2.1, cell_lit hbox]; rfl)) fun a2 hR2 => ?_
        refine stillV hR2 rfl rfl (by decide) (ex_mv rfl ((hR2.ev 3).trans hj.ti)) fun a3 hR3 => ?_
        refine stillV hR3 rfl rfl (by decide) (ex_fa rfl fdl1.1 fdl1.2.2.1 fdl1.2.2.2 ((hR3.ev 1).trans hj.t1)) fun a4 hR4 => ?_
        refine stillV hR4 rfl rfl (by decide) (ex_ld (v := s2) rfl agg25 (hR4.ev 31) (by rw [fdl1.2.1, cell_lit hbox]; rfl)) fun a5 hR5 => ?_
        refine stillV hR5 rfl rfl (by decide) (ex_mv rfl ((hR5.ev 3).trans hj.ti)) fun a6 hR6 => ?_
        refine stillV hR6 rfl rfl (by decide) (ex_ia rfl und25 szd4 ((hR6.ev 32).trans hs) (hR6.ev 33) hlt) fun a7 hR7 => ?_
        refine stillV hR7 rfl rfl (by decide) (ex_ld rfl agg4 (hR7.ev 34) hci) fun a8 hR8 => ?_
        refine stillV hR8 rfl rfl (by decide) (ex_not rfl (hR8.ev 35)) fun a9 hR9 => ?_
        refine stillV hR9 rfl rfl (by decide) (ex_ia rfl und25 szd4 ((hR9.ev 29).trans hs) (hR9.ev 30) hlt) fun a10 hR10 => wpStill_nil ?_
        refine stepS hR10 rfl rfl (ex_st (C := ⟨Try.prog, fun _ => True, ⟨0, false⟩, 0⟩) rfl (hR10.ev 37) (hR10.ev 36) hh szd4 (by omega)) (wpList_nil ?_)
        exact hk a10 _ ⟨hR10.size, hR10.defers, (hR10.get 1).trans hj.t1, (hR10.get 3).trans hj.ti⟩ (hw.put hIl hIg hh (by omega))
      · intro Q a w' i hj hlt hk
        have hmax : n2 ≤ maxLen := by
          obtain ⟨_, _, _, h, _⟩ := r2
          exact h
        have hwr : IntKind.i64.wrap ((i : Int) + 1) = ((i + 1 : Nat) : Int) := by
          have : maxLen ≤ 9223372036854775807 := by decide
          exact IntWalk.i64_in _ ⟨by omega, by omega⟩
        refine wp_region_lit ?_
        refine stepV hj.rep rfl rfl (by decide) (ex_mv rfl hj.ti) fun a1 hR1 => ?_
        refine stepV hR1 rfl rfl (by decide) (ex_add rfl (hR1.ev 26) rfl) fun a2 hR2 => ?_
        refine stepV hR2 rfl rfl (by decide) (ex_as rfl (hR2.ev 27)) fun a3 hR3 => wpList_nil ?_
        refine hk a3 ⟨hR3.size, hR3.defers, (hR3.get 1).trans hj.t1, (hR3.get 3).trans ?_⟩
        show Value.int .i64 _ = _
        rw [hwr]
      intro a w' hj hw
      exact ⟨hj.defers, _, results_none rfl _ _ _, ⟨_, rfl⟩, by rw [hw.size]; omega, hw.old, hw.io⟩
    · cases h
  · cases h
theorem spoilO_u {ys : List AV} {x : AV} (h : spoilO 4 ys = some x) : x = .u := by
  unfold spoilO at h
  split at h
  · split at h
    · exact (Option.some.inj h).symm
    · cases h
  · cases h
theorem spoilO_no {ys : List AV} {x : AV} (h : spoilO 4 ys = some x) (hp : x.pure = true) : False := by
  rw [spoilO_u h] at hp; cases hp
theorem spoilO_row {ys : List AV} {t : TypeId} (h : spoilO 4 ys = some (.o t [])) : False := by
  have := spoilO_u h; cases this
end Go.Proofs.Ytjnhiggknkflfaa.A
