/- The library's functions that are met by their contracts: strings.Join, strings.IndexByte. -/
import Derived.Test.YtmfihcbafljcbaaAbs3
import Derived.Lib.Join
import Derived.Lib.Bytealg
import Derived.Lib.Atoi
import Derived.Lib.Repeat
import Derived.Lib.ItoaNum
set_option linter.unusedSectionVars false
set_option linter.unusedVariables false
set_option linter.unusedSimpArgs false
set_option linter.constructorNameAsVariable false
namespace Go.Proofs.Ytmfihcbafljcbaa.A
open Go
def strsOf : List AV → Option (List (List UInt8))
  | [] => some []
  | .s l :: r => (strsOf r).map (l :: ·)
  | _ => none
theorem strsOf_map (l : List (List UInt8)) : strsOf (l.map AV.s) = some l := by
  induction l with
  | nil => rfl
  | cons x l ih => simp [strsOf, ih]
theorem strsOf_get : ∀ {es : List AV} {ss : List (List UInt8)}, strsOf es = some ss → es = ss.map AV.s
  | [], ss, h => by obtain rfl := Option.some.inj h; rfl
  | e :: es, ss, h => by
    cases e <;> simp only [strsOf, Option.map_eq_some_iff] at h <;> try contradiction
    obtain ⟨r, h1, rfl⟩ := h
    rw [strsOf_get h1]; rfl
/-- strings.Join. -/
def joinS (l : List (List UInt8)) (sep : List UInt8) : Option (List UInt8) := if l.length ≤ 140737488355328 ∧ (Lib.join l sep).length ≤ 140737488355328 then some (Lib.join l sep) else none
def joinO : List AV → Option AV
  | [.l _ es, .s sep] => (strsOf es).bind fun ss => (joinS ss sep).map AV.s
  | _ => none
theorem joinO_of {t : TypeId} {l : List (List UInt8)} {sep r : List UInt8} (h : joinS l sep = some r) : joinO [.l t (l.map AV.s), .s sep] = some (.s r) := by
  simp only [joinO, strsOf_map, Option.bind_some, h, Option.map_some]
/-- strings.IndexByte. -/
def indexByteS (s : List UInt8) (c : Int) : Option Int := some (Lib.indexByte s c.toNat.toUInt8)
def indexByteO : List AV → Option AV
  | [.s s, .i .u8 c] => (indexByteS s c).map (AV.i .i64)
  | _ => none
theorem indexByteO_of {s : List UInt8} {c r : Int} (h : indexByteS s c = some r) : indexByteO [.s s, .i .u8 c] = some (.i .i64 r) := by
  simp only [indexByteO, h, Option.map_some]
/-- strconv.Atoi, of what spells a number and is not too long. -/
def atoiO : List AV → Option AV
  | [.s l] => if l.length ≤ 18 then (Lib.atoi l).map fun n => .tp [.i .i64 n, .ni] else none
  | _ => none
theorem noV_atoiO {g : FuncId} {n : Int} (h : atoiO [.u, .i .i64 g] = some (.i .i64 n)) : False := by cases h
theorem atoiO_u {y : AV} (h : atoiO [y] = some .u) : False := by
  unfold atoiO at h
  split at h
  · split at h
    · obtain ⟨_, _, h2⟩ := Option.map_eq_some_iff.1 h; cases h2
    · cases h
  · cases h
/-- strings.Repeat, of what fits. -/
def repeatS (s : List UInt8) (c : Int) : Option (List UInt8) := if 0 ≤ c ∧ s.length * c.toNat ≤ 140737488355328 ∧ c ≤ 9223372036854775807 then some (Lib.repeatL s c.toNat) else none
def repeatO : List AV → Option AV
  | [.s s, .i .i64 c] => (repeatS s c).map AV.s
  | _ => none
theorem repeatO_of {s r : List UInt8} {c : Int} (h : repeatS s c = some r) : repeatO [.s s, .i .i64 c] = some (.s r) := by simp only [repeatO, h, Option.map_some]
theorem noV_repeatO {g : FuncId} {n : Int} (h : repeatO [.u, .i .i64 g] = some (.i .i64 n)) : False := by cases h
theorem repeatO_u {y : AV} (h : repeatO [y] = some .u) : False := by
  unfold repeatO at h
  split at h
  · rename_i heq; simp at heq
  · cases h
/-- strconv.Itoa. -/
def itoaS (n : Int) : Option (List UInt8) := if -9223372036854775808 ≤ n ∧ n ≤ 9223372036854775807 then some (Lib.itoa n) else none
def itoaO : List AV → Option AV
  | [.i .i64 n] => (itoaS n).map AV.s
  | _ => none
theorem itoaO_of {r : List UInt8} {n : Int} (h : itoaS n = some r) : itoaO [.i .i64 n] = some (.s r) := by simp only [itoaO, h, Option.map_some]
theorem noV_itoaO {g : FuncId} {n : Int} (h : itoaO [.u, .i .i64 g] = some (.i .i64 n)) : False := by cases h
theorem itoaO_u {y : AV} (h : itoaO [y] = some .u) : False := by
  unfold itoaO at h
  split at h
  · obtain ⟨_, _, h2⟩ := Option.map_eq_some_iff.1 h; cases h2
  · cases h
/-- slices.Grow of nothing. -/
def growO (t : TypeId) : List AV → Option AV
  | [.n, .i .i64 n] => if 0 ≤ n ∧ n ≤ 1000000 then some (.o t []) else none
  | _ => none
/-- which function answers what a builder holds, bytes of that type. -/
def strO (t : TypeId) : List AV → Option AV
  | [.u, .u, .i .i64 n] => if n = t then some (.s []) else none
  | _ => none
def isBool : AV → Bool
  | .b _ => true
  | _ => false
/-- two rows of bools: what a function may spoil. -/
def spoilO (_ : TypeId) : List AV → Option AV
  | [.a [.l _ es, .l _ es']] => if (es.all isBool && es'.all isBool) = true then some .u else none
  | _ => none
/-- a function that another one stands for. -/
def viaO (g : FuncId) (m : Int) : List AV → Option AV
  | [.u, .i .i64 n] => if n = g then some (.i .i64 m) else none
  | _ => none
theorem viaO_eq {g : FuncId} {m : Int} {ys : List AV} {x : AV} (h : viaO g m ys = some x) : x = .i .i64 m ∧ ys = [.u, .i .i64 g] := by
  unfold viaO at h
  split at h
  · rename_i n
    split at h
    · rename_i hn
      exact ⟨(Option.some.inj h).symm, by rw [hn]⟩
    · cases h
  · cases h
theorem viaO_u {g : FuncId} {m : Int} {y : AV} (h : viaO g m [y] = some .u) : False := by have := (viaO_eq h).2; simp at this
theorem viaO_no {g : FuncId} {m : Int} {ys : List AV} {x : AV} (h : viaO g m ys = some x) (hy : ∀ y ∈ ys, y.pure = true) : False := by rw [(viaO_eq h).2] at hy; cases hy .u (by simp)
theorem viaO_row {g : FuncId} {m : Int} {ys : List AV} {t : TypeId} (h : viaO g m ys = some (.o t [])) : False := by have := (viaO_eq h).1; cases this
theorem noV_joinO {g : FuncId} {n : Int} (h : joinO [.u, .i .i64 g] = some (.i .i64 n)) : False := by cases h
theorem noV_indexByteO {g : FuncId} {n : Int} (h : indexByteO [.u, .i .i64 g] = some (.i .i64 n)) : False := by cases h
theorem noV_growO {t : TypeId} {g : FuncId} {n : Int} (h : growO t [.u, .i .i64 g] = some (.i .i64 n)) : False := by cases h
theorem noV_spoilO {t : TypeId} {g : FuncId} {n : Int} (h : spoilO t [.u, .i .i64 g] = some (.i .i64 n)) : False := by cases h
theorem joinO_u {y : AV} (h : joinO [y] = some .u) : False := by
  unfold joinO at h
  split at h
  · rename_i heq; simp at heq
  · cases h
theorem indexByteO_u {y : AV} (h : indexByteO [y] = some .u) : False := by
  unfold indexByteO at h
  split at h
  · rename_i heq; simp at heq
  · cases h
theorem growO_u {t : TypeId} {y : AV} (h : growO t [y] = some .u) : False := by
  unfold growO at h
  split at h
  · rename_i heq; simp at heq
  · cases h
theorem noS_joinO {t : TypeId} (h : joinO [.u, .u, .i .i64 t] = some (.s [])) : False := by cases h
theorem noS_indexByteO {t : TypeId} (h : indexByteO [.u, .u, .i .i64 t] = some (.s [])) : False := by cases h
theorem noS_atoiO {t : TypeId} (h : atoiO [.u, .u, .i .i64 t] = some (.s [])) : False := by cases h
theorem noS_repeatO {t : TypeId} (h : repeatO [.u, .u, .i .i64 t] = some (.s [])) : False := by cases h
theorem noS_itoaO {t : TypeId} (h : itoaO [.u, .u, .i .i64 t] = some (.s [])) : False := by cases h
theorem noS_growO {u : TypeId} {t : TypeId} (h : growO u [.u, .u, .i .i64 t] = some (.s [])) : False := by cases h
theorem noS_spoilO {u : TypeId} {t : TypeId} (h : spoilO u [.u, .u, .i .i64 t] = some (.s [])) : False := by cases h
theorem noS_viaO {g : FuncId} {n : Int} {t : TypeId} (h : viaO g n [.u, .u, .i .i64 t] = some (.s [])) : False := by cases h
mutual
def usesA : AV → Option (List Int)
  | .a [.i .i64 k, .i .i64 n, .l _ args] => (usesL args).map fun r => if k = 2 then n :: r else r
  | _ => none
def usesL : List AV → Option (List Int)
  | [] => some []
  | x :: r => (usesA x).bind fun a => (usesL r).map (a ++ ·)
end
/-- what an iterator gives that goes over an expression. -/
def itO : List AV → Option AV
  | [.u, .e x 0] => (usesA x).map fun ns => .l 0 (ns.map (AV.i .i64))
  | _ => none
/-- slices.Repeat of one bool. -/
def repO (t : TypeId) : List AV → Option AV
  | [.l _ [.b x], .i .i64 n] => if 0 ≤ n ∧ n ≤ 1000000 then some (.l t (List.replicate n.toNat (.b x))) else none
  | _ => none
theorem noV_itO {g : FuncId} {n : Int} (h : itO [.u, .i .i64 g] = some (.i .i64 n)) : False := by cases h
theorem noS_itO {t : TypeId} (h : itO [.u, .u, .i .i64 t] = some (.s [])) : False := by cases h
theorem itO_u {y : AV} (h : itO [y] = some .u) : False := by
  unfold itO at h
  split at h
  · rename_i heq; simp at heq
  · cases h
theorem noV_repO {u : TypeId} {g : FuncId} {n : Int} (h : repO u [.u, .i .i64 g] = some (.i .i64 n)) : False := by cases h
theorem noS_repO {u : TypeId} {t : TypeId} (h : repO u [.u, .u, .i .i64 t] = some (.s [])) : False := by cases h
theorem repO_u {u : TypeId} {y : AV} (h : repO u [y] = some .u) : False := by
  unfold repO at h
  split at h
  · rename_i heq; simp at heq
  · cases h
theorem itO_no {ys : List AV} {x : AV} (h : itO ys = some x) (hy : ∀ y ∈ ys, y.pure = true) : False := by
  unfold itO at h
  split at h
  · cases hy .u (by simp)
  · cases h
theorem itO_row {ys : List AV} {t : TypeId} (h : itO ys = some (.o t [])) : False := by
  unfold itO at h
  split at h
  · obtain ⟨_, _, h2⟩ := Option.map_eq_some_iff.1 h; cases h2
  · cases h
theorem repO_no {u : TypeId} {ys : List AV} {t : TypeId} (h : repO u ys = some (.o t [])) : False := by
  unfold repO at h
  split at h
  · split at h
    · cases Option.some.inj h
    · cases h
  · cases h
theorem noI_joinO {c : AV} {es : List AV} (h : joinO [.u, c] = some (.l 0 es)) : False := by
  unfold joinO at h
  split at h
  · rename_i heq; simp at heq
  · cases h
theorem noI_indexByteO {c : AV} {es : List AV} (h : indexByteO [.u, c] = some (.l 0 es)) : False := by
  unfold indexByteO at h
  split at h
  · rename_i heq; simp at heq
  · cases h
theorem noI_atoiO {c : AV} {es : List AV} (h : atoiO [.u, c] = some (.l 0 es)) : False := by
  unfold atoiO at h
  split at h
  · rename_i heq; simp at heq
  · cases h
theorem noI_repeatO {c : AV} {es : List AV} (h : repeatO [.u, c] = some (.l 0 es)) : False := by
  unfold repeatO at h
  split at h
  · rename_i heq; simp at heq
  · cases h
theorem noI_itoaO {c : AV} {es : List AV} (h : itoaO [.u, c] = some (.l 0 es)) : False := by
  unfold itoaO at h
  split at h
  · rename_i heq; simp at heq
  · cases h
theorem noI_growO {u : TypeId} {c : AV} {es : List AV} (h : growO u [.u, c] = some (.l 0 es)) : False := by
  unfold growO at h
  split at h
  · rename_i heq; simp at heq
  · cases h
theorem noI_strO {u : TypeId} {c : AV} {es : List AV} (h : strO u [.u, c] = some (.l 0 es)) : False := by
  unfold strO at h
  split at h
  · rename_i heq; simp at heq
  · cases h
theorem noI_spoilO {u : TypeId} {c : AV} {es : List AV} (h : spoilO u [.u, c] = some (.l 0 es)) : False := by
  unfold spoilO at h
  split at h
  · rename_i heq; simp at heq
  · cases h
theorem noI_viaO {g : FuncId} {n : Int} {c : AV} {es : List AV} (h : viaO g n [.u, c] = some (.l 0 es)) : False := by have := (viaO_eq h).1; cases this
theorem noI_repO {u : TypeId} {c : AV} {es : List AV} (h : repO u [.u, c] = some (.l 0 es)) : False := by
  unfold repO at h
  split at h
  · rename_i heq; simp at heq
  · cases h
/-- the program that breaks a rule, as the law's own function answers it (types of grants, ints, labels, policies, variables, functions, statements, expressions). -/
def badV (tg ti tl tp tv tf ts te : TypeId) : AV :=
  .a [.i .i64 2, .l tg [], .l ti [], .l tl [.a [.l tp [.a [.i .i64 0, .l ti []]], .l tp []]], .l tl [.a [.l tp [], .l tp []]], .l tv [.a [.b false, .l tp [], .l tp []]], .l tf [],
    .l ts [.a [.i .i64 3, .i .i64 0, .i .i64 0, .i .i64 0, .i .i64 0, .l te [], .l te [], .l ts [], .l ts []], .a [.i .i64 4, .i .i64 0, .i .i64 0, .i .i64 2, .i .i64 0, .l te [], .l te [], .l ts [], .l ts []]]]
def badO (tg ti tl tp tv tf ts te : TypeId) : List AV → Option AV
  | [] => some (badV tg ti tl tp tv tf ts te)
  | _ => none
section
variable {tg ti tl tp tv tf ts te : TypeId}
theorem noV_badO {g : FuncId} {n : Int} (h : badO tg ti tl tp tv tf ts te [.u, .i .i64 g] = some (.i .i64 n)) : False := by cases h
theorem noS_badO {t : TypeId} (h : badO tg ti tl tp tv tf ts te [.u, .u, .i .i64 t] = some (.s [])) : False := by cases h
theorem noI_badO {c : AV} {es : List AV} (h : badO tg ti tl tp tv tf ts te [.u, c] = some (.l 0 es)) : False := by cases h
theorem badO_u {y : AV} (h : badO tg ti tl tp tv tf ts te [y] = some .u) : False := by cases h
theorem badO_no {ys : List AV} {t : TypeId} (h : badO tg ti tl tp tv tf ts te ys = some (.o t [])) : False := by
  unfold badO at h
  split at h
  · cases Option.some.inj h
  · cases h
end
/-- slices.Clone of ints. -/
def cloneO (t : TypeId) : List AV → Option AV
  | [.l _ es] => (intsOf es).bind fun ns => if ns.length ≤ 17592186044416 then some (.l t es) else none
  | _ => none
theorem intsOf_get : ∀ {es : List AV} {ns : List Int}, intsOf es = some ns → es = ns.map (AV.i .i64)
  | [], ns, h => by obtain rfl := Option.some.inj h; rfl
  | e :: es, ns, h => by
    unfold intsOf at h
    split at h
    · rename_i heq; cases heq
    · rename_i n r heq
      cases heq
      obtain ⟨r, h1, rfl⟩ := Option.map_eq_some_iff.1 h
      rw [intsOf_get h1]; rfl
    · cases h
theorem intsOf_map (ns : List Int) : intsOf (ns.map (AV.i .i64)) = some ns := by
  induction ns with
  | nil => rfl
  | cons n ns ih => simp [intsOf, ih]
theorem noV_cloneO {u : TypeId} {g : FuncId} {n : Int} (h : cloneO u [.u, .i .i64 g] = some (.i .i64 n)) : False := by cases h
theorem noS_cloneO {u t : TypeId} (h : cloneO u [.u, .u, .i .i64 t] = some (.s [])) : False := by cases h
theorem noI_cloneO {u : TypeId} {c : AV} {es : List AV} (h : cloneO u [.u, c] = some (.l 0 es)) : False := by
  unfold cloneO at h
  split at h
  · rename_i heq; simp at heq
  · cases h
theorem cloneO_u {u : TypeId} {y : AV} (h : cloneO u [y] = some .u) : False := by
  unfold cloneO at h
  split at h
  · obtain ⟨_, _, h2⟩ := Option.bind_eq_some_iff.1 h
    split at h2
    · cases Option.some.inj h2
    · cases h2
  · cases h
theorem cloneO_no {u : TypeId} {ys : List AV} {t : TypeId} (h : cloneO u ys = some (.o t [])) : False := by
  unfold cloneO at h
  split at h
  · obtain ⟨_, _, h2⟩ := Option.bind_eq_some_iff.1 h
    split at h2
    · cases Option.some.inj h2
    · cases h2
  · cases h
end Go.Proofs.Ytmfihcbafljcbaa.A
