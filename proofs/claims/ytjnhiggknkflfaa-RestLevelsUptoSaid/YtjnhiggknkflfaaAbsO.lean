/- The library's functions that are met by their contracts: strings.Join, strings.IndexByte. -/
import Derived.Test.YtjnhiggknkflfaaAbs3
import Derived.Lib.Join
import Derived.Lib.Bytealg
set_option linter.unusedSectionVars false
set_option linter.unusedVariables false
set_option linter.unusedSimpArgs false
set_option linter.constructorNameAsVariable false
namespace Go.Proofs.Ytjnhiggknkflfaa.A
open Go
def strsOf : List AV → Option (List (List UInt8))
  | [] => some []
  | .s l :: r => (strsOf r).map (l :: ·)
  | _ => none
theorem strsOf_map (l : List (List UInt8)) : strsOf (l.map AV.s) = some l := by
  induction l with
  | nil => rfl
  | cons x l ih => simp [strsOf, ih]
theorem strsOf_get : ∀ {es : List AV} {ss : List (List UInt8)}, strsOf es = some ss → es = ss.map AV.s
  | [], ss, h => by obtain rfl := Option.some.inj h; rfl
  | e :: es, ss, h => by
    cases e <;> simp only [strsOf, Option.map_eq_some_iff] at h <;> try contradiction
    obtain ⟨r, h1, rfl⟩ := h
    rw [strsOf_get h1]; rfl
/-- strings.Join. -/
def joinS (l : List (List UInt8)) (sep : List UInt8) : Option (List UInt8) := if l.length ≤ 140737488355328 ∧ (Lib.join l sep).length ≤ 140737488355328 then some (Lib.join l sep) else none
def joinO : List AV → Option AV
  | [.l _ es, .s sep] => (strsOf es).bind fun ss => (joinS ss sep).map AV.s
  | _ => none
theorem joinO_of {t : TypeId} {l : List (List UInt8)} {sep r : List UInt8} (h : joinS l sep = some r) : joinO [.l t (l.map AV.s), .s sep] = some (.s r) := by
  simp only [joinO, strsOf_map, Option.bind_some, h, Option.map_some]
/-- strings.IndexByte. -/
def indexByteS (s : List UInt8) (c : Int) : Option Int := some (Lib.indexByte s c.toNat.toUInt8)
def indexByteO : List AV → Option AV
  | [.s s, .i .u8 c] => (indexByteS s c).map (AV.i .i64)
  | _ => none
theorem indexByteO_of {s : List UInt8} {c r : Int} (h : indexByteS s c = some r) : indexByteO [.s s, .i .u8 c] = some (.i .i64 r) := by
  simp only [indexByteO, h, Option.map_some]
/-- slices.Grow of nothing. -/
def growO (t : TypeId) : List AV → Option AV
  | [.n, .i .i64 n] => if 0 ≤ n ∧ n ≤ 1000000 then some (.o t []) else none
  | _ => none
def isBool : AV → Bool
  | .b _ => true
  | _ => false
/-- two rows of bools: what a function may spoil. -/
def spoilO (_ : TypeId) : List AV → Option AV
  | [.a [.l _ es, .l _ es']] => if (es.all isBool && es'.all isBool) = true then some .u else none
  | _ => none
end Go.Proofs.Ytjnhiggknkflfaa.A
