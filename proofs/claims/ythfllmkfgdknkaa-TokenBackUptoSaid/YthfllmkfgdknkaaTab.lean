/- Each function and its abstract code, made by program. -/
import Derived.Test.YthfllmkfgdknkaaAbsJ
import Derived.Test.YthfllmkfgdknkaaCode
import Derived.Test.YthfllmkfgdknkaaProg
import Derived.Test.YthfllmkfgdknkaaOrcOK
import Derived.Test.YthfllmkfgdknkaaShelf
set_option maxRecDepth 100000
set_option linter.unusedSectionVars false
set_option linter.unusedVariables false
set_option linter.unusedSimpArgs false
namespace Go.Proofs.Ythfllmkfgdknkaa.A
open Go Go.Proofs
variable [Base]
theorem low3 : lowF Try.prog 3 c3 = true := by kernel_rfl
theorem low4 : lowF Try.prog 4 c4 = true := by kernel_rfl
theorem low5 : lowF Try.prog 5 c5 = true := by kernel_rfl
theorem low6 : lowF Try.prog 6 c6 = true := by kernel_rfl
theorem low7 : lowF Try.prog 7 c7 = true := by kernel_rfl
theorem low8 : lowF Try.prog 8 c8 = true := by kernel_rfl
theorem low9 : lowF Try.prog 9 c9 = true := by kernel_rfl
theorem low10 : lowF Try.prog 10 c10 = true := by kernel_rfl
theorem low11 : lowF Try.prog 11 c11 = true := by kernel_rfl
theorem low12 : lowF Try.prog 12 c12 = true := by kernel_rfl
theorem low13 : lowF Try.prog 13 c13 = true := by kernel_rfl
theorem low14 : lowF Try.prog 14 c14 = true := by kernel_rfl
theorem low15 : lowF Try.prog 15 c15 = true := by kernel_rfl
theorem low16 : lowF Try.prog 16 c16 = true := by kernel_rfl
theorem low18 : lowF Try.prog 18 c18 = true := by kernel_rfl
theorem low19 : lowF Try.prog 19 c19 = true := by kernel_rfl
theorem low20 : lowF Try.prog 20 c20 = true := by kernel_rfl
theorem low21 : lowF Try.prog 21 c21 = true := by kernel_rfl
theorem low22 : lowF Try.prog 22 c22 = true := by kernel_rfl
theorem low23 : lowF Try.prog 23 c23 = true := by kernel_rfl
theorem low24 : lowF Try.prog 24 c24 = true := by kernel_rfl
theorem low26 : lowF Try.prog 26 c26 = true := by kernel_rfl
theorem low27 : lowF Try.prog 27 c27 = true := by kernel_rfl
theorem low31 : lowF Try.prog 31 c31 = true := by kernel_rfl
theorem low33 : lowF Try.prog 33 c33 = true := by kernel_rfl
theorem tab : TabOK Try.prog G := by
  intro f fn h
  unfold G at h
  split at h
  · obtain rfl := Option.some.inj h; exact low3
  · obtain rfl := Option.some.inj h; exact low4
  · obtain rfl := Option.some.inj h; exact low5
  · obtain rfl := Option.some.inj h; exact low6
  · obtain rfl := Option.some.inj h; exact low7
  · obtain rfl := Option.some.inj h; exact low8
  · obtain rfl := Option.some.inj h; exact low9
  · obtain rfl := Option.some.inj h; exact low10
  · obtain rfl := Option.some.inj h; exact low11
  · obtain rfl := Option.some.inj h; exact low12
  · obtain rfl := Option.some.inj h; exact low13
  · obtain rfl := Option.some.inj h; exact low14
  · obtain rfl := Option.some.inj h; exact low15
  · obtain rfl := Option.some.inj h; exact low16
  · obtain rfl := Option.some.inj h; exact low18
  · obtain rfl := Option.some.inj h; exact low19
  · obtain rfl := Option.some.inj h; exact low20
  · obtain rfl := Option.some.inj h; exact low21
  · obtain rfl := Option.some.inj h; exact low22
  · obtain rfl := Option.some.inj h; exact low23
  · obtain rfl := Option.some.inj h; exact low24
  · obtain rfl := Option.some.inj h; exact low26
  · obtain rfl := Option.some.inj h; exact low27
  · obtain rfl := Option.some.inj h; exact low31
  · obtain rfl := Option.some.inj h; exact low33
  · cases h
theorem bodied17 : bodied Try.prog 17 := ⟨Try.f17, Try.func17, by kernel_rfl, by kernel_rfl⟩
theorem bodied25 : bodied Try.prog 25 := ⟨Try.f25, Try.func25, by kernel_rfl, by kernel_rfl⟩
theorem orc : OrcOK Try.prog Ω0 := by
  intro f ys x h _
  simp only [Ω0] at h
  split at h
  · exact joinOK bodied17 Try.strings_Join_none Try.strings_Join h
  · exact indexByteOK bodied25 Try.strings_IndexByte h
  · cases h
/-- what the abstract run of a function says, a call of it does. -/
theorem sound : RecOK Try.prog (call G Ω0) := call_ok tab orc
end Go.Proofs.Ythfllmkfgdknkaa.A
