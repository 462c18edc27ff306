/- Contracts of the library, laid by program. -/
import Derived.Shelf.Bits.Mul64
import Derived.Test.YtkkkkondjclcnaaProg
set_option linter.unusedVariables false
namespace Go.Sort
end Go.Sort
namespace Go.Proofs
open Go.Shelf Go.Sort
open Go.RowKit
def Try.D9:Go.Shelf.Ren:=⟨fun | 212=>81 | 263=>87 | 264=>88 | n=>n,fun | 46=>136 | 51=>141 | 146=>142 | 53=>144 | 148=>145 | n=>n,fun | n=>n⟩
theorem Try.KG:Go.Proofs.Lays.n212 Try.prog Try.D9:={
 mixed:=by kernel_rfl
 f212:=Try.func81.trans (congrArg some (by kernel_rfl))
 f263:=Try.func87.trans (congrArg some (by kernel_rfl))
 f264:=Try.func88.trans (congrArg some (by kernel_rfl))
 t46:=Try.underlying136
 a46:=Try.isAgg136
 z46:=Try.sizeOf136
 v46:=Try.zeroValue136
 t51:=Try.underlying141
 a51:=Try.isAgg141
 z51:=Try.sizeOf141
 v51:=Try.zeroValue141
 t53:=Try.underlying144
 a53:=Try.isAgg144
 z53:=Try.sizeOf144
 v53:=Try.zeroValue144
 t146:=Try.underlying142
 a146:=Try.isAgg142
 z146:=Try.sizeOf142
 v146:=Try.zeroValue142
 t148:=Try.underlying145
 a148:=Try.isAgg145
 z148:=Try.sizeOf145
 v148:=Try.zeroValue145}
theorem Try.bits_Mul(x y:Nat)(hx:x<18446744073709551616)(hy:y<18446744073709551616)(w:World) :
  Calls Try.prog 81 #[.int .u64 x,.int .u64 y] w fun e w'=>e= .returned (.tuple #[.int .u64 ((x*y / 18446744073709551616:Nat):Int),.int .u64 ((x*y % 18446744073709551616:Nat):Int)])∧w'=w:=Any.bits_Mul Try.KG x y hx hy w
end Go.Proofs
