/- Contracts of the library, laid by program. -/
import Derived.Shelf.Bits.Mul64
import Derived.Test.YtdpjofmmokaobaaGreatProg
set_option linter.unusedVariables false
namespace Go.Sort
end Go.Sort
namespace Go.Proofs
open Go.Shelf Go.Sort
open Go.RowKit
def Tryz.H6:Go.Shelf.Ren:=⟨fun | 212=>101 | 263=>139 | 264=>140 | n=>n,fun | 46=>153 | 51=>175 | 146=>176 | 53=>178 | 148=>179 | n=>n,fun | n=>n⟩
theorem Tryz.Px:Go.Proofs.Lays.n212 Tryz.prog Tryz.H6:={
 mixed:=by kernel_rfl
 f212:=Tryz.func101.trans (congrArg some (by kernel_rfl))
 f263:=Tryz.func139.trans (congrArg some (by kernel_rfl))
 f264:=Tryz.func140.trans (congrArg some (by kernel_rfl))
 t46:=Tryz.underlying153
 a46:=Tryz.isAgg153
 z46:=Tryz.sizeOf153
 v46:=Tryz.zeroValue153
 t51:=Tryz.underlying175
 a51:=Tryz.isAgg175
 z51:=Tryz.sizeOf175
 v51:=Tryz.zeroValue175
 t53:=Tryz.underlying178
 a53:=Tryz.isAgg178
 z53:=Tryz.sizeOf178
 v53:=Tryz.zeroValue178
 t146:=Tryz.underlying176
 a146:=Tryz.isAgg176
 z146:=Tryz.sizeOf176
 v146:=Tryz.zeroValue176
 t148:=Tryz.underlying179
 a148:=Tryz.isAgg179
 z148:=Tryz.sizeOf179
 v148:=Tryz.zeroValue179}
theorem Tryz.bits_Mul(x y:Nat)(hx:x<18446744073709551616)(hy:y<18446744073709551616)(w:World) :
  Calls Tryz.prog 101 #[.int .u64 x,.int .u64 y] w fun e w'=>e= .returned (.tuple #[.int .u64 ((x*y / 18446744073709551616:Nat):Int),.int .u64 ((x*y % 18446744073709551616:Nat):Int)])∧w'=w:=Any.bits_Mul Tryz.Px x y hx hy w
end Go.Proofs
