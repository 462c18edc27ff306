/- A strings.Builder that lies in a box: a cell that is nil in a block of a known type, pointers that are compared and turned, bytes of a string that are appended. -/
import Derived.Test.YtlmphbbhaeampaaGreatAbsE
import Derived.Lib.Builder
import Derived.Lib.AppendStr
import Derived.Laws.Externs
import Derived.Laws.IdiomStrings
set_option linter.all false
namespace Go.Proofs.YtlmphbbhaeampaaGreat.A
open Go
variable [cj]
section
variable {C:Cx}{st:St}{a:Act}{w:World}{σ:Sp}{o:Oper}{d:Option Nat}{R:Rec}{Ω:dK}{r:AV×St}
end
end Go.Proofs.YtlmphbbhaeampaaGreat.A
