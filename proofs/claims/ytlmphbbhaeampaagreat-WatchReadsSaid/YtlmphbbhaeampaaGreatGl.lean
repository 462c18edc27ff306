/- What package-level variables hold that never change. -/
import Derived.Lib.ItoaNum
namespace Go.Proofs.YtlmphbbhaeampaaGreat.A
open Go
def glP:List (Nat×Array Value):=[]
end Go.Proofs.YtlmphbbhaeampaaGreat.A
