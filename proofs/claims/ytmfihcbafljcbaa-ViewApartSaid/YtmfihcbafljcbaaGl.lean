/- What package-level variables hold that never change. -/
import Derived.Lib.ItoaNum
namespace Go.Proofs.Ytmfihcbafljcbaa.A
open Go
/-- numbers of blocks, and what lies there. -/
def glP : List (Nat × Array Value) := []
end Go.Proofs.Ytmfihcbafljcbaa.A
