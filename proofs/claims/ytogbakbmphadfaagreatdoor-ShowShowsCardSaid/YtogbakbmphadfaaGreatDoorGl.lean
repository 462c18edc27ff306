/- What package-level variables hold that never change. -/
import Derived.Lib.ItoaNum
namespace Go.Proofs.YtogbakbmphadfaaGreatDoor.A
open Go
def glP:List (Nat×Array Value):=[(1,(Lib.pow10Tab.map fun z=>Value.int .u64 z).toArray)]
end Go.Proofs.YtogbakbmphadfaaGreatDoor.A
