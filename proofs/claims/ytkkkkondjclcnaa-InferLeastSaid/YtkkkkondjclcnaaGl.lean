/- What package-level variables hold that never change. -/
import Derived.Lib.ItoaNum
namespace Go.Proofs.Ytkkkkondjclcnaa.A
open Go
def Ux:List (Nat×Array Value):=[]
end Go.Proofs.Ytkkkkondjclcnaa.A
