/- The library's functions that are met by their contracts: strings.Join, strings.IndexByte. -/
import Derived.Test.YtndeklbmglgonaaGreatAbs3
import Derived.Lib.Join
import Derived.Lib.Bytealg
set_option linter.unusedSectionVars false
set_option linter.unusedVariables false
set_option linter.unusedSimpArgs false
set_option linter.constructorNameAsVariable false
namespace Go.Proofs.YtndeklbmglgonaaGreat.A
open Go
def qF(t:TypeId):List AV→Option AV
 | [.n,.i .i64 n]=>if 0≤n∧n≤1000000 then some (.o t []) else none
 | _=>none
theorem Ji{t:TypeId}{g:FuncId}(h:qF t [.u,.i .i64 g]=some .u):False:=by cases h
theorem MJ{t:TypeId}{y:AV}(h:qF t [y]=some .u):False:=by
 unfold qF at h
 split at h
 ·rename_i heq;simp at heq
 ·cases h
end Go.Proofs.YtndeklbmglgonaaGreat.A
