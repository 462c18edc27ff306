/- The library's functions that are met by their contracts: strings.Join, strings.IndexByte. -/
import Derived.Test.YtphgedfhcncobaaGreatDoorAbs3
import Derived.Lib.Join
import Derived.Lib.Bytealg
import Derived.Lib.Atoi
set_option linter.unusedSectionVars false
set_option linter.unusedVariables false
set_option linter.unusedSimpArgs false
set_option linter.constructorNameAsVariable false
namespace Go.Proofs.YtphgedfhcncobaaGreatDoor.A
open Go
def mI(s:List UInt8)(c:Int):Option Int:=some (Lib.indexByte s c.toNat.toUInt8)
def eu:List AV→Option AV
 | [.s s,.i .u8 c]=>(mI s c).map (AV.i .i64)
 | _=>none
theorem zh{s:List UInt8}{c r:Int}(h:mI s c=some r):eu [.s s,.i .u8 c]=some (.i .i64 r):=by
 simp only [eu,h,Option.map_some]
def qj:List AV→Option AV
 | [.s l]=>if l.length≤18 then (Lib.atoi l).map fun n=>.tp [.i .i64 n,.ni] else none
 | _=>none
theorem DN{g:FuncId}{n:Int}(h:qj [.u,.i .i64 g]=some (.i .i64 n)):False:=by cases h
theorem GF{y:AV}(h:qj [y]=some .u):False:=by
 unfold qj at h
 split at h
 ·split at h
  ·obtain ⟨_,_,h2⟩:=Option.map_eq_some_iff.1 h;cases h2
  ·cases h
 ·cases h
def uH(g:FuncId)(m:Int):List AV→Option AV
 | [.u,.i .i64 n]=>if n=g then some (.i .i64 m) else none
 | _=>none
theorem tT{g:FuncId}{m:Int}{ys:List AV}{x:AV}(h:uH g m ys=some x):x= .i .i64 m∧ys=[.u,.i .i64 g]:=by
 unfold uH at h
 split at h
 ·rename_i n
  split at h
  ·rename_i hn
   exact ⟨(Option.some.inj h).symm,by rw [hn]⟩
  ·cases h
 ·cases h
theorem HA{g:FuncId}{m:Int}{y:AV}(h:uH g m [y]=some .u):False:=by have:=(tT h).2;simp at this
theorem GG{g:FuncId}{m:Int}{ys:List AV}{x:AV}(h:uH g m ys=some x)(hy:∀ y∈ys,y.pure=true):False:=by rw [(tT h).2] at hy;cases hy .u (by simp)
theorem EH{g:FuncId}{m:Int}{ys:List AV}{t:TypeId}(h:uH g m ys=some (.o t [])):False:=by have:=(tT h).1;cases this
theorem wP{g:FuncId}{n:Int}(h:eu [.u,.i .i64 g]=some (.i .i64 n)):False:=by cases h
theorem Ad{y:AV}(h:eu [y]=some .u):False:=by
 unfold eu at h
 split at h
 ·rename_i heq;simp at heq
 ·cases h
end Go.Proofs.YtphgedfhcncobaaGreatDoor.A
