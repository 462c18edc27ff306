/- The library's functions that are met by their contracts: strings.Join, strings.IndexByte. -/
import Derived.Test.YtdpjofmmokaobaaGreatAbs3
import Derived.Lib.Join
import Derived.Lib.Bytealg
import Derived.Lib.Atoi
import Derived.Lib.Repeat
import Derived.Lib.ItoaNum
set_option linter.unusedSectionVars false
set_option linter.unusedVariables false
set_option linter.unusedSimpArgs false
set_option linter.constructorNameAsVariable false
namespace Go.Proofs.YtdpjofmmokaobaaGreat.A
open Go
def nR(t:TypeId):List AV→Option AV
 | [.n,.i .i64 n]=>if 0≤n∧n≤1000000 then some (.o t []) else none
 | _=>none
theorem Jh{t:TypeId}{g:FuncId}{n:Int}(h:nR t [.u,.i .i64 g]=some (.i .i64 n)):False:=by cases h
theorem NC{t:TypeId}{y:AV}(h:nR t [y]=some .u):False:=by
 unfold nR at h
 split at h
 ·rename_i heq;simp at heq
 ·cases h
theorem Ji{u:TypeId}{t:TypeId}(h:nR u [.u,.u,.i .i64 t]=some (.s [])):False:=by cases h
mutual
def qu:AV→Option (List Int)
 | .a [.i .i64 k,.i .i64 n,.l _ args]=>(sO args).map fun r=>if k=2 then n::r else r
 | _=>none
def sO:List AV→Option (List Int)
 | []=>some []
 | x::r=>(qu x).bind fun a=>(sO r).map (a++·)
end
def vW:List AV→Option AV
 | [.u,.e x 0]=>(qu x).map fun ns=>.l 0 (ns.map (AV.i .i64))
 | _=>none
def qZ(t:TypeId):List AV→Option AV
 | [.l _ [.b x],.i .i64 n]=>if 0≤n∧n≤1000000 then some (.l t (List.replicate n.toNat (.b x))) else none
 | _=>none
theorem ND{g:FuncId}{n:Int}(h:vW [.u,.i .i64 g]=some (.i .i64 n)):False:=by cases h
theorem NF{t:TypeId}(h:vW [.u,.u,.i .i64 t]=some (.s [])):False:=by cases h
theorem Ug{y:AV}(h:vW [y]=some .u):False:=by
 unfold vW at h
 split at h
 ·rename_i heq;simp at heq
 ·cases h
theorem KJ{u:TypeId}{g:FuncId}{n:Int}(h:qZ u [.u,.i .i64 g]=some (.i .i64 n)):False:=by cases h
theorem KK{u:TypeId}{t:TypeId}(h:qZ u [.u,.u,.i .i64 t]=some (.s [])):False:=by cases h
theorem OQ{u:TypeId}{y:AV}(h:qZ u [y]=some .u):False:=by
 unfold qZ at h
 split at h
 ·rename_i heq;simp at heq
 ·cases h
theorem OR{ys:List AV}{x:AV}(h:vW ys=some x)(hy:∀ y∈ys,y.pure=true):False:=by
 unfold vW at h
 split at h
 ·cases hy .u (by simp)
 ·cases h
theorem NG{ys:List AV}{t:TypeId}(h:vW ys=some (.o t [])):False:=by
 unfold vW at h
 split at h
 ·obtain ⟨_,_,h2⟩:=Option.map_eq_some_iff.1 h;cases h2
 ·cases h
theorem NH{u:TypeId}{ys:List AV}{t:TypeId}(h:qZ u ys=some (.o t [])):False:=by
 unfold qZ at h
 split at h
 ·split at h
  ·cases Option.some.inj h
  ·cases h
 ·cases h
theorem Jj{u:TypeId}{c:AV}{es:List AV}(h:nR u [.u,c]=some (.l 0 es)):False:=by
 unfold nR at h
 split at h
 ·rename_i heq;simp at heq
 ·cases h
theorem KL{u:TypeId}{c:AV}{es:List AV}(h:qZ u [.u,c]=some (.l 0 es)):False:=by
 unfold qZ at h
 split at h
 ·rename_i heq;simp at heq
 ·cases h
def YT(tg ti tl tp tv tf ts te:TypeId):AV:=
 .a [.i .i64 2,.l tg [],.l ti [],.l tl [.a [.l tp [.a [.i .i64 0,.l ti []]],.l tp []]],.l tl [.a [.l tp [],.l tp []]],.l tv [.a [.b false,.l tp [],.l tp []]],.l tf [],
  .l ts [.a [.i .i64 3,.i .i64 0,.i .i64 0,.i .i64 0,.i .i64 0,.l te [],.l te [],.l ts [],.l ts []],.a [.i .i64 4,.i .i64 0,.i .i64 0,.i .i64 2,.i .i64 0,.l te [],.l te [],.l ts [],.l ts []]]]
def wZ(tg ti tl tp tv tf ts te:TypeId):List AV→Option AV
 | []=>some (YT tg ti tl tp tv tf ts te)
 | _=>none
section
variable {tg ti tl tp tv tf ts te:TypeId}
theorem KM{g:FuncId}{n:Int}(h:wZ tg ti tl tp tv tf ts te [.u,.i .i64 g]=some (.i .i64 n)):False:=by cases h
theorem KN{t:TypeId}(h:wZ tg ti tl tp tv tf ts te [.u,.u,.i .i64 t]=some (.s [])):False:=by cases h
theorem KO{c:AV}{es:List AV}(h:wZ tg ti tl tp tv tf ts te [.u,c]=some (.l 0 es)):False:=by cases h
theorem OS{y:AV}(h:wZ tg ti tl tp tv tf ts te [y]=some .u):False:=by cases h
theorem NI{ys:List AV}{t:TypeId}(h:wZ tg ti tl tp tv tf ts te ys=some (.o t [])):False:=by
 unfold wZ at h
 split at h
 ·cases Option.some.inj h
 ·cases h
end
theorem Bt(ns:List Int):tw (ns.map (AV.i .i64))=some ns:=by
 induction ns with
 | nil=>rfl
 | cons n ns ih=>simp [tw,ih]
end Go.Proofs.YtdpjofmmokaobaaGreat.A
