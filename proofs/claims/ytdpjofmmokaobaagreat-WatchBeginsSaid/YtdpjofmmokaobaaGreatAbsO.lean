/- The library's functions that are met by their contracts: strings.Join, strings.IndexByte. -/
import Derived.Test.YtdpjofmmokaobaaGreatAbs3
import Derived.Lib.Join
import Derived.Lib.Bytealg
import Derived.Lib.Atoi
import Derived.Lib.Repeat
import Derived.Lib.ItoaNum
set_option linter.unusedSectionVars false
set_option linter.unusedVariables false
set_option linter.unusedSimpArgs false
set_option linter.constructorNameAsVariable false
namespace Go.Proofs.YtdpjofmmokaobaaGreat.A
open Go
def n8(t:TypeId):List AV→Option AV
 | [.n,.i .i64 n]=>if 0≤n∧n≤1000000 then some (.o t []) else none
 | _=>none
theorem JZ{t:TypeId}{g:FuncId}{n:Int}(h:n8 t [.u,.i .i64 g]=some (.i .i64 n)):False:=by cases h
theorem OE{t:TypeId}{y:AV}(h:n8 t [y]=some .u):False:=by
 unfold n8 at h
 split at h
 ·rename_i heq;simp at heq
 ·cases h
theorem J0{u:TypeId}{t:TypeId}(h:n8 u [.u,.u,.i .i64 t]=some (.s [])):False:=by cases h
mutual
def qA:AV→Option (List Int)
 | .a [.i .i64 k,.i .i64 n,.l _ args]=>(s9 args).map fun r=>if k=2 then n::r else r
 | _=>none
def s9:List AV→Option (List Int)
 | []=>some []
 | x::r=>(qA x).bind fun a=>(s9 r).map (a++·)
end
def wC:List AV→Option AV
 | [.u,.e x 0]=>(qA x).map fun ns=>.l 0 (ns.map (AV.i .i64))
 | _=>none
def rh(t:TypeId):List AV→Option AV
 | [.l _ [.b x],.i .i64 n]=>if 0≤n∧n≤1000000 then some (.l t (List.replicate n.toNat (.b x))) else none
 | _=>none
theorem OF{g:FuncId}{n:Int}(h:wC [.u,.i .i64 g]=some (.i .i64 n)):False:=by cases h
theorem OG{t:TypeId}(h:wC [.u,.u,.i .i64 t]=some (.s [])):False:=by cases h
theorem U7{y:AV}(h:wC [y]=some .u):False:=by
 unfold wC at h
 split at h
 ·rename_i heq;simp at heq
 ·cases h
theorem LA{u:TypeId}{g:FuncId}{n:Int}(h:rh u [.u,.i .i64 g]=some (.i .i64 n)):False:=by cases h
theorem LB{u:TypeId}{t:TypeId}(h:rh u [.u,.u,.i .i64 t]=some (.s [])):False:=by cases h
theorem PO{u:TypeId}{y:AV}(h:rh u [y]=some .u):False:=by
 unfold rh at h
 split at h
 ·rename_i heq;simp at heq
 ·cases h
theorem PQ{ys:List AV}{x:AV}(h:wC ys=some x)(hy:∀ y∈ys,y.pure=true):False:=by
 unfold wC at h
 split at h
 ·cases hy .u (by simp)
 ·cases h
theorem OH{ys:List AV}{t:TypeId}(h:wC ys=some (.o t [])):False:=by
 unfold wC at h
 split at h
 ·obtain ⟨_,_,h2⟩:=Option.map_eq_some_iff.1 h;cases h2
 ·cases h
theorem OI{u:TypeId}{ys:List AV}{t:TypeId}(h:rh u ys=some (.o t [])):False:=by
 unfold rh at h
 split at h
 ·split at h
  ·cases Option.some.inj h
  ·cases h
 ·cases h
theorem J1{u:TypeId}{c:AV}{es:List AV}(h:n8 u [.u,c]=some (.l 0 es)):False:=by
 unfold n8 at h
 split at h
 ·rename_i heq;simp at heq
 ·cases h
theorem LC{u:TypeId}{c:AV}{es:List AV}(h:rh u [.u,c]=some (.l 0 es)):False:=by
 unfold rh at h
 split at h
 ·rename_i heq;simp at heq
 ·cases h
def YY(tg ti tl tp tv tf ts te:TypeId):AV:=
 .a [.i .i64 2,.l tg [],.l ti [],.l tl [.a [.l tp [.a [.i .i64 0,.l ti []]],.l tp []]],.l tl [.a [.l tp [],.l tp []]],.l tv [.a [.b false,.l tp [],.l tp []]],.l tf [],
  .l ts [.a [.i .i64 3,.i .i64 0,.i .i64 0,.i .i64 0,.i .i64 0,.l te [],.l te [],.l ts [],.l ts []],.a [.i .i64 4,.i .i64 0,.i .i64 0,.i .i64 2,.i .i64 0,.l te [],.l te [],.l ts [],.l ts []]]]
def xu(tg ti tl tp tv tf ts te:TypeId):List AV→Option AV
 | []=>some (YY tg ti tl tp tv tf ts te)
 | _=>none
section
variable {tg ti tl tp tv tf ts te:TypeId}
theorem LD{g:FuncId}{n:Int}(h:xu tg ti tl tp tv tf ts te [.u,.i .i64 g]=some (.i .i64 n)):False:=by cases h
theorem LF{t:TypeId}(h:xu tg ti tl tp tv tf ts te [.u,.u,.i .i64 t]=some (.s [])):False:=by cases h
theorem LG{c:AV}{es:List AV}(h:xu tg ti tl tp tv tf ts te [.u,c]=some (.l 0 es)):False:=by cases h
theorem PR{y:AV}(h:xu tg ti tl tp tv tf ts te [y]=some .u):False:=by cases h
theorem OJ{ys:List AV}{t:TypeId}(h:xu tg ti tl tp tv tf ts te ys=some (.o t [])):False:=by
 unfold xu at h
 split at h
 ·cases Option.some.inj h
 ·cases h
end
theorem BY(ns:List Int):tP (ns.map (AV.i .i64))=some ns:=by
 induction ns with
 | nil=>rfl
 | cons n ns ih=>simp [tP,ih]
end Go.Proofs.YtdpjofmmokaobaaGreat.A
