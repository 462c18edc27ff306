/- The library's functions that are met by their contracts: strings.Join, strings.IndexByte. -/
import Derived.Test.YtlmphbbhaeampaaGreatAbs3
import Derived.Lib.Join
import Derived.Lib.Bytealg
import Derived.Lib.Atoi
import Derived.Lib.Repeat
import Derived.Lib.ItoaNum
set_option linter.all false
namespace Go.Proofs.YtlmphbbhaeampaaGreat.A
open Go
def sX(t:TypeId):List AV→Option AV
 | [.n,.i .i64 n]=>if 0≤n∧n≤1000000 then some (.o t []) else none
 | _=>none
variable {t:TypeId}{g:FuncId}{n:Int}
theorem Ut(h:sX t [.u,.i .i64 g]=some (.i .i64 n)):False:=by cases h
variable {y:AV}
theorem ZA(h:sX t [y]=some .u):False:=by
 unfold sX at h
 split at h
 ·rename_i heq;simp at heq
 ·cases h
variable {u:TypeId}
theorem Uu(h:sX u [.u,.u,.i .i64 t]=some (.s [])):False:=by cases h
mutual
def vS:AV→Option (List Int)
 | .a [.i .i64 k,.i .i64 n,.l _ args]=>(Ah args).map fun r=>if k=2 then n::r else r
 | _=>none
def Ah:List AV→Option (List Int)
 | []=>some []
 | x::r=>(vS x).bind fun a=>(Ah r).map (a++·)
end
def Dz:List AV→Option AV
 | [.u,.e x 0]=>(vS x).map fun ns=>.l 0 (ns.map (AV.i .i64))
 | _=>none
def xK(t:TypeId):List AV→Option AV
 | [.l _ [.b x],.i .i64 n]=>if 0≤n∧n≤1000000 then some (.l t (List.replicate n.toNat (.b x))) else none
 | _=>none
theorem ZB(h:Dz [.u,.i .i64 g]=some (.i .i64 n)):False:=by cases h
theorem ZC(h:Dz [.u,.u,.i .i64 t]=some (.s [])):False:=by cases h
theorem aiN(h:Dz [y]=some .u):False:=by
 unfold Dz at h
 split at h
 ·rename_i heq;simp at heq
 ·cases h
theorem WH(h:xK u [.u,.i .i64 g]=some (.i .i64 n)):False:=by cases h
theorem WI(h:xK u [.u,.u,.i .i64 t]=some (.s [])):False:=by cases h
theorem aaL(h:xK u [y]=some .u):False:=by
 unfold xK at h
 split at h
 ·rename_i heq;simp at heq
 ·cases h
variable {ys:List AV}
theorem aaM{x:AV}(h:Dz ys=some x)(hy:∀ y∈ys,y.pure=true):False:=by
 unfold Dz at h
 split at h
 ·cases hy .u (by simp)
 ·cases h
theorem ZD(h:Dz ys=some (.o t [])):False:=by
 unfold Dz at h
 split at h
 ·obtain ⟨_,_,h2⟩:=fi.1 h;cases h2
 ·cases h
theorem ZE(h:xK u ys=some (.o t [])):False:=by
 unfold xK at h
 split at h
 ·split at h
  ·cases aq h
  ·cases h
 ·cases h
variable {c:AV}{es:List AV}
theorem Uv(h:sX u [.u,c]=some (.l 0 es)):False:=by
 unfold sX at h
 split at h
 ·rename_i heq;simp at heq
 ·cases h
theorem WJ(h:xK u [.u,c]=some (.l 0 es)):False:=by
 unfold xK at h
 split at h
 ·rename_i heq;simp at heq
 ·cases h
def anK(tg ti tl tp tv tf ts te:TypeId):AV:=
 .a [.i .i64 2,.l tg [],.l ti [],.l tl [.a [.l tp [.a [.i .i64 0,.l ti []]],.l tp []]],.l tl [.a [.l tp [],.l tp []]],.l tv [.a [.b false,.l tp [],.l tp []]],.l tf [],
  .l ts [.a [.i .i64 3,.i .i64 0,.i .i64 0,.i .i64 0,.i .i64 0,.l te [],.l te [],.l ts [],.l ts []],.a [.i .i64 4,.i .i64 0,.i .i64 0,.i .i64 2,.i .i64 0,.l te [],.l te [],.l ts [],.l ts []]]]
def Eu(tg ti tl tp tv tf ts te:TypeId):List AV→Option AV
 | []=>some (anK tg ti tl tp tv tf ts te)
 | _=>none
section
variable {tg ti tl tp tv tf ts te:TypeId}
theorem WK(h:Eu tg ti tl tp tv tf ts te [.u,.i .i64 g]=some (.i .i64 n)):False:=by cases h
theorem WL(h:Eu tg ti tl tp tv tf ts te [.u,.u,.i .i64 t]=some (.s [])):False:=by cases h
theorem WM(h:Eu tg ti tl tp tv tf ts te [.u,c]=some (.l 0 es)):False:=by cases h
theorem aaN(h:Eu tg ti tl tp tv tf ts te [y]=some .u):False:=by cases h
theorem ZF(h:Eu tg ti tl tp tv tf ts te ys=some (.o t [])):False:=by
 unfold Eu at h
 split at h
 ·cases aq h
 ·cases h
end
theorem Kd(ns:List Int):AQ (ns.map (AV.i .i64))=some ns:=by
 induction ns with
 | nil=>rfl
 | cons n ns ih=>simp [AQ,ih]
end Go.Proofs.YtlmphbbhaeampaaGreat.A
