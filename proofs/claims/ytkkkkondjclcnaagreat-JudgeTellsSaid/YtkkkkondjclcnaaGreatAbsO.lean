/- The library's functions that are met by their contracts: strings.Join, strings.IndexByte. -/
import Derived.Test.YtkkkkondjclcnaaGreatAbs3
import Derived.Lib.Join
import Derived.Lib.Bytealg
import Derived.Lib.Atoi
import Derived.Lib.Repeat
import Derived.Lib.ItoaNum
set_option linter.all false
namespace Go.Proofs.YtkkkkondjclcnaaGreat.A
open Go
def rq(t:TypeId):List AV→Option AV
 | [.n,.i .i64 n]=>if 0≤n∧n≤1000000 then some (.o t []) else none
 | _=>none
variable {t:TypeId}{g:FuncId}{n:Int}
theorem Mo(h:rq t [.u,.i .i64 g]=some (.i .i64 n)):False:=by cases h
variable {y:AV}
theorem Rd(h:rq t [y]=some .u):False:=by
 unfold rq at h
 split at h
 ·rename_i heq;simp at heq
 ·cases h
variable {u:TypeId}
theorem Mp(h:rq u [.u,.u,.i .i64 t]=some (.s [])):False:=by cases h
mutual
def vV:AV→Option (List Int)
 | .a [.i .i64 k,.i .i64 n,.l _ args]=>(zK args).map fun r=>if k=2 then n::r else r
 | _=>none
def zK:List AV→Option (List Int)
 | []=>some []
 | x::r=>(vV x).bind fun a=>(zK r).map (a++·)
end
def BO:List AV→Option AV
 | [.u,.e x 0]=>(vV x).map fun ns=>.l 0 (ns.map (AV.i .i64))
 | _=>none
def vW(t:TypeId):List AV→Option AV
 | [.l _ [.b x],.i .i64 n]=>if 0≤n∧n≤1000000 then some (.l t (List.replicate n.toNat (.b x))) else none
 | _=>none
theorem Re(h:BO [.u,.i .i64 g]=some (.i .i64 n)):False:=by cases h
theorem Rf(h:BO [.u,.u,.i .i64 t]=some (.s [])):False:=by cases h
theorem Xr(h:BO [y]=some .u):False:=by
 unfold BO at h
 split at h
 ·rename_i heq;simp at heq
 ·cases h
theorem Ob(h:vW u [.u,.i .i64 g]=some (.i .i64 n)):False:=by cases h
theorem Oc(h:vW u [.u,.u,.i .i64 t]=some (.s [])):False:=by cases h
theorem TL(h:vW u [y]=some .u):False:=by
 unfold vW at h
 split at h
 ·rename_i heq;simp at heq
 ·cases h
variable {ys:List AV}
theorem TM{x:AV}(h:BO ys=some x)(hy:∀ y∈ys,y.pure=true):False:=by
 unfold BO at h
 split at h
 ·cases hy .u (by simp)
 ·cases h
theorem Rg(h:BO ys=some (.o t [])):False:=by
 unfold BO at h
 split at h
 ·obtain ⟨_,_,h2⟩:=db.1 h;cases h2
 ·cases h
theorem Rh(h:vW u ys=some (.o t [])):False:=by
 unfold vW at h
 split at h
 ·split at h
  ·cases af h
  ·cases h
 ·cases h
variable {c:AV}{es:List AV}
theorem Mq(h:rq u [.u,c]=some (.l 0 es)):False:=by
 unfold rq at h
 split at h
 ·rename_i heq;simp at heq
 ·cases h
theorem Od(h:vW u [.u,c]=some (.l 0 es)):False:=by
 unfold vW at h
 split at h
 ·rename_i heq;simp at heq
 ·cases h
def aau(tg ti tl tp tv tf ts te:TypeId):AV:=
 .a [.i .i64 2,.l tg [],.l ti [],.l tl [.a [.l tp [.a [.i .i64 0,.l ti []]],.l tp []]],.l tl [.a [.l tp [],.l tp []]],.l tv [.a [.b false,.l tp [],.l tp []]],.l tf [],
  .l ts [.a [.i .i64 3,.i .i64 0,.i .i64 0,.i .i64 0,.i .i64 0,.l te [],.l te [],.l ts [],.l ts []],.a [.i .i64 4,.i .i64 0,.i .i64 0,.i .i64 2,.i .i64 0,.l te [],.l te [],.l ts [],.l ts []]]]
def aav(tg ti tl tp tv tf ts te:TypeId):List AV→Option AV
 | []=>some (aau tg ti tl tp tv tf ts te)
 | _=>none
section
variable {tg ti tl tp tv tf ts te:TypeId}
end
def uo:List AV→Option AV
 | []=>some (.b true)
 | _=>none
theorem SB(h:uo [.u,.i .i64 g]=some (.i .i64 n)):False:=by cases h
theorem SC(h:uo [.u,.u,.i .i64 t]=some (.s [])):False:=by cases h
theorem SD(h:uo [.u,c]=some (.l 0 es)):False:=by cases h
theorem V5(h:uo [y]=some .u):False:=by cases h
theorem TN(h:uo ys=some (.o t [])):False:=by
 unfold uo at h
 split at h
 ·cases af h
 ·cases h
theorem Jo(ns:List Int):Az (ns.map (AV.i .i64))=some ns:=by
 induction ns with
 | nil=>rfl
 | cons n ns ih=>simp [Az,ih]
end Go.Proofs.YtkkkkondjclcnaaGreat.A
