/- The library's functions that are met by their contracts: strings.Join, strings.IndexByte. -/
import Derived.Test.YtlmphbbhaeampaaGreatAbs3
import Derived.Lib.Join
import Derived.Lib.Bytealg
import Derived.Lib.Atoi
import Derived.Lib.Repeat
import Derived.Lib.ItoaNum
set_option linter.all false
namespace Go.Proofs.YtlmphbbhaeampaaGreat.A
open Go
def ri(t:TypeId):List AV→Option AV
 | [.n,.i .i64 n]=>if 0≤n∧n≤1000000 then some (.o t []) else none
 | _=>none
variable {t:TypeId}{g:FuncId}{n:Int}
theorem QE(h:ri t [.u,.i .i64 g]=some (.i .i64 n)):False:=by cases h
variable {y:AV}
theorem VE(h:ri t [y]=some .u):False:=by
 unfold ri at h
 split at h
 ·rename_i heq;simp at heq
 ·cases h
variable {u:TypeId}
theorem QF(h:ri u [.u,.u,.i .i64 t]=some (.s [])):False:=by cases h
mutual
def tG:AV→Option (List Int)
 | .a [.i .i64 k,.i .i64 n,.l _ args]=>(xy args).map fun r=>if k=2 then n::r else r
 | _=>none
def xy:List AV→Option (List Int)
 | []=>some []
 | x::r=>(tG x).bind fun a=>(xy r).map (a++·)
end
def A1:List AV→Option AV
 | [.u,.e x 0]=>(tG x).map fun ns=>.l 0 (ns.map (AV.i .i64))
 | _=>none
def uX(t:TypeId):List AV→Option AV
 | [.l _ [.b x],.i .i64 n]=>if 0≤n∧n≤1000000 then some (.l t (List.replicate n.toNat (.b x))) else none
 | _=>none
theorem VF(h:A1 [.u,.i .i64 g]=some (.i .i64 n)):False:=by cases h
theorem VG(h:A1 [.u,.u,.i .i64 t]=some (.s [])):False:=by cases h
theorem adV(h:A1 [y]=some .u):False:=by
 unfold A1 at h
 split at h
 ·rename_i heq;simp at heq
 ·cases h
theorem Tc(h:uX u [.u,.i .i64 g]=some (.i .i64 n)):False:=by cases h
theorem Td(h:uX u [.u,.u,.i .i64 t]=some (.s [])):False:=by cases h
theorem WU(h:uX u [y]=some .u):False:=by
 unfold uX at h
 split at h
 ·rename_i heq;simp at heq
 ·cases h
variable {ys:List AV}
theorem WV{x:AV}(h:A1 ys=some x)(hy:∀ y∈ys,y.pure=true):False:=by
 unfold A1 at h
 split at h
 ·cases hy .u (by simp)
 ·cases h
theorem VH(h:A1 ys=some (.o t [])):False:=by
 unfold A1 at h
 split at h
 ·obtain ⟨_,_,h2⟩:=ew.1 h;cases h2
 ·cases h
theorem VI(h:uX u ys=some (.o t [])):False:=by
 unfold uX at h
 split at h
 ·split at h
  ·cases ah h
  ·cases h
 ·cases h
variable {c:AV}{es:List AV}
theorem QG(h:ri u [.u,c]=some (.l 0 es)):False:=by
 unfold ri at h
 split at h
 ·rename_i heq;simp at heq
 ·cases h
theorem Te(h:uX u [.u,c]=some (.l 0 es)):False:=by
 unfold uX at h
 split at h
 ·rename_i heq;simp at heq
 ·cases h
def agx(tg ti tl tp tv tf ts te:TypeId):AV:=
 .a [.i .i64 2,.l tg [],.l ti [],.l tl [.a [.l tp [.a [.i .i64 0,.l ti []]],.l tp []]],.l tl [.a [.l tp [],.l tp []]],.l tv [.a [.b false,.l tp [],.l tp []]],.l tf [],
  .l ts [.a [.i .i64 3,.i .i64 0,.i .i64 0,.i .i64 0,.i .i64 0,.l te [],.l te [],.l ts [],.l ts []],.a [.i .i64 4,.i .i64 0,.i .i64 0,.i .i64 2,.i .i64 0,.l te [],.l te [],.l ts [],.l ts []]]]
def BZ(tg ti tl tp tv tf ts te:TypeId):List AV→Option AV
 | []=>some (agx tg ti tl tp tv tf ts te)
 | _=>none
section
variable {tg ti tl tp tv tf ts te:TypeId}
theorem Tf(h:BZ tg ti tl tp tv tf ts te [.u,.i .i64 g]=some (.i .i64 n)):False:=by cases h
theorem Tg(h:BZ tg ti tl tp tv tf ts te [.u,.u,.i .i64 t]=some (.s [])):False:=by cases h
theorem Th(h:BZ tg ti tl tp tv tf ts te [.u,c]=some (.l 0 es)):False:=by cases h
theorem WX(h:BZ tg ti tl tp tv tf ts te [y]=some .u):False:=by cases h
theorem VJ(h:BZ tg ti tl tp tv tf ts te ys=some (.o t [])):False:=by
 unfold BZ at h
 split at h
 ·cases ah h
 ·cases h
end
def qJ(t:TypeId):List AV→Option AV
 | [.l _ es]=>(sf es).bind fun ns=>if ns.length≤17592186044416 then some (.l t es) else none
 | _=>none
theorem GY:∀ {es:List AV}{ns:List Int},sf es=some ns→es=ns.map (AV.i .i64)
 | [],ns,h=>by obtain rfl:=ah h;rfl
 | e::es,ns,h=>by
  unfold sf at h
  split at h
  ·rename_i heq;cases heq
  ·rename_i n r heq
   cases heq
   obtain ⟨r,h1,rfl⟩:=ew.1 h
   rw [GY h1];rfl
  ·cases h
theorem GZ(ns:List Int):sf (ns.map (AV.i .i64))=some ns:=by
 induction ns with
 | nil=>rfl
 | cons n ns ih=>simp [sf,ih]
theorem PG(h:qJ u [.u,.i .i64 g]=some (.i .i64 n)):False:=by cases h
theorem PH(h:qJ u [.u,.u,.i .i64 t]=some (.s [])):False:=by cases h
theorem PI(h:qJ u [.u,c]=some (.l 0 es)):False:=by
 unfold qJ at h
 split at h
 ·rename_i heq;simp at heq
 ·cases h
theorem Ti(h:qJ u [y]=some .u):False:=by
 unfold qJ at h
 split at h
 ·obtain ⟨_,_,h2⟩:=aj.1 h
  split at h2
  ·cases ah h2
  ·cases h2
 ·cases h
theorem QH(h:qJ u ys=some (.o t [])):False:=by
 unfold qJ at h
 split at h
 ·obtain ⟨_,_,h2⟩:=aj.1 h
  split at h2
  ·cases ah h2
  ·cases h2
 ·cases h
end Go.Proofs.YtlmphbbhaeampaaGreat.A
