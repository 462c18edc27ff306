/- The library's functions that are met by their contracts: strings.Join, strings.IndexByte. -/
import Derived.Test.YtkkkkondjclcnaaGreatAbs3
import Derived.Lib.Join
import Derived.Lib.Bytealg
import Derived.Lib.Atoi
import Derived.Lib.Repeat
import Derived.Lib.ItoaNum
set_option linter.all false
namespace Go.Proofs.YtkkkkondjclcnaaGreat.A
open Go
def qX(t:TypeId):List AV→Option AV
 | [.n,.i .i64 n]=>if 0≤n∧n≤1000000 then some (.o t []) else none
 | _=>none
theorem Qi{t:TypeId}{g:FuncId}{n:Int}(h:qX t [.u,.i .i64 g]=some (.i .i64 n)):False:=by cases h
theorem V4{t:TypeId}{y:AV}(h:qX t [y]=some .u):False:=by
 unfold qX at h
 split at h
 ·rename_i heq;simp at heq
 ·cases h
theorem Qj{u:TypeId}{t:TypeId}(h:qX u [.u,.u,.i .i64 t]=some (.s [])):False:=by cases h
mutual
def tU:AV→Option (List Int)
 | .a [.i .i64 k,.i .i64 n,.l _ args]=>(xi args).map fun r=>if k=2 then n::r else r
 | _=>none
def xi:List AV→Option (List Int)
 | []=>some []
 | x::r=>(tU x).bind fun a=>(xi r).map (a++·)
end
def Ag:List AV→Option AV
 | [.u,.e x 0]=>(tU x).map fun ns=>.l 0 (ns.map (AV.i .i64))
 | _=>none
def uO(t:TypeId):List AV→Option AV
 | [.l _ [.b x],.i .i64 n]=>if 0≤n∧n≤1000000 then some (.l t (List.replicate n.toNat (.b x))) else none
 | _=>none
theorem V5{g:FuncId}{n:Int}(h:Ag [.u,.i .i64 g]=some (.i .i64 n)):False:=by cases h
theorem V6{t:TypeId}(h:Ag [.u,.u,.i .i64 t]=some (.s [])):False:=by cases h
theorem adL{y:AV}(h:Ag [y]=some .u):False:=by
 unfold Ag at h
 split at h
 ·rename_i heq;simp at heq
 ·cases h
theorem So{u:TypeId}{g:FuncId}{n:Int}(h:uO u [.u,.i .i64 g]=some (.i .i64 n)):False:=by cases h
theorem Sq{u:TypeId}{t:TypeId}(h:uO u [.u,.u,.i .i64 t]=some (.s [])):False:=by cases h
theorem Xx{u:TypeId}{y:AV}(h:uO u [y]=some .u):False:=by
 unfold uO at h
 split at h
 ·rename_i heq;simp at heq
 ·cases h
theorem Xy{ys:List AV}{x:AV}(h:Ag ys=some x)(hy:∀ y∈ys,y.pure=true):False:=by
 unfold Ag at h
 split at h
 ·cases hy .u (by simp)
 ·cases h
theorem V7{ys:List AV}{t:TypeId}(h:Ag ys=some (.o t [])):False:=by
 unfold Ag at h
 split at h
 ·obtain ⟨_,_,h2⟩:=c9.1 h;cases h2
 ·cases h
theorem V8{u:TypeId}{ys:List AV}{t:TypeId}(h:uO u ys=some (.o t [])):False:=by
 unfold uO at h
 split at h
 ·split at h
  ·cases aa h
  ·cases h
 ·cases h
theorem Qk{u:TypeId}{c:AV}{es:List AV}(h:qX u [.u,c]=some (.l 0 es)):False:=by
 unfold qX at h
 split at h
 ·rename_i heq;simp at heq
 ·cases h
theorem Sr{u:TypeId}{c:AV}{es:List AV}(h:uO u [.u,c]=some (.l 0 es)):False:=by
 unfold uO at h
 split at h
 ·rename_i heq;simp at heq
 ·cases h
def ai8(tg ti tl tp tv tf ts te:TypeId):AV:=
 .a [.i .i64 2,.l tg [],.l ti [],.l tl [.a [.l tp [.a [.i .i64 0,.l ti []]],.l tp []]],.l tl [.a [.l tp [],.l tp []]],.l tv [.a [.b false,.l tp [],.l tp []]],.l tf [],
  .l ts [.a [.i .i64 3,.i .i64 0,.i .i64 0,.i .i64 0,.i .i64 0,.l te [],.l te [],.l ts [],.l ts []],.a [.i .i64 4,.i .i64 0,.i .i64 0,.i .i64 2,.i .i64 0,.l te [],.l te [],.l ts [],.l ts []]]]
def Be(tg ti tl tp tv tf ts te:TypeId):List AV→Option AV
 | []=>some (ai8 tg ti tl tp tv tf ts te)
 | _=>none
section
variable {tg ti tl tp tv tf ts te:TypeId}
theorem Ss{g:FuncId}{n:Int}(h:Be tg ti tl tp tv tf ts te [.u,.i .i64 g]=some (.i .i64 n)):False:=by cases h
theorem Su{t:TypeId}(h:Be tg ti tl tp tv tf ts te [.u,.u,.i .i64 t]=some (.s [])):False:=by cases h
theorem Sv{c:AV}{es:List AV}(h:Be tg ti tl tp tv tf ts te [.u,c]=some (.l 0 es)):False:=by cases h
theorem Xz{y:AV}(h:Be tg ti tl tp tv tf ts te [y]=some .u):False:=by cases h
theorem V9{ys:List AV}{t:TypeId}(h:Be tg ti tl tp tv tf ts te ys=some (.o t [])):False:=by
 unfold Be at h
 split at h
 ·cases aa h
 ·cases h
end
def nT(t:TypeId):List AV→Option AV
 | [.l _ es]=>(so es).bind fun ns=>if ns.length≤17592186044416 then some (.l t es) else none
 | _=>none
theorem Gv:∀ {es:List AV}{ns:List Int},so es=some ns→es=ns.map (AV.i .i64)
 | [],ns,h=>by obtain rfl:=aa h;rfl
 | e::es,ns,h=>by
  unfold so at h
  split at h
  ·rename_i heq;cases heq
  ·rename_i n r heq
   cases heq
   obtain ⟨r,h1,rfl⟩:=c9.1 h
   rw [Gv h1];rfl
  ·cases h
theorem Bf(ns:List Int):so (ns.map (AV.i .i64))=some ns:=by
 induction ns with
 | nil=>rfl
 | cons n ns ih=>simp [so,ih]
theorem O3{u:TypeId}{g:FuncId}{n:Int}(h:nT u [.u,.i .i64 g]=some (.i .i64 n)):False:=by cases h
theorem O4{u t:TypeId}(h:nT u [.u,.u,.i .i64 t]=some (.s [])):False:=by cases h
theorem O5{u:TypeId}{c:AV}{es:List AV}(h:nT u [.u,c]=some (.l 0 es)):False:=by
 unfold nT at h
 split at h
 ·rename_i heq;simp at heq
 ·cases h
theorem Sw{u:TypeId}{y:AV}(h:nT u [y]=some .u):False:=by
 unfold nT at h
 split at h
 ·obtain ⟨_,_,h2⟩:=ah.1 h
  split at h2
  ·cases aa h2
  ·cases h2
 ·cases h
theorem Ql{u:TypeId}{ys:List AV}{t:TypeId}(h:nT u ys=some (.o t [])):False:=by
 unfold nT at h
 split at h
 ·obtain ⟨_,_,h2⟩:=ah.1 h
  split at h2
  ·cases aa h2
  ·cases h2
 ·cases h
end Go.Proofs.YtkkkkondjclcnaaGreat.A
