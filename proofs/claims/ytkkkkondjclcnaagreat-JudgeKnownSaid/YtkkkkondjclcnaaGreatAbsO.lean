/- The library's functions that are met by their contracts: strings.Join, strings.IndexByte. -/
import Derived.Test.YtkkkkondjclcnaaGreatAbs3
import Derived.Lib.Join
import Derived.Lib.Bytealg
import Derived.Lib.Atoi
import Derived.Lib.Repeat
import Derived.Lib.ItoaNum
set_option linter.unusedSectionVars false
set_option linter.unusedVariables false
set_option linter.unusedSimpArgs false
set_option linter.constructorNameAsVariable false
namespace Go.Proofs.YtkkkkondjclcnaaGreat.A
open Go
def nJ(t:TypeId):List AV→Option AV
 | [.n,.i .i64 n]=>if 0≤n∧n≤1000000 then some (.o t []) else none
 | _=>none
theorem Fh{t:TypeId}{g:FuncId}{n:Int}(h:nJ t [.u,.i .i64 g]=some (.i .i64 n)):False:=by cases h
theorem JL{t:TypeId}{y:AV}(h:nJ t [y]=some .u):False:=by
 unfold nJ at h
 split at h
 ·rename_i heq;simp at heq
 ·cases h
theorem Fi{u:TypeId}{t:TypeId}(h:nJ u [.u,.u,.i .i64 t]=some (.s [])):False:=by cases h
mutual
def rO:AV→Option (List Int)
 | .a [.i .i64 k,.i .i64 n,.l _ args]=>(uH args).map fun r=>if k=2 then n::r else r
 | _=>none
def uH:List AV→Option (List Int)
 | []=>some []
 | x::r=>(rO x).bind fun a=>(uH r).map (a++·)
end
def wG:List AV→Option AV
 | [.u,.e x 0]=>(rO x).map fun ns=>.l 0 (ns.map (AV.i .i64))
 | _=>none
def rP(t:TypeId):List AV→Option AV
 | [.l _ [.b x],.i .i64 n]=>if 0≤n∧n≤1000000 then some (.l t (List.replicate n.toNat (.b x))) else none
 | _=>none
theorem JM{g:FuncId}{n:Int}(h:wG [.u,.i .i64 g]=some (.i .i64 n)):False:=by cases h
theorem JN{t:TypeId}(h:wG [.u,.u,.i .i64 t]=some (.s [])):False:=by cases h
theorem Qi{y:AV}(h:wG [y]=some .u):False:=by
 unfold wG at h
 split at h
 ·rename_i heq;simp at heq
 ·cases h
theorem GP{u:TypeId}{g:FuncId}{n:Int}(h:rP u [.u,.i .i64 g]=some (.i .i64 n)):False:=by cases h
theorem GQ{u:TypeId}{t:TypeId}(h:rP u [.u,.u,.i .i64 t]=some (.s [])):False:=by cases h
theorem L5{u:TypeId}{y:AV}(h:rP u [y]=some .u):False:=by
 unfold rP at h
 split at h
 ·rename_i heq;simp at heq
 ·cases h
theorem L6{ys:List AV}{x:AV}(h:wG ys=some x)(hy:∀ y∈ys,y.pure=true):False:=by
 unfold wG at h
 split at h
 ·cases hy .u (by simp)
 ·cases h
theorem JO{ys:List AV}{t:TypeId}(h:wG ys=some (.o t [])):False:=by
 unfold wG at h
 split at h
 ·obtain ⟨_,_,h2⟩:=Option.map_eq_some_iff.1 h;cases h2
 ·cases h
theorem JP{u:TypeId}{ys:List AV}{t:TypeId}(h:rP u ys=some (.o t [])):False:=by
 unfold rP at h
 split at h
 ·split at h
  ·cases Option.some.inj h
  ·cases h
 ·cases h
theorem Fj{u:TypeId}{c:AV}{es:List AV}(h:nJ u [.u,c]=some (.l 0 es)):False:=by
 unfold nJ at h
 split at h
 ·rename_i heq;simp at heq
 ·cases h
theorem GR{u:TypeId}{c:AV}{es:List AV}(h:rP u [.u,c]=some (.l 0 es)):False:=by
 unfold rP at h
 split at h
 ·rename_i heq;simp at heq
 ·cases h
def Sl(tg ti tl tp tv tf ts te:TypeId):AV:=
 .a [.i .i64 2,.l tg [],.l ti [],.l tl [.a [.l tp [.a [.i .i64 0,.l ti []]],.l tp []]],.l tl [.a [.l tp [],.l tp []]],.l tv [.a [.b false,.l tp [],.l tp []]],.l tf [],
  .l ts [.a [.i .i64 3,.i .i64 0,.i .i64 0,.i .i64 0,.i .i64 0,.l te [],.l te [],.l ts [],.l ts []],.a [.i .i64 4,.i .i64 0,.i .i64 0,.i .i64 2,.i .i64 0,.l te [],.l te [],.l ts [],.l ts []]]]
def xk(tg ti tl tp tv tf ts te:TypeId):List AV→Option AV
 | []=>some (Sl tg ti tl tp tv tf ts te)
 | _=>none
section
variable {tg ti tl tp tv tf ts te:TypeId}
theorem GS{g:FuncId}{n:Int}(h:xk tg ti tl tp tv tf ts te [.u,.i .i64 g]=some (.i .i64 n)):False:=by cases h
theorem GU{t:TypeId}(h:xk tg ti tl tp tv tf ts te [.u,.u,.i .i64 t]=some (.s [])):False:=by cases h
theorem GV{c:AV}{es:List AV}(h:xk tg ti tl tp tv tf ts te [.u,c]=some (.l 0 es)):False:=by cases h
theorem L7{y:AV}(h:xk tg ti tl tp tv tf ts te [y]=some .u):False:=by cases h
theorem JQ{ys:List AV}{t:TypeId}(h:xk tg ti tl tp tv tf ts te ys=some (.o t [])):False:=by
 unfold xk at h
 split at h
 ·cases Option.some.inj h
 ·cases h
end
def rQ:List AV→Option AV
 | []=>some (.b true)
 | _=>none
theorem KY{g:FuncId}{n:Int}(h:rQ [.u,.i .i64 g]=some (.i .i64 n)):False:=by cases h
theorem KZ{t:TypeId}(h:rQ [.u,.u,.i .i64 t]=some (.s [])):False:=by cases h
theorem K0{c:AV}{es:List AV}(h:rQ [.u,c]=some (.l 0 es)):False:=by cases h
theorem Oa{y:AV}(h:rQ [y]=some .u):False:=by cases h
theorem L8{ys:List AV}{t:TypeId}(h:rQ ys=some (.o t [])):False:=by
 unfold rQ at h
 split at h
 ·cases Option.some.inj h
 ·cases h
def mZ(t:TypeId):List AV→Option AV
 | [.l _ es]=>(qz es).bind fun ns=>if ns.length≤17592186044416 then some (.l t es) else none
 | _=>none
theorem CS:∀ {es:List AV}{ns:List Int},qz es=some ns→es=ns.map (AV.i .i64)
 | [],ns,h=>by obtain rfl:=Option.some.inj h;rfl
 | e::es,ns,h=>by
  unfold qz at h
  split at h
  ·rename_i heq;cases heq
  ·rename_i n r heq
   cases heq
   obtain ⟨r,h1,rfl⟩:=Option.map_eq_some_iff.1 h
   rw [CS h1];rfl
  ·cases h
theorem CT(ns:List Int):qz (ns.map (AV.i .i64))=some ns:=by
 induction ns with
 | nil=>rfl
 | cons n ns ih=>simp [qz,ih]
theorem CU{u:TypeId}{g:FuncId}{n:Int}(h:mZ u [.u,.i .i64 g]=some (.i .i64 n)):False:=by cases h
theorem CV{u t:TypeId}(h:mZ u [.u,.u,.i .i64 t]=some (.s [])):False:=by cases h
theorem CW{u:TypeId}{c:AV}{es:List AV}(h:mZ u [.u,c]=some (.l 0 es)):False:=by
 unfold mZ at h
 split at h
 ·rename_i heq;simp at heq
 ·cases h
theorem GW{u:TypeId}{y:AV}(h:mZ u [y]=some .u):False:=by
 unfold mZ at h
 split at h
 ·obtain ⟨_,_,h2⟩:=Option.bind_eq_some_iff.1 h
  split at h2
  ·cases Option.some.inj h2
  ·cases h2
 ·cases h
theorem Fk{u:TypeId}{ys:List AV}{t:TypeId}(h:mZ u ys=some (.o t [])):False:=by
 unfold mZ at h
 split at h
 ·obtain ⟨_,_,h2⟩:=Option.bind_eq_some_iff.1 h
  split at h2
  ·cases Option.some.inj h2
  ·cases h2
 ·cases h
end Go.Proofs.YtkkkkondjclcnaaGreat.A
