/- The library's functions that are met by their contracts: strings.Join, strings.IndexByte. -/
import Derived.Test.YtkkkkondjclcnaaAbs3
import Derived.Lib.Join
import Derived.Lib.Bytealg
import Derived.Lib.Atoi
import Derived.Lib.Repeat
import Derived.Lib.ItoaNum
set_option linter.unusedSectionVars false
set_option linter.unusedVariables false
set_option linter.unusedSimpArgs false
set_option linter.constructorNameAsVariable false
namespace Go.Proofs.Ytkkkkondjclcnaa.A
open Go
def lR(t:TypeId):List AV→Option AV
 | [.n,.i .i64 n]=>if 0≤n∧n≤1000000 then some (.o t []) else none
 | _=>none
theorem F9{t:TypeId}{g:FuncId}{n:Int}(h:lR t [.u,.i .i64 g]=some (.i .i64 n)):False:=by cases h
theorem JS{t:TypeId}{y:AV}(h:lR t [y]=some .u):False:=by
 unfold lR at h
 split at h
 ·rename_i heq;simp at heq
 ·cases h
theorem Ga{u:TypeId}{t:TypeId}(h:lR u [.u,.u,.i .i64 t]=some (.s [])):False:=by cases h
mutual
def od:AV→Option (List Int)
 | .a [.i .i64 k,.i .i64 n,.l _ args]=>(qf args).map fun r=>if k=2 then n::r else r
 | _=>none
def qf:List AV→Option (List Int)
 | []=>some []
 | x::r=>(od x).bind fun a=>(qf r).map (a++·)
end
def sV:List AV→Option AV
 | [.u,.e x 0]=>(od x).map fun ns=>.l 0 (ns.map (AV.i .i64))
 | _=>none
def oK(t:TypeId):List AV→Option AV
 | [.l _ [.b x],.i .i64 n]=>if 0≤n∧n≤1000000 then some (.l t (List.replicate n.toNat (.b x))) else none
 | _=>none
theorem JT{g:FuncId}{n:Int}(h:sV [.u,.i .i64 g]=some (.i .i64 n)):False:=by cases h
theorem JU{t:TypeId}(h:sV [.u,.u,.i .i64 t]=some (.s [])):False:=by cases h
theorem NG{y:AV}(h:sV [y]=some .u):False:=by
 unfold sV at h
 split at h
 ·rename_i heq;simp at heq
 ·cases h
theorem Ht{u:TypeId}{g:FuncId}{n:Int}(h:oK u [.u,.i .i64 g]=some (.i .i64 n)):False:=by cases h
theorem Hu{u:TypeId}{t:TypeId}(h:oK u [.u,.u,.i .i64 t]=some (.s [])):False:=by cases h
theorem KT{u:TypeId}{y:AV}(h:oK u [y]=some .u):False:=by
 unfold oK at h
 split at h
 ·rename_i heq;simp at heq
 ·cases h
theorem KU{ys:List AV}{x:AV}(h:sV ys=some x)(hy:∀ y∈ys,y.pure=true):False:=by
 unfold sV at h
 split at h
 ·cases hy .u (by simp)
 ·cases h
theorem JV{ys:List AV}{t:TypeId}(h:sV ys=some (.o t [])):False:=by
 unfold sV at h
 split at h
 ·obtain ⟨_,_,h2⟩:=Option.map_eq_some_iff.1 h;cases h2
 ·cases h
theorem JW{u:TypeId}{ys:List AV}{t:TypeId}(h:oK u ys=some (.o t [])):False:=by
 unfold oK at h
 split at h
 ·split at h
  ·cases Option.some.inj h
  ·cases h
 ·cases h
theorem Gb{u:TypeId}{c:AV}{es:List AV}(h:lR u [.u,c]=some (.l 0 es)):False:=by
 unfold lR at h
 split at h
 ·rename_i heq;simp at heq
 ·cases h
theorem Hv{u:TypeId}{c:AV}{es:List AV}(h:oK u [.u,c]=some (.l 0 es)):False:=by
 unfold oK at h
 split at h
 ·rename_i heq;simp at heq
 ·cases h
section
variable {tg ti tl tp tv tf ts te:TypeId}
end
theorem yn(ns:List Int):qL (ns.map (AV.i .i64))=some ns:=by
 induction ns with
 | nil=>rfl
 | cons n ns ih=>simp [qL,ih]
end Go.Proofs.Ytkkkkondjclcnaa.A
