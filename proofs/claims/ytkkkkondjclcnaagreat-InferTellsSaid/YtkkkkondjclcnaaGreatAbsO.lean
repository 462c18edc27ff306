/- The library's functions that are met by their contracts: strings.Join, strings.IndexByte. -/
import Derived.Test.YtkkkkondjclcnaaGreatAbs3
import Derived.Lib.Join
import Derived.Lib.Bytealg
import Derived.Lib.Atoi
import Derived.Lib.Repeat
import Derived.Lib.ItoaNum
set_option linter.all false
namespace Go.Proofs.YtkkkkondjclcnaaGreat.A
open Go
def q8(t:TypeId):List AV→Option AV
 | [.n,.i .i64 n]=>if 0≤n∧n≤1000000 then some (.o t []) else none
 | _=>none
theorem Qs{t:TypeId}{g:FuncId}{n:Int}(h:q8 t [.u,.i .i64 g]=some (.i .i64 n)):False:=by cases h
theorem VY{t:TypeId}{y:AV}(h:q8 t [y]=some .u):False:=by
 unfold q8 at h
 split at h
 ·rename_i heq;simp at heq
 ·cases h
theorem Qt{u:TypeId}{t:TypeId}(h:q8 u [.u,.u,.i .i64 t]=some (.s [])):False:=by cases h
mutual
def tZ:AV→Option (List Int)
 | .a [.i .i64 k,.i .i64 n,.l _ args]=>(xi args).map fun r=>if k=2 then n::r else r
 | _=>none
def xi:List AV→Option (List Int)
 | []=>some []
 | x::r=>(tZ x).bind fun a=>(xi r).map (a++·)
end
def Aw:List AV→Option AV
 | [.u,.e x 0]=>(tZ x).map fun ns=>.l 0 (ns.map (AV.i .i64))
 | _=>none
def uP(t:TypeId):List AV→Option AV
 | [.l _ [.b x],.i .i64 n]=>if 0≤n∧n≤1000000 then some (.l t (List.replicate n.toNat (.b x))) else none
 | _=>none
theorem VZ{g:FuncId}{n:Int}(h:Aw [.u,.i .i64 g]=some (.i .i64 n)):False:=by cases h
theorem V0{t:TypeId}(h:Aw [.u,.u,.i .i64 t]=some (.s [])):False:=by cases h
theorem adm{y:AV}(h:Aw [y]=some .u):False:=by
 unfold Aw at h
 split at h
 ·rename_i heq;simp at heq
 ·cases h
theorem Sy{u:TypeId}{g:FuncId}{n:Int}(h:uP u [.u,.i .i64 g]=some (.i .i64 n)):False:=by cases h
theorem Sz{u:TypeId}{t:TypeId}(h:uP u [.u,.u,.i .i64 t]=some (.s [])):False:=by cases h
theorem Xp{u:TypeId}{y:AV}(h:uP u [y]=some .u):False:=by
 unfold uP at h
 split at h
 ·rename_i heq;simp at heq
 ·cases h
theorem Xq{ys:List AV}{x:AV}(h:Aw ys=some x)(hy:∀ y∈ys,y.pure=true):False:=by
 unfold Aw at h
 split at h
 ·cases hy .u (by simp)
 ·cases h
theorem V1{ys:List AV}{t:TypeId}(h:Aw ys=some (.o t [])):False:=by
 unfold Aw at h
 split at h
 ·obtain ⟨_,_,h2⟩:=dN.1 h;cases h2
 ·cases h
theorem V2{u:TypeId}{ys:List AV}{t:TypeId}(h:uP u ys=some (.o t [])):False:=by
 unfold uP at h
 split at h
 ·split at h
  ·cases ad h
  ·cases h
 ·cases h
theorem Qu{u:TypeId}{c:AV}{es:List AV}(h:q8 u [.u,c]=some (.l 0 es)):False:=by
 unfold q8 at h
 split at h
 ·rename_i heq;simp at heq
 ·cases h
theorem SA{u:TypeId}{c:AV}{es:List AV}(h:uP u [.u,c]=some (.l 0 es)):False:=by
 unfold uP at h
 split at h
 ·rename_i heq;simp at heq
 ·cases h
section
variable {tg ti tl tp tv tf ts te:TypeId}
end
theorem GB(ns:List Int):xL (ns.map (AV.i .i64))=some ns:=by
 induction ns with
 | nil=>rfl
 | cons n ns ih=>simp [xL,ih]
end Go.Proofs.YtkkkkondjclcnaaGreat.A
