/- Expressions: how great they are, their parts, what is wrong, what they come to; as plain mathematics. -/
import Derived.Test.YtdpjofmmokaobaaGreatFinds
import Derived.Test.YtdpjofmmokaobaaGreatTypes
set_option linter.unusedSectionVars false
set_option linter.unusedVariables false
set_option linter.unusedSimpArgs false
namespace Go.Proofs.YtdpjofmmokaobaaGreat.A
open Go
mutual
def sz:aE→Nat
 | ⟨_,_,as⟩=>1+qj as
def qj:List aE→Nat
 | []=>0
 | x::r=>sz x+qj r
end
mutual
def ko:aE→List aE
 | ⟨k,n,as⟩=>⟨k,n,as⟩::e9 as
def e9:List aE→List aE
 | []=>[]
 | x::r=>ko x++e9 r
end
def Im(n:Int):Int:=IntKind.i32.wrap n
def Oa(k n:Int)(vs l:List Int):Int:=
 if k=1 then n else if k=2 then vs.getD n.toNat 0 else
  if k=3 then Im (l.getD 0 0+l.getD 1 0) else if k=4 then Im (l.getD 0 0 - l.getD 1 0) else if k=5 then Im (l.getD 0 0*l.getD 1 0) else
   if k=6 then (if l.getD 0 0<l.getD 1 0 then 1 else 0) else if k=7 then (if l.getD 0 0=l.getD 1 0 then 1 else 0) else 0
mutual
def dt(vs:List Int):aE→Int
 | ⟨k,n,as⟩=>Oa k n vs (Dz vs as)
def Dz(vs:List Int):List aE→List Int
 | []=>[]
 | x::r=>dt vs x::Dz vs r
end
theorem Fy(e:aE):sz e=1+qj e.Args:=by cases e;rw [sz]
theorem tJ(e:aE):ko e=e::e9 e.Args:=by cases e;rw [ko]
theorem Io(vs:List Int)(e:aE):dt vs e=Oa e.Kind e.N vs (Dz vs e.Args):=by cases e;rw [dt]
theorem F6(vs:List Int):∀ l,Dz vs l=l.map (dt vs)
 | []=>by rw [Dz];rfl
 | x::r=>by rw [Dz,F6 vs r];rfl
theorem wG(e:aE):0<sz e:=by rw [Fy];omega
theorem xz:∀ l m:List aE,qj (l++m)=qj l+qj m
 | [],m=>by simp [qj]
 | x::l,m=>by rw [List.cons_append,qj,qj,xz l m];omega
theorem Ip:∀ {l:List aE}{x:aE},x∈l→sz x≤qj l
 | y::l,x,h=>by
  rw [qj]
  rcases List.mem_cons.1 h with rfl | h
  ·omega
  ·have:=Ip h;omega
theorem E2{l:List aE}{k:Nat}(h:k<l.length):qj (l.take (k+1))=qj (l.take k)+sz l[k]:=by
 rw [List.take_add_one,List.getElem?_eq_getElem h,xz]
 simp [qj]
theorem MR(l:List aE)(k:Nat):qj (l.take k)≤qj l:=by
 have:=xz (l.take k) (l.drop k)
 rw [List.take_append_drop] at this
 omega
theorem yZ{e:aE}{k:Nat}(h:k<e.Args.length):sz e.Args[k]<sz e:=by
 have:=Ip (List.getElem_mem h)
 rw [Fy e];omega
theorem Iq:∀ l:List aE,l.length≤qj l
 | []=>Nat.zero_le _
 | x::l=>by have:=Iq l;have:=wG x;rw [qj,List.length_cons];omega
theorem tW:∀ l m:List aE,e9 (l++m)=e9 l++e9 m
 | [],m=>by simp [e9]
 | x::l,m=>by rw [List.cons_append,e9,e9,tW l m,List.append_assoc]
theorem Cc{l:List aE}{k:Nat}(h:k<l.length):e9 (l.take (k+1))=e9 (l.take k)++ko l[k]:=by
 rw [List.take_add_one,List.getElem?_eq_getElem h,tW]
 simp [e9]
theorem EJ:∀ {l:List aE}{x y:aE},x∈l→y∈ko x→y∈e9 l
 | z::l,x,y,h,hy=>by
  rw [e9]
  rcases List.mem_cons.1 h with rfl | h
  ·exact List.mem_append_left _ hy
  ·exact List.mem_append_right _ (EJ h hy)
def fF(v:Int)(e:aE):Int:=
 if e.Kind<1∨7<e.Kind then 7 else if e.Args.length≠(if 2<e.Kind then 2 else 0) then 1 else
  if (e.Kind=1∧(e.N < -9999999∨9999999<e.N))∨(2<e.Kind∧e.N≠0) then 3 else if e.Kind=2∧(e.N<0∨v≤e.N) then 5 else 0
theorem Ba{v:Int}{e:aE}(h:fF v e=0):(1≤e.Kind∧e.Kind≤7)∧e.Args.length=(if 2<e.Kind then 2 else 0)∧(e.Kind=1→ -9999999≤e.N∧e.N≤9999999)∧(2<e.Kind→e.N=0)∧(e.Kind=2→0≤e.N∧e.N<v):=by
 unfold fF at h
 by_cases h1:e.Kind<1∨7<e.Kind
 ·rw [if_pos h1] at h;exact absurd h (by decide)
 rw [if_neg h1] at h
 by_cases h2:e.Args.length≠(if 2<e.Kind then 2 else 0)
 ·rw [if_pos h2] at h;exact absurd h (by decide)
 rw [if_neg h2] at h
 by_cases h3:(e.Kind=1∧(e.N < -9999999∨9999999<e.N))∨(2<e.Kind∧e.N≠0)
 ·rw [if_pos h3] at h;exact absurd h (by decide)
 rw [if_neg h3] at h
 by_cases h4:e.Kind=2∧(e.N<0∨v≤e.N)
 ·rw [if_pos h4] at h;exact absurd h (by decide)
 exact ⟨by omega,Decidable.not_not.1 h2,fun k=>by omega,fun k=>by omega,fun k=>by omega⟩
def kZ(v:Int):List aE→Int
 | []=>0
 | x::r=>if fF v x≠0 then fF v x else kZ v r
theorem vX(v:Int):∀ l m:List aE,kZ v (l++m)=if kZ v l≠0 then kZ v l else kZ v m
 | [],m=>by simp [kZ]
 | x::l,m=>by
  rw [List.cons_append,kZ,kZ,vX v l m]
  by_cases h:fF v x=0
  ·simp [h]
  ·simp [h]
theorem Ir{v:Int} : ∀ {l:List aE},kZ v l=0→∀ x∈l,fF v x=0
 | y::l,h,x,hx=>by
  rw [kZ] at h
  by_cases hy:fF v y=0
  ·rw [if_neg (by simpa using hy)] at h
   rcases List.mem_cons.1 hx with rfl | hx
   ·exact hy
   ·exact Ir h x hx
  ·rw [if_pos hy] at h;exact absurd h hy
def fk(n:Int):Bool:=decide (-2147483648≤n∧n≤2147483647)
theorem Ac(n:Int):fk (Im n)=true:=by
 simp [fk,Im,IntKind.wrap,IntKind.bits,IntKind.signed];omega
theorem MS{n:Int}(h:fk n=true):IntKind.i64.wrap n=n:=by
 simp [fk] at h
 exact wrap64 (by omega) (by omega)
theorem DA{vs:List Int}(hv:∀ x∈vs,fk x=true):∀ (n:Nat)(e:aE),sz e≤n→(∀ x∈ko e,fF vs.length x=0)→fk (dt vs e)=true
 | 0,e,h,_=>by have:=wG e;omega
 | n+1,e,h,hok=>by
  have hp:fF vs.length e=0:=hok e (by rw [tJ];simp)
  rw [Io]
  unfold Oa
  obtain ⟨p1,p2,p3,p4,p5⟩:=Ba hp
  by_cases k1:e.Kind=1
  ·rw [if_pos k1]
   have:=p3 k1
   simp [fk];omega
  rw [if_neg k1]
  by_cases k2:e.Kind=2
  ·rw [if_pos k2]
   have h3:=p5 k2
   have h4:e.N.toNat<vs.length:=by omega
   rw [List.getD_eq_getElem?_getD,List.getElem?_eq_getElem h4]
   exact hv _ (List.getElem_mem h4)
  rw [if_neg k2]
  split
  ·exact Ac _
  split
  ·exact Ac _
  split
  ·exact Ac _
  split
  ·split<;>rfl
  split
  ·split<;>rfl
  ·rfl
end Go.Proofs.YtdpjofmmokaobaaGreat.A
