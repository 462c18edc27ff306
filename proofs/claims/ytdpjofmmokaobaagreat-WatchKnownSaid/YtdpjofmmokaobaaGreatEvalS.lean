/- Expressions: how great they are, their parts, what is wrong, what they come to; as plain mathematics. -/
import Derived.Test.YtdpjofmmokaobaaGreatFinds
import Derived.Test.YtdpjofmmokaobaaGreatTypes
set_option linter.unusedSectionVars false
set_option linter.unusedVariables false
set_option linter.unusedSimpArgs false
namespace Go.Proofs.YtdpjofmmokaobaaGreat.A
open Go
mutual
def sz:aC→Nat
 | ⟨_,_,as⟩=>1+qb as
def qb:List aC→Nat
 | []=>0
 | x::r=>sz x+qb r
end
mutual
def jX:aC→List aC
 | ⟨k,n,as⟩=>⟨k,n,as⟩::eX as
def eX:List aC→List aC
 | []=>[]
 | x::r=>jX x++eX r
end
def HA(n:Int):Int:=IntKind.i32.wrap n
def Nc(k n:Int)(vs l:List Int):Int:=
 if k=1 then n else if k=2 then vs.getD n.toNat 0 else
  if k=3 then HA (l.getD 0 0+l.getD 1 0) else if k=4 then HA (l.getD 0 0 - l.getD 1 0) else if k=5 then HA (l.getD 0 0*l.getD 1 0) else
   if k=6 then (if l.getD 0 0<l.getD 1 0 then 1 else 0) else if k=7 then (if l.getD 0 0=l.getD 1 0 then 1 else 0) else 0
mutual
def dL(vs:List Int):aC→Int
 | ⟨k,n,as⟩=>Nc k n vs (CQ vs as)
def CQ(vs:List Int):List aC→List Int
 | []=>[]
 | x::r=>dL vs x::CQ vs r
end
theorem EP(e:aC):sz e=1+qb e.Args:=by cases e;rw [sz]
theorem tj(e:aC):jX e=e::eX e.Args:=by cases e;rw [jX]
theorem HB(vs:List Int)(e:aC):dL vs e=Nc e.Kind e.N vs (CQ vs e.Args):=by cases e;rw [dL]
theorem Fm(vs:List Int):∀ l,CQ vs l=l.map (dL vs)
 | []=>by rw [CQ];rfl
 | x::r=>by rw [CQ,Fm vs r];rfl
theorem v7(e:aC):0<sz e:=by rw [EP];omega
theorem xe:∀ l m:List aC,qb (l++m)=qb l+qb m
 | [],m=>by simp [qb]
 | x::l,m=>by rw [List.cons_append,qb,qb,xe l m];omega
theorem HC:∀ {l:List aC}{x:aC},x∈l→sz x≤qb l
 | y::l,x,h=>by
  rw [qb]
  rcases List.mem_cons.1 h with rfl | h
  ·omega
  ·have:=HC h;omega
theorem Eh{l:List aC}{k:Nat}(h:k<l.length):qb (l.take (k+1))=qb (l.take k)+sz l[k]:=by
 rw [List.take_add_one,List.getElem?_eq_getElem h,xe]
 simp [qb]
theorem L0(l:List aC)(k:Nat):qb (l.take k)≤qb l:=by
 have:=xe (l.take k) (l.drop k)
 rw [List.take_append_drop] at this
 omega
theorem yC{e:aC}{k:Nat}(h:k<e.Args.length):sz e.Args[k]<sz e:=by
 have:=HC (List.getElem_mem h)
 rw [EP e];omega
theorem HD:∀ l:List aC,l.length≤qb l
 | []=>Nat.zero_le _
 | x::l=>by have:=HD l;have:=v7 x;rw [qb,List.length_cons];omega
theorem tF:∀ l m:List aC,eX (l++m)=eX l++eX m
 | [],m=>by simp [eX]
 | x::l,m=>by rw [List.cons_append,eX,eX,tF l m,List.append_assoc]
theorem BE{l:List aC}{k:Nat}(h:k<l.length):eX (l.take (k+1))=eX (l.take k)++jX l[k]:=by
 rw [List.take_add_one,List.getElem?_eq_getElem h,tF]
 simp [eX]
theorem DZ:∀ {l:List aC}{x y:aC},x∈l→y∈jX x→y∈eX l
 | z::l,x,y,h,hy=>by
  rw [eX]
  rcases List.mem_cons.1 h with rfl | h
  ·exact List.mem_append_left _ hy
  ·exact List.mem_append_right _ (DZ h hy)
def fy(v:Int)(e:aC):Int:=
 if e.Kind<1∨7<e.Kind then 7 else if e.Args.length≠(if 2<e.Kind then 2 else 0) then 1 else
  if (e.Kind=1∧(e.N < -9999999∨9999999<e.N))∨(2<e.Kind∧e.N≠0) then 3 else if e.Kind=2∧(e.N<0∨v≤e.N) then 5 else 0
theorem AB{v:Int}{e:aC}(h:fy v e=0):(1≤e.Kind∧e.Kind≤7)∧e.Args.length=(if 2<e.Kind then 2 else 0)∧(e.Kind=1→ -9999999≤e.N∧e.N≤9999999)∧(2<e.Kind→e.N=0)∧(e.Kind=2→0≤e.N∧e.N<v):=by
 unfold fy at h
 by_cases h1:e.Kind<1∨7<e.Kind
 ·rw [if_pos h1] at h;exact absurd h (by decide)
 rw [if_neg h1] at h
 by_cases h2:e.Args.length≠(if 2<e.Kind then 2 else 0)
 ·rw [if_pos h2] at h;exact absurd h (by decide)
 rw [if_neg h2] at h
 by_cases h3:(e.Kind=1∧(e.N < -9999999∨9999999<e.N))∨(2<e.Kind∧e.N≠0)
 ·rw [if_pos h3] at h;exact absurd h (by decide)
 rw [if_neg h3] at h
 by_cases h4:e.Kind=2∧(e.N<0∨v≤e.N)
 ·rw [if_pos h4] at h;exact absurd h (by decide)
 exact ⟨by omega,Decidable.not_not.1 h2,fun k=>by omega,fun k=>by omega,fun k=>by omega⟩
def kJ(v:Int):List aC→Int
 | []=>0
 | x::r=>if fy v x≠0 then fy v x else kJ v r
theorem vA(v:Int):∀ l m:List aC,kJ v (l++m)=if kJ v l≠0 then kJ v l else kJ v m
 | [],m=>by simp [kJ]
 | x::l,m=>by
  rw [List.cons_append,kJ,kJ,vA v l m]
  by_cases h:fy v x=0
  ·simp [h]
  ·simp [h]
theorem HE{v:Int} : ∀ {l:List aC},kJ v l=0→∀ x∈l,fy v x=0
 | y::l,h,x,hx=>by
  rw [kJ] at h
  by_cases hy:fy v y=0
  ·rw [if_neg (by simpa using hy)] at h
   rcases List.mem_cons.1 hx with rfl | hx
   ·exact hy
   ·exact HE h x hx
  ·rw [if_pos hy] at h;exact absurd h hy
def fc(n:Int):Bool:=decide (-2147483648≤n∧n≤2147483647)
theorem zE(n:Int):fc (HA n)=true:=by
 simp [fc,HA,IntKind.wrap,IntKind.bits,IntKind.signed];omega
theorem L1{n:Int}(h:fc n=true):IntKind.i64.wrap n=n:=by
 simp [fc] at h
 exact wrap64 (by omega) (by omega)
theorem CS{vs:List Int}(hv:∀ x∈vs,fc x=true):∀ (n:Nat)(e:aC),sz e≤n→(∀ x∈jX e,fy vs.length x=0)→fc (dL vs e)=true
 | 0,e,h,_=>by have:=v7 e;omega
 | n+1,e,h,hok=>by
  have hp:fy vs.length e=0:=hok e (by rw [tj];simp)
  rw [HB]
  unfold Nc
  obtain ⟨p1,p2,p3,p4,p5⟩:=AB hp
  by_cases k1:e.Kind=1
  ·rw [if_pos k1]
   have:=p3 k1
   simp [fc];omega
  rw [if_neg k1]
  by_cases k2:e.Kind=2
  ·rw [if_pos k2]
   have h3:=p5 k2
   have h4:e.N.toNat<vs.length:=by omega
   rw [List.getD_eq_getElem?_getD,List.getElem?_eq_getElem h4]
   exact hv _ (List.getElem_mem h4)
  rw [if_neg k2]
  split
  ·exact zE _
  split
  ·exact zE _
  split
  ·exact zE _
  split
  ·split<;>rfl
  split
  ·split<;>rfl
  ·rfl
end Go.Proofs.YtdpjofmmokaobaaGreat.A
