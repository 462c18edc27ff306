/- Expressions: how great they are, their parts, what is wrong, what they come to; as plain mathematics. -/
import Derived.Test.YtkkkkondjclcnaaGreatBase
import Derived.Test.YtkkkkondjclcnaaGreatTypes
set_option linter.all false
namespace Go.Proofs.YtkkkkondjclcnaaGreat.A
open Go
mutual
def sz:aB→Nat
 | ⟨_,_,as⟩=>1+qE as
def qE:List aB→Nat
 | []=>0
 | x::r=>sz x+qE r
end
mutual
def gy:aB→List aB
 | ⟨k,n,as⟩=>⟨k,n,as⟩::fV as
def fV:List aB→List aB
 | []=>[]
 | x::r=>gy x++fV r
end
def w32(n:Int):Int:=IntKind.i32.wrap n
theorem G1(e:aB):sz e=1+qE e.Args:=by cases e;rw [sz]
theorem CU(e:aB):gy e=e::fV e.Args:=by cases e;rw [gy]
theorem AH(e:aB):0<sz e:=by rw [G1];omega
theorem D6:∀ l m:List aB,qE (l++m)=qE l+qE m
 | [],m=>by simp [qE]
 | x::l,m=>by rw [eJ,qE,qE,D6 l m];omega
theorem Ru:∀ {l:List aB}{x:aB},x∈l→sz x≤qE l
 | y::l,x,h=>by
  rw [qE]
  rcases eX.1 h with rfl | h
  ·omega
  ·have:=Ru h;omega
variable {l:List aB}{k:Nat}
theorem zc(h:k<l.length):qE (l.take (k+1))=qE (l.take k)+sz l[k]:=by
 rw [BE,aP h,D6]
 simp [qE]
theorem D7(l:List aB)(k:Nat):qE (l.take k)≤qE l:=by
 have:=D6 (l.take k) (l.drop k)
 rw [BF] at this
 omega
variable {e:aB}
theorem CV(h:k<e.Args.length):sz e.Args[k]<sz e:=by
 have:=Ru (bN h)
 rw [G1 e];omega
theorem La:∀ l:List aB,l.length≤qE l
 | []=>dc _
 | x::l=>by have:=La l;have:=AH x;rw [qE,cC];omega
mutual
theorem AI:∀ e:aB,(gy e).length=sz e
 | ⟨k,n,as⟩=>by rw [gy,sz,cC,FV as];omega
theorem FV:∀ l:List aB,(fV l).length=qE l
 | []=>by rw [fV,qE];rfl
 | x::r=>by rw [fV,qE,eK,AI x,FV r]
end
theorem AJ:∀ l m:List aB,fV (l++m)=fV l++fV m
 | [],m=>by simp [fV]
 | x::l,m=>by rw [eJ,fV,fV,AJ l m,ox]
theorem BS(h:k<l.length):fV (l.take (k+1))=fV (l.take k)++gy l[k]:=by
 rw [BE,aP h,AJ]
 simp [fV]
def lf(v:Int)(e:aB):Int:=
 if e.Kind<1∨7<e.Kind then 7 else if e.Args.length≠(if 2<e.Kind then 2 else 0) then 1 else
  if (e.Kind=1∧(e.N < -9999999∨9999999<e.N))∨(2<e.Kind∧e.N≠0) then 3 else if e.Kind=2∧(e.N<0∨v≤e.N) then 5 else 0
theorem xd{v:Int}(h:lf v e=0):(1≤e.Kind∧e.Kind≤7)∧e.Args.length=(if 2<e.Kind then 2 else 0)∧(e.Kind=1→ -9999999≤e.N∧e.N≤9999999)∧(2<e.Kind→e.N=0)∧(e.Kind=2→0≤e.N∧e.N<v):=by
 unfold lf at h
 by_cases h1:e.Kind<1∨7<e.Kind
 ·rw [ab h1] at h;exact absurd h (by decide)
 rw [aa h1] at h
 by_cases h2:e.Args.length≠(if 2<e.Kind then 2 else 0)
 ·rw [ab h2] at h;exact absurd h (by decide)
 rw [aa h2] at h
 by_cases h3:(e.Kind=1∧(e.N < -9999999∨9999999<e.N))∨(2<e.Kind∧e.N≠0)
 ·rw [ab h3] at h;exact absurd h (by decide)
 rw [aa h3] at h
 by_cases h4:e.Kind=2∧(e.N<0∨v≤e.N)
 ·rw [ab h4] at h;exact absurd h (by decide)
 exact ⟨by omega,uT.1 h2,fun k=>by omega,fun k=>by omega,fun k=>by omega⟩
def ll(v:Int):List aB→Int
 | []=>0
 | x::r=>if lf v x≠0 then lf v x else ll v r
theorem Cz(v:Int):∀ l m:List aB,ll v (l++m)=if ll v l≠0 then ll v l else ll v m
 | [],m=>by simp [ll]
 | x::l,m=>by
  rw [eJ,ll,ll,Cz v l m]
  by_cases h:lf v x=0
  ·simp [h]
  ·simp [h]
theorem Rv{v:Int} : ∀ {l:List aB},ll v l=0→∀ x∈l,lf v x=0
 | y::l,h,x,hx=>by
  rw [ll] at h
  by_cases hy:lf v y=0
  ·rw [aa (by simpa using hy)] at h
   rcases eX.1 hx with rfl | hx
   ·exact hy
   ·exact Rv h x hx
  ·rw [ab hy] at h;exact absurd h hy
end Go.Proofs.YtkkkkondjclcnaaGreat.A
