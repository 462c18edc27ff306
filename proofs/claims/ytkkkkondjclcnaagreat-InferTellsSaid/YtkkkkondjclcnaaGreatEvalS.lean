/- Expressions: how great they are, their parts, what is wrong, what they come to; as plain mathematics. -/
import Derived.Test.YtkkkkondjclcnaaGreatLift
import Derived.Test.YtkkkkondjclcnaaGreatTypes
set_option linter.all false
namespace Go.Proofs.YtkkkkondjclcnaaGreat.A
open Go
mutual
def sz:ax→Nat
 | ⟨_,_,as⟩=>1+oK as
def oK:List ax→Nat
 | []=>0
 | x::r=>sz x+oK r
end
mutual
def mX:ax→List ax
 | ⟨k,n,as⟩=>⟨k,n,as⟩::eN as
def eN:List ax→List ax
 | []=>[]
 | x::r=>mX x++eN r
end
def w32(n:Int):Int:=IntKind.i32.wrap n
theorem Ep(e:ax):sz e=1+oK e.Args:=by cases e;rw [sz]
theorem AB(e:ax):mX e=e::eN e.Args:=by cases e;rw [mX]
theorem xX(e:ax):0<sz e:=by rw [Ep];omega
theorem Bx:∀ l m:List ax,oK (l++m)=oK l+oK m
 | [],m=>by simp [oK]
 | x::l,m=>by rw [eA,oK,oK,Bx l m];omega
theorem Oa:∀ {l:List ax}{x:ax},x∈l→sz x≤oK l
 | y::l,x,h=>by
  rw [oK]
  rcases cQ.1 h with rfl | h
  ·omega
  ·have:=Oa h;omega
theorem wA{l:List ax}{k:Nat}(h:k<l.length):oK (l.take (k+1))=oK (l.take k)+sz l[k]:=by
 rw [pW,aA h,Bx]
 simp [oK]
theorem By(l:List ax)(k:Nat):oK (l.take k)≤oK l:=by
 have:=Bx (l.take k) (l.drop k)
 rw [vA] at this
 omega
theorem AD{e:ax}{k:Nat}(h:k<e.Args.length):sz e.Args[k]<sz e:=by
 have:=Oa (bY h)
 rw [Ep e];omega
theorem IE:∀ l:List ax,l.length≤oK l
 | []=>b9 _
 | x::l=>by have:=IE l;have:=xX x;rw [oK,bD];omega
mutual
theorem Bz:∀ e:ax,(mX e).length=sz e
 | ⟨k,n,as⟩=>by rw [mX,sz,bD,Df as];omega
theorem Df:∀ l:List ax,(eN l).length=oK l
 | []=>by rw [eN,oK];rfl
 | x::r=>by rw [eN,oK,cC,Bz x,Df r]
end
theorem xY:∀ l m:List ax,eN (l++m)=eN l++eN m
 | [],m=>by simp [eN]
 | x::l,m=>by rw [eA,eN,eN,xY l m,lE]
theorem zE{l:List ax}{k:Nat}(h:k<l.length):eN (l.take (k+1))=eN (l.take k)++mX l[k]:=by
 rw [pW,aA h,xY]
 simp [eN]
def jd(v:Int)(e:ax):Int:=
 if e.Kind<1∨7<e.Kind then 7 else if e.Args.length≠(if 2<e.Kind then 2 else 0) then 1 else
  if (e.Kind=1∧(e.N < -9999999∨9999999<e.N))∨(2<e.Kind∧e.N≠0) then 3 else if e.Kind=2∧(e.N<0∨v≤e.N) then 5 else 0
theorem LL{v:Int}{e:ax}(h:jd v e=0):(1≤e.Kind∧e.Kind≤7)∧e.Args.length=(if 2<e.Kind then 2 else 0)∧(e.Kind=1→ -9999999≤e.N∧e.N≤9999999)∧(2<e.Kind→e.N=0)∧(e.Kind=2→0≤e.N∧e.N<v):=by
 unfold jd at h
 by_cases h1:e.Kind<1∨7<e.Kind
 ·rw [aa h1] at h;exact absurd h (by decide)
 rw [ab h1] at h
 by_cases h2:e.Args.length≠(if 2<e.Kind then 2 else 0)
 ·rw [aa h2] at h;exact absurd h (by decide)
 rw [ab h2] at h
 by_cases h3:(e.Kind=1∧(e.N < -9999999∨9999999<e.N))∨(2<e.Kind∧e.N≠0)
 ·rw [aa h3] at h;exact absurd h (by decide)
 rw [ab h3] at h
 by_cases h4:e.Kind=2∧(e.N<0∨v≤e.N)
 ·rw [aa h4] at h;exact absurd h (by decide)
 exact ⟨by omega,sU.1 h2,fun k=>by omega,fun k=>by omega,fun k=>by omega⟩
def jH(v:Int):List ax→Int
 | []=>0
 | x::r=>if jd v x≠0 then jd v x else jH v r
theorem Aj(v:Int):∀ l m:List ax,jH v (l++m)=if jH v l≠0 then jH v l else jH v m
 | [],m=>by simp [jH]
 | x::l,m=>by
  rw [eA,jH,jH,Aj v l m]
  by_cases h:jd v x=0
  ·simp [h]
  ·simp [h]
theorem Ob{v:Int} : ∀ {l:List ax},jH v l=0→∀ x∈l,jd v x=0
 | y::l,h,x,hx=>by
  rw [jH] at h
  by_cases hy:jd v y=0
  ·rw [ab (by simpa using hy)] at h
   rcases cQ.1 hx with rfl | hx
   ·exact hy
   ·exact Ob h x hx
  ·rw [aa hy] at h;exact absurd h hy
end Go.Proofs.YtkkkkondjclcnaaGreat.A
