/- Expressions: how great they are, their parts, what is wrong, what they come to; as plain mathematics. -/
import Derived.Test.YtkkkkondjclcnaaGreatLift
import Derived.Test.YtkkkkondjclcnaaGreatTypes
set_option linter.all false
namespace Go.Proofs.YtkkkkondjclcnaaGreat.A
open Go
mutual
def sz:az→Nat
 | ⟨_,_,as⟩=>1+oZ as
def oZ:List az→Nat
 | []=>0
 | x::r=>sz x+oZ r
end
mutual
def nv:az→List az
 | ⟨k,n,as⟩=>⟨k,n,as⟩::eR as
def eR:List az→List az
 | []=>[]
 | x::r=>nv x++eR r
end
def w32(n:Int):Int:=IntKind.i32.wrap n
theorem D9(e:az):sz e=1+oZ e.Args:=by cases e;rw [sz]
theorem Am(e:az):nv e=e::eR e.Args:=by cases e;rw [nv]
theorem xQ(e:az):0<sz e:=by rw [D9];omega
theorem Bi:∀ l m:List az,oZ (l++m)=oZ l+oZ m
 | [],m=>by simp [oZ]
 | x::l,m=>by rw [eu,oZ,oZ,Bi l m];omega
theorem N5:∀ {l:List az}{x:az},x∈l→sz x≤oZ l
 | y::l,x,h=>by
  rw [oZ]
  rcases cR.1 h with rfl | h
  ·omega
  ·have:=N5 h;omega
theorem wA{l:List az}{k:Nat}(h:k<l.length):oZ (l.take (k+1))=oZ (l.take k)+sz l[k]:=by
 rw [p9,aB h,Bi]
 simp [oZ]
theorem Bj(l:List az)(k:Nat):oZ (l.take k)≤oZ l:=by
 have:=Bi (l.take k) (l.drop k)
 rw [vE] at this
 omega
theorem An{e:az}{k:Nat}(h:k<e.Args.length):sz e.Args[k]<sz e:=by
 have:=N5 (cq h)
 rw [D9 e];omega
theorem It:∀ l:List az,l.length≤oZ l
 | []=>ct _
 | x::l=>by have:=It l;have:=xQ x;rw [oZ,bu];omega
mutual
theorem Bk:∀ e:az,(nv e).length=sz e
 | ⟨k,n,as⟩=>by rw [nv,sz,bu,C0 as];omega
theorem C0:∀ l:List az,(eR l).length=oZ l
 | []=>by rw [eR,oZ];rfl
 | x::r=>by rw [eR,oZ,cH,Bk x,C0 r]
end
theorem xR:∀ l m:List az,eR (l++m)=eR l++eR m
 | [],m=>by simp [eR]
 | x::l,m=>by rw [eu,eR,eR,xR l m,lO]
theorem zo{l:List az}{k:Nat}(h:k<l.length):eR (l.take (k+1))=eR (l.take k)++nv l[k]:=by
 rw [p9,aB h,xR]
 simp [eR]
def jg(v:Int)(e:az):Int:=
 if e.Kind<1∨7<e.Kind then 7 else if e.Args.length≠(if 2<e.Kind then 2 else 0) then 1 else
  if (e.Kind=1∧(e.N < -9999999∨9999999<e.N))∨(2<e.Kind∧e.N≠0) then 3 else if e.Kind=2∧(e.N<0∨v≤e.N) then 5 else 0
theorem Lz{v:Int}{e:az}(h:jg v e=0):(1≤e.Kind∧e.Kind≤7)∧e.Args.length=(if 2<e.Kind then 2 else 0)∧(e.Kind=1→ -9999999≤e.N∧e.N≤9999999)∧(2<e.Kind→e.N=0)∧(e.Kind=2→0≤e.N∧e.N<v):=by
 unfold jg at h
 by_cases h1:e.Kind<1∨7<e.Kind
 ·rw [ab h1] at h;exact absurd h (by decide)
 rw [ad h1] at h
 by_cases h2:e.Args.length≠(if 2<e.Kind then 2 else 0)
 ·rw [ab h2] at h;exact absurd h (by decide)
 rw [ad h2] at h
 by_cases h3:(e.Kind=1∧(e.N < -9999999∨9999999<e.N))∨(2<e.Kind∧e.N≠0)
 ·rw [ab h3] at h;exact absurd h (by decide)
 rw [ad h3] at h
 by_cases h4:e.Kind=2∧(e.N<0∨v≤e.N)
 ·rw [ab h4] at h;exact absurd h (by decide)
 exact ⟨by omega,qm.1 h2,fun k=>by omega,fun k=>by omega,fun k=>by omega⟩
def jS(v:Int):List az→Int
 | []=>0
 | x::r=>if jg v x≠0 then jg v x else jS v r
theorem zV(v:Int):∀ l m:List az,jS v (l++m)=if jS v l≠0 then jS v l else jS v m
 | [],m=>by simp [jS]
 | x::l,m=>by
  rw [eu,jS,jS,zV v l m]
  by_cases h:jg v x=0
  ·simp [h]
  ·simp [h]
theorem N6{v:Int} : ∀ {l:List az},jS v l=0→∀ x∈l,jg v x=0
 | y::l,h,x,hx=>by
  rw [jS] at h
  by_cases hy:jg v y=0
  ·rw [ad (by simpa using hy)] at h
   rcases cR.1 hx with rfl | hx
   ·exact hy
   ·exact N6 h x hx
  ·rw [ab hy] at h;exact absurd h hy
end Go.Proofs.YtkkkkondjclcnaaGreat.A
