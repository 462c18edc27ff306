/- Expressions: how great they are, their parts, what is wrong, what they come to; as plain mathematics. -/
import Derived.Test.YtlmphbbhaeampaaGreatBase
import Derived.Test.YtlmphbbhaeampaaGreatTypes
set_option linter.all false
namespace Go.Proofs.YtlmphbbhaeampaaGreat.A
open Go
mutual
def sz:ay→Nat
 | ⟨_,_,as⟩=>1+qK as
def qK:List ay→Nat
 | []=>0
 | x::r=>sz x+qK r
end
mutual
def ey:ay→List ay
 | ⟨k,n,as⟩=>⟨k,n,as⟩::fv as
def fv:List ay→List ay
 | []=>[]
 | x::r=>ey x++fv r
end
def II(n:Int):Int:=IntKind.i32.wrap n
def VP(k n:Int)(vs l:List Int):Int:=
 if k=1 then n else if k=2 then vs.getD n.toNat 0 else
  if k=3 then II (l.getD 0 0+l.getD 1 0) else if k=4 then II (l.getD 0 0 - l.getD 1 0) else if k=5 then II (l.getD 0 0*l.getD 1 0) else
   if k=6 then (if l.getD 0 0<l.getD 1 0 then 1 else 0) else if k=7 then (if l.getD 0 0=l.getD 1 0 then 1 else 0) else 0
mutual
def c9(vs:List Int):ay→Int
 | ⟨k,n,as⟩=>VP k n vs (Mn vs as)
def Mn(vs:List Int):List ay→List Int
 | []=>[]
 | x::r=>c9 vs x::Mn vs r
end
theorem HU(e:ay):sz e=1+qK e.Args:=by cases e;rw [sz]
theorem s9(e:ay):ey e=e::fv e.Args:=by cases e;rw [ey]
theorem Mo(vs:List Int)(e:ay):c9 vs e=VP e.Kind e.N vs (Mn vs e.Args):=by cases e;rw [c9]
theorem Jg(vs:List Int):∀ l,Mn vs l=l.map (c9 vs)
 | []=>by rw [Mn];rfl
 | x::r=>by rw [Mn,Jg vs r];rfl
theorem uu(e:ay):0<sz e:=by rw [HU];omega
theorem EO:∀ l m:List ay,qK (l++m)=qK l+qK m
 | [],m=>by simp [qK]
 | x::l,m=>by rw [fk,qK,qK,EO l m];omega
theorem SD:∀ {l:List ay}{x:ay},x∈l→sz x≤qK l
 | y::l,x,h=>by
  rw [qK]
  rcases eA.1 h with rfl | h
  ·omega
  ·have:=SD h;omega
variable {l:List ay}{k:Nat}
theorem zH(h:k<l.length):qK (l.take (k+1))=qK (l.take k)+sz l[k]:=by
 rw [Ge,bu h,EO]
 simp [qK]
theorem EP(l:List ay)(k:Nat):qK (l.take k)≤qK l:=by
 have:=EO (l.take k) (l.drop k)
 rw [List.take_append_drop] at this
 omega
variable {e:ay}
theorem uv(h:k<e.Args.length):sz e.Args[k]<sz e:=by
 have:=SD (cg h)
 rw [HU e];omega
theorem Mp:∀ l:List ay,l.length≤qK l
 | []=>du _
 | x::l=>by have:=Mp l;have:=uu x;rw [qK,fj];omega
mutual
theorem A4:∀ e:ay,(ey e).length=sz e
 | ⟨k,n,as⟩=>by rw [ey,sz,fj,GF as];omega
theorem GF:∀ l:List ay,(fv l).length=qK l
 | []=>by rw [fv,qK];rfl
 | x::r=>by rw [fv,qK,oQ,A4 x,GF r]
end
theorem A5:∀ l m:List ay,fv (l++m)=fv l++fv m
 | [],m=>by simp [fv]
 | x::l,m=>by rw [fk,fv,fv,A5 l m,rY]
theorem Cu(h:k<l.length):fv (l.take (k+1))=fv (l.take k)++ey l[k]:=by
 rw [Ge,bu h,A5]
 simp [fv]
theorem NN:∀ {l:List ay}{x y:ay},x∈l→y∈ey x→y∈fv l
 | z::l,x,y,h,hy=>by
  rw [fv]
  rcases eA.1 h with rfl | h
  ·exact sa _ hy
  ·exact sb _ (NN h hy)
def fg(v:Int)(e:ay):Int:=
 if e.Kind<1∨7<e.Kind then 7 else if e.Args.length≠(if 2<e.Kind then 2 else 0) then 1 else
  if (e.Kind=1∧(e.N < -9999999∨9999999<e.N))∨(2<e.Kind∧e.N≠0) then 3 else if e.Kind=2∧(e.N<0∨v≤e.N) then 5 else 0
theorem qi{v:Int}(h:fg v e=0):(1≤e.Kind∧e.Kind≤7)∧e.Args.length=(if 2<e.Kind then 2 else 0)∧(e.Kind=1→ -9999999≤e.N∧e.N≤9999999)∧(2<e.Kind→e.N=0)∧(e.Kind=2→0≤e.N∧e.N<v):=by
 unfold fg at h
 by_cases h1:e.Kind<1∨7<e.Kind
 ·rw [af h1] at h;exact absurd h (by decide)
 rw [ah h1] at h
 by_cases h2:e.Args.length≠(if 2<e.Kind then 2 else 0)
 ·rw [af h2] at h;exact absurd h (by decide)
 rw [ah h2] at h
 by_cases h3:(e.Kind=1∧(e.N < -9999999∨9999999<e.N))∨(2<e.Kind∧e.N≠0)
 ·rw [af h3] at h;exact absurd h (by decide)
 rw [ah h3] at h
 by_cases h4:e.Kind=2∧(e.N<0∨v≤e.N)
 ·rw [af h4] at h;exact absurd h (by decide)
 exact ⟨by omega,u0.1 h2,fun k=>by omega,fun k=>by omega,fun k=>by omega⟩
def lj(v:Int):List ay→Int
 | []=>0
 | x::r=>if fg v x≠0 then fg v x else lj v r
theorem Dc(v:Int):∀ l m:List ay,lj v (l++m)=if lj v l≠0 then lj v l else lj v m
 | [],m=>by simp [lj]
 | x::l,m=>by
  rw [fk,lj,lj,Dc v l m]
  by_cases h:fg v x=0
  ·simp [h]
  ·simp [h]
theorem SE{v:Int} : ∀ {l:List ay},lj v l=0→∀ x∈l,fg v x=0
 | y::l,h,x,hx=>by
  rw [lj] at h
  by_cases hy:fg v y=0
  ·rw [ah (by simpa using hy)] at h
   rcases eA.1 hx with rfl | hx
   ·exact hy
   ·exact SE h x hx
  ·rw [af hy] at h;exact absurd h hy
def fT(n:Int):Bool:=decide (-2147483648≤n∧n≤2147483647)
theorem HV(n:Int):fT (II n)=true:=by
 simp [fT,II,IntKind.wrap,IntKind.bits,IntKind.signed];omega
theorem Xt{n:Int}(h:fT n=true):IntKind.i64.wrap n=n:=by
 simp [fT] at h
 exact wrap64 (by omega) (by omega)
theorem AK{vs:List Int}(hv:∀ x∈vs,fT x=true):∀ (n:Nat)(e:ay),sz e≤n→(∀ x∈ey e,fg vs.length x=0)→fT (c9 vs e)=true
 | 0,e,h,_=>by have:=uu e;omega
 | n+1,e,h,a=>by
  have hp:fg vs.length e=0:=a e (by rw [s9];simp)
  rw [Mo]
  unfold VP
  obtain ⟨p1,p2,p3,p4,p5⟩:=qi hp
  by_cases k1:e.Kind=1
  ·rw [af k1]
   have:=p3 k1
   simp [fT];omega
  rw [ah k1]
  by_cases k2:e.Kind=2
  ·rw [af k2]
   have h3:=p5 k2
   have h4:e.N.toNat<vs.length:=by omega
   rw [xA,bu h4]
   exact hv _ (cg h4)
  rw [ah k2]
  split
  ·exact HV _
  split
  ·exact HV _
  split
  ·exact HV _
  split
  ·split<;>rfl
  split
  ·split<;>rfl
  ·rfl
end Go.Proofs.YtlmphbbhaeampaaGreat.A
