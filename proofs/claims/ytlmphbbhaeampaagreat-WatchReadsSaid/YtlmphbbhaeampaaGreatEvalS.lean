/- Expressions: how great they are, their parts, what is wrong, what they come to; as plain mathematics. -/
import Derived.Test.YtlmphbbhaeampaaGreatBase
import Derived.Test.YtlmphbbhaeampaaGreatTypes
set_option linter.all false
namespace Go.Proofs.YtlmphbbhaeampaaGreat.A
open Go
mutual
def sz:aK→Nat
 | ⟨_,_,as⟩=>1+tr as
def tr:List aK→Nat
 | []=>0
 | x::r=>sz x+tr r
end
mutual
def mU:aK→List aK
 | ⟨k,n,as⟩=>⟨k,n,as⟩::iz as
def iz:List aK→List aK
 | []=>[]
 | x::r=>mU x++iz r
end
def O1(n:Int):Int:=IntKind.i32.wrap n
def R7(k n:Int)(vs l:List Int):Int:=
 if k=1 then n else if k=2 then vs.getD n.toNat 0 else
  if k=3 then O1 (l.getD 0 0+l.getD 1 0) else if k=4 then O1 (l.getD 0 0 - l.getD 1 0) else if k=5 then O1 (l.getD 0 0*l.getD 1 0) else
   if k=6 then (if l.getD 0 0<l.getD 1 0 then 1 else 0) else if k=7 then (if l.getD 0 0=l.getD 1 0 then 1 else 0) else 0
mutual
def cM(vs:List Int):aK→Int
 | ⟨k,n,as⟩=>R7 k n vs (AG vs as)
def AG(vs:List Int):List aK→List Int
 | []=>[]
 | x::r=>cM vs x::AG vs r
end
theorem Lj(e:aK):sz e=1+tr e.Args:=by cases e;rw [sz]
theorem yd(e:aK):mU e=e::iz e.Args:=by cases e;rw [mU]
theorem O2(vs:List Int)(e:aK):cM vs e=R7 e.Kind e.N vs (AG vs e.Args):=by cases e;rw [cM]
theorem Mh(vs:List Int):∀ l,AG vs l=l.map (cM vs)
 | []=>by rw [AG];rfl
 | x::r=>by rw [AG,Mh vs r];rfl
theorem Bd(e:aK):0<sz e:=by rw [Lj];omega
theorem Co:∀ l m:List aK,tr (l++m)=tr l+tr m
 | [],m=>by simp [tr]
 | x::l,m=>by rw [eZ,tr,tr,Co l m];omega
theorem O3:∀ {l:List aK}{x:aK},x∈l→sz x≤tr l
 | y::l,x,h=>by
  rw [tr]
  rcases dh.1 h with rfl | h
  ·omega
  ·have:=O3 h;omega
variable {l:List aK}{k:Nat}
theorem KH(h:k<l.length):tr (l.take (k+1))=tr (l.take k)+sz l[k]:=by
 rw [DA,aV h,Co]
 simp [tr]
theorem TY(l:List aK)(k:Nat):tr (l.take k)≤tr l:=by
 have:=Co (l.take k) (l.drop k)
 rw [DB] at this
 omega
variable {e:aK}
theorem D4(h:k<e.Args.length):sz e.Args[k]<sz e:=by
 have:=O3 (cp h)
 rw [Lj e];omega
theorem O4:∀ l:List aK,l.length≤tr l
 | []=>dy _
 | x::l=>by have:=O4 l;have:=Bd x;rw [tr,eM];omega
theorem yy:∀ l m:List aK,iz (l++m)=iz l++iz m
 | [],m=>by simp [iz]
 | x::l,m=>by rw [eZ,iz,iz,yy l m,o7]
theorem Hw(h:k<l.length):iz (l.take (k+1))=iz (l.take k)++mU l[k]:=by
 rw [DA,aV h,yy]
 simp [iz]
theorem J8:∀ {l:List aK}{x y:aK},x∈l→y∈mU x→y∈iz l
 | z::l,x,y,h,hy=>by
  rw [iz]
  rcases dh.1 h with rfl | h
  ·exact o9 _ hy
  ·exact qF _ (J8 h hy)
def jm(v:Int)(e:aK):Int:=
 if e.Kind<1∨7<e.Kind then 7 else if e.Args.length≠(if 2<e.Kind then 2 else 0) then 1 else
  if (e.Kind=1∧(e.N < -9999999∨9999999<e.N))∨(2<e.Kind∧e.N≠0) then 3 else if e.Kind=2∧(e.N<0∨v≤e.N) then 5 else 0
theorem F7{v:Int}(h:jm v e=0):(1≤e.Kind∧e.Kind≤7)∧e.Args.length=(if 2<e.Kind then 2 else 0)∧(e.Kind=1→ -9999999≤e.N∧e.N≤9999999)∧(2<e.Kind→e.N=0)∧(e.Kind=2→0≤e.N∧e.N<v):=by
 unfold jm at h
 by_cases h1:e.Kind<1∨7<e.Kind
 ·rw [af h1] at h;exact absurd h (by decide)
 rw [ab h1] at h
 by_cases h2:e.Args.length≠(if 2<e.Kind then 2 else 0)
 ·rw [af h2] at h;exact absurd h (by decide)
 rw [ab h2] at h
 by_cases h3:(e.Kind=1∧(e.N < -9999999∨9999999<e.N))∨(2<e.Kind∧e.N≠0)
 ·rw [af h3] at h;exact absurd h (by decide)
 rw [ab h3] at h
 by_cases h4:e.Kind=2∧(e.N<0∨v≤e.N)
 ·rw [af h4] at h;exact absurd h (by decide)
 exact ⟨by omega,sQ.1 h2,fun k=>by omega,fun k=>by omega,fun k=>by omega⟩
def n6(v:Int):List aK→Int
 | []=>0
 | x::r=>if jm v x≠0 then jm v x else n6 v r
theorem AH(v:Int):∀ l m:List aK,n6 v (l++m)=if n6 v l≠0 then n6 v l else n6 v m
 | [],m=>by simp [n6]
 | x::l,m=>by
  rw [eZ,n6,n6,AH v l m]
  by_cases h:jm v x=0
  ·simp [h]
  ·simp [h]
theorem O5{v:Int} : ∀ {l:List aK},n6 v l=0→∀ x∈l,jm v x=0
 | y::l,h,x,hx=>by
  rw [n6] at h
  by_cases hy:jm v y=0
  ·rw [ab (by simpa using hy)] at h
   rcases dh.1 hx with rfl | hx
   ·exact hy
   ·exact O5 h x hx
  ·rw [af hy] at h;exact absurd h hy
def jo(n:Int):Bool:=decide (-2147483648≤n∧n≤2147483647)
theorem EZ(n:Int):jo (O1 n)=true:=by
 simp [jo,O1,IntKind.wrap,IntKind.bits,IntKind.signed];omega
theorem TZ{n:Int}(h:jo n=true):IntKind.i64.wrap n=n:=by
 simp [jo] at h
 exact wrap64 (by omega) (by omega)
theorem IV{vs:List Int}(hv:∀ x∈vs,jo x=true):∀ (n:Nat)(e:aK),sz e≤n→(∀ x∈mU e,jm vs.length x=0)→jo (cM vs e)=true
 | 0,e,h,_=>by have:=Bd e;omega
 | n+1,e,h,a=>by
  have hp:jm vs.length e=0:=a e (by rw [yd];simp)
  rw [O2]
  unfold R7
  obtain ⟨p1,p2,p3,p4,p5⟩:=F7 hp
  by_cases k1:e.Kind=1
  ·rw [af k1]
   have:=p3 k1
   simp [jo];omega
  rw [ab k1]
  by_cases k2:e.Kind=2
  ·rw [af k2]
   have h3:=p5 k2
   have h4:e.N.toNat<vs.length:=by omega
   rw [fM,aV h4]
   exact hv _ (cp h4)
  rw [ab k2]
  split
  ·exact EZ _
  split
  ·exact EZ _
  split
  ·exact EZ _
  split
  ·split<;>rfl
  split
  ·split<;>rfl
  ·rfl
end Go.Proofs.YtlmphbbhaeampaaGreat.A
