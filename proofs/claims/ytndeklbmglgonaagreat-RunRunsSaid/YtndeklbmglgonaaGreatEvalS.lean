/- Expressions: how great they are, their parts, what is wrong, what they come to; as plain mathematics. -/
import Derived.Test.YtndeklbmglgonaaGreatFinds
import Derived.Test.YtndeklbmglgonaaGreatTypes
set_option linter.unusedSectionVars false
set_option linter.unusedVariables false
set_option linter.unusedSimpArgs false
namespace Go.Proofs.YtndeklbmglgonaaGreat.A
open Go
mutual
def sz:ag→Nat
 | ⟨_,_,as⟩=>1+lA as
def lA:List ag→Nat
 | []=>0
 | x::r=>sz x+lA r
end
mutual
def fi:ag→List ag
 | ⟨k,n,as⟩=>⟨k,n,as⟩::ez as
def ez:List ag→List ag
 | []=>[]
 | x::r=>fi x++ez r
end
def xL(n:Int):Int:=IntKind.i32.wrap n
def Jy(k n:Int)(vs l:List Int):Int:=
 if k=1 then n else if k=2 then vs.getD n.toNat 0 else
  if k=3 then xL (l.getD 0 0+l.getD 1 0) else if k=4 then xL (l.getD 0 0 - l.getD 1 0) else if k=5 then xL (l.getD 0 0*l.getD 1 0) else
   if k=6 then (if l.getD 0 0<l.getD 1 0 then 1 else 0) else if k=7 then (if l.getD 0 0=l.getD 1 0 then 1 else 0) else 0
mutual
def bK(vs:List Int):ag→Int
 | ⟨k,n,as⟩=>Jy k n vs (Du vs as)
def Du(vs:List Int):List ag→List Int
 | []=>[]
 | x::r=>bK vs x::Du vs r
end
theorem zk(e:ag):sz e=1+lA e.Args:=by cases e;rw [sz]
theorem sv(e:ag):fi e=e::ez e.Args:=by cases e;rw [fi]
theorem Dv(vs:List Int)(e:ag):bK vs e=Jy e.Kind e.N vs (Du vs e.Args):=by cases e;rw [bK]
theorem AK(vs:List Int):∀ l,Du vs l=l.map (bK vs)
 | []=>by rw [Du];rfl
 | x::r=>by rw [Du,AK vs r];rfl
theorem ou(e:ag):0<sz e:=by rw [zk];omega
theorem vB:∀ l m:List ag,lA (l++m)=lA l+lA m
 | [],m=>by simp [lA]
 | x::l,m=>by rw [List.cons_append,lA,lA,vB l m];omega
theorem HZ:∀ {l:List ag}{x:ag},x∈l→sz x≤lA l
 | y::l,x,h=>by
  rw [lA]
  rcases List.mem_cons.1 h with rfl | h
  ·omega
  ·have:=HZ h;omega
theorem rz{l:List ag}{k:Nat}(h:k<l.length):lA (l.take (k+1))=lA (l.take k)+sz l[k]:=by
 rw [List.take_add_one,List.getElem?_eq_getElem h,vB]
 simp [lA]
theorem vC(l:List ag)(k:Nat):lA (l.take k)≤lA l:=by
 have:=vB (l.take k) (l.drop k)
 rw [List.take_append_drop] at this
 omega
theorem ov{e:ag}{k:Nat}(h:k<e.Args.length):sz e.Args[k]<sz e:=by
 have:=HZ (List.getElem_mem h)
 rw [zk e];omega
theorem Dw:∀ l:List ag,l.length≤lA l
 | []=>Nat.zero_le _
 | x::l=>by have:=Dw l;have:=ou x;rw [lA,List.length_cons];omega
mutual
theorem AL:∀ e:ag,(fi e).length=sz e
 | ⟨k,n,as⟩=>by rw [fi,sz,List.length_cons,xM as];omega
theorem xM:∀ l:List ag,(ez l).length=lA l
 | []=>by rw [ez,lA];rfl
 | x::r=>by rw [ez,lA,List.length_append,AL x,xM r]
end
theorem sK:∀ l m:List ag,ez (l++m)=ez l++ez m
 | [],m=>by simp [ez]
 | x::l,m=>by rw [List.cons_append,ez,ez,sK l m,List.append_assoc]
theorem tR{l:List ag}{k:Nat}(h:k<l.length):ez (l.take (k+1))=ez (l.take k)++fi l[k]:=by
 rw [List.take_add_one,List.getElem?_eq_getElem h,sK]
 simp [ez]
theorem Ez:∀ {l:List ag}{x y:ag},x∈l→y∈fi x→y∈ez l
 | z::l,x,y,h,hy=>by
  rw [ez]
  rcases List.mem_cons.1 h with rfl | h
  ·exact List.mem_append_left _ hy
  ·exact List.mem_append_right _ (Ez h hy)
def df(v:Int)(e:ag):Int:=
 if e.Kind<1∨7<e.Kind then 7 else if e.Args.length≠(if 2<e.Kind then 2 else 0) then 1 else
  if (e.Kind=1∧(e.N < -9999999∨9999999<e.N))∨(2<e.Kind∧e.N≠0) then 3 else if e.Kind=2∧(e.N<0∨v≤e.N) then 5 else 0
theorem AM{v:Int}{e:ag}(h:df v e=0):(1≤e.Kind∧e.Kind≤7)∧e.Args.length=(if 2<e.Kind then 2 else 0)∧(e.Kind=1→ -9999999≤e.N∧e.N≤9999999)∧(2<e.Kind→e.N=0)∧(e.Kind=2→0≤e.N∧e.N<v):=by
 unfold df at h
 by_cases h1:e.Kind<1∨7<e.Kind
 ·rw [if_pos h1] at h;exact absurd h (by decide)
 rw [if_neg h1] at h
 by_cases h2:e.Args.length≠(if 2<e.Kind then 2 else 0)
 ·rw [if_pos h2] at h;exact absurd h (by decide)
 rw [if_neg h2] at h
 by_cases h3:(e.Kind=1∧(e.N < -9999999∨9999999<e.N))∨(2<e.Kind∧e.N≠0)
 ·rw [if_pos h3] at h;exact absurd h (by decide)
 rw [if_neg h3] at h
 by_cases h4:e.Kind=2∧(e.N<0∨v≤e.N)
 ·rw [if_pos h4] at h;exact absurd h (by decide)
 exact ⟨by omega,Decidable.not_not.1 h2,fun k=>by omega,fun k=>by omega,fun k=>by omega⟩
def gj(v:Int):List ag→Int
 | []=>0
 | x::r=>if df v x≠0 then df v x else gj v r
theorem uq(v:Int):∀ l m:List ag,gj v (l++m)=if gj v l≠0 then gj v l else gj v m
 | [],m=>by simp [gj]
 | x::l,m=>by
  rw [List.cons_append,gj,gj,uq v l m]
  by_cases h:df v x=0
  ·simp [h]
  ·simp [h]
theorem H3{v:Int} : ∀ {l:List ag},gj v l=0→∀ x∈l,df v x=0
 | y::l,h,x,hx=>by
  rw [gj] at h
  by_cases hy:df v y=0
  ·rw [if_neg (by simpa using hy)] at h
   rcases List.mem_cons.1 hx with rfl | hx
   ·exact hy
   ·exact H3 h x hx
  ·rw [if_pos hy] at h;exact absurd h hy
def dk(n:Int):Bool:=decide (-2147483648≤n∧n≤2147483647)
theorem zl(n:Int):dk (xL n)=true:=by
 simp [dk,xL,IntKind.wrap,IntKind.bits,IntKind.signed];omega
theorem KE{n:Int}(h:dk n=true):IntKind.i64.wrap n=n:=by
 simp [dk] at h
 exact wrap64 (by omega) (by omega)
theorem sA{vs:List Int}(hv:∀ x∈vs,dk x=true):∀ (n:Nat)(e:ag),sz e≤n→(∀ x∈fi e,df vs.length x=0)→dk (bK vs e)=true
 | 0,e,h,_=>by have:=ou e;omega
 | n+1,e,h,hok=>by
  have hp:df vs.length e=0:=hok e (by rw [sv];simp)
  rw [Dv]
  unfold Jy
  obtain ⟨p1,p2,p3,p4,p5⟩:=AM hp
  by_cases k1:e.Kind=1
  ·rw [if_pos k1]
   have:=p3 k1
   simp [dk];omega
  rw [if_neg k1]
  by_cases k2:e.Kind=2
  ·rw [if_pos k2]
   have h3:=p5 k2
   have h4:e.N.toNat<vs.length:=by omega
   rw [List.getD_eq_getElem?_getD,List.getElem?_eq_getElem h4]
   exact hv _ (List.getElem_mem h4)
  rw [if_neg k2]
  split
  ·exact zl _
  split
  ·exact zl _
  split
  ·exact zl _
  split
  ·split<;>rfl
  split
  ·split<;>rfl
  ·rfl
end Go.Proofs.YtndeklbmglgonaaGreat.A
