/- Expressions: how great they are, their parts, what is wrong, what they come to; as plain mathematics. -/
import Derived.Test.YtkkkkondjclcnaaFinds
import Derived.Test.YtkkkkondjclcnaaTypes
set_option linter.unusedSectionVars false
set_option linter.unusedVariables false
set_option linter.unusedSimpArgs false
namespace Go.Proofs.Ytkkkkondjclcnaa.A
open Go
mutual
def sz:aw→Nat
 | ⟨_,_,as⟩=>1+nW as
def nW:List aw→Nat
 | []=>0
 | x::r=>sz x+nW r
end
mutual
def oj:aw→List aw
 | ⟨k,n,as⟩=>⟨k,n,as⟩::ew as
def ew:List aw→List aw
 | []=>[]
 | x::r=>oj x++ew r
end
theorem B0(e:aw):sz e=1+nW e.Args:=by cases e;rw [sz]
theorem zO(e:aw):oj e=e::ew e.Args:=by cases e;rw [oj]
theorem yB(e:aw):0<sz e:=by rw [B0];omega
theorem tV:∀ l m:List aw,nW (l++m)=nW l+nW m
 | [],m=>by simp [nW]
 | x::l,m=>by rw [List.cons_append,nW,nW,tV l m];omega
theorem El:∀ {l:List aw}{x:aw},x∈l→sz x≤nW l
 | y::l,x,h=>by
  rw [nW]
  rcases List.mem_cons.1 h with rfl | h
  ·omega
  ·have:=El h;omega
theorem Bt{l:List aw}{k:Nat}(h:k<l.length):nW (l.take (k+1))=nW (l.take k)+sz l[k]:=by
 rw [List.take_add_one,List.getElem?_eq_getElem h,tV]
 simp [nW]
theorem HL(l:List aw)(k:Nat):nW (l.take k)≤nW l:=by
 have:=tV (l.take k) (l.drop k)
 rw [List.take_append_drop] at this
 omega
theorem Cr{e:aw}{k:Nat}(h:k<e.Args.length):sz e.Args[k]<sz e:=by
 have:=El (List.getElem_mem h)
 rw [B0 e];omega
theorem Em:∀ l:List aw,l.length≤nW l
 | []=>Nat.zero_le _
 | x::l=>by have:=Em l;have:=yB x;rw [nW,List.length_cons];omega
theorem qT:∀ l m:List aw,ew (l++m)=ew l++ew m
 | [],m=>by simp [ew]
 | x::l,m=>by rw [List.cons_append,ew,ew,qT l m,List.append_assoc]
theorem yC{l:List aw}{k:Nat}(h:k<l.length):ew (l.take (k+1))=ew (l.take k)++oj l[k]:=by
 rw [List.take_add_one,List.getElem?_eq_getElem h,qT]
 simp [ew]
def ja(v:Int)(e:aw):Int:=
 if e.Kind<1∨7<e.Kind then 7 else if e.Args.length≠(if 2<e.Kind then 2 else 0) then 1 else
  if (e.Kind=1∧(e.N < -9999999∨9999999<e.N))∨(2<e.Kind∧e.N≠0) then 3 else if e.Kind=2∧(e.N<0∨v≤e.N) then 5 else 0
theorem HM{v:Int}{e:aw}(h:ja v e=0):(1≤e.Kind∧e.Kind≤7)∧e.Args.length=(if 2<e.Kind then 2 else 0)∧(e.Kind=1→ -9999999≤e.N∧e.N≤9999999)∧(2<e.Kind→e.N=0)∧(e.Kind=2→0≤e.N∧e.N<v):=by
 unfold ja at h
 by_cases h1:e.Kind<1∨7<e.Kind
 ·rw [if_pos h1] at h;exact absurd h (by decide)
 rw [if_neg h1] at h
 by_cases h2:e.Args.length≠(if 2<e.Kind then 2 else 0)
 ·rw [if_pos h2] at h;exact absurd h (by decide)
 rw [if_neg h2] at h
 by_cases h3:(e.Kind=1∧(e.N < -9999999∨9999999<e.N))∨(2<e.Kind∧e.N≠0)
 ·rw [if_pos h3] at h;exact absurd h (by decide)
 rw [if_neg h3] at h
 by_cases h4:e.Kind=2∧(e.N<0∨v≤e.N)
 ·rw [if_pos h4] at h;exact absurd h (by decide)
 exact ⟨by omega,Decidable.not_not.1 h2,fun k=>by omega,fun k=>by omega,fun k=>by omega⟩
def iX(v:Int):List aw→Int
 | []=>0
 | x::r=>if ja v x≠0 then ja v x else iX v r
theorem sJ(v:Int):∀ l m:List aw,iX v (l++m)=if iX v l≠0 then iX v l else iX v m
 | [],m=>by simp [iX]
 | x::l,m=>by
  rw [List.cons_append,iX,iX,sJ v l m]
  by_cases h:ja v x=0
  ·simp [h]
  ·simp [h]
theorem En{v:Int} : ∀ {l:List aw},iX v l=0→∀ x∈l,ja v x=0
 | y::l,h,x,hx=>by
  rw [iX] at h
  by_cases hy:ja v y=0
  ·rw [if_neg (by simpa using hy)] at h
   rcases List.mem_cons.1 hx with rfl | hx
   ·exact hy
   ·exact En h x hx
  ·rw [if_pos hy] at h;exact absurd h hy
end Go.Proofs.Ytkkkkondjclcnaa.A
