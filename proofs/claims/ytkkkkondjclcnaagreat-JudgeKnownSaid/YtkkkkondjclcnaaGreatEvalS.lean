/- Expressions: how great they are, their parts, what is wrong, what they come to; as plain mathematics. -/
import Derived.Test.YtkkkkondjclcnaaGreatFinds
import Derived.Test.YtkkkkondjclcnaaGreatTypes
set_option linter.unusedSectionVars false
set_option linter.unusedVariables false
set_option linter.unusedSimpArgs false
namespace Go.Proofs.YtkkkkondjclcnaaGreat.A
open Go
mutual
def sz:ak→Nat
 | ⟨_,_,as⟩=>1+qC as
def qC:List ak→Nat
 | []=>0
 | x::r=>sz x+qC r
end
mutual
def rT:ak→List ak
 | ⟨k,n,as⟩=>⟨k,n,as⟩::fR as
def fR:List ak→List ak
 | []=>[]
 | x::r=>rT x++fR r
end
theorem Bc(e:ak):sz e=1+qC e.Args:=by cases e;rw [sz]
theorem Eg(e:ak):rT e=e::fR e.Args:=by cases e;rw [rT]
theorem Ac(e:ak):0<sz e:=by rw [Bc];omega
theorem yG:∀ l m:List ak,qC (l++m)=qC l+qC m
 | [],m=>by simp [qC]
 | x::l,m=>by rw [List.cons_append,qC,qC,yG l m];omega
theorem J0:∀ {l:List ak}{x:ak},x∈l→sz x≤qC l
 | y::l,x,h=>by
  rw [qC]
  rcases List.mem_cons.1 h with rfl | h
  ·omega
  ·have:=J0 h;omega
theorem F4{l:List ak}{k:Nat}(h:k<l.length):qC (l.take (k+1))=qC (l.take k)+sz l[k]:=by
 rw [List.take_add_one,List.getElem?_eq_getElem h,yG]
 simp [qC]
theorem Pm(l:List ak)(k:Nat):qC (l.take k)≤qC l:=by
 have:=yG (l.take k) (l.drop k)
 rw [List.take_append_drop] at this
 omega
theorem Dd{e:ak}{k:Nat}(h:k<e.Args.length):sz e.Args[k]<sz e:=by
 have:=J0 (List.getElem_mem h)
 rw [Bc e];omega
theorem Eh:∀ l:List ak,l.length≤qC l
 | []=>Nat.zero_le _
 | x::l=>by have:=Eh l;have:=Ac x;rw [qC,List.length_cons];omega
theorem vy:∀ l m:List ak,fR (l++m)=fR l++fR m
 | [],m=>by simp [fR]
 | x::l,m=>by rw [List.cons_append,fR,fR,vy l m,List.append_assoc]
theorem De{l:List ak}{k:Nat}(h:k<l.length):fR (l.take (k+1))=fR (l.take k)++rT l[k]:=by
 rw [List.take_add_one,List.getElem?_eq_getElem h,vy]
 simp [fR]
def lU(v:Int)(e:ak):Int:=
 if e.Kind<1∨7<e.Kind then 7 else if e.Args.length≠(if 2<e.Kind then 2 else 0) then 1 else
  if (e.Kind=1∧(e.N < -9999999∨9999999<e.N))∨(2<e.Kind∧e.N≠0) then 3 else if e.Kind=2∧(e.N<0∨v≤e.N) then 5 else 0
theorem Pn{v:Int}{e:ak}(h:lU v e=0):(1≤e.Kind∧e.Kind≤7)∧e.Args.length=(if 2<e.Kind then 2 else 0)∧(e.Kind=1→ -9999999≤e.N∧e.N≤9999999)∧(2<e.Kind→e.N=0)∧(e.Kind=2→0≤e.N∧e.N<v):=by
 unfold lU at h
 by_cases h1:e.Kind<1∨7<e.Kind
 ·rw [if_pos h1] at h;exact absurd h (by decide)
 rw [if_neg h1] at h
 by_cases h2:e.Args.length≠(if 2<e.Kind then 2 else 0)
 ·rw [if_pos h2] at h;exact absurd h (by decide)
 rw [if_neg h2] at h
 by_cases h3:(e.Kind=1∧(e.N < -9999999∨9999999<e.N))∨(2<e.Kind∧e.N≠0)
 ·rw [if_pos h3] at h;exact absurd h (by decide)
 rw [if_neg h3] at h
 by_cases h4:e.Kind=2∧(e.N<0∨v≤e.N)
 ·rw [if_pos h4] at h;exact absurd h (by decide)
 exact ⟨by omega,Decidable.not_not.1 h2,fun k=>by omega,fun k=>by omega,fun k=>by omega⟩
def lK(v:Int):List ak→Int
 | []=>0
 | x::r=>if lU v x≠0 then lU v x else lK v r
theorem xl(v:Int):∀ l m:List ak,lK v (l++m)=if lK v l≠0 then lK v l else lK v m
 | [],m=>by simp [lK]
 | x::l,m=>by
  rw [List.cons_append,lK,lK,xl v l m]
  by_cases h:lU v x=0
  ·simp [h]
  ·simp [h]
theorem J1{v:Int} : ∀ {l:List ak},lK v l=0→∀ x∈l,lU v x=0
 | y::l,h,x,hx=>by
  rw [lK] at h
  by_cases hy:lU v y=0
  ·rw [if_neg (by simpa using hy)] at h
   rcases List.mem_cons.1 hx with rfl | hx
   ·exact hy
   ·exact J1 h x hx
  ·rw [if_pos hy] at h;exact absurd h hy
end Go.Proofs.YtkkkkondjclcnaaGreat.A
