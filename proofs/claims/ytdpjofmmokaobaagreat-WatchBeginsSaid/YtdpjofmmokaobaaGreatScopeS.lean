/- Programs: how many commands there are, how deep they stand, what is wrong first; as plain mathematics. -/
import Derived.Test.YtdpjofmmokaobaaGreatEvalS
import Derived.Test.YtdpjofmmokaobaaGreatHeadF
set_option linter.unusedSectionVars false
set_option linter.unusedVariables false
set_option linter.unusedSimpArgs false
namespace Go.Proofs.YtdpjofmmokaobaaGreat.A
open Go
mutual
def gw:Stmt→Nat
 | ⟨_,_,_,_,_,t,e⟩=>1+cp t+cp e
def cp:List Stmt→Nat
 | []=>0
 | x::r=>gw x+cp r
end
mutual
def dep:Stmt→Nat
 | ⟨_,_,_,_,_,t,e⟩=>1+max (gu t) (gu e)
def gu:List Stmt→Nat
 | []=>0
 | x::r=>max (dep x) (gu r)
end
def andThen(q:Bool×Int)(k:Int→Bool×Int):Bool×Int:=if q.1=true then k q.2 else q
mutual
def Gm:Stmt→Int→Int→Bool×Int
 | ⟨_,_,_,_,_,t,e⟩,d,n=>if n+1≤50∧d≤6 then andThen (lf t (d+1) (n+1)) (lf e (d+1)) else (false,n+1)
def lf:List Stmt→Int→Int→Bool×Int
 | [],_,n=>(true,n)
 | x::r,d,n=>andThen (Gm x d n) (lf r d)
end
mutual
def uv(ck:Stmt→Int):Stmt→Int
 | ⟨k,v,o,x,a,t,e⟩=>if ck ⟨k,v,o,x,a,t,e⟩≠0 then ck ⟨k,v,o,x,a,t,e⟩ else if ed ck t≠0 then ed ck t else ed ck e
def ed(ck:Stmt→Int):List Stmt→Int
 | []=>0
 | x::r=>if uv ck x≠0 then uv ck x else ed ck r
end
theorem sE(s:Stmt):gw s=1+cp s.Then+cp s.Else:=by cases s;rw [gw]
theorem mC(s:Stmt):dep s=1+max (gu s.Then) (gu s.Else):=by cases s;rw [dep]
theorem OV(s:Stmt)(d n:Int):Gm s d n=if n+1≤50∧d≤6 then andThen (lf s.Then (d+1) (n+1)) (lf s.Else (d+1)) else (false,n+1):=by cases s;rw [Gm]
theorem It(ck:Stmt→Int)(s:Stmt):uv ck s=if ck s≠0 then ck s else if ed ck s.Then≠0 then ed ck s.Then else ed ck s.Else:=by cases s;rw [uv]
theorem OW(s:Stmt):0<gw s:=by rw [sE];omega
theorem uw:∀ l:List Stmt,l.length≤cp l
 | []=>Nat.zero_le _
 | x::l=>by have:=uw l;have:=OW x;rw [cp,List.length_cons];omega
theorem ux:∀ {l:List Stmt}{x:Stmt},x∈l→gw x≤cp l
 | y::l,x,h=>by
  rw [cp]
  rcases List.mem_cons.1 h with rfl | h
  ·omega
  ·have:=ux h;omega
theorem uy:∀ {l:List Stmt}{x:Stmt},x∈l→dep x≤gu l
 | y::l,x,h=>by
  rw [gu]
  rcases List.mem_cons.1 h with rfl | h
  ·omega
  ·have:=uy h;omega
theorem uz{q:Bool×Int}{k:Int→Bool×Int}{m:Int} : andThen q k=(true,m)↔∃ j,q=(true,j)∧k j=(true,m):=by
 obtain ⟨b,j⟩:=q
 cases b with
 | true=>simp [andThen]
 | false=>simp [andThen]
mutual
theorem Gn(s:Stmt)(d n m:Int)(hn:n≤50)(hd:d≤7):Gm s d n=(true,m)↔m=n+gw s∧n+gw s≤50∧d+dep s≤7:=by
 match s with
 | ⟨k,v,o,x,a,t,e⟩=>
  rw [Gm,gw,dep]
  by_cases h:n+1≤50∧d≤6
  ·rw [if_pos h,uz]
   constructor
   ·rintro ⟨j,h1,h2⟩
    obtain ⟨rfl,h3,h4⟩:=(jP t (d+1) (n+1) j h.1 (by omega)).1 h1
    obtain ⟨rfl,h5,h6⟩:=(jP e (d+1) _ m h3 (by omega)).1 h2
    exact ⟨by omega,by omega,by omega⟩
   ·rintro ⟨rfl,h1,h2⟩
    exact ⟨_,(jP t (d+1) (n+1) _ h.1 (by omega)).2 ⟨rfl,by omega,by omega⟩,(jP e (d+1) _ _ (by omega) (by omega)).2 ⟨by omega,by omega,by omega⟩⟩
  ·rw [if_neg h]
   constructor
   ·intro h1;cases h1
   ·rintro ⟨rfl,h1,h2⟩;exact absurd ⟨by omega,by omega⟩ h
theorem jP(l:List Stmt)(d n m:Int)(hn:n≤50)(hd:d≤7):lf l d n=(true,m)↔m=n+cp l∧n+cp l≤50∧d+gu l≤7:=by
 match l with
 | []=>
  rw [lf,cp,gu]
  constructor
  ·intro h;obtain ⟨_,rfl⟩:=Prod.mk.inj h;exact ⟨by omega,by omega,by omega⟩
  ·rintro ⟨rfl,_,_⟩;simp
 | x::r=>
  rw [lf,cp,gu,uz]
  constructor
  ·rintro ⟨j,h1,h2⟩
   obtain ⟨rfl,h3,h4⟩:=(Gn x d n j hn hd).1 h1
   obtain ⟨rfl,h5,h6⟩:=(jP r d _ m h3 hd).1 h2
   exact ⟨by omega,by omega,by omega⟩
  ·rintro ⟨rfl,h1,h2⟩
   exact ⟨_,(Gn x d n _ hn hd).2 ⟨rfl,by omega,by omega⟩,(jP r d _ _ (by omega) hd).2 ⟨by omega,by omega,by omega⟩⟩
end
def jj(k:Int):Bool:=decide (k≠4∧k<7)
def iA(k:Int):Bool:=decide (2≤k∧k≤4)
def fR(k:Int):Bool:=decide (k≠2∧k≠3)
def il(p:Program)(i k:Int):Int:=if k=2 then i else if k=3 then p.Ins.length else p.Outs.length
def wW(p:Program)(n:Int):Nat:=((p.Funcs[n.toNat]?).map fun f=>f.Params.length).getD 0
def cC(p:Program)(i:Int)(s:Stmt):Int:=
 if s.Kind<1∨8<s.Kind then 7
 else if (jj s.Kind=true∧(s.Var<0∨(p.Vars.length:Int)≤s.Var))∨(iA s.Kind=true∧(s.Other<0∨il p i s.Kind≤s.Other)) then 5
 else if (jj s.Kind=false∧s.Var≠0)∨(iA s.Kind=false∧s.Other≠0)∨(fR s.Kind=false∧¬(s.Expr.Kind=0∧s.Expr.N=0∧s.Expr.Args.length=0))∨(s.Kind≠2∧0<s.Args.length)∨(s.Kind<7∧0<s.Then.length)∨(s.Kind≠7∧0<s.Else.length) then 1
 else if s.Kind=2∧s.Args.length≠wW p s.Other then 1
 else if fR s.Kind=true∧da p s.Expr≠0 then da p s.Expr
 else bR (da p) s.Args
where
 da (p:Program) (e:aE):Int:=if 15<sz e then 2 else kZ p.Vars.length (ko e)
def rv(v:Int):List Int→List Int→Int
 | _,[]=>0
 | seen,n::r=>if n<0∨v≤n then 5 else if n∈seen then 6 else rv v (seen++[n]) r
def zn(p:Program)(i:Int)(f:Func):Int:=
 if 4<f.Params.length then 2
 else if rv p.Vars.length [] f.Params≠0 then rv p.Vars.length [] f.Params
 else if ed (cC p i) f.Body≠0 then ed (cC p i) f.Body
 else cC.da p f.Result
def pd(p:Program):Nat→List Func→Int
 | _,[]=>0
 | i,f::r=>if zn p i f≠0 then zn p i f else pd p (i+1) r
def mO(main:List Stmt):List Func→Int→Bool×Int
 | [],n=>lf main 1 n
 | f::r,n=>andThen (lf f.Body 1 n) (mO main r)
def oy(p:Program):Int:=
 if fH p.ah≠0 then fH p.ah
 else if 16<p.Vars.length∨5<p.Ins.length∨5<p.Outs.length∨5<p.Funcs.length∨p.ah.Many<(p.Speak.length:Int) then 2
 else if p.Speak.any (fun n=>!dc p.ah.Many n) then 5
 else if bR (gy p.ah.Many) (p.Ins++p.Outs)≠0 then bR (gy p.ah.Many) (p.Ins++p.Outs)
 else if bR (fun v:Var=>gy p.ah.Many v.Label) p.Vars≠0 then bR (fun v:Var=>gy p.ah.Many v.Label) p.Vars
 else if p.Vars.any (fun v=>!v.Known&&decide (0<v.Label.Read.length+v.Label.Write.length)) then 1 else 0
def iN(p:Program):Int:=
 if oy p≠0 then oy p
 else if (mO p.Main p.Funcs 0).1=false then 2
 else if pd p 0 p.Funcs≠0 then pd p 0 p.Funcs
 else ed (cC p p.Funcs.length) p.Main
abbrev da(p:Program)(e:aE):Int:=cC.da p e
mutual
theorem xR{ck:Stmt→Int}{s:Stmt}(h:uv ck s=0):ck s=0∧ed ck s.Then=0∧ed ck s.Else=0:=by
 rw [It] at h
 by_cases h1:ck s=0
 ·rw [if_neg (by simp [h1])] at h
  by_cases h2:ed ck s.Then=0
  ·rw [if_neg (by simp [h2])] at h;exact ⟨h1,h2,h⟩
  ·rw [if_pos h2] at h;exact absurd h h2
 ·rw [if_pos h1] at h;exact absurd h h1
end
theorem Bs{ck:Stmt→Int} : ∀ {l:List Stmt},ed ck l=0→∀ s∈l,uv ck s=0
 | y::l,h,x,hx=>by
  rw [ed] at h
  by_cases hy:uv ck y=0
  ·rw [if_neg (by simpa using hy)] at h
   rcases List.mem_cons.1 hx with rfl | hx
   ·exact hy
   ·exact Bs h x hx
  ·rw [if_pos hy] at h;exact absurd h hy
theorem Gp{p:Program} : ∀ {l:List Func}{i:Nat},pd p i l=0→∀ (k:Nat)(h:k<l.length),zn p (i+k:Nat) l[k]=0
 | y::l,i,h,k,hk=>by
  rw [pd] at h
  by_cases hy:zn p i y=0
  ·rw [if_neg (by simpa using hy)] at h
   cases k with
   | zero=>simpa using hy
   | succ k=>
    have:=Gp h k (by simpa using hk)
    rw [show i+(k+1)=i+1+k by omega]
    simpa using this
  ·rw [if_pos hy] at h;exact absurd h hy
theorem Iu{v:Int} : ∀ {seen l:List Int},rv v seen l=0→∀ n∈l,0≤n∧n<v
 | seen,y::l,h,n,hn=>by
  rw [rv] at h
  split at h
  ·exact absurd h (by decide)
  ·rename_i h1
   split at h
   ·exact absurd h (by decide)
   ·rcases List.mem_cons.1 hn with rfl | hn
    ·omega
    ·exact Iu h n hn
theorem Bt{main:List Stmt} : ∀ {l:List Func}{n m:Int},0≤n→n≤50→mO main l n=(true,m)→(∀ f∈l,cp f.Body≤50∧gu f.Body≤6)∧cp main≤50∧gu main≤6∧n≤m∧m≤50∧m=n+((l.map fun f=>cp f.Body).sum:Nat)+cp main
 | [],n,m,h0,hn,h=>by
  rw [mO,jP _ _ _ _ hn (by omega)] at h
  obtain ⟨rfl,h2,h3⟩:=h
  exact ⟨fun f hf=>(by cases hf),by omega,by omega,by omega,by omega,by simp⟩
 | f::r,n,m,h0,hn,h=>by
  rw [mO,uz] at h
  obtain ⟨j,h1,h2⟩:=h
  obtain ⟨rfl,h3,h4⟩:=(jP _ _ _ _ hn (by omega)).1 h1
  obtain ⟨h5,h6,h7,h8,h9,h10⟩:=Bt (by omega) h3 h2
  refine ⟨fun g hg=>?_,h6,h7,by omega,h9,?_⟩
  ·rcases List.mem_cons.1 hg with rfl | hg
   ·exact ⟨by omega,by omega⟩
   ·exact h5 g hg
  ·rw [h10,List.map_cons,List.sum_cons];omega
structure S2(p:Program):Prop where
 iB:fH p.ah=0
 vars:p.Vars.length≤16
 ins:p.Ins.length≤5
 outs:p.Outs.length≤5
 funcs:p.Funcs.length≤5
 few:∀ f∈p.Funcs,cp f.Body≤50∧gu f.Body≤6
 main:cp p.Main≤50∧gu p.Main≤6
 fns:∀ (k:Nat)(h:k<p.Funcs.length),zn p k p.Funcs[k]=0
 mains:ed (cC p p.Funcs.length) p.Main=0
 sum:((p.Funcs.map fun f=>cp f.Body).sum:Nat)+cp p.Main≤50
theorem AP{p:Program}(h:iN p=0):S2 p:=by
 unfold iN at h
 by_cases h1:oy p=0
 ·rw [if_neg (by simp [h1])] at h
  by_cases h2:(mO p.Main p.Funcs 0).1=false
  ·rw [if_pos h2] at h;exact absurd h (by decide)
  ·rw [if_neg h2] at h
   by_cases h3:pd p 0 p.Funcs=0
   ·rw [if_neg (by simp [h3])] at h
    have h2':mO p.Main p.Funcs 0=(true,(mO p.Main p.Funcs 0).2):=Prod.ext (by simpa using h2) rfl
    obtain ⟨g1,g2,g3,g4,g5,g6⟩:=Bt (by decide) (by decide) h2'
    unfold oy at h1
    by_cases a1:fH p.ah=0
    ·rw [if_neg (by simp [a1])] at h1
     by_cases a2:16<p.Vars.length∨5<p.Ins.length∨5<p.Outs.length∨5<p.Funcs.length∨p.ah.Many<(p.Speak.length:Int)
     ·rw [if_pos a2] at h1;exact absurd h1 (by decide)
     ·exact ⟨a1,by omega,by omega,by omega,by omega,g1,⟨g2,g3⟩,fun k hk=>by simpa using Gp h3 k hk,h,by omega⟩
    ·rw [if_pos a1] at h1;exact absurd h1 a1
   ·rw [if_pos h3] at h;exact absurd h h3
 ·rw [if_pos h1] at h;exact absurd h h1
end Go.Proofs.YtdpjofmmokaobaaGreat.A
