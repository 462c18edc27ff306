/- Programs: how many commands there are, how deep they stand, what is wrong first; as plain mathematics. -/
import Derived.Test.YtdpjofmmokaobaaGreatEvalS
import Derived.Test.YtdpjofmmokaobaaGreatHeadF
set_option linter.unusedSectionVars false
set_option linter.unusedVariables false
set_option linter.unusedSimpArgs false
namespace Go.Proofs.YtdpjofmmokaobaaGreat.A
open Go
mutual
def mC:Stmt→Nat
 | ⟨_,_,_,_,_,t,e⟩=>1+cw t+cw e
def cw:List Stmt→Nat
 | []=>0
 | x::r=>mC x+cw r
end
mutual
def dep:Stmt→Nat
 | ⟨_,_,_,_,_,t,e⟩=>1+max (im t) (im e)
def im:List Stmt→Nat
 | []=>0
 | x::r=>max (dep x) (im r)
end
def andThen(q:Bool×Int)(k:Int→Bool×Int):Bool×Int:=if q.1=true then k q.2 else q
mutual
def FE:Stmt→Int→Int→Bool×Int
 | ⟨_,_,_,_,_,t,e⟩,d,n=>if n+1≤50∧d≤6 then andThen (kM t (d+1) (n+1)) (kM e (d+1)) else (false,n+1)
def kM:List Stmt→Int→Int→Bool×Int
 | [],_,n=>(true,n)
 | x::r,d,n=>andThen (FE x d n) (kM r d)
end
mutual
def xr(ck:Stmt→Int):Stmt→Int
 | ⟨k,v,o,x,a,t,e⟩=>if ck ⟨k,v,o,x,a,t,e⟩≠0 then ck ⟨k,v,o,x,a,t,e⟩ else if eg ck t≠0 then eg ck t else eg ck e
def eg(ck:Stmt→Int):List Stmt→Int
 | []=>0
 | x::r=>if xr ck x≠0 then xr ck x else eg ck r
end
theorem wx(s:Stmt):mC s=1+cw s.Then+cw s.Else:=by cases s;rw [mC]
theorem tX(s:Stmt):dep s=1+max (im s.Then) (im s.Else):=by cases s;rw [dep]
theorem NT(s:Stmt)(d n:Int):FE s d n=if n+1≤50∧d≤6 then andThen (kM s.Then (d+1) (n+1)) (kM s.Else (d+1)) else (false,n+1):=by cases s;rw [FE]
theorem HG(ck:Stmt→Int)(s:Stmt):xr ck s=if ck s≠0 then ck s else if eg ck s.Then≠0 then eg ck s.Then else eg ck s.Else:=by cases s;rw [xr]
theorem NU(s:Stmt):0<mC s:=by rw [wx];omega
theorem xt:∀ l:List Stmt,l.length≤cw l
 | []=>Nat.zero_le _
 | x::l=>by have:=xt l;have:=NU x;rw [cw,List.length_cons];omega
theorem xu:∀ {l:List Stmt}{x:Stmt},x∈l→mC x≤cw l
 | y::l,x,h=>by
  rw [cw]
  rcases List.mem_cons.1 h with rfl | h
  ·omega
  ·have:=xu h;omega
theorem xv:∀ {l:List Stmt}{x:Stmt},x∈l→dep x≤im l
 | y::l,x,h=>by
  rw [im]
  rcases List.mem_cons.1 h with rfl | h
  ·omega
  ·have:=xv h;omega
theorem tY{q:Bool×Int}{k:Int→Bool×Int}{m:Int} : andThen q k=(true,m)↔∃ j,q=(true,j)∧k j=(true,m):=by
 obtain ⟨b,j⟩:=q
 cases b with
 | true=>simp [andThen]
 | false=>simp [andThen]
mutual
theorem FF(s:Stmt)(d n m:Int)(hn:n≤50)(hd:d≤7):FE s d n=(true,m)↔m=n+mC s∧n+mC s≤50∧d+dep s≤7:=by
 match s with
 | ⟨k,v,o,x,a,t,e⟩=>
  rw [FE,mC,dep]
  by_cases h:n+1≤50∧d≤6
  ·rw [if_pos h,tY]
   constructor
   ·rintro ⟨j,h1,h2⟩
    obtain ⟨rfl,h3,h4⟩:=(jF t (d+1) (n+1) j h.1 (by omega)).1 h1
    obtain ⟨rfl,h5,h6⟩:=(jF e (d+1) _ m h3 (by omega)).1 h2
    exact ⟨by omega,by omega,by omega⟩
   ·rintro ⟨rfl,h1,h2⟩
    exact ⟨_,(jF t (d+1) (n+1) _ h.1 (by omega)).2 ⟨rfl,by omega,by omega⟩,(jF e (d+1) _ _ (by omega) (by omega)).2 ⟨by omega,by omega,by omega⟩⟩
  ·rw [if_neg h]
   constructor
   ·intro h1;cases h1
   ·rintro ⟨rfl,h1,h2⟩;exact absurd ⟨by omega,by omega⟩ h
theorem jF(l:List Stmt)(d n m:Int)(hn:n≤50)(hd:d≤7):kM l d n=(true,m)↔m=n+cw l∧n+cw l≤50∧d+im l≤7:=by
 match l with
 | []=>
  rw [kM,cw,im]
  constructor
  ·intro h;obtain ⟨_,rfl⟩:=Prod.mk.inj h;exact ⟨by omega,by omega,by omega⟩
  ·rintro ⟨rfl,_,_⟩;simp
 | x::r=>
  rw [kM,cw,im,tY]
  constructor
  ·rintro ⟨j,h1,h2⟩
   obtain ⟨rfl,h3,h4⟩:=(FF x d n j hn hd).1 h1
   obtain ⟨rfl,h5,h6⟩:=(jF r d _ m h3 hd).1 h2
   exact ⟨by omega,by omega,by omega⟩
  ·rintro ⟨rfl,h1,h2⟩
   exact ⟨_,(FF x d n _ hn hd).2 ⟨rfl,by omega,by omega⟩,(jF r d _ _ (by omega) hd).2 ⟨by omega,by omega,by omega⟩⟩
end
def iU(k:Int):Bool:=decide (k≠4∧k<7)
def iq(k:Int):Bool:=decide (2≤k∧k≤4)
def gd(k:Int):Bool:=decide (k≠2∧k≠3)
def gZ(p:Program)(i k:Int):Int:=if k=2 then i else if k=3 then p.Ins.length else p.Outs.length
def wy(p:Program)(n:Int):Nat:=((p.Funcs[n.toNat]?).map fun f=>f.Params.length).getD 0
def cC(p:Program)(i:Int)(s:Stmt):Int:=
 if s.Kind<1∨8<s.Kind then 7
 else if (iU s.Kind=true∧(s.Var<0∨(p.Vars.length:Int)≤s.Var))∨(iq s.Kind=true∧(s.Other<0∨gZ p i s.Kind≤s.Other)) then 5
 else if (iU s.Kind=false∧s.Var≠0)∨(iq s.Kind=false∧s.Other≠0)∨(gd s.Kind=false∧¬(s.Expr.Kind=0∧s.Expr.N=0∧s.Expr.Args.length=0))∨(s.Kind≠2∧0<s.Args.length)∨(s.Kind<7∧0<s.Then.length)∨(s.Kind≠7∧0<s.Else.length) then 1
 else if s.Kind=2∧s.Args.length≠wy p s.Other then 1
 else if gd s.Kind=true∧cN p s.Expr≠0 then cN p s.Expr
 else bN (cN p) s.Args
where
 cN (p:Program) (e:aC):Int:=if 15<sz e then 2 else kJ p.Vars.length (jX e)
def rl(v:Int):List Int→List Int→Int
 | _,[]=>0
 | seen,n::r=>if n<0∨v≤n then 5 else if n∈seen then 6 else rl v (seen++[n]) r
def yM(p:Program)(i:Int)(f:Func):Int:=
 if 4<f.Params.length then 2
 else if rl p.Vars.length [] f.Params≠0 then rl p.Vars.length [] f.Params
 else if eg (cC p i) f.Body≠0 then eg (cC p i) f.Body
 else cC.cN p f.Result
def oU(p:Program):Nat→List Func→Int
 | _,[]=>0
 | i,f::r=>if yM p i f≠0 then yM p i f else oU p (i+1) r
def mm(main:List Stmt):List Func→Int→Bool×Int
 | [],n=>kM main 1 n
 | f::r,n=>andThen (kM f.Body 1 n) (mm main r)
def oc(p:Program):Int:=
 if de p.af≠0 then de p.af
 else if 16<p.Vars.length∨5<p.Ins.length∨5<p.Outs.length∨5<p.Funcs.length∨p.af.Many<(p.Speak.length:Int) then 2
 else if p.Speak.any (fun n=>!cU p.af.Many n) then 5
 else if bN (fB p.af.Many) (p.Ins++p.Outs)≠0 then bN (fB p.af.Many) (p.Ins++p.Outs)
 else if bN (fun v:Var=>fB p.af.Many v.Label) p.Vars≠0 then bN (fun v:Var=>fB p.af.Many v.Label) p.Vars
 else if p.Vars.any (fun v=>!v.Known&&decide (0<v.Label.Read.length+v.Label.Write.length)) then 1 else 0
def fV(p:Program):Int:=
 if oc p≠0 then oc p
 else if (mm p.Main p.Funcs 0).1=false then 2
 else if oU p 0 p.Funcs≠0 then oU p 0 p.Funcs
 else eg (cC p p.Funcs.length) p.Main
abbrev cN(p:Program)(e:aC):Int:=cC.cN p e
mutual
theorem FG{ck:Stmt→Int}{s:Stmt}(h:xr ck s=0):ck s=0∧eg ck s.Then=0∧eg ck s.Else=0:=by
 rw [HG] at h
 by_cases h1:ck s=0
 ·rw [if_neg (by simp [h1])] at h
  by_cases h2:eg ck s.Then=0
  ·rw [if_neg (by simp [h2])] at h;exact ⟨h1,h2,h⟩
  ·rw [if_pos h2] at h;exact absurd h h2
 ·rw [if_pos h1] at h;exact absurd h h1
end
theorem FH{ck:Stmt→Int} : ∀ {l:List Stmt},eg ck l=0→∀ s∈l,xr ck s=0
 | y::l,h,x,hx=>by
  rw [eg] at h
  by_cases hy:xr ck y=0
  ·rw [if_neg (by simpa using hy)] at h
   rcases List.mem_cons.1 hx with rfl | hx
   ·exact hy
   ·exact FH h x hx
  ·rw [if_pos hy] at h;exact absurd h hy
theorem FI{p:Program} : ∀ {l:List Func}{i:Nat},oU p i l=0→∀ (k:Nat)(h:k<l.length),yM p (i+k:Nat) l[k]=0
 | y::l,i,h,k,hk=>by
  rw [oU] at h
  by_cases hy:yM p i y=0
  ·rw [if_neg (by simpa using hy)] at h
   cases k with
   | zero=>simpa using hy
   | succ k=>
    have:=FI h k (by simpa using hk)
    rw [show i+(k+1)=i+1+k by omega]
    simpa using this
  ·rw [if_pos hy] at h;exact absurd h hy
theorem HH{v:Int} : ∀ {seen l:List Int},rl v seen l=0→∀ n∈l,0≤n∧n<v
 | seen,y::l,h,n,hn=>by
  rw [rl] at h
  split at h
  ·exact absurd h (by decide)
  ·rename_i h1
   split at h
   ·exact absurd h (by decide)
   ·rcases List.mem_cons.1 hn with rfl | hn
    ·omega
    ·exact HH h n hn
theorem AS{main:List Stmt} : ∀ {l:List Func}{n m:Int},0≤n→n≤50→mm main l n=(true,m)→(∀ f∈l,cw f.Body≤50∧im f.Body≤6)∧cw main≤50∧im main≤6∧n≤m∧m≤50∧m=n+((l.map fun f=>cw f.Body).sum:Nat)+cw main
 | [],n,m,h0,hn,h=>by
  rw [mm,jF _ _ _ _ hn (by omega)] at h
  obtain ⟨rfl,h2,h3⟩:=h
  exact ⟨fun f hf=>(by cases hf),by omega,by omega,by omega,by omega,by simp⟩
 | f::r,n,m,h0,hn,h=>by
  rw [mm,tY] at h
  obtain ⟨j,h1,h2⟩:=h
  obtain ⟨rfl,h3,h4⟩:=(jF _ _ _ _ hn (by omega)).1 h1
  obtain ⟨h5,h6,h7,h8,h9,h10⟩:=AS (by omega) h3 h2
  refine ⟨fun g hg=>?_,h6,h7,by omega,h9,?_⟩
  ·rcases List.mem_cons.1 hg with rfl | hg
   ·exact ⟨by omega,by omega⟩
   ·exact h5 g hg
  ·rw [h10,List.map_cons,List.sum_cons];omega
structure R8(p:Program):Prop where
 gh:de p.af=0
 vars:p.Vars.length≤16
 ins:p.Ins.length≤5
 outs:p.Outs.length≤5
 funcs:p.Funcs.length≤5
 few:∀ f∈p.Funcs,cw f.Body≤50∧im f.Body≤6
 main:cw p.Main≤50∧im p.Main≤6
 fns:∀ (k:Nat)(h:k<p.Funcs.length),yM p k p.Funcs[k]=0
 mains:eg (cC p p.Funcs.length) p.Main=0
 sum:((p.Funcs.map fun f=>cw f.Body).sum:Nat)+cw p.Main≤50
theorem Ak{p:Program}(h:fV p=0):R8 p:=by
 unfold fV at h
 by_cases h1:oc p=0
 ·rw [if_neg (by simp [h1])] at h
  by_cases h2:(mm p.Main p.Funcs 0).1=false
  ·rw [if_pos h2] at h;exact absurd h (by decide)
  ·rw [if_neg h2] at h
   by_cases h3:oU p 0 p.Funcs=0
   ·rw [if_neg (by simp [h3])] at h
    have h2':mm p.Main p.Funcs 0=(true,(mm p.Main p.Funcs 0).2):=Prod.ext (by simpa using h2) rfl
    obtain ⟨g1,g2,g3,g4,g5,g6⟩:=AS (by decide) (by decide) h2'
    unfold oc at h1
    by_cases a1:de p.af=0
    ·rw [if_neg (by simp [a1])] at h1
     by_cases a2:16<p.Vars.length∨5<p.Ins.length∨5<p.Outs.length∨5<p.Funcs.length∨p.af.Many<(p.Speak.length:Int)
     ·rw [if_pos a2] at h1;exact absurd h1 (by decide)
     ·exact ⟨a1,by omega,by omega,by omega,by omega,g1,⟨g2,g3⟩,fun k hk=>by simpa using FI h3 k hk,h,by omega⟩
    ·rw [if_pos a1] at h1;exact absurd h1 a1
   ·rw [if_pos h3] at h;exact absurd h h3
 ·rw [if_pos h1] at h;exact absurd h h1
end Go.Proofs.YtdpjofmmokaobaaGreat.A
