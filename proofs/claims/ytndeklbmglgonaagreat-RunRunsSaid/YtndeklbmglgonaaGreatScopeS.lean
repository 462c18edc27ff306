/- Programs: how many commands there are, how deep they stand, what is wrong first; as plain mathematics. -/
import Derived.Test.YtndeklbmglgonaaGreatEvalS
import Derived.Test.YtndeklbmglgonaaGreatHeadF
set_option linter.unusedSectionVars false
set_option linter.unusedVariables false
set_option linter.unusedSimpArgs false
namespace Go.Proofs.YtndeklbmglgonaaGreat.A
open Go
mutual
def eh:Stmt→Nat
 | ⟨_,_,_,_,_,t,e⟩=>1+aZ t+aZ e
def aZ:List Stmt→Nat
 | []=>0
 | x::r=>eh x+aZ r
end
mutual
def dep:Stmt→Nat
 | ⟨_,_,_,_,_,t,e⟩=>1+max (cC t) (cC e)
def cC:List Stmt→Nat
 | []=>0
 | x::r=>max (dep x) (cC r)
end
def andThen(q:Bool×Int)(k:Int→Bool×Int):Bool×Int:=if q.1=true then k q.2 else q
mutual
def F2:Stmt→Int→Int→Bool×Int
 | ⟨_,_,_,_,_,t,e⟩,d,n=>if n+1≤50∧d≤6 then andThen (ko t (d+1) (n+1)) (ko e (d+1)) else (false,n+1)
def ko:List Stmt→Int→Int→Bool×Int
 | [],_,n=>(true,n)
 | x::r,d,n=>andThen (F2 x d n) (ko r d)
end
mutual
def rL(ck:Stmt→Int):Stmt→Int
 | ⟨k,v,o,x,a,t,e⟩=>if ck ⟨k,v,o,x,a,t,e⟩≠0 then ck ⟨k,v,o,x,a,t,e⟩ else if cH ck t≠0 then cH ck t else cH ck e
def cH(ck:Stmt→Int):List Stmt→Int
 | []=>0
 | x::r=>if rL ck x≠0 then rL ck x else cH ck r
end
theorem mJ(s:Stmt):eh s=1+aZ s.Then+aZ s.Else:=by cases s;rw [eh]
theorem lE(s:Stmt):dep s=1+max (cC s.Then) (cC s.Else):=by cases s;rw [dep]
theorem MU(s:Stmt)(d n:Int):F2 s d n=if n+1≤50∧d≤6 then andThen (ko s.Then (d+1) (n+1)) (ko s.Else (d+1)) else (false,n+1):=by cases s;rw [F2]
theorem zm(ck:Stmt→Int)(s:Stmt):rL ck s=if ck s≠0 then ck s else if cH ck s.Then≠0 then cH ck s.Then else cH ck s.Else:=by cases s;rw [rL]
theorem MV(s:Stmt):0<eh s:=by rw [mJ];omega
theorem jh:∀ l:List Stmt,l.length≤aZ l
 | []=>Nat.zero_le _
 | x::l=>by have:=jh l;have:=MV x;rw [aZ,List.length_cons];omega
theorem mK:∀ {l:List Stmt}{x:Stmt},x∈l→eh x≤aZ l
 | y::l,x,h=>by
  rw [aZ]
  rcases List.mem_cons.1 h with rfl | h
  ·omega
  ·have:=mK h;omega
theorem o9:∀ {l:List Stmt}{x:Stmt},x∈l→dep x≤cC l
 | y::l,x,h=>by
  rw [cC]
  rcases List.mem_cons.1 h with rfl | h
  ·omega
  ·have:=o9 h;omega
theorem s0{q:Bool×Int}{k:Int→Bool×Int}{m:Int} : andThen q k=(true,m)↔∃ j,q=(true,j)∧k j=(true,m):=by
 obtain ⟨b,j⟩:=q
 cases b with
 | true=>simp [andThen]
 | false=>simp [andThen]
mutual
theorem F3(s:Stmt)(d n m:Int)(hn:n≤50)(hd:d≤7):F2 s d n=(true,m)↔m=n+eh s∧n+eh s≤50∧d+dep s≤7:=by
 match s with
 | ⟨k,v,o,x,a,t,e⟩=>
  rw [F2,eh,dep]
  by_cases h:n+1≤50∧d≤6
  ·rw [if_pos h,s0]
   constructor
   ·rintro ⟨j,h1,h2⟩
    obtain ⟨rfl,h3,h4⟩:=(fW t (d+1) (n+1) j h.1 (by omega)).1 h1
    obtain ⟨rfl,h5,h6⟩:=(fW e (d+1) _ m h3 (by omega)).1 h2
    exact ⟨by omega,by omega,by omega⟩
   ·rintro ⟨rfl,h1,h2⟩
    exact ⟨_,(fW t (d+1) (n+1) _ h.1 (by omega)).2 ⟨rfl,by omega,by omega⟩,(fW e (d+1) _ _ (by omega) (by omega)).2 ⟨by omega,by omega,by omega⟩⟩
  ·rw [if_neg h]
   constructor
   ·intro h1;cases h1
   ·rintro ⟨rfl,h1,h2⟩;exact absurd ⟨by omega,by omega⟩ h
theorem fW(l:List Stmt)(d n m:Int)(hn:n≤50)(hd:d≤7):ko l d n=(true,m)↔m=n+aZ l∧n+aZ l≤50∧d+cC l≤7:=by
 match l with
 | []=>
  rw [ko,aZ,cC]
  constructor
  ·intro h;obtain ⟨_,rfl⟩:=Prod.mk.inj h;exact ⟨by omega,by omega,by omega⟩
  ·rintro ⟨rfl,_,_⟩;simp
 | x::r=>
  rw [ko,aZ,cC,s0]
  constructor
  ·rintro ⟨j,h1,h2⟩
   obtain ⟨rfl,h3,h4⟩:=(F3 x d n j hn hd).1 h1
   obtain ⟨rfl,h5,h6⟩:=(fW r d _ m h3 hd).1 h2
   exact ⟨by omega,by omega,by omega⟩
  ·rintro ⟨rfl,h1,h2⟩
   exact ⟨_,(F3 x d n _ hn hd).2 ⟨rfl,by omega,by omega⟩,(fW r d _ _ (by omega) hd).2 ⟨by omega,by omega,by omega⟩⟩
end
def dY(k:Int):Bool:=decide (k≠4∧k<7)
def dB(k:Int):Bool:=decide (2≤k∧k≤4)
def dH(k:Int):Bool:=decide (k≠2∧k≠3)
def eF(p:Program)(i k:Int):Int:=if k=2 then i else if k=3 then p.Ins.length else p.Outs.length
def oD(p:Program)(n:Int):Nat:=((p.Funcs[n.toNat]?).map fun f=>f.Params.length).getD 0
def bA(p:Program)(i:Int)(s:Stmt):Int:=
 if s.Kind<1∨8<s.Kind then 7
 else if (dY s.Kind=true∧(s.Var<0∨(p.Vars.length:Int)≤s.Var))∨(dB s.Kind=true∧(s.Other<0∨eF p i s.Kind≤s.Other)) then 5
 else if (dY s.Kind=false∧s.Var≠0)∨(dB s.Kind=false∧s.Other≠0)∨(dH s.Kind=false∧¬(s.Expr.Kind=0∧s.Expr.N=0∧s.Expr.Args.length=0))∨(s.Kind≠2∧0<s.Args.length)∨(s.Kind<7∧0<s.Then.length)∨(s.Kind≠7∧0<s.Else.length) then 1
 else if s.Kind=2∧s.Args.length≠oD p s.Other then 1
 else if dH s.Kind=true∧bQ p s.Expr≠0 then bQ p s.Expr
 else aT (bQ p) s.Args
where
 bQ (p:Program) (e:ag):Int:=if 15<sz e then 2 else gj p.Vars.length (fi e)
def lj(v:Int):List Int→List Int→Int
 | _,[]=>0
 | seen,n::r=>if n<0∨v≤n then 5 else if n∈seen then 6 else lj v (seen++[n]) r
def oE(p:Program)(i:Int)(f:Func):Int:=
 if 4<f.Params.length then 2
 else if lj p.Vars.length [] f.Params≠0 then lj p.Vars.length [] f.Params
 else if cH (bA p i) f.Body≠0 then cH (bA p i) f.Body
 else bA.bQ p f.Result
def gN(p:Program):Nat→List Func→Int
 | _,[]=>0
 | i,f::r=>if oE p i f≠0 then oE p i f else gN p (i+1) r
def gO(main:List Stmt):List Func→Int→Bool×Int
 | [],n=>ko main 1 n
 | f::r,n=>andThen (ko f.Body 1 n) (gO main r)
def oR(p:Program):Int:=
 if fQ p.an≠0 then fQ p.an
 else if 16<p.Vars.length∨5<p.Ins.length∨5<p.Outs.length∨5<p.Funcs.length∨p.an.Many<(p.Speak.length:Int) then 2
 else if p.Speak.any (fun n=>!cm p.an.Many n) then 5
 else if aT (dA p.an.Many) (p.Ins++p.Outs)≠0 then aT (dA p.an.Many) (p.Ins++p.Outs)
 else if aT (fun v:Var=>dA p.an.Many v.Label) p.Vars≠0 then aT (fun v:Var=>dA p.an.Many v.Label) p.Vars
 else if p.Vars.any (fun v=>!v.Known&&decide (0<v.Label.Read.length+v.Label.Write.length)) then 1 else 0
def fR(p:Program):Int:=
 if oR p≠0 then oR p
 else if (gO p.Main p.Funcs 0).1=false then 2
 else if gN p 0 p.Funcs≠0 then gN p 0 p.Funcs
 else cH (bA p p.Funcs.length) p.Main
abbrev bQ(p:Program)(e:ag):Int:=bA.bQ p e
mutual
theorem A6{ck:Stmt→Int}{s:Stmt}(h:rL ck s=0):ck s=0∧cH ck s.Then=0∧cH ck s.Else=0:=by
 rw [zm] at h
 by_cases h1:ck s=0
 ·rw [if_neg (by simp [h1])] at h
  by_cases h2:cH ck s.Then=0
  ·rw [if_neg (by simp [h2])] at h;exact ⟨h1,h2,h⟩
  ·rw [if_pos h2] at h;exact absurd h h2
 ·rw [if_pos h1] at h;exact absurd h h1
end
theorem A7{ck:Stmt→Int} : ∀ {l:List Stmt},cH ck l=0→∀ s∈l,rL ck s=0
 | y::l,h,x,hx=>by
  rw [cH] at h
  by_cases hy:rL ck y=0
  ·rw [if_neg (by simpa using hy)] at h
   rcases List.mem_cons.1 hx with rfl | hx
   ·exact hy
   ·exact A7 h x hx
  ·rw [if_pos hy] at h;exact absurd h hy
theorem F4{p:Program} : ∀ {l:List Func}{i:Nat},gN p i l=0→∀ (k:Nat)(h:k<l.length),oE p (i+k:Nat) l[k]=0
 | y::l,i,h,k,hk=>by
  rw [gN] at h
  by_cases hy:oE p i y=0
  ·rw [if_neg (by simpa using hy)] at h
   cases k with
   | zero=>simpa using hy
   | succ k=>
    have:=F4 h k (by simpa using hk)
    rw [show i+(k+1)=i+1+k by omega]
    simpa using this
  ·rw [if_pos hy] at h;exact absurd h hy
theorem H5{v:Int} : ∀ {seen l:List Int},lj v seen l=0→∀ n∈l,0≤n∧n<v
 | seen,y::l,h,n,hn=>by
  rw [lj] at h
  split at h
  ·exact absurd h (by decide)
  ·rename_i h1
   split at h
   ·exact absurd h (by decide)
   ·rcases List.mem_cons.1 hn with rfl | hn
    ·omega
    ·exact H5 h n hn
theorem vR{main:List Stmt} : ∀ {l:List Func}{n m:Int},0≤n→n≤50→gO main l n=(true,m)→(∀ f∈l,aZ f.Body≤50∧cC f.Body≤6)∧aZ main≤50∧cC main≤6∧n≤m∧m≤50∧m=n+((l.map fun f=>aZ f.Body).sum:Nat)+aZ main
 | [],n,m,h0,hn,h=>by
  rw [gO,fW _ _ _ _ hn (by omega)] at h
  obtain ⟨rfl,h2,h3⟩:=h
  exact ⟨fun f hf=>(by cases hf),by omega,by omega,by omega,by omega,by simp⟩
 | f::r,n,m,h0,hn,h=>by
  rw [gO,s0] at h
  obtain ⟨j,h1,h2⟩:=h
  obtain ⟨rfl,h3,h4⟩:=(fW _ _ _ _ hn (by omega)).1 h1
  obtain ⟨h5,h6,h7,h8,h9,h10⟩:=vR (by omega) h3 h2
  refine ⟨fun g hg=>?_,h6,h7,by omega,h9,?_⟩
  ·rcases List.mem_cons.1 hg with rfl | hg
   ·exact ⟨by omega,by omega⟩
   ·exact h5 g hg
  ·rw [h10,List.map_cons,List.sum_cons];omega
structure Mx(p:Program):Prop where
 acts:fQ p.an=0
 vars:p.Vars.length≤16
 ins:p.Ins.length≤5
 outs:p.Outs.length≤5
 funcs:p.Funcs.length≤5
 few:∀ f∈p.Funcs,aZ f.Body≤50∧cC f.Body≤6
 main:aZ p.Main≤50∧cC p.Main≤6
 fns:∀ (k:Nat)(h:k<p.Funcs.length),oE p k p.Funcs[k]=0
 mains:cH (bA p p.Funcs.length) p.Main=0
 sum:((p.Funcs.map fun f=>aZ f.Body).sum:Nat)+aZ p.Main≤50
theorem uy{p:Program}(h:fR p=0):Mx p:=by
 unfold fR at h
 by_cases h1:oR p=0
 ·rw [if_neg (by simp [h1])] at h
  by_cases h2:(gO p.Main p.Funcs 0).1=false
  ·rw [if_pos h2] at h;exact absurd h (by decide)
  ·rw [if_neg h2] at h
   by_cases h3:gN p 0 p.Funcs=0
   ·rw [if_neg (by simp [h3])] at h
    have h2':gO p.Main p.Funcs 0=(true,(gO p.Main p.Funcs 0).2):=Prod.ext (by simpa using h2) rfl
    obtain ⟨g1,g2,g3,g4,g5,g6⟩:=vR (by decide) (by decide) h2'
    unfold oR at h1
    by_cases a1:fQ p.an=0
    ·rw [if_neg (by simp [a1])] at h1
     by_cases a2:16<p.Vars.length∨5<p.Ins.length∨5<p.Outs.length∨5<p.Funcs.length∨p.an.Many<(p.Speak.length:Int)
     ·rw [if_pos a2] at h1;exact absurd h1 (by decide)
     ·exact ⟨a1,by omega,by omega,by omega,by omega,g1,⟨g2,g3⟩,fun k hk=>by simpa using F4 h3 k hk,h,by omega⟩
    ·rw [if_pos a1] at h1;exact absurd h1 a1
   ·rw [if_pos h3] at h;exact absurd h h3
 ·rw [if_pos h1] at h;exact absurd h h1
end Go.Proofs.YtndeklbmglgonaaGreat.A
