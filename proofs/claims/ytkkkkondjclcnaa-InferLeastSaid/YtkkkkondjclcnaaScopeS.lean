/- Programs: how many commands there are, how deep they stand, what is wrong first; as plain mathematics. -/
import Derived.Test.YtkkkkondjclcnaaEvalS
import Derived.Test.YtkkkkondjclcnaaHeadF
set_option linter.unusedSectionVars false
set_option linter.unusedVariables false
set_option linter.unusedSimpArgs false
namespace Go.Proofs.Ytkkkkondjclcnaa.A
open Go
mutual
def qb:Stmt→Nat
 | ⟨_,_,_,_,_,t,e⟩=>1+bU t+bU e
def bU:List Stmt→Nat
 | []=>0
 | x::r=>qb x+bU r
end
mutual
def dep:Stmt→Nat
 | ⟨_,_,_,_,_,t,e⟩=>1+max (jN t) (jN e)
def jN:List Stmt→Nat
 | []=>0
 | x::r=>max (dep x) (jN r)
end
def andThen(q:Bool×Int)(k:Int→Bool×Int):Bool×Int:=if q.1=true then k q.2 else q
mutual
def CI:Stmt→Int→Int→Bool×Int
 | ⟨_,_,_,_,_,t,e⟩,d,n=>if n+1≤50∧d≤6 then andThen (iY t (d+1) (n+1)) (iY e (d+1)) else (false,n+1)
def iY:List Stmt→Int→Int→Bool×Int
 | [],_,n=>(true,n)
 | x::r,d,n=>andThen (CI x d n) (iY r d)
end
mutual
def ud(ck:Stmt→Int):Stmt→Int
 | ⟨k,v,o,x,a,t,e⟩=>if ck ⟨k,v,o,x,a,t,e⟩≠0 then ck ⟨k,v,o,x,a,t,e⟩ else if cH ck t≠0 then cH ck t else cH ck e
def cH(ck:Stmt→Int):List Stmt→Int
 | []=>0
 | x::r=>if ud ck x≠0 then ud ck x else cH ck r
end
theorem zb(s:Stmt):qb s=1+bU s.Then+bU s.Else:=by cases s;rw [qb]
theorem Mw(s:Stmt):dep s=1+max (jN s.Then) (jN s.Else):=by cases s;rw [dep]
theorem J5(s:Stmt)(d n:Int):CI s d n=if n+1≤50∧d≤6 then andThen (iY s.Then (d+1) (n+1)) (iY s.Else (d+1)) else (false,n+1):=by cases s;rw [CI]
theorem Er(ck:Stmt→Int)(s:Stmt):ud ck s=if ck s≠0 then ck s else if cH ck s.Then≠0 then cH ck s.Then else cH ck s.Else:=by cases s;rw [ud]
theorem J6(s:Stmt):0<qb s:=by rw [zb];omega
theorem iZ:∀ l:List Stmt,l.length≤bU l
 | []=>Nat.zero_le _
 | x::l=>by have:=iZ l;have:=J6 x;rw [bU,List.length_cons];omega
theorem CJ:∀ {l:List Stmt}{x:Stmt},x∈l→qb x≤bU l
 | y::l,x,h=>by
  rw [bU]
  rcases List.mem_cons.1 h with rfl | h
  ·omega
  ·have:=CJ h;omega
theorem CK:∀ {l:List Stmt}{x:Stmt},x∈l→dep x≤jN l
 | y::l,x,h=>by
  rw [jN]
  rcases List.mem_cons.1 h with rfl | h
  ·omega
  ·have:=CK h;omega
theorem rb{q:Bool×Int}{k:Int→Bool×Int}{m:Int} : andThen q k=(true,m)↔∃ j,q=(true,j)∧k j=(true,m):=by
 obtain ⟨b,j⟩:=q
 cases b with
 | true=>simp [andThen]
 | false=>simp [andThen]
mutual
theorem CL(s:Stmt)(d n m:Int)(hn:n≤50)(hd:d≤7):CI s d n=(true,m)↔m=n+qb s∧n+qb s≤50∧d+dep s≤7:=by
 match s with
 | ⟨k,v,o,x,a,t,e⟩=>
  rw [CI,qb,dep]
  by_cases h:n+1≤50∧d≤6
  ·rw [if_pos h,rb]
   constructor
   ·rintro ⟨j,h1,h2⟩
    obtain ⟨rfl,h3,h4⟩:=(hZ t (d+1) (n+1) j h.1 (by omega)).1 h1
    obtain ⟨rfl,h5,h6⟩:=(hZ e (d+1) _ m h3 (by omega)).1 h2
    exact ⟨by omega,by omega,by omega⟩
   ·rintro ⟨rfl,h1,h2⟩
    exact ⟨_,(hZ t (d+1) (n+1) _ h.1 (by omega)).2 ⟨rfl,by omega,by omega⟩,(hZ e (d+1) _ _ (by omega) (by omega)).2 ⟨by omega,by omega,by omega⟩⟩
  ·rw [if_neg h]
   constructor
   ·intro h1;cases h1
   ·rintro ⟨rfl,h1,h2⟩;exact absurd ⟨by omega,by omega⟩ h
theorem hZ(l:List Stmt)(d n m:Int)(hn:n≤50)(hd:d≤7):iY l d n=(true,m)↔m=n+bU l∧n+bU l≤50∧d+jN l≤7:=by
 match l with
 | []=>
  rw [iY,bU,jN]
  constructor
  ·intro h;obtain ⟨_,rfl⟩:=Prod.mk.inj h;exact ⟨by omega,by omega,by omega⟩
  ·rintro ⟨rfl,_,_⟩;simp
 | x::r=>
  rw [iY,bU,jN,rb]
  constructor
  ·rintro ⟨j,h1,h2⟩
   obtain ⟨rfl,h3,h4⟩:=(CL x d n j hn hd).1 h1
   obtain ⟨rfl,h5,h6⟩:=(hZ r d _ m h3 hd).1 h2
   exact ⟨by omega,by omega,by omega⟩
  ·rintro ⟨rfl,h1,h2⟩
   exact ⟨_,(CL x d n _ hn hd).2 ⟨rfl,by omega,by omega⟩,(hZ r d _ _ (by omega) hd).2 ⟨by omega,by omega,by omega⟩⟩
end
def eJ(k:Int):Bool:=decide (k≠4∧k<7)
def eZ(k:Int):Bool:=decide (2≤k∧k≤4)
def ez(k:Int):Bool:=decide (k≠2∧k≠3)
def iz(p:Program)(i k:Int):Int:=if k=2 then i else if k=3 then p.Ins.length else p.Outs.length
def tj(p:Program)(n:Int):Nat:=((p.Funcs[n.toNat]?).map fun f=>f.Params.length).getD 0
def bI(p:Program)(i:Int)(s:Stmt):Int:=
 if s.Kind<1∨8<s.Kind then 7
 else if (eJ s.Kind=true∧(s.Var<0∨(p.Vars.length:Int)≤s.Var))∨(eZ s.Kind=true∧(s.Other<0∨iz p i s.Kind≤s.Other)) then 5
 else if (eJ s.Kind=false∧s.Var≠0)∨(eZ s.Kind=false∧s.Other≠0)∨(ez s.Kind=false∧¬(s.Expr.Kind=0∧s.Expr.N=0∧s.Expr.Args.length=0))∨(s.Kind≠2∧0<s.Args.length)∨(s.Kind<7∧0<s.Then.length)∨(s.Kind≠7∧0<s.Else.length) then 1
 else if s.Kind=2∧s.Args.length≠tj p s.Other then 1
 else if ez s.Kind=true∧cP p s.Expr≠0 then cP p s.Expr
 else a7 (cP p) s.Args
where
 cP (p:Program) (e:aw):Int:=if 15<sz e then 2 else iX p.Vars.length (oj e)
def oX(v:Int):List Int→List Int→Int
 | _,[]=>0
 | seen,n::r=>if n<0∨v≤n then 5 else if n∈seen then 6 else oX v (seen++[n]) r
def vi(p:Program)(i:Int)(f:Func):Int:=
 if 4<f.Params.length then 2
 else if oX p.Vars.length [] f.Params≠0 then oX p.Vars.length [] f.Params
 else if cH (bI p i) f.Body≠0 then cH (bI p i) f.Body
 else bI.cP p f.Result
def mS(p:Program):Nat→List Func→Int
 | _,[]=>0
 | i,f::r=>if vi p i f≠0 then vi p i f else mS p (i+1) r
def ko(main:List Stmt):List Func→Int→Bool×Int
 | [],n=>iY main 1 n
 | f::r,n=>andThen (iY f.Body 1 n) (ko main r)
def mj(p:Program):Int:=
 if dy p.aa≠0 then dy p.aa
 else if 16<p.Vars.length∨5<p.Ins.length∨5<p.Outs.length∨5<p.Funcs.length∨p.aa.Many<(p.Speak.length:Int) then 2
 else if p.Speak.any (fun n=>!cA p.aa.Many n) then 5
 else if a7 (e9 p.aa.Many) (p.Ins++p.Outs)≠0 then a7 (e9 p.aa.Many) (p.Ins++p.Outs)
 else if a7 (fun v:Var=>e9 p.aa.Many v.Label) p.Vars≠0 then a7 (fun v:Var=>e9 p.aa.Many v.Label) p.Vars
 else if p.Vars.any (fun v=>!v.Known&&decide (0<v.Label.Read.length+v.Label.Write.length)) then 1 else 0
def jY(p:Program):Int:=
 if mj p≠0 then mj p
 else if (ko p.Main p.Funcs 0).1=false then 2
 else if mS p 0 p.Funcs≠0 then mS p 0 p.Funcs
 else cH (bI p p.Funcs.length) p.Main
abbrev cP(p:Program)(e:aw):Int:=bI.cP p e
mutual
theorem CM{ck:Stmt→Int}{s:Stmt}(h:ud ck s=0):ck s=0∧cH ck s.Then=0∧cH ck s.Else=0:=by
 rw [Er] at h
 by_cases h1:ck s=0
 ·rw [if_neg (by simp [h1])] at h
  by_cases h2:cH ck s.Then=0
  ·rw [if_neg (by simp [h2])] at h;exact ⟨h1,h2,h⟩
  ·rw [if_pos h2] at h;exact absurd h h2
 ·rw [if_pos h1] at h;exact absurd h h1
end
theorem xF{ck:Stmt→Int} : ∀ {l:List Stmt},cH ck l=0→∀ s∈l,ud ck s=0
 | y::l,h,x,hx=>by
  rw [cH] at h
  by_cases hy:ud ck y=0
  ·rw [if_neg (by simpa using hy)] at h
   rcases List.mem_cons.1 hx with rfl | hx
   ·exact hy
   ·exact xF h x hx
  ·rw [if_pos hy] at h;exact absurd h hy
theorem CN{p:Program} : ∀ {l:List Func}{i:Nat},mS p i l=0→∀ (k:Nat)(h:k<l.length),vi p (i+k:Nat) l[k]=0
 | y::l,i,h,k,hk=>by
  rw [mS] at h
  by_cases hy:vi p i y=0
  ·rw [if_neg (by simpa using hy)] at h
   cases k with
   | zero=>simpa using hy
   | succ k=>
    have:=CN h k (by simpa using hk)
    rw [show i+(k+1)=i+1+k by omega]
    simpa using this
  ·rw [if_pos hy] at h;exact absurd h hy
theorem Es{v:Int} : ∀ {seen l:List Int},oX v seen l=0→∀ n∈l,0≤n∧n<v
 | seen,y::l,h,n,hn=>by
  rw [oX] at h
  split at h
  ·exact absurd h (by decide)
  ·rename_i h1
   split at h
   ·exact absurd h (by decide)
   ·rcases List.mem_cons.1 hn with rfl | hn
    ·omega
    ·exact Es h n hn
theorem xG{main:List Stmt} : ∀ {l:List Func}{n m:Int},0≤n→n≤50→ko main l n=(true,m)→(∀ f∈l,bU f.Body≤50∧jN f.Body≤6)∧bU main≤50∧jN main≤6∧n≤m∧m≤50∧m=n+((l.map fun f=>bU f.Body).sum:Nat)+bU main
 | [],n,m,h0,hn,h=>by
  rw [ko,hZ _ _ _ _ hn (by omega)] at h
  obtain ⟨rfl,h2,h3⟩:=h
  exact ⟨fun f hf=>(by cases hf),by omega,by omega,by omega,by omega,by simp⟩
 | f::r,n,m,h0,hn,h=>by
  rw [ko,rb] at h
  obtain ⟨j,h1,h2⟩:=h
  obtain ⟨rfl,h3,h4⟩:=(hZ _ _ _ _ hn (by omega)).1 h1
  obtain ⟨h5,h6,h7,h8,h9,h10⟩:=xG (by omega) h3 h2
  refine ⟨fun g hg=>?_,h6,h7,by omega,h9,?_⟩
  ·rcases List.mem_cons.1 hg with rfl | hg
   ·exact ⟨by omega,by omega⟩
   ·exact h5 g hg
  ·rw [h10,List.map_cons,List.sum_cons];omega
structure Et(p:Program):Prop where
 jv:dy p.aa=0
 vars:p.Vars.length≤16
 ins:p.Ins.length≤5
 outs:p.Outs.length≤5
 funcs:p.Funcs.length≤5
 few:∀ f∈p.Funcs,bU f.Body≤50∧jN f.Body≤6
 main:bU p.Main≤50∧jN p.Main≤6
 fns:∀ (k:Nat)(h:k<p.Funcs.length),vi p k p.Funcs[k]=0
 mains:cH (bI p p.Funcs.length) p.Main=0
 sum:((p.Funcs.map fun f=>bU f.Body).sum:Nat)+bU p.Main≤50
theorem sN{p:Program}(h:jY p=0):Et p:=by
 unfold jY at h
 by_cases h1:mj p=0
 ·rw [if_neg (by simp [h1])] at h
  by_cases h2:(ko p.Main p.Funcs 0).1=false
  ·rw [if_pos h2] at h;exact absurd h (by decide)
  ·rw [if_neg h2] at h
   by_cases h3:mS p 0 p.Funcs=0
   ·rw [if_neg (by simp [h3])] at h
    have h2':ko p.Main p.Funcs 0=(true,(ko p.Main p.Funcs 0).2):=Prod.ext (by simpa using h2) rfl
    obtain ⟨g1,g2,g3,g4,g5,g6⟩:=xG (by decide) (by decide) h2'
    unfold mj at h1
    by_cases a1:dy p.aa=0
    ·rw [if_neg (by simp [a1])] at h1
     by_cases a2:16<p.Vars.length∨5<p.Ins.length∨5<p.Outs.length∨5<p.Funcs.length∨p.aa.Many<(p.Speak.length:Int)
     ·rw [if_pos a2] at h1;exact absurd h1 (by decide)
     ·exact ⟨a1,by omega,by omega,by omega,by omega,g1,⟨g2,g3⟩,fun k hk=>by simpa using CN h3 k hk,h,by omega⟩
    ·rw [if_pos a1] at h1;exact absurd h1 a1
   ·rw [if_pos h3] at h;exact absurd h h3
 ·rw [if_pos h1] at h;exact absurd h h1
end Go.Proofs.Ytkkkkondjclcnaa.A
