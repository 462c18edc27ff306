/- Programs: how many commands there are, how deep they stand, what is wrong first; as plain mathematics. -/
import Derived.Test.YtlmphbbhaeampaaGreatEvalS
import Derived.Test.YtlmphbbhaeampaaGreatHeadF
import Derived.Test.YtlmphbbhaeampaaGreatFA
import Derived.Test.YtlmphbbhaeampaaGreatFE
set_option linter.all false
namespace Go.Proofs.YtlmphbbhaeampaaGreat.A
open Go
mutual
def gh:Stmt→Nat
 | ⟨_,_,_,_,_,t,e⟩=>1+cP t+cP e
def cP:List Stmt→Nat
 | []=>0
 | x::r=>gh x+cP r
end
mutual
def dep:Stmt→Nat
 | ⟨_,_,_,_,_,t,e⟩=>1+max (lA t) (lA e)
def lA:List Stmt→Nat
 | []=>0
 | x::r=>max (dep x) (lA r)
end
def andThen(q:Bool×Int)(k:Int→Bool×Int):Bool×Int:=if q.1=true then k q.2 else q
mutual
def MB:Stmt→Int→Int→Bool×Int
 | ⟨_,_,_,_,_,t,e⟩,d,n=>if n+1≤50∧d≤6 then andThen (n9 t (d+1) (n+1)) (n9 e (d+1)) else (false,n+1)
def n9:List Stmt→Int→Int→Bool×Int
 | [],_,n=>(true,n)
 | x::r,d,n=>andThen (MB x d n) (n9 r d)
end
mutual
def xf(ck:Stmt→Int):Stmt→Int
 | ⟨k,v,o,x,a,t,e⟩=>if ck ⟨k,v,o,x,a,t,e⟩≠0 then ck ⟨k,v,o,x,a,t,e⟩ else if fF ck t≠0 then fF ck t else fF ck e
def fF(ck:Stmt→Int):List Stmt→Int
 | []=>0
 | x::r=>if xf ck x≠0 then xf ck x else fF ck r
end
theorem yK(s:Stmt):gh s=1+cP s.Then+cP s.Else:=by cases s;rw [gh]
theorem yL(s:Stmt):dep s=1+max (lA s.Then) (lA s.Else):=by cases s;rw [dep]
theorem V8(s:Stmt)(d n:Int):MB s d n=if n+1≤50∧d≤6 then andThen (n9 s.Then (d+1) (n+1)) (n9 s.Else (d+1)) else (false,n+1):=by cases s;rw [MB]
theorem O9(ck:Stmt→Int)(s:Stmt):xf ck s=if ck s≠0 then ck s else if fF ck s.Then≠0 then fF ck s.Then else fF ck s.Else:=by cases s;rw [xf]
theorem V9(s:Stmt):0<gh s:=by rw [yK];omega
theorem qW:∀ l:List Stmt,l.length≤cP l
 | []=>dy _
 | x::l=>by have:=qW l;grind [V9,cP]
theorem Cy:∀ {l:List Stmt}{x:Stmt},x∈l→gh x≤cP l
 | y::l,x,h=>by
  rw [cP]
  rcases dh.1 h with rfl | h
  ·omega
  ·have:=Cy h;omega
theorem Cz:∀ {l:List Stmt}{x:Stmt},x∈l→dep x≤lA l
 | y::l,x,h=>by
  rw [lA]
  rcases dh.1 h with rfl | h
  ·omega
  ·have:=Cz h;omega
variable {m:Int}
theorem yM{q:Bool×Int}{k:Int→Bool×Int}: andThen q k=(true,m)↔∃ j,q=(true,j)∧k j=(true,m):=by
 grind [andThen]
mutual
theorem MC(s:Stmt)(d n m:Int)(hn:n≤50)(hd:d≤7):MB s d n=(true,m)↔m=n+gh s∧n+gh s≤50∧d+dep s≤7:=by
 match s with
 | ⟨k,v,o,x,a,t,e⟩=>
  rw [MB,gh,dep]
  by_cases h:n+1≤50∧d≤6
  ·rw [af h,yM]
   constructor
   ·rintro ⟨j,h1,h2⟩
    obtain ⟨rfl,h3,h4⟩:=(mF t (d+1) (n+1) j h.1 (by omega)).1 h1
    obtain ⟨rfl,h5,h6⟩:=(mF e (d+1) _ m h3 (by omega)).1 h2
    grind
   ·rintro ⟨rfl,h1,h2⟩
    exact ⟨_,(mF t (d+1) (n+1) _ h.1 (by omega)).2 ⟨rfl,by omega,by omega⟩,(mF e (d+1) _ _ (by omega) (by omega)).2 (by grind)⟩
  grind
theorem mF(l:List Stmt)(d n m:Int)(hn:n≤50)(hd:d≤7):n9 l d n=(true,m)↔m=n+cP l∧n+cP l≤50∧d+lA l≤7:=by
 match l with
 | []=>
  grind [n9,cP,lA]
 | x::r=>
  rw [n9,cP,lA,yM]
  constructor
  ·rintro ⟨j,h1,h2⟩
   obtain ⟨rfl,h3,h4⟩:=(MC x d n j hn hd).1 h1
   obtain ⟨rfl,h5,h6⟩:=(mF r d _ m h3 hd).1 h2
   grind
  ·rintro ⟨rfl,h1,h2⟩
   exact ⟨_,(MC x d n _ hn hd).2 ⟨rfl,by omega,by omega⟩,(mF r d _ _ (by omega) hd).2 (by grind)⟩
end
def Bu(p:Program)(n:Int):Nat:=((p.Funcs[n.toNat]?).map fun f=>f.Params.length).getD 0
def dc(p:Program)(i:Int)(s:Stmt):Int:=
 if s.Kind<1∨8<s.Kind then 7
 else if (ir s.Kind=true∧(s.Var<0∨(p.Vars.length:Int)≤s.Var))∨(lP s.Kind=true∧(s.Other<0∨ij p i s.Kind≤s.Other)) then 5
 else if (ir s.Kind=false∧s.Var≠0)∨(lP s.Kind=false∧s.Other≠0)∨(jI s.Kind=false∧¬(s.Expr.Kind=0∧s.Expr.N=0∧s.Expr.Args.length=0))∨(s.Kind≠2∧0<s.Args.length)∨(s.Kind<7∧0<s.Then.length)∨(s.Kind≠7∧0<s.Else.length) then 1
 else if s.Kind=2∧s.Args.length≠Bu p s.Other then 1
 else if jI s.Kind=true∧fK p s.Expr≠0 then fK p s.Expr
 else c8 (fK p) s.Args
where
 fK (p:Program) (e:aK):Int:=if 15<sz e then 2 else n6 p.Vars.length (mU e)
def AM(v:Int):List Int→List Int→Int
 | _,[]=>0
 | seen,n::r=>if n<0∨v≤n then 5 else if n∈seen then 6 else AM v (seen++[n]) r
def C2(p:Program)(i:Int)(f:Func):Int:=
 if 4<f.Params.length then 2
 else if AM p.Vars.length [] f.Params≠0 then AM p.Vars.length [] f.Params
 else if fF (dc p i) f.Body≠0 then fF (dc p i) f.Body
 else dc.fK p f.Result
def s0(p:Program):Nat→List Func→Int
 | _,[]=>0
 | i,f::r=>if C2 p i f≠0 then C2 p i f else s0 p (i+1) r
def p8(main:List Stmt):List Func→Int→Bool×Int
 | [],n=>n9 main 1 n
 | f::r,n=>andThen (n9 f.Body 1 n) (p8 main r)
def sC(p:Program):Int:=
 if jV p.an≠0 then jV p.an
 else if 16<p.Vars.length∨5<p.Ins.length∨5<p.Outs.length∨5<p.Funcs.length∨p.an.Many<(p.Speak.length:Int) then 2
 else if p.Speak.any (fun n=>!dk p.an.Many n) then 5
 else if c8 (kx p.an.Many) (p.Ins++p.Outs)≠0 then c8 (kx p.an.Many) (p.Ins++p.Outs)
 else if c8 (fun v:Var=>kx p.an.Many v.Label) p.Vars≠0 then c8 (fun v:Var=>kx p.an.Many v.Label) p.Vars
 else if p.Vars.any (fun v=>!v.Known&&decide (0<v.Label.Read.length+v.Label.Write.length)) then 1 else 0
def nI(p:Program):Int:=
 if sC p≠0 then sC p
 else if (p8 p.Main p.Funcs 0).1=false then 2
 else if s0 p 0 p.Funcs≠0 then s0 p 0 p.Funcs
 else fF (dc p p.Funcs.length) p.Main
abbrev fK(p:Program)(e:aK):Int:=dc.fK p e
mutual
theorem yN{ck:Stmt→Int}{s:Stmt}(h:xf ck s=0):ck s=0∧fF ck s.Then=0∧fF ck s.Else=0:=by
 grind [O9]
end
theorem CB{ck:Stmt→Int} : ∀ {l:List Stmt},fF ck l=0→∀ s∈l,xf ck s=0
 | y::l,h,x,hx=>by
  rw [fF] at h
  by_cases hy:xf ck y=0
  ·rw [ab (by simpa using hy)] at h
   rcases dh.1 hx with rfl | hx
   ·exact hy
   ·exact CB h x hx
  grind
theorem MD{p:Program} : ∀ {l:List Func}{i:Nat},s0 p i l=0→∀ (k:Nat)(h:k<l.length),C2 p (i+k:Nat) l[k]=0
 | y::l,i,h,k,hk=>by
  rw [s0] at h
  by_cases hy:C2 p i y=0
  ·rw [ab (by simpa using hy)] at h
   cases k with
   | zero=>simpa using hy
   | succ k=>
    have:=MD h k (by simpa using hk)
    grind
  grind
theorem Pa{v:Int} : ∀ {seen l:List Int},AM v seen l=0→∀ n∈l,0≤n∧n<v
 | seen,y::l,h,n,hn=>by
  rw [AM] at h
  split at h
  ·grind
  ·rename_i h1
   split at h
   ·grind
   ·rcases dh.1 hn with rfl | hn
    ·omega
    ·exact Pa h n hn
theorem Gm{main:List Stmt} : ∀ {l:List Func}{n m:Int},0≤n→n≤50→p8 main l n=(true,m)→(∀ f∈l,cP f.Body≤50∧lA f.Body≤6)∧cP main≤50∧lA main≤6∧n≤m∧m≤50∧m=n+((l.map fun f=>cP f.Body).sum:Nat)+cP main
 | [],n,m,h0,hn,h=>by
  grind [p8,mF]
 | f::r,n,m,h0,hn,h=>by
  rw [p8,yM] at h
  obtain ⟨j,h1,h2⟩:=h
  obtain ⟨rfl,h3,h4⟩:=(mF _ _ _ _ hn (by omega)).1 h1
  obtain ⟨h5,h6,h7,h8,h9,I⟩:=Gm (by omega) h3 h2
  grind
structure FG(p:Program):Prop where
 eU:jV p.an=0
 vars:p.Vars.length≤16
 ins:p.Ins.length≤5
 outs:p.Outs.length≤5
 funcs:p.Funcs.length≤5
 few:∀ f∈p.Funcs,cP f.Body≤50∧lA f.Body≤6
 main:cP p.Main≤50∧lA p.Main≤6
 fns:∀ (k:Nat)(h:k<p.Funcs.length),C2 p k p.Funcs[k]=0
 mains:fF (dc p p.Funcs.length) p.Main=0
 sum:((p.Funcs.map fun f=>cP f.Body).sum:Nat)+cP p.Main≤50
theorem FH{p:Program}(h:nI p=0):FG p:=by
 unfold nI at h
 by_cases h1:sC p=0
 ·rw [ab (by simp [h1])] at h
  by_cases h2:(p8 p.Main p.Funcs 0).1=false
  ·grind
  ·rw [ab h2] at h
   by_cases h3:s0 p 0 p.Funcs=0
   ·rw [ab (by simp [h3])] at h
    have G:p8 p.Main p.Funcs 0=(true,(p8 p.Main p.Funcs 0).2):=Prod.ext (by simpa using h2) rfl
    obtain ⟨g1,g2,g3,g4,g5,g6⟩:=Gm (by decide) (by decide) G
    unfold sC at h1
    by_cases a1:jV p.an=0
    ·rw [ab (by simp [a1])] at h1
     by_cases a2:16<p.Vars.length∨5<p.Ins.length∨5<p.Outs.length∨5<p.Funcs.length∨p.an.Many<(p.Speak.length:Int)
     ·grind
     ·exact ⟨a1,by omega,by omega,by omega,by omega,g1,⟨g2,g3⟩,fun k hk=>by simpa using MD h3 k hk,h,by omega⟩
    grind
   grind
 grind
variable [Lp]
def T9{β γ:Type} : (Int×β)⊕(Int×γ)→Int
 | .inl p=>p.1
 | .inr p=>p.1
variable {n:Int}
theorem qm(h1 : -9223372036854775808≤n)(h2:n≤9223372036854775807):IntKind.i64.wrap n=n:=wrap64 (by omega) (by omega)
variable {k:Nat}
theorem oK(h:k<9223372036854775807):IntKind.i64.wrap ((k:Int)+1)=((k+1:Nat):Int):=kt k h
theorem adq(n:Nat):∀ (e:aK)(m:Int),sz e≤n→0≤m→m≤15→(ou n).f_scope_size e m=some (min (sz e:Int) (m+1)):=by
 induction n with
 | zero=>intro e m h;have:=Bd e;omega
 | succ n ih=>
  intro e m h hm E
  show sA (ou n) e m=_
  unfold sA
  have he:=Lj e
  obtain ⟨x,hx,hQ⟩:=kT (B:=fun v=>rv (ou n) e m v.1 v.2) (fun v=>e.Args.length - v.2)
   (fun v=>v.2≤e.Args.length∧v.1=min (1+(tr (e.Args.take v.2):Int)) (m+1)∧(v.2:Int)<v.1+1) (fun x=>T9 x=min (sz e:Int) (m+1)) (by
    rintro ⟨v,k⟩ ⟨hk,hv,F⟩
    simp only at hk hv F ⊢
    have ht:=TY e.Args k
    unfold rv
    by_cases g:k<e.Args.length
    ·rw [af (by omega),aV g,ad]
     by_cases C:m<v
     ·rw [af C]
      exact .inl ⟨_,rfl,by simp only [T9];omega⟩
     ·rw [ab C,af (qm (by omega) (by omega)),ih _ _ (by have:=D4 g;omega) (by omega) (by omega),ad]
      have hs:=KH g
      have hp:=Bd e.Args[k]
      rw [af (qm (by omega) (by omega)),af (oK (by omega))]
      exact .inr ⟨_,rfl,⟨by simp only;omega,by simp only;omega,by simp only;omega⟩,by simp only;omega⟩
    ·rw [ab (by omega)]
     have hl:e.Args.take k=e.Args:=pb (by omega)
     rw [hl] at hv
     exact .inl ⟨_,rfl,by simp only [T9];omega⟩) (1,0) ⟨dy _,by simp [tr];omega,by simp⟩
  rw [hx,ad]
  rcases x with ⟨a,b,c,d⟩ | ⟨a,b,c⟩
  ·exact av some hQ
  ·exact av some hQ
variable {e:aK}
theorem Wa(h0:0≤m)(h:m≤15):yB e m=some (min (sz e:Int) (m+1)):=
 Cm (sz e) fun n hn=>adq n e m hn h0 h
theorem Wb(e:aK)(v:Int):tP e v=some (jm v e):=by
 have j1:∀ w:Nat,w=(if 2<e.Kind then 2 else 0)→qh e w=some (decide ((e.Kind=1∧(e.N < -9999999∨9999999<e.N))∨(2<e.Kind∧e.N≠0))):=by
  intro w hw
  unfold qh ib
  by_cases h2:2<e.Kind
  ·rw [af h2] at hw
   subst hw
   have h1:¬e.Kind=1:=by omega
   by_cases hn:e.N=0<;>simp [h1,h2,hn]
  ·rw [ab h2] at hw
   subst hw
   by_cases h1:e.Kind=1
   ·by_cases h3:e.N < -9999999
    ·simp [h1,h3]
    ·by_cases h4:9999999<e.N<;>simp [h1,h3,h4]
   ·simp [h1,h2]
 have d1:∀ w:Nat,w=(if 2<e.Kind then 2 else 0)→¬(e.Kind<1∨7<e.Kind)→((nB e v w).bind fun (x4:(Unit⊕(Unit⊕(Unit⊕Unit))))=>match x4 with
   | .inl ()=>some (1:Int)
   | .inr (.inl ())=>some 3
   | .inr (.inr (.inl ()))=>some 5
   | .inr (.inr (.inr ()))=>some 0)=some (jm v e):=by
  intro w hw hk
  unfold nB jm
  rw [ab hk,←hw]
  by_cases hl:e.Args.length=w
  ·rw [j1 w hw,ab (show ¬((e.Args.length:Int) !=(w:Int))=true by simp [hl]),ab (show ¬e.Args.length≠w from fun h=>h hl),ad]
   by_cases hc:(e.Kind=1∧(e.N < -9999999∨9999999<e.N))∨(2<e.Kind∧e.N≠0)
   ·rw [af hc,aE hc];rfl
   ·rw [ab hc,aG hc,ab (by decide)]
    by_cases h2:e.Kind=2
    ·by_cases h3:e.N<0
     ·simp [h2,h3]
     ·by_cases h4:v≤e.N<;>simp [h2,h3,h4]
    ·simp [h2]
  ·rw [af (show ((e.Args.length:Int) !=(w:Int))=true by simp;omega),af (show e.Args.length≠w from hl)];rfl
 unfold tP
 by_cases h1:e.Kind<1
 ·rw [af h1];simp [jm,h1]
 rw [ab h1]
 by_cases h7:7<e.Kind
 ·rw [af h7];simp [jm,h7]
 rw [ab h7]
 by_cases h2:2<e.Kind
 ·rw [af h2]
  exact d1 2 (by rw [af h2]) (by omega)
 ·rw [ab h2]
  exact d1 0 (by rw [ab h2]) (by omega)
theorem Sj(v:Int)(e:aK):n6 v (mU e)=if jm v e≠0 then jm v e else n6 v (iz e.Args):=by rw [yd,n6]
theorem Wd(v:Int)(n:Nat):∀ (e:aK),sz e≤n→sz e≤15→(mZ n).f_scope_parts e v=some (n6 v (mU e)):=by
 induction n with
 | zero=>intro e h;have:=Bd e;omega
 | succ n ih=>
  intro e h H
  show ry (mZ n) e v=_
  unfold ry
  rw [Wb,ad,Sj]
  have he:=Lj e
  have hlen:=O4 e.Args
  by_cases hp:jm v e=0
  ·rw [ab (by simp [hp]),ab (by simp [hp])]
   obtain ⟨x,hx,hQ⟩:=kT (B:=fun k=>qi (mZ n) e v k) (fun k=>e.Args.length - k)
    (fun k=>k≤e.Args.length∧n6 v (iz (e.Args.take k))=0) (fun x=>(match x with
     | .inl y=>y
     | .inr _=>0)=n6 v (iz e.Args)) (by
     rintro k ⟨hk,hv⟩
     unfold qi
     by_cases g:k<e.Args.length
     ·rw [af (by omega),aV g,ad,ih _ (by have:=D4 g;omega) (by have:=D4 g;omega),ad]
      have hs:=Hw g
      have hf:=AH v (iz (e.Args.take k)) (mU e.Args[k])
      rw [←hs,ab (by simp [hv])] at hf
      by_cases h0:n6 v (mU e.Args[k])=0
      ·rw [ab (by simp [h0]),af (oK (by omega))]
       exact .inr ⟨_,rfl,⟨by omega,by rw [hf,h0]⟩,by omega⟩
      ·rw [af (by simp [h0])]
       refine .inl ⟨_,rfl,?_⟩
       have hd:iz e.Args=iz (e.Args.take (k+1))++iz (e.Args.drop (k+1)):=by rw [←yy,DB]
       rw [hd,AH,hf,af h0]
     ·rw [ab (by omega)]
      have hl:e.Args.take k=e.Args:=pb (by omega)
      rw [hl] at hv
      exact .inl ⟨_,rfl,hv.symm⟩) 0 ⟨dy _,by simp [iz,n6]⟩
   rw [hx,ad]
   rcases x with a | ⟨a,b⟩
   ·exact av some hQ
   ·exact av some hQ
  ·rw [af (by simp [hp]),af hp]
theorem Ua{v:Int}(h:sz e≤15):wZ e v=some (n6 v (mU e)):=Cm (sz e) fun n hn=>Wd v n e hn h
def Vw(v:Int)(e:aK):Int:=if 15<sz e then 2 else n6 v (mU e)
theorem We(e:aK)(v:Int):mB e v=some (Vw v e):=by
 unfold mB Vw
 rw [Wa (by decide) (by decide),ad]
 by_cases h:15<sz e
 ·rw [af (by omega),af h]
 ·rw [ab (by omega),ab h,Ua (by omega)];rfl
theorem Sk(n:Int):tZ n=some (jo n):=by
 unfold tZ jo
 by_cases h : -2147483648≤n<;>simp [h]
theorem Ub(b:Bool):vW b=some (if b=true then 1 else 0):=by cases b<;>rfl
theorem ME: jo n=true↔-2147483648≤n∧n≤2147483647:=by simp [jo]
theorem Wf{a b:Int}(ha:jo a=true)(hb:jo b=true) : -4611686018427387904≤a*b∧a*b≤4611686018427387904:=by
 rw [ME] at ha hb
 have h:(a*b).natAbs≤2147483648*2147483648:=by
  rw [Int.natAbs_mul]
  exact Nat.mul_le_mul (by omega) (by omega)
 omega
theorem MF(hk:k<e.Args.length){x:aK}(hx:x∈mU e.Args[k]):x∈mU e:=by
 rw [yd]
 exact zz _ (J8 (cp hk) hx)
variable {vs:List Int}
theorem Wg(hv:∀ x∈vs,jo x=true)(n:Nat):∀ (e:aK),sz e≤n→(∀ x∈mU e,jm vs.length x=0)→(sn n).f_run_Value e vs=some (cM vs e):=by
 induction n with
 | zero=>intro e h;have:=Bd e;omega
 | succ n ih=>
  intro e h z
  show tY (sn n) e vs=_
  unfold tY iS
  have hp:jm vs.length e=0:=z e (by rw [yd];simp)
  obtain ⟨p1,p2,p3,p4,p5⟩:=F7 hp
  rw [O2,Mh]
  unfold R7
  by_cases k1:e.Kind=1
  ·rw [af (by simp [k1]),af k1]
  rw [ab (by simp [k1]),ab k1]
  by_cases k2:e.Kind=2
  ·have h3:=p5 k2
   have h4:e.N.toNat<vs.length:=by omega
   rw [af (by simp [k2]),af k2,cA h3.1,ad,aV h4,fM,aV h4];rfl
  rw [ab (by simp [k2]),ab k2]
  have hl:e.Args.length=2:=by rw [p2,af (by omega)]
  have h0:0<e.Args.length:=by omega
  have h1:1<e.Args.length:=by omega
  have g0:=D4 h0
  have g1:=D4 h1
  have q0:∀ x∈mU e.Args[0],jm vs.length x=0:=fun x hx=>z x (MF h0 hx)
  have q1:∀ x∈mU e.Args[1],jm vs.length x=0:=fun x hx=>z x (MF h1 hx)
  have n0:=IV hv _ e.Args[0] (aY _) q0
  have n1:=IV hv _ e.Args[1] (aY _) q1
  rw [aV h0,ad,ih _ (by omega) q0,ad,aV h1,ad,ih _ (by omega) q1,ad]
  have e0:(e.Args.map (cM vs)).getD 0 0=cM vs e.Args[0]:=by rw [fM,nT,aV h0];rfl
  have e1:(e.Args.map (cM vs)).getD 1 0=cM vs e.Args[1]:=by rw [fM,nT,aV h1];rfl
  rw [e0,e1]
  generalize cM vs e.Args[0]=a at *
  generalize cM vs e.Args[1]=b at *
  have hm:=Wf n0 n1
  rw [ME] at n0 n1
  have D:∀ w,IntKind.i64.wrap (IntKind.i32.wrap w)=O1 w:=fun w=>TZ (EZ w)
  simp only [ad,Ub,D]
  by_cases k3:e.Kind=3
  ·rw [af (by simp [k3]),af k3,af (qm (by omega) (by omega))]
  rw [ab (by simp [k3]),ab k3]
  by_cases k4:e.Kind=4
  ·rw [af (by simp [k4]),af k4,af (qm (by omega) (by omega))]
  rw [ab (by simp [k4]),ab k4]
  by_cases k5:e.Kind=5
  ·rw [af (by simp [k5]),af k5,af (qm (by omega) (by omega))]
  rw [ab (by simp [k5]),ab k5]
  by_cases k6:e.Kind=6
  ·rw [af (by simp [k6]),af k6]
   by_cases u:a<b
   ·simp only [u,qC,aA];rfl
   ·simp only [u,decide_false,cF];rfl
  rw [ab (by simp [k6]),ab k6]
  have k7:e.Kind=7:=by omega
  rw [af (by simp [k7]),af k7]
  by_cases u:a=b
  ·simp only [u,wu,aA];rfl
  ·have:(a==b)=false:=by simp [u]
   simp only [u,this,cF];rfl
theorem Uc(hv:∀ x∈vs,jo x=true)(z:∀ x∈mU e,jm vs.length x=0):n7 e vs=some (cM vs e):=
 Cm (sz e) fun n hn=>Wg hv n e hn z
end Go.Proofs.YtlmphbbhaeampaaGreat.A
