/- Programs: the program's own check of them answers as plain mathematics says. -/
import Derived.Test.YtkkkkondjclcnaaGreatScopeS
set_option linter.all false
namespace Go.Proofs.YtkkkkondjclcnaaGreat.A
open Go
variable [Lp]
theorem ajl(n:Nat):∀ (l:List Stmt)(d c:Int),1≤d→d≤7→8 - d≤n→0≤c→c≤50→(ec n).f_scope_Walk__scope_few_1 l d c=some (mY l d c):=by
 induction n with
 | zero=>intro l d c h1 h2 h3;omega
 | succ n ih=>
  intro l d c h1 h2 h3 h4 h5
  show gR (ec n) l d c=_
  unfold gR
  obtain ⟨x,hx,hQ⟩:=j0 (B:=fun v=>gG (ec n) l d v.1 v.2) (fun v=>l.length - v.1)
   (fun v=>v.1≤l.length∧mY l d c=mY (l.drop v.1) d v.2∧0≤v.2∧v.2≤50∧(v.1:Int)≤v.2)
   (fun x=>(match x with
    | .inl y=>(false,y)
    | .inr (_,_,y)=>(true,y))=mY l d c) (by
    rintro ⟨k,c'⟩ ⟨hk,he,g1,g2,g3⟩
    simp only at hk he g1 g2 g3 ⊢
    unfold gG wJ
    by_cases hlt:k<l.length
    ·rw [kg hlt,mY,Wo] at he
     rw [aa (by omega),aA hlt,ae,aa (wc (by omega) (by omega))]
     generalize l[k]=s at *
     by_cases hc:c'+1≤50
     ·rw [aa hc]
      by_cases hd:d≤6
      ·rw [aa ⟨hc,hd⟩] at he
       simp only [ae,hd,oa,an]
       rw [aa (wc (by omega) (by omega)),ih _ _ _ (by omega) (by omega) (by omega) (by omega) (by omega),ae]
       cases ht:mY s.Then (d+1) (c'+1) with
       | mk b m=>
        cases b with
        | false=>
         rw [ht] at he
         refine .inl ⟨_,rfl,?_⟩
         rw [he];rfl
        | true=>
         obtain ⟨rfl,q1,q2⟩:=(jx _ _ _ _ (by omega) (by omega)).1 ht
         rw [ht] at he
         simp only [an]
         rw [ih _ _ _ (by omega) (by omega) (by omega) (by omega) (by omega),ae]
         simp only [andThen,an] at he
         cases hel:mY s.Else (d+1) (c'+1+(bb s.Then:Int)) with
         | mk b m=>
          rw [hel] at he
          cases b with
          | false=>exact .inl ⟨_,rfl,by rw [he];rfl⟩
          | true=>
           obtain ⟨rfl,q3,q4⟩:=(jx _ _ _ _ (by omega) (by omega)).1 hel
           simp only [an] at he ⊢
           rw [aa (m7 (by omega))]
           exact .inr ⟨_,rfl,⟨by simp only;omega,he,by simp only;omega,by simp only;omega,by simp only;omega⟩,by simp only;omega⟩
      ·rw [ab (by omega)] at he
       simp only [ae,hd,p6,bn,aI]
       exact .inl ⟨_,rfl,by rw [he];rfl⟩
     ·rw [ab hc]
      rw [ab (by omega)] at he
      simp only [ae,bn,aI]
      exact .inl ⟨_,rfl,by rw [he];rfl⟩
    ·rw [p9 (by omega),mY] at he
     rw [ab (by omega)]
     exact .inl ⟨_,rfl,he.symm⟩) (0,c) ⟨b9 _,rfl,h4,h5,by simpa using h4⟩
  rw [hx,ae]
  rcases x with a | ⟨a,b,e⟩
  ·exact ak some hQ
  ·exact ak some hQ
theorem RA{l:List Stmt}{c:Int}(h1:0≤c)(h2:c≤50):iz l 1 c=some (mY l 1 c):=
 Bu 8 fun n hn=>ajl n l 1 c (by decide) (by decide) (by omega) h1 h2
theorem NC{p:Program}(hf:p.Funcs.length≤5):vt p=some (kx p.Main p.Funcs 0).1:=by
 unfold vt
 obtain ⟨x,hx,hQ⟩:=j0 (B:=fun v=>sH p v.1 v.2) (fun v=>p.Funcs.length - v.1)
  (fun v=>v.1≤p.Funcs.length∧kx p.Main p.Funcs 0=kx p.Main (p.Funcs.drop v.1) v.2∧0≤v.2∧v.2≤50)
  (fun x=>(match x with
   | .inl _=>(kx p.Main p.Funcs 0).1=false
   | .inr (_,_,y)=>kx p.Main p.Funcs 0=mY p.Main 1 y∧0≤y∧y≤50)) (by
   rintro ⟨k,c⟩ ⟨hk,he,g1,g2⟩
   simp only at hk he g1 g2 ⊢
   unfold sH
   by_cases hlt:k<p.Funcs.length
   ·rw [kg hlt,kx] at he
    rw [aa (by omega),aA hlt,ae,RA g1 g2,ae]
    cases hl:mY p.Funcs[k].Body 1 c with
    | mk b m=>
     rw [hl] at he
     cases b with
     | false=>exact .inl ⟨_,rfl,by simp only;rw [he];rfl⟩
     | true=>
      obtain ⟨rfl,q1,q2⟩:=(jx _ _ _ _ g2 (by decide)).1 hl
      simp only [andThen,an] at he ⊢
      rw [aa (m7 (by omega))]
      exact .inr ⟨_,rfl,⟨by simp only;omega,he,by simp only;omega,by simp only;omega⟩,by simp only;omega⟩
   ·rw [p9 (by omega),kx] at he
    rw [ab (by omega)]
    exact .inl ⟨_,rfl,he,g1,g2⟩) (0,0) ⟨b9 _,rfl,by decide,by decide⟩
 rw [hx,ae]
 rcases x with a | ⟨a,b,y⟩
 ·simp only at hQ ⊢
  rw [hQ]
 ·obtain ⟨h1,h2,h3⟩:=hQ
  simp only
  rw [RA h2 h3,ae,h1]
def PS{α:Type} : Int⊕α→Int
 | .inl y=>y
 | .inr _=>0
theorem mn{β:Type}(f:β→Int)(x:β)(l:List β):bK f (x::l)=if f x≠0 then f x else bK f l:=by
 unfold bK
 rw [zq]
 by_cases h:f x=0<;>simp [h]
theorem Mr{β ζ:Type}{B:Nat→Option (Nat⊕(Int⊕ζ))}(es:List β)(f:β→Int)(hs:∀ k (h:k<es.length),B k=if f es[k]≠0 then some (.inr (.inl (f es[k]))) else some (.inl (k+1)))(he:∃ z,B es.length=some (.inr (.inr z))) :
  ∃ x,lp B 0=some x∧PS x=bK f es∧(bK f es=0→∃ z,x= .inr z):=by
 refine j0 (B:=B) (fun k=>es.length - k) (fun k=>k≤es.length∧bK f es=bK f (es.drop k)) (fun x=>PS x=bK f es∧(bK f es=0→∃ z,x= .inr z)) ?_ 0 ⟨b9 _,rfl⟩
 rintro k ⟨hk,hf⟩
 by_cases hlt:k<es.length
 ·rw [kg hlt,mn] at hf
  rw [hs k hlt]
  by_cases h0:f es[k]=0
  ·rw [ab (by simp [h0])] at hf ⊢
   exact .inr ⟨_,rfl,⟨by omega,hf⟩,by omega⟩
  ·rw [aa h0] at hf ⊢
   exact .inl ⟨_,rfl,hf.symm,fun hz=>absurd (hf.symm.trans hz) h0⟩
 ·obtain rfl:k=es.length:=by omega
  rw [zd] at hf
  obtain ⟨z,hz⟩:=he
  exact .inl ⟨_,hz,hf.symm,fun _=>⟨z,rfl⟩⟩
theorem F0(p:Program)(e:ax):jI e (p.Vars.length:Int)=some (dT p e):=Wt e _
variable [Lp]
theorem JY{ex:ax→Option Int}(p:Program)(hx:∀ e,ex e=some (dT p e)):∀ l:List ax,ug ex l=some (bK (dT p) l)
 | []=>rfl
 | e::r=>by
  rw [ug,hx,ae,mn,JY p hx r]
  by_cases h:dT p e=0<;>simp [h]
theorem Oo{ex:ax→Option Int}{p:Program}{i:Int}{s:Stmt}(hx:∀ e,ex e=some (dT p e))(h0:i≤p.Funcs.length)(hp:∀ f∈p.Funcs,f.Params.length≤9223372036854775807)(k18:¬(s.Kind<1∨8<s.Kind)):IS ex p i s=some (bw p i s):=by
 unfold IS bw
 rw [ab k18]
 have n5:sG p i s=true↔(ey s.Kind=true∧(s.Var<0∨(p.Vars.length:Int)≤s.Var))∨(fO s.Kind=true∧(s.Other<0∨gI p i s.Kind≤s.Other)):=by simp [sG]
 by_cases h5:(ey s.Kind=true∧(s.Var<0∨(p.Vars.length:Int)≤s.Var))∨(fO s.Kind=true∧(s.Other<0∨gI p i s.Kind≤s.Other))
 ·rw [aa (n5.2 h5),aa h5]
 rw [ab (fun h=>h5 (n5.1 h)),ab h5]
 have n1:xr s=true↔(ey s.Kind=false∧s.Var≠0)∨(fO s.Kind=false∧s.Other≠0)∨(eu s.Kind=false∧¬(s.Expr.Kind=0∧s.Expr.N=0∧s.Expr.Args.length=0))∨(s.Kind≠2∧0<s.Args.length)∨(s.Kind<7∧0<s.Then.length)∨(s.Kind≠7∧0<s.Else.length):=by
  simp only [xr,kB,jq,aB,gu,cE,zt,or_assoc,Int.not_le,Bool.and_eq_false_imp,not_and,ne_eq,and_imp]
  simp
 by_cases h1:(ey s.Kind=false∧s.Var≠0)∨(fO s.Kind=false∧s.Other≠0)∨(eu s.Kind=false∧¬(s.Expr.Kind=0∧s.Expr.N=0∧s.Expr.Args.length=0))∨(s.Kind≠2∧0<s.Args.length)∨(s.Kind<7∧0<s.Then.length)∨(s.Kind≠7∧0<s.Else.length)
 ·rw [aa (n1.2 h1),aa h1]
 rw [ab (fun h=>h1 (n1.1 h)),ab h1]
 have fin:s.Args.length≤9223372036854775807→((if eu s.Kind=true then ex s.Expr else some 0).bind fun x=>if x≠0 then some x else if s.Args.length≤9223372036854775807 then ug ex s.Args else none)=some (if eu s.Kind=true∧dT p s.Expr≠0 then dT p s.Expr else bK (dT p) s.Args):=by
  intro hl
  rw [aa hl,JY p hx,hx]
  cases eu s.Kind with
  | false=>simp
  | true=>by_cases h0:dT p s.Expr=0<;>simp [h0]
 by_cases k2:s.Kind=2
 ·have ho:0≤s.Other∧s.Other<i:=by
   have:fO s.Kind=true:=by rw [k2];rfl
   have e:gI p i s.Kind=i:=by rw [k2];rfl
   rw [e] at h5
   have h6:¬(s.Other<0∨i≤s.Other):=fun h=>h5 (.inr ⟨this,h⟩)
   omega
  have hi:s.Other.toNat<p.Funcs.length:=by omega
  have hpo:yq p s.Other=(p.Funcs[s.Other.toNat]).Params.length:=by unfold yq;rw [aA hi];rfl
  have hpl:=hp _ (bY hi)
  rw [aa k2,aA hi,fg,ae,hpo]
  by_cases hn:s.Args.length=(p.Funcs[s.Other.toNat]).Params.length
  ·rw [show decide (s.Args.length≠(p.Funcs[s.Other.toNat]).Params.length)=false by simp [hn]]
   simp only [bn,aI]
   rw [ab (fun h:s.Kind=2∧s.Args.length≠(p.Funcs[s.Other.toNat]).Params.length=>h.2 hn)]
   exact fin (by omega)
  ·rw [show decide (s.Args.length≠(p.Funcs[s.Other.toNat]).Params.length)=true by simp [hn]]
   simp only [an]
   rw [aa (show s.Kind=2∧s.Args.length≠(p.Funcs[s.Other.toNat]).Params.length from ⟨k2,hn⟩)]
 ·rw [ab k2,ae]
  simp only [bn,aI]
  rw [ab (fun h:s.Kind=2∧s.Args.length≠yq p s.Other=>k2 h.1)]
  have ha:¬0<s.Args.length:=fun h=>h1 (.inr (.inr (.inr (.inl ⟨k2,h⟩))))
  exact fin (by omega)
theorem Wu{c:Checker}{s:Stmt}(h0:c.funcs≤c.p.Funcs.length)(hp:∀ f∈c.p.Funcs,f.Params.length≤9223372036854775807):fP c s=some (bw c.p c.funcs s):=by
 unfold fP
 by_cases k18:s.Kind<1∨8<s.Kind
 ·rw [aa k18];unfold bw;rw [aa k18]
 ·rw [ab k18];exact Oo (fun e=>F0 c.p e) h0 hp k18
theorem agW{c:Checker}(h0:c.funcs≤c.p.Funcs.length)(hp:∀ f∈c.p.Funcs,f.Params.length≤9223372036854775807)(n:Nat):∀ (l:List Stmt)(d:Int),dS l+1≤n→bb l≤50→1≤d→d+dS l≤100→
  (cN n).f_scope_Walk__scope_checker_stmts_1 l d () c 0=some (cZ (bw c.p c.funcs) l==0,(),cZ (bw c.p c.funcs) l):=by
 induction n with
 | zero=>intro l d h;omega
 | succ n ih=>
  intro l d h1 h2 h3 h4
  show dR (cN n) l d () c 0=_
  unfold dR
  have hlen:=fA l
  obtain ⟨x,hx,hQ⟩:=j0 (B:=fun v=>dM (cN n) l d c v.1 v.2) (fun v=>l.length - v.1)
   (fun v=>v.1≤l.length∧cZ (bw c.p c.funcs) l=cZ (bw c.p c.funcs) (l.drop v.1)∧v.2=0)
   (fun x=>(match x with
    | .inl y=>y≠0∧y=cZ (bw c.p c.funcs) l
    | .inr (_,_,y)=>y=0∧cZ (bw c.p c.funcs) l=0)) (by
    rintro ⟨k,e⟩ ⟨hk,he,hz⟩
    simp only at hk he hz ⊢
    subst hz
    unfold dM mh
    by_cases hlt:k<l.length
    ·rw [kg hlt,cZ,Om] at he
     have hm:=bY hlt
     have g1:=FY hm
     have g2:=FZ hm
     rw [aa (by omega),aA hlt,ae]
     generalize l[k]=s at *
     have g3:=yn s
     have g4:=Hr s
     rw [Wu h0 hp,ae,ae]
     by_cases e1:bw c.p c.funcs s=0
     ·simp only [e1,CP,an,ne_eq,qb,aI] at he ⊢
      rw [aa (wc (by omega) (by omega)),ih _ _ (by omega) (by omega) (by omega) (by omega),ae]
      by_cases e2:cZ (bw c.p c.funcs) s.Then=0
      ·simp only [e2,CP,an,qb,aI] at he ⊢
       rw [ih _ _ (by omega) (by omega) (by omega) (by omega),ae]
       by_cases e3:cZ (bw c.p c.funcs) s.Else=0
       ·simp only [e3,CP,an,qb,aI] at he ⊢
        rw [aa (m7 (by omega))]
        exact .inr ⟨_,rfl,⟨by simp only;omega,he,rfl⟩,by simp only;omega⟩
       ·have:(cZ (bw c.p c.funcs) s.Else==0)=false:=by simp [e3]
        simp only [e3,pS,an] at he
        simp only [this,bn,aI]
        exact .inl ⟨_,rfl,e3,he.symm⟩
      ·have:(cZ (bw c.p c.funcs) s.Then==0)=false:=by simp [e2]
       simp only [e2,pS,an] at he
       simp only [this,bn,aI]
       exact .inl ⟨_,rfl,e2,he.symm⟩
     ·have:(bw c.p c.funcs s==0)=false:=by simp [e1]
      simp only [e1,ne_eq,pS,an] at he
      simp only [this,bn,aI]
      exact .inl ⟨_,rfl,e1,he.symm⟩
    ·rw [p9 (by omega),cZ] at he
     rw [ab (by omega)]
     exact .inl ⟨_,rfl,rfl,he⟩) (0,0) ⟨b9 _,rfl,rfl⟩
  rw [hx,ae]
  rcases x with y | ⟨a,b,y⟩
  ·obtain ⟨q1,q2⟩:=hQ
   have:(cZ (bw c.p c.funcs) l==0)=false:=by rw [←q2];simp [q1]
   simp only [this]
   rw [q2]
  ·obtain ⟨q1,q2⟩:=hQ
   simp only [q2,q1];rfl
theorem Ms{c:Checker}{l:List Stmt}(h0:c.funcs≤c.p.Funcs.length)(hp:∀ f∈c.p.Funcs,f.Params.length≤9223372036854775807)(hc:bb l≤50)(hd:dS l≤6):iq c l=some (cZ (bw c.p c.funcs) l):=by
 unfold iq
 have:fU l 1 () c 0=some (cZ (bw c.p c.funcs) l==0,(),cZ (bw c.p c.funcs) l):=
  Bu 8 fun n hn=>agW h0 hp n l 1 (by omega) hc (by decide) (by omega)
 rw [this];rfl
theorem ND{l:List Int}{a:Int}(hl:l.length≤9223372036854775807):ka l a=some (decide (a∈l)):=by
 unfold ka qC
 obtain ⟨x,hx,hQ⟩:=j0 (B:=fun v=>kY l a v) (fun k=>l.length - k) (fun k=>k≤l.length∧¬a∈l.take k)
  (fun x=>match x with
   | .inl _=>a∈l
   | .inr _=>¬a∈l) (by
   rintro k ⟨hk,hn⟩
   unfold kY
   by_cases hlt:k<l.length
   ·rw [aa (by omega),aA hlt,ae]
    by_cases h:a=l[k]
    ·rw [aa (by simp [h])]
     exact .inl ⟨_,rfl,by rw [h];exact bY hlt⟩
    ·rw [ab (by simp [h]),aa (m7 (by omega))]
     refine .inr ⟨_,rfl,⟨by omega,fun hm=>?_⟩,by omega⟩
     rw [pW,aA hlt] at hm
     rcases bJ.1 hm with hm | hm
     ·exact hn hm
     ·exact h (by simpa using hm)
   ·rw [ab (by omega)]
    rw [lG (by omega)] at hn
    exact .inl ⟨_,rfl,hn⟩) 0 ⟨b9 _,by simp⟩
 rw [hx]
 simp only [ae]
 rcases x with y | ⟨y,z⟩
 ·have h:a∈l:=hQ
  simp [h]
 ·have h:¬a∈l:=hQ
  simp [h]
theorem agX{c:Checker}{f:Func}(h0:c.funcs≤c.p.Funcs.length)(hp:∀ f∈c.p.Funcs,f.Params.length≤9223372036854775807)(hc:bb f.Body≤50)(hd:dS f.Body≤6):mJ c f=some (sA c.p c.funcs f):=by
 unfold mJ sA
 by_cases h4:4<f.Params.length
 ·rw [aa (by omega),aa h4]
 rw [ab (by omega),ab h4]
 obtain ⟨x,hx,hQ⟩:=j0 (B:=fun v=>kZ c f v) (fun k=>f.Params.length - k)
  (fun k=>k≤f.Params.length∧oD c.p.Vars.length [] f.Params=oD c.p.Vars.length (f.Params.take k) (f.Params.drop k))
  (fun x=>(match x with
   | .inl _=>(5:Int)
   | .inr (.inl _)=>6
   | .inr (.inr _)=>0)=oD c.p.Vars.length [] f.Params) (by
   rintro k ⟨hk,he⟩
   unfold kZ
   by_cases hlt:k<f.Params.length
   ·rw [kg hlt,oD] at he
    rw [aa (by omega),aA hlt,ae]
    have htk:f.Params.take k++[f.Params[k]]=f.Params.take (k+1):=by rw [pW,aA hlt];rfl
    rw [htk] at he
    by_cases g1:f.Params[k]<0
    ·rw [aa g1]
     rw [aa (.inl g1)] at he
     exact .inl ⟨_,rfl,he.symm⟩
    rw [ab g1]
    by_cases g2:(c.p.Vars.length:Int)≤f.Params[k]
    ·rw [aa g2]
     rw [aa (.inr g2)] at he
     exact .inl ⟨_,rfl,he.symm⟩
    rw [ab g2,aa (by omega),tD,ND (by rw [List.length_take];omega),ae]
    rw [ab (by omega)] at he
    by_cases g3:f.Params[k]∈f.Params.take k
    ·rw [aa (av g3)]
     rw [aa g3] at he
     exact .inl ⟨_,rfl,he.symm⟩
    ·rw [ab (by simpa using g3),aa (m7 (by omega))]
     rw [ab g3] at he
     exact .inr ⟨_,rfl,⟨by omega,he⟩,by omega⟩
   ·rw [p9 (by omega),oD] at he
    rw [ab (by omega)]
    exact .inl ⟨_,rfl,he.symm⟩) 0 ⟨b9 _,by simp⟩
 rw [hx,ae]
 rcases x with _ | _ | ⟨a,b⟩
 ·have h:(5:Int)=oD c.p.Vars.length [] f.Params:=hQ
  rw [←h];rfl
 ·have h:(6:Int)=oD c.p.Vars.length [] f.Params:=hQ
  rw [←h];rfl
 ·have h:(0:Int)=oD c.p.Vars.length [] f.Params:=hQ
  rw [←h,ab (by decide)]
  simp only [Ms h0 hp hc hd,ae]
  by_cases he:cZ (bw c.p c.funcs) f.Body=0
  ·rw [ab (by simp [he]),ab (by simp [he]),F0];rfl
  ·rw [aa (by simp [he]),aa he]
theorem RB(a b:List Label)(ha:a.length≤5)(hb:b.length≤5):iy [a,b]=some (a++b):=by
 unfold iy
 have z1:IntKind.i64.wrap 1=1:=by decide
 have z2:IntKind.i64.wrap 2=2:=by decide
 have w1:IntKind.i64.wrap (0+(a.length:Int))=0+(a.length:Int):=wc (by omega) (by omega)
 have w2:IntKind.i64.wrap (0+(a.length:Int)+(b.length:Int))=0+(a.length:Int)+(b.length:Int):=wc (by omega) (by omega)
 have n1:¬(0+(a.length:Int))<0:=by omega
 have n2:¬(0+(a.length:Int)+(b.length:Int))<0:=by omega
 have l0:lp (fun v=>dH [a,b] v.1 v.2) (0,0)=some (0+(a.length:Int)+(b.length:Int),2,false):=by
  rw [mi (w:=(0+(a.length:Int),1)) (by simp only [dH];simp only [bD,iC,zm,ae,w1,n1,aI,an];simp [z1]),
   mi (w:=(0+(a.length:Int)+(b.length:Int),2)) (by simp only [dH];simp only [bD,iC,CJ,zm,ae,w2,n2,aI,an];simp [z2])]
  exact iI (by simp [dH])
 have l1:lp (fun v=>dI [a,b] v.1 v.2) (([]:List Label),0)=some (a++b,2,false):=by
  rw [mi (w:=(a,1)) (by simp [dI,z1];omega),
   mi (w:=(a++b,2)) (by simp [dI,z2];omega)]
  exact iI (by simp [dI])
 rw [l0,ae,aa (by simp only;omega),l1];rfl
variable [Lp]
theorem agY(p:Program):pw p=some (decide (16<p.Vars.length∨5<p.Ins.length∨5<p.Outs.length∨5<p.Funcs.length∨p.ah.Many<(p.Speak.length:Int))):=by
 unfold pw j9
 by_cases h1:16<p.Vars.length
 ·have:(16:Int)<(p.Vars.length:Int):=by omega
  simp [h1,this]
 have h1':¬(16:Int)<(p.Vars.length:Int):=by omega
 by_cases h2:5<p.Ins.length
 ·have:(5:Int)<(p.Ins.length:Int):=by omega
  simp [h1',h2,this]
 have h2':¬(5:Int)<(p.Ins.length:Int):=by omega
 by_cases h3:5<p.Outs.length
 ·have:(5:Int)<(p.Outs.length:Int):=by omega
  simp [h1',h2',h3,this]
 have h3':¬(5:Int)<(p.Outs.length:Int):=by omega
 by_cases h4:5<p.Funcs.length
 ·have:(5:Int)<(p.Funcs.length:Int):=by omega
  simp [h1',h2',h3',h4,this]
 have h4':¬(5:Int)<(p.Funcs.length:Int):=by omega
 simp [h1,h1',h2,h2',h3,h3',h4,h4']
theorem TP{m:Int}{l:Label}(h:dC m l=0):l.Read.length≤4∧l.Write.length≤4:=⟨(BP (BQ h).1).1,(BP (BQ h).2).1⟩
theorem Wv(p:Program):uh p=some (px p):=by
 unfold uh px
 rw [Wm,ae]
 by_cases a1:eL p.ah=0
 rotate_left
 ·rw [aa (show (eL p.ah !=0)=true by simp [a1]),aa a1]
 rw [ab (show ¬(eL p.ah !=0)=true by simp [a1]),ab (show ¬eL p.ah≠0 from fun h=>h a1),agY,ae]
 obtain ⟨c1,c2,c3,c4⟩:=lj a1
 by_cases a4:16<p.Vars.length∨5<p.Ins.length∨5<p.Outs.length∨5<p.Funcs.length∨p.ah.Many<(p.Speak.length:Int)
 ·rw [aa (av a4),aa a4]
 rw [ab (by simpa using a4),ab a4]
 have hs:fQ p.Speak p=some (p.Speak.any (fun n=>!bN p.ah.Many n)):=sZ (fun y=>rk y p) _ p.Speak (by omega) (fun y _=>by simp [rk,Ml])
 rw [hs,ae]
 cases a5:p.Speak.any (fun n=>!bN p.ah.Many n) with
 | true=>rfl
 | false=>
  simp only [bn,aI]
  rw [RB _ _ (by omega) (by omega),ae]
  obtain ⟨x,hx,e1,e2⟩:=Mr (B:=fun v=>nL p (p.Ins++p.Outs) v) (p.Ins++p.Outs) (dC p.ah.Many) (fun k hk=>by
   unfold nL
   rw [aa (by omega),aA hk,ae,Ry,ae]
   rw [cC] at hk
   by_cases h0:dC p.ah.Many (p.Ins++p.Outs)[k]=0
   ·rw [ab (by simp [h0]),aa (m7 (by omega)),ab (by simp [h0])]
   ·rw [aa (by simp [h0]),aa h0]) ⟨_,by unfold nL;rw [ab (by omega)]⟩
  rw [hx,ae]
  by_cases h6:bK (dC p.ah.Many) (p.Ins++p.Outs)=0
  rotate_left
  ·rcases x with y | ⟨a,b⟩
   ·have hy:y=_:=e1
    rw [aa h6,←hy]
   ·have hy:(0:Int)=_:=e1
    exact absurd hy.symm h6
  obtain ⟨z,rfl⟩:=e2 h6
  rw [ab (show ¬bK (dC p.ah.Many) (p.Ins++p.Outs)≠0 from fun h=>h h6)]
  obtain ⟨z1,z2⟩:=z
  simp only
  obtain ⟨x,hx,e3,e4⟩:=Mr (B:=fun v=>nM p v) p.Vars (fun v:Var=>dC p.ah.Many v.Label) (fun k hk=>by
   unfold nM
   rw [aa (by omega),aA hk,ae,Ry,ae]
   by_cases h0:dC p.ah.Many p.Vars[k].Label=0
   ·rw [ab (by simp [h0]),aa (m7 (by omega)),ab (by simp [h0])]
   ·rw [aa (by simp [h0]),aa h0]) ⟨_,by unfold nM;rw [ab (by omega)]⟩
  rw [hx,ae]
  by_cases h7:bK (fun v:Var=>dC p.ah.Many v.Label) p.Vars=0
  rotate_left
  ·rcases x with y | ⟨a,b⟩
   ·have hy:y=_:=e3
    rw [aa h7,←hy]
   ·have hy:(0:Int)=_:=e3
    exact absurd hy.symm h7
  obtain ⟨z,rfl⟩:=e4 h7
  rw [ab (show ¬bK (fun v:Var=>dC p.ah.Many v.Label) p.Vars≠0 from fun h=>h h7)]
  obtain ⟨z1,z2⟩:=z
  simp only
  have hv:fR p.Vars=some (p.Vars.any (fun v=>!v.Known&&decide (0<v.Label.Read.length+v.Label.Write.length))):=sZ rr _ p.Vars (by omega) (fun y hy=>by
   have hl:=TP (oP h7 y hy)
   unfold rr
   rw [aa (c:=IntKind.i64.wrap _=_) (wc (by omega) (by omega))]
   cases y.Known with
   | true=>simp
   | false=>simp;omega)
  rw [hv,ae]
  cases p.Vars.any (fun v=>!v.Known&&decide (0<v.Label.Read.length+v.Label.Write.length))<;>rfl
theorem TQ{p:Program}(hf:p.Funcs.length≤5)(hp:∀ f∈p.Funcs,f.Params.length≤9223372036854775807)(hc:∀ f∈p.Funcs,bb f.Body≤50∧dS f.Body≤6) :
  ∃ x,lp (fun v=>mK p v.1 v.2) (0,0)=some x∧PS x=kv p 0 p.Funcs∧(kv p 0 p.Funcs=0→∃ z,x= .inr z):=by
 refine j0 (B:=fun v=>mK p v.1 v.2) (fun v=>p.Funcs.length - v.1) (fun v=>v.1≤p.Funcs.length∧kv p 0 p.Funcs=kv p v.1 (p.Funcs.drop v.1)) (fun x=>PS x=kv p 0 p.Funcs∧(kv p 0 p.Funcs=0→∃ z,x= .inr z)) ?_ (0,0) ⟨b9 _,rfl⟩
 rintro ⟨k,m⟩ ⟨hk,he⟩
 simp only at hk he ⊢
 unfold mK
 by_cases hlt:k<p.Funcs.length
 ·rw [kg hlt,kv] at he
  have hm:=hc _ (bY hlt)
  rw [aa (by omega),aA hlt,ae,agX (c:=⟨p,(k:Int)⟩) (by simp only;omega) hp hm.1 hm.2,ae]
  simp only
  by_cases h0:sA p k p.Funcs[k]=0
  ·rw [ab (by simp [h0])] at he
   rw [ab (by simp [h0]),aa (m7 (by omega))]
   exact .inr ⟨_,rfl,⟨by simp only;omega,he⟩,by simp only;omega⟩
  ·rw [aa h0] at he
   rw [aa (by simp [h0])]
   exact .inl ⟨_,rfl,he.symm,fun hz=>absurd (he.symm.trans hz) h0⟩
 ·rw [p9 (by omega),kv] at he
  rw [ab (by omega)]
  exact .inl ⟨_,rfl,he.symm,fun _=>⟨_,rfl⟩⟩
theorem Mt{p:Program}(hp:∀ f∈p.Funcs,f.Params.length≤9223372036854775807):oO p=some (dh p):=by
 unfold oO dh
 rw [Wv,ae]
 by_cases h1:px p=0
 rotate_left
 ·rw [aa (show (px p !=0)=true by simp [h1]),aa h1]
 rw [ab (show ¬(px p !=0)=true by simp [h1]),ab (show ¬px p≠0 from fun h=>h h1)]
 have hf:p.Funcs.length≤5:=by
  unfold px at h1
  by_cases a1:eL p.ah=0
  ·rw [ab (by simp [a1])] at h1
   by_cases a2:16<p.Vars.length∨5<p.Ins.length∨5<p.Outs.length∨5<p.Funcs.length∨p.ah.Many<(p.Speak.length:Int)
   ·rw [aa a2] at h1;exact absurd h1 (by decide)
   ·omega
  ·rw [aa a1] at h1;exact absurd h1 a1
 rw [NC hf,ae]
 cases h2:(kx p.Main p.Funcs 0).1 with
 | false=>rfl
 | true=>
  have h2':kx p.Main p.Funcs 0=(true,(kx p.Main p.Funcs 0).2):=Prod.ext h2 rfl
  obtain ⟨g1,g2,g3,_⟩:=BS (by decide) (by decide) h2'
  obtain ⟨x,hx,e1,e2⟩:=TQ hf hp g1
  simp only [an,hx,ae,zr,aI]
  by_cases h3:kv p 0 p.Funcs=0
  rotate_left
  ·rcases x with y | ⟨a,b,e⟩
   ·have hy:y=_:=e1
    rw [aa h3,←hy]
   ·have hy:(0:Int)=_:=e1
    exact absurd hy.symm h3
  obtain ⟨⟨z1,z2,z3⟩,rfl⟩:=e2 h3
  rw [ab (show ¬kv p 0 p.Funcs≠0 from fun h=>h h3)]
  simp only [Ms (c:=⟨p,(p.Funcs.length:Int)⟩) (l:=p.Main) (zl _) hp g2 g3,ae]
end Go.Proofs.YtkkkkondjclcnaaGreat.A
