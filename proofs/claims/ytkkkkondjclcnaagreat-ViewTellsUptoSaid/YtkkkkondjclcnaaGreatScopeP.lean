/- Programs: the program's own check of them answers as plain mathematics says. -/
import Derived.Test.YtkkkkondjclcnaaGreatScopeS
set_option linter.all false
namespace Go.Proofs.YtkkkkondjclcnaaGreat.A
open Go
variable [Lp]
theorem aj7(n:Nat):∀ (l:List Stmt)(d c:Int),1≤d→d≤7→8 - d≤n→0≤c→c≤50→(eh n).f_scope_Walk__scope_few_1 l d c=some (nz l d c):=by
 induction n with
 | zero=>intro l d c h1 h2 h3;omega
 | succ n ih=>
  intro l d c h1 h2 h3 h4 h5
  show ie (eh n) l d c=_
  unfold ie
  obtain ⟨x,hx,hQ⟩:=ke (B:=fun v=>gN (eh n) l d v.1 v.2) (fun v=>l.length - v.1)
   (fun v=>v.1≤l.length∧nz l d c=nz (l.drop v.1) d v.2∧0≤v.2∧v.2≤50∧(v.1:Int)≤v.2)
   (fun x=>(match x with
    | .inl y=>(false,y)
    | .inr (_,_,y)=>(true,y))=nz l d c) (by
    rintro ⟨k,c'⟩ ⟨hk,he,g1,g2,g3⟩
    simp only at hk he g1 g2 g3 ⊢
    unfold gN wJ
    by_cases hlt:k<l.length
    ·rw [jt hlt,nz,Wv] at he
     rw [ab (by omega),aB hlt,af,ab (wg (by omega) (by omega))]
     generalize l[k]=s at *
     by_cases hc:c'+1≤50
     ·rw [ab hc]
      by_cases hd:d≤6
      ·rw [ab ⟨hc,hd⟩] at he
       simp only [af,hd,oq,aq]
       rw [ab (wg (by omega) (by omega)),ih _ _ _ (by omega) (by omega) (by omega) (by omega) (by omega),af]
       cases ht:nz s.Then (d+1) (c'+1) with
       | mk b m=>
        cases b with
        | false=>
         rw [ht] at he
         refine .inl ⟨_,rfl,?_⟩
         rw [he];rfl
        | true=>
         obtain ⟨rfl,q1,q2⟩:=(jC _ _ _ _ (by omega) (by omega)).1 ht
         rw [ht] at he
         simp only [aq]
         rw [ih _ _ _ (by omega) (by omega) (by omega) (by omega) (by omega),af]
         simp only [andThen,aq] at he
         cases hel:nz s.Else (d+1) (c'+1+(br s.Then:Int)) with
         | mk b m=>
          rw [hel] at he
          cases b with
          | false=>exact .inl ⟨_,rfl,by rw [he];rfl⟩
          | true=>
           obtain ⟨rfl,q3,q4⟩:=(jC _ _ _ _ (by omega) (by omega)).1 hel
           simp only [aq] at he ⊢
           rw [ab (nA (by omega))]
           exact .inr ⟨_,rfl,⟨by simp only;omega,he,by simp only;omega,by simp only;omega,by simp only;omega⟩,by simp only;omega⟩
      ·rw [ad (by omega)] at he
       simp only [af,hd,qc,bB,aM]
       exact .inl ⟨_,rfl,by rw [he];rfl⟩
     ·rw [ad hc]
      rw [ad (by omega)] at he
      simp only [af,bB,aM]
      exact .inl ⟨_,rfl,by rw [he];rfl⟩
    ·rw [qh (by omega),nz] at he
     rw [ad (by omega)]
     exact .inl ⟨_,rfl,he.symm⟩) (0,c) ⟨ct _,rfl,h4,h5,by simpa using h4⟩
  rw [hx,af]
  rcases x with a | ⟨a,b,e⟩
  ·exact an some hQ
  ·exact an some hQ
theorem Ro{l:List Stmt}{c:Int}(h1:0≤c)(h2:c≤50):iC l 1 c=some (nz l 1 c):=
 Bh 8 fun n hn=>aj7 n l 1 c (by decide) (by decide) (by omega) h1 h2
theorem Nw{p:Program}(hf:p.Funcs.length≤5):vA p=some (kK p.Main p.Funcs 0).1:=by
 unfold vA
 obtain ⟨x,hx,hQ⟩:=ke (B:=fun v=>sJ p v.1 v.2) (fun v=>p.Funcs.length - v.1)
  (fun v=>v.1≤p.Funcs.length∧kK p.Main p.Funcs 0=kK p.Main (p.Funcs.drop v.1) v.2∧0≤v.2∧v.2≤50)
  (fun x=>(match x with
   | .inl _=>(kK p.Main p.Funcs 0).1=false
   | .inr (_,_,y)=>kK p.Main p.Funcs 0=nz p.Main 1 y∧0≤y∧y≤50)) (by
   rintro ⟨k,c⟩ ⟨hk,he,g1,g2⟩
   simp only at hk he g1 g2 ⊢
   unfold sJ
   by_cases hlt:k<p.Funcs.length
   ·rw [jt hlt,kK] at he
    rw [ab (by omega),aB hlt,af,Ro g1 g2,af]
    cases hl:nz p.Funcs[k].Body 1 c with
    | mk b m=>
     rw [hl] at he
     cases b with
     | false=>exact .inl ⟨_,rfl,by simp only;rw [he];rfl⟩
     | true=>
      obtain ⟨rfl,q1,q2⟩:=(jC _ _ _ _ g2 (by decide)).1 hl
      simp only [andThen,aq] at he ⊢
      rw [ab (nA (by omega))]
      exact .inr ⟨_,rfl,⟨by simp only;omega,he,by simp only;omega,by simp only;omega⟩,by simp only;omega⟩
   ·rw [qh (by omega),kK] at he
    rw [ad (by omega)]
    exact .inl ⟨_,rfl,he,g1,g2⟩) (0,0) ⟨ct _,rfl,by decide,by decide⟩
 rw [hx,af]
 rcases x with a | ⟨a,b,y⟩
 ·simp only at hQ ⊢
  rw [hQ]
 ·obtain ⟨h1,h2,h3⟩:=hQ
  simp only
  rw [Ro h2 h3,af,h1]
def PI{α:Type} : Int⊕α→Int
 | .inl y=>y
 | .inr _=>0
theorem kL{β:Type}(f:β→Int)(x:β)(l:List β):bg f (x::l)=if f x≠0 then f x else bg f l:=by
 unfold bg
 rw [yZ]
 by_cases h:f x=0<;>simp [h]
theorem Hj{β ζ:Type}{B:Nat→Option (Nat⊕(Int⊕ζ))}(es:List β)(f:β→Int)(hs:∀ k (h:k<es.length),B k=if f es[k]≠0 then some (.inr (.inl (f es[k]))) else some (.inl (k+1)))(he:∃ z,B es.length=some (.inr (.inr z))) :
  ∃ x,lp B 0=some x∧PI x=bg f es∧(bg f es=0→∃ z,x= .inr z):=by
 refine ke (B:=B) (fun k=>es.length - k) (fun k=>k≤es.length∧bg f es=bg f (es.drop k)) (fun x=>PI x=bg f es∧(bg f es=0→∃ z,x= .inr z)) ?_ 0 ⟨ct _,rfl⟩
 rintro k ⟨hk,hf⟩
 by_cases hlt:k<es.length
 ·rw [jt hlt,kL] at hf
  rw [hs k hlt]
  by_cases h0:f es[k]=0
  ·rw [ad (by simp [h0])] at hf ⊢
   exact .inr ⟨_,rfl,⟨by omega,hf⟩,by omega⟩
  ·rw [ab h0] at hf ⊢
   exact .inl ⟨_,rfl,hf.symm,fun hz=>absurd (hf.symm.trans hz) h0⟩
 ·obtain rfl:k=es.length:=by omega
  rw [yM] at hf
  obtain ⟨z,hz⟩:=he
  exact .inl ⟨_,hz,hf.symm,fun _=>⟨z,rfl⟩⟩
theorem Mg(p:Program)(e:az):lW e (p.Vars.length:Int)=some (er p e):=WA e _
variable [Lp]
theorem JN{ex:az→Option Int}(p:Program)(hx:∀ e,ex e=some (er p e)):∀ l:List az,ub ex l=some (bg (er p) l)
 | []=>rfl
 | e::r=>by
  rw [ub,hx,af,kL,JN p hx r]
  by_cases h:er p e=0<;>simp [h]
theorem Oi{ex:az→Option Int}{p:Program}{i:Int}{s:Stmt}(hx:∀ e,ex e=some (er p e))(h0:i≤p.Funcs.length)(hp:∀ f∈p.Funcs,f.Params.length≤9223372036854775807)(k18:¬(s.Kind<1∨8<s.Kind)):IG ex p i s=some (bO p i s):=by
 unfold IG bO
 rw [ad k18]
 have n5:sI p i s=true↔(eC s.Kind=true∧(s.Var<0∨(p.Vars.length:Int)≤s.Var))∨(fT s.Kind=true∧(s.Other<0∨gP p i s.Kind≤s.Other)):=by simp [sI]
 by_cases h5:(eC s.Kind=true∧(s.Var<0∨(p.Vars.length:Int)≤s.Var))∨(fT s.Kind=true∧(s.Other<0∨gP p i s.Kind≤s.Other))
 ·rw [ab (n5.2 h5),ab h5]
 rw [ad (fun h=>h5 (n5.1 h)),ad h5]
 have n1:xr s=true↔(eC s.Kind=false∧s.Var≠0)∨(fT s.Kind=false∧s.Other≠0)∨(eD s.Kind=false∧¬(s.Expr.Kind=0∧s.Expr.N=0∧s.Expr.Args.length=0))∨(s.Kind≠2∧0<s.Args.length)∨(s.Kind<7∧0<s.Then.length)∨(s.Kind≠7∧0<s.Else.length):=by
  simp only [xr,kQ,jw,aA,iI,df,decide_eq_false_iff_not,or_assoc,Int.not_le,Bool.and_eq_false_imp,not_and,ne_eq,and_imp]
  simp
 by_cases h1:(eC s.Kind=false∧s.Var≠0)∨(fT s.Kind=false∧s.Other≠0)∨(eD s.Kind=false∧¬(s.Expr.Kind=0∧s.Expr.N=0∧s.Expr.Args.length=0))∨(s.Kind≠2∧0<s.Args.length)∨(s.Kind<7∧0<s.Then.length)∨(s.Kind≠7∧0<s.Else.length)
 ·rw [ab (n1.2 h1),ab h1]
 rw [ad (fun h=>h1 (n1.1 h)),ad h1]
 have fin:s.Args.length≤9223372036854775807→((if eD s.Kind=true then ex s.Expr else some 0).bind fun x=>if x≠0 then some x else if s.Args.length≤9223372036854775807 then ub ex s.Args else none)=some (if eD s.Kind=true∧er p s.Expr≠0 then er p s.Expr else bg (er p) s.Args):=by
  intro hl
  rw [ab hl,JN p hx,hx]
  cases eD s.Kind with
  | false=>simp
  | true=>by_cases h0:er p s.Expr=0<;>simp [h0]
 by_cases k2:s.Kind=2
 ·have ho:0≤s.Other∧s.Other<i:=by
   have:fT s.Kind=true:=by rw [k2];rfl
   have e:gP p i s.Kind=i:=by rw [k2];rfl
   rw [e] at h5
   have h6:¬(s.Other<0∨i≤s.Other):=fun h=>h5 (.inr ⟨this,h⟩)
   omega
  have hi:s.Other.toNat<p.Funcs.length:=by omega
  have hpo:yf p s.Other=(p.Funcs[s.Other.toNat]).Params.length:=by unfold yf;rw [aB hi];rfl
  have hpl:=hp _ (cq hi)
  rw [ab k2,aB hi,gv,af,hpo]
  by_cases hn:s.Args.length=(p.Funcs[s.Other.toNat]).Params.length
  ·rw [show decide (s.Args.length≠(p.Funcs[s.Other.toNat]).Params.length)=false by simp [hn]]
   simp only [bB,aM]
   rw [ad (fun h:s.Kind=2∧s.Args.length≠(p.Funcs[s.Other.toNat]).Params.length=>h.2 hn)]
   exact fin (by omega)
  ·rw [show decide (s.Args.length≠(p.Funcs[s.Other.toNat]).Params.length)=true by simp [hn]]
   simp only [aq]
   rw [ab (show s.Kind=2∧s.Args.length≠(p.Funcs[s.Other.toNat]).Params.length from ⟨k2,hn⟩)]
 ·rw [ad k2,af]
  simp only [bB,aM]
  rw [ad (fun h:s.Kind=2∧s.Args.length≠yf p s.Other=>k2 h.1)]
  have ha:¬0<s.Args.length:=fun h=>h1 (.inr (.inr (.inr (.inl ⟨k2,h⟩))))
  exact fin (by omega)
theorem WB{c:Checker}{s:Stmt}(h0:c.funcs≤c.p.Funcs.length)(hp:∀ f∈c.p.Funcs,f.Params.length≤9223372036854775807):fU c s=some (bO c.p c.funcs s):=by
 unfold fU
 by_cases k18:s.Kind<1∨8<s.Kind
 ·rw [ab k18];unfold bO;rw [ab k18]
 ·rw [ad k18];exact Oi (fun e=>Mg c.p e) h0 hp k18
theorem ahG{c:Checker}(h0:c.funcs≤c.p.Funcs.length)(hp:∀ f∈c.p.Funcs,f.Params.length≤9223372036854775807)(n:Nat):∀ (l:List Stmt)(d:Int),dX l+1≤n→br l≤50→1≤d→d+dX l≤100→
  (cQ n).f_scope_Walk__scope_checker_stmts_1 l d () c 0=some (dj (bO c.p c.funcs) l==0,(),dj (bO c.p c.funcs) l):=by
 induction n with
 | zero=>intro l d h;omega
 | succ n ih=>
  intro l d h1 h2 h3 h4
  show dV (cQ n) l d () c 0=_
  unfold dV
  have hlen:=jB l
  obtain ⟨x,hx,hQ⟩:=ke (B:=fun v=>dP (cQ n) l d c v.1 v.2) (fun v=>l.length - v.1)
   (fun v=>v.1≤l.length∧dj (bO c.p c.funcs) l=dj (bO c.p c.funcs) (l.drop v.1)∧v.2=0)
   (fun x=>(match x with
    | .inl y=>y≠0∧y=dj (bO c.p c.funcs) l
    | .inr (_,_,y)=>y=0∧dj (bO c.p c.funcs) l=0)) (by
    rintro ⟨k,e⟩ ⟨hk,he,hz⟩
    simp only at hk he hz ⊢
    subst hz
    unfold dP ml
    by_cases hlt:k<l.length
    ·rw [jt hlt,dj,Og] at he
     have hm:=cq hlt
     have g1:=FH hm
     have g2:=FI hm
     rw [ab (by omega),aB hlt,af]
     generalize l[k]=s at *
     have g3:=AK s
     have g4:=Hh s
     rw [WB h0 hp,af,af]
     by_cases e1:bO c.p c.funcs s=0
     ·simp only [e1,CF,aq,ne_eq,qo,aM] at he ⊢
      rw [ab (wg (by omega) (by omega)),ih _ _ (by omega) (by omega) (by omega) (by omega),af]
      by_cases e2:dj (bO c.p c.funcs) s.Then=0
      ·simp only [e2,CF,aq,qo,aM] at he ⊢
       rw [ih _ _ (by omega) (by omega) (by omega) (by omega),af]
       by_cases e3:dj (bO c.p c.funcs) s.Else=0
       ·simp only [e3,CF,aq,qo,aM] at he ⊢
        rw [ab (nA (by omega))]
        exact .inr ⟨_,rfl,⟨by simp only;omega,he,rfl⟩,by simp only;omega⟩
       ·have:(dj (bO c.p c.funcs) s.Else==0)=false:=by simp [e3]
        simp only [e3,ot,aq] at he
        simp only [this,bB,aM]
        exact .inl ⟨_,rfl,e3,he.symm⟩
      ·have:(dj (bO c.p c.funcs) s.Then==0)=false:=by simp [e2]
       simp only [e2,ot,aq] at he
       simp only [this,bB,aM]
       exact .inl ⟨_,rfl,e2,he.symm⟩
     ·have:(bO c.p c.funcs s==0)=false:=by simp [e1]
      simp only [e1,ne_eq,ot,aq] at he
      simp only [this,bB,aM]
      exact .inl ⟨_,rfl,e1,he.symm⟩
    ·rw [qh (by omega),dj] at he
     rw [ad (by omega)]
     exact .inl ⟨_,rfl,rfl,he⟩) (0,0) ⟨ct _,rfl,rfl⟩
  rw [hx,af]
  rcases x with y | ⟨a,b,y⟩
  ·obtain ⟨q1,q2⟩:=hQ
   have:(dj (bO c.p c.funcs) l==0)=false:=by rw [←q2];simp [q1]
   simp only [this]
   rw [q2]
  ·obtain ⟨q1,q2⟩:=hQ
   simp only [q2,q1];rfl
theorem Mh{c:Checker}{l:List Stmt}(h0:c.funcs≤c.p.Funcs.length)(hp:∀ f∈c.p.Funcs,f.Params.length≤9223372036854775807)(hc:br l≤50)(hd:dX l≤6):iw c l=some (dj (bO c.p c.funcs) l):=by
 unfold iw
 have:fZ l 1 () c 0=some (dj (bO c.p c.funcs) l==0,(),dj (bO c.p c.funcs) l):=
  Bh 8 fun n hn=>ahG h0 hp n l 1 (by omega) hc (by decide) (by omega)
 rw [this];rfl
theorem Ny{l:List Int}{a:Int}(hl:l.length≤9223372036854775807):kl l a=some (decide (a∈l)):=by
 unfold kl qG
 obtain ⟨x,hx,hQ⟩:=ke (B:=fun v=>lq l a v) (fun k=>l.length - k) (fun k=>k≤l.length∧¬a∈l.take k)
  (fun x=>match x with
   | .inl _=>a∈l
   | .inr _=>¬a∈l) (by
   rintro k ⟨hk,hn⟩
   unfold lq
   by_cases hlt:k<l.length
   ·rw [ab (by omega),aB hlt,af]
    by_cases h:a=l[k]
    ·rw [ab (by simp [h])]
     exact .inl ⟨_,rfl,by rw [h];exact cq hlt⟩
    ·rw [ad (by simp [h]),ab (nA (by omega))]
     refine .inr ⟨_,rfl,⟨by omega,fun hm=>?_⟩,by omega⟩
     rw [p9,aB hlt] at hm
     rcases bU.1 hm with hm | hm
     ·exact hn hm
     ·exact h (by simpa using hm)
   ·rw [ad (by omega)]
    rw [lU (by omega)] at hn
    exact .inl ⟨_,rfl,hn⟩) 0 ⟨ct _,by simp⟩
 rw [hx]
 simp only [af]
 rcases x with y | ⟨y,z⟩
 ·have h:a∈l:=hQ
  simp [h]
 ·have h:¬a∈l:=hQ
  simp [h]
theorem ahH{c:Checker}{f:Func}(h0:c.funcs≤c.p.Funcs.length)(hp:∀ f∈c.p.Funcs,f.Params.length≤9223372036854775807)(hc:br f.Body≤50)(hd:dX f.Body≤6):mP c f=some (sB c.p c.funcs f):=by
 unfold mP sB
 by_cases h4:4<f.Params.length
 ·rw [ab (by omega),ab h4]
 rw [ad (by omega),ad h4]
 obtain ⟨x,hx,hQ⟩:=ke (B:=fun v=>lr c f v) (fun k=>f.Params.length - k)
  (fun k=>k≤f.Params.length∧oO c.p.Vars.length [] f.Params=oO c.p.Vars.length (f.Params.take k) (f.Params.drop k))
  (fun x=>(match x with
   | .inl _=>(5:Int)
   | .inr (.inl _)=>6
   | .inr (.inr _)=>0)=oO c.p.Vars.length [] f.Params) (by
   rintro k ⟨hk,he⟩
   unfold lr
   by_cases hlt:k<f.Params.length
   ·rw [jt hlt,oO] at he
    rw [ab (by omega),aB hlt,af]
    have htk:f.Params.take k++[f.Params[k]]=f.Params.take (k+1):=by rw [p9,aB hlt];rfl
    rw [htk] at he
    by_cases g1:f.Params[k]<0
    ·rw [ab g1]
     rw [ab (.inl g1)] at he
     exact .inl ⟨_,rfl,he.symm⟩
    rw [ad g1]
    by_cases g2:(c.p.Vars.length:Int)≤f.Params[k]
    ·rw [ab g2]
     rw [ab (.inr g2)] at he
     exact .inl ⟨_,rfl,he.symm⟩
    rw [ad g2,ab (by omega),tC,Ny (by rw [CE];omega),af]
    rw [ad (by omega)] at he
    by_cases g3:f.Params[k]∈f.Params.take k
    ·rw [ab (av g3)]
     rw [ab g3] at he
     exact .inl ⟨_,rfl,he.symm⟩
    ·rw [ad (by simpa using g3),ab (nA (by omega))]
     rw [ad g3] at he
     exact .inr ⟨_,rfl,⟨by omega,he⟩,by omega⟩
   ·rw [qh (by omega),oO] at he
    rw [ad (by omega)]
    exact .inl ⟨_,rfl,he.symm⟩) 0 ⟨ct _,by simp⟩
 rw [hx,af]
 rcases x with _ | _ | ⟨a,b⟩
 ·have h:(5:Int)=oO c.p.Vars.length [] f.Params:=hQ
  rw [←h];rfl
 ·have h:(6:Int)=oO c.p.Vars.length [] f.Params:=hQ
  rw [←h];rfl
 ·have h:(0:Int)=oO c.p.Vars.length [] f.Params:=hQ
  rw [←h,ad (by decide)]
  simp only [Mh h0 hp hc hd,af]
  by_cases he:dj (bO c.p c.funcs) f.Body=0
  ·rw [ad (by simp [he]),ad (by simp [he]),Mg];rfl
  ·rw [ab (by simp [he]),ab he]
theorem Rp(a b:List Label)(ha:a.length≤5)(hb:b.length≤5):iB [a,b]=some (a++b):=by
 unfold iB
 have z1:IntKind.i64.wrap 1=1:=by decide
 have z2:IntKind.i64.wrap 2=2:=by decide
 have w1:IntKind.i64.wrap (0+(a.length:Int))=0+(a.length:Int):=wg (by omega) (by omega)
 have w2:IntKind.i64.wrap (0+(a.length:Int)+(b.length:Int))=0+(a.length:Int)+(b.length:Int):=wg (by omega) (by omega)
 have n1:¬(0+(a.length:Int))<0:=by omega
 have n2:¬(0+(a.length:Int)+(b.length:Int))<0:=by omega
 have l0:lp (fun v=>dJ [a,b] v.1 v.2) (0,0)=some (0+(a.length:Int)+(b.length:Int),2,false):=by
  rw [lF (w:=(0+(a.length:Int),1)) (by simp only [dJ];simp only [bu,ig,yV,af,w1,n1,aM,aq];simp [z1]),
   lF (w:=(0+(a.length:Int)+(b.length:Int),2)) (by simp only [dJ];simp only [bu,ig,Cw,yV,af,w2,n2,aM,aq];simp [z2])]
  exact fc (by simp [dJ])
 have l1:lp (fun v=>dK [a,b] v.1 v.2) (([]:List Label),0)=some (a++b,2,false):=by
  rw [lF (w:=(a,1)) (by simp [dK,z1];omega),
   lF (w:=(a++b,2)) (by simp [dK,z2];omega)]
  exact fc (by simp [dK])
 rw [l0,af,ab (by simp only;omega),l1];rfl
variable [Lp]
theorem ahI(p:Program):pG p=some (decide (16<p.Vars.length∨5<p.Ins.length∨5<p.Outs.length∨5<p.Funcs.length∨p.aj.Many<(p.Speak.length:Int))):=by
 unfold pG kj
 by_cases h1:16<p.Vars.length
 ·have:(16:Int)<(p.Vars.length:Int):=by omega
  simp [h1,this]
 have h1':¬(16:Int)<(p.Vars.length:Int):=by omega
 by_cases h2:5<p.Ins.length
 ·have:(5:Int)<(p.Ins.length:Int):=by omega
  simp [h1',h2,this]
 have h2':¬(5:Int)<(p.Ins.length:Int):=by omega
 by_cases h3:5<p.Outs.length
 ·have:(5:Int)<(p.Outs.length:Int):=by omega
  simp [h1',h2',h3,this]
 have h3':¬(5:Int)<(p.Outs.length:Int):=by omega
 by_cases h4:5<p.Funcs.length
 ·have:(5:Int)<(p.Funcs.length:Int):=by omega
  simp [h1',h2',h3',h4,this]
 have h4':¬(5:Int)<(p.Funcs.length:Int):=by omega
 simp [h1,h1',h2,h2',h3,h3',h4,h4']
theorem TK{m:Int}{l:Label}(h:dE m l=0):l.Read.length≤4∧l.Write.length≤4:=⟨(Bz (BA h).1).1,(Bz (BA h).2).1⟩
theorem WC(p:Program):uc p=some (pH p):=by
 unfold uc pH
 rw [Wt,af]
 by_cases a1:eP p.aj=0
 rotate_left
 ·rw [ab (show (eP p.aj !=0)=true by simp [a1]),ab a1]
 rw [ad (show ¬(eP p.aj !=0)=true by simp [a1]),ad (show ¬eP p.aj≠0 from fun h=>h a1),ahI,af]
 obtain ⟨c1,c2,c3,c4⟩:=lB a1
 by_cases a4:16<p.Vars.length∨5<p.Ins.length∨5<p.Outs.length∨5<p.Funcs.length∨p.aj.Many<(p.Speak.length:Int)
 ·rw [ab (av a4),ab a4]
 rw [ad (by simpa using a4),ad a4]
 have hs:fV p.Speak p=some (p.Speak.any (fun n=>!bL p.aj.Many n)):=uT (fun y=>ri y p) _ p.Speak (by omega) (fun y _=>by simp [ri,FG])
 rw [hs,af]
 cases a5:p.Speak.any (fun n=>!bL p.aj.Many n) with
 | true=>rfl
 | false=>
  simp only [bB,aM]
  rw [Rp _ _ (by omega) (by omega),af]
  obtain ⟨x,hx,e1,e2⟩:=Hj (B:=fun v=>nZ p (p.Ins++p.Outs) v) (p.Ins++p.Outs) (dE p.aj.Many) (fun k hk=>by
   unfold nZ
   rw [ab (by omega),aB hk,af,Rm,af]
   rw [cH] at hk
   by_cases h0:dE p.aj.Many (p.Ins++p.Outs)[k]=0
   ·rw [ad (by simp [h0]),ab (nA (by omega)),ad (by simp [h0])]
   ·rw [ab (by simp [h0]),ab h0]) ⟨_,by unfold nZ;rw [ad (by omega)]⟩
  rw [hx,af]
  by_cases h6:bg (dE p.aj.Many) (p.Ins++p.Outs)=0
  rotate_left
  ·rcases x with y | ⟨a,b⟩
   ·have hy:y=_:=e1
    rw [ab h6,←hy]
   ·have hy:(0:Int)=_:=e1
    exact absurd hy.symm h6
  obtain ⟨z,rfl⟩:=e2 h6
  rw [ad (show ¬bg (dE p.aj.Many) (p.Ins++p.Outs)≠0 from fun h=>h h6)]
  obtain ⟨z1,z2⟩:=z
  simp only
  obtain ⟨x,hx,e3,e4⟩:=Hj (B:=fun v=>n4 p v) p.Vars (fun v:Var=>dE p.aj.Many v.Label) (fun k hk=>by
   unfold n4
   rw [ab (by omega),aB hk,af,Rm,af]
   by_cases h0:dE p.aj.Many p.Vars[k].Label=0
   ·rw [ad (by simp [h0]),ab (nA (by omega)),ad (by simp [h0])]
   ·rw [ab (by simp [h0]),ab h0]) ⟨_,by unfold n4;rw [ad (by omega)]⟩
  rw [hx,af]
  by_cases h7:bg (fun v:Var=>dE p.aj.Many v.Label) p.Vars=0
  rotate_left
  ·rcases x with y | ⟨a,b⟩
   ·have hy:y=_:=e3
    rw [ab h7,←hy]
   ·have hy:(0:Int)=_:=e3
    exact absurd hy.symm h7
  obtain ⟨z,rfl⟩:=e4 h7
  rw [ad (show ¬bg (fun v:Var=>dE p.aj.Many v.Label) p.Vars≠0 from fun h=>h h7)]
  obtain ⟨z1,z2⟩:=z
  simp only
  have hv:fW p.Vars=some (p.Vars.any (fun v=>!v.Known&&decide (0<v.Label.Read.length+v.Label.Write.length))):=uT rp _ p.Vars (by omega) (fun y hy=>by
   have hl:=TK (mq h7 y hy)
   unfold rp
   rw [ab (c:=IntKind.i64.wrap _=_) (wg (by omega) (by omega))]
   cases y.Known with
   | true=>simp
   | false=>simp;omega)
  rw [hv,af]
  cases p.Vars.any (fun v=>!v.Known&&decide (0<v.Label.Read.length+v.Label.Write.length))<;>rfl
theorem TL{p:Program}(hf:p.Funcs.length≤5)(hp:∀ f∈p.Funcs,f.Params.length≤9223372036854775807)(hc:∀ f∈p.Funcs,br f.Body≤50∧dX f.Body≤6) :
  ∃ x,lp (fun v=>mQ p v.1 v.2) (0,0)=some x∧PI x=kJ p 0 p.Funcs∧(kJ p 0 p.Funcs=0→∃ z,x= .inr z):=by
 refine ke (B:=fun v=>mQ p v.1 v.2) (fun v=>p.Funcs.length - v.1) (fun v=>v.1≤p.Funcs.length∧kJ p 0 p.Funcs=kJ p v.1 (p.Funcs.drop v.1)) (fun x=>PI x=kJ p 0 p.Funcs∧(kJ p 0 p.Funcs=0→∃ z,x= .inr z)) ?_ (0,0) ⟨ct _,rfl⟩
 rintro ⟨k,m⟩ ⟨hk,he⟩
 simp only at hk he ⊢
 unfold mQ
 by_cases hlt:k<p.Funcs.length
 ·rw [jt hlt,kJ] at he
  have hm:=hc _ (cq hlt)
  rw [ab (by omega),aB hlt,af,ahH (c:=⟨p,(k:Int)⟩) (by simp only;omega) hp hm.1 hm.2,af]
  simp only
  by_cases h0:sB p k p.Funcs[k]=0
  ·rw [ad (by simp [h0])] at he
   rw [ad (by simp [h0]),ab (nA (by omega))]
   exact .inr ⟨_,rfl,⟨by simp only;omega,he⟩,by simp only;omega⟩
  ·rw [ab h0] at he
   rw [ab (by simp [h0])]
   exact .inl ⟨_,rfl,he.symm,fun hz=>absurd (he.symm.trans hz) h0⟩
 ·rw [qh (by omega),kJ] at he
  rw [ad (by omega)]
  exact .inl ⟨_,rfl,he.symm,fun _=>⟨_,rfl⟩⟩
theorem TM{p:Program}(hp:∀ f∈p.Funcs,f.Params.length≤9223372036854775807):sK p=some (sC p):=by
 unfold sK sC
 rw [WC,af]
 by_cases h1:pH p=0
 rotate_left
 ·rw [ab (show (pH p !=0)=true by simp [h1]),ab h1]
 rw [ad (show ¬(pH p !=0)=true by simp [h1]),ad (show ¬pH p≠0 from fun h=>h h1)]
 have hf:p.Funcs.length≤5:=by
  unfold pH at h1
  by_cases a1:eP p.aj=0
  ·rw [ad (by simp [a1])] at h1
   by_cases a2:16<p.Vars.length∨5<p.Ins.length∨5<p.Outs.length∨5<p.Funcs.length∨p.aj.Many<(p.Speak.length:Int)
   ·rw [ab a2] at h1;exact absurd h1 (by decide)
   ·omega
  ·rw [ab a1] at h1;exact absurd h1 a1
 rw [Nw hf,af]
 cases h2:(kK p.Main p.Funcs 0).1 with
 | false=>rfl
 | true=>
  have h2':kK p.Main p.Funcs 0=(true,(kK p.Main p.Funcs 0).2):=Prod.ext h2 rfl
  obtain ⟨g1,g2,g3,_⟩:=BC (by decide) (by decide) h2'
  obtain ⟨x,hx,e1,e2⟩:=TL hf hp g1
  simp only [aq,hx,af,y0,aM]
  by_cases h3:kJ p 0 p.Funcs=0
  rotate_left
  ·rcases x with y | ⟨a,b,e⟩
   ·have hy:y=_:=e1
    rw [ab h3,←hy]
   ·have hy:(0:Int)=_:=e1
    exact absurd hy.symm h3
  obtain ⟨⟨z1,z2,z3⟩,rfl⟩:=e2 h3
  rw [ad (show ¬kJ p 0 p.Funcs≠0 from fun h=>h h3)]
  simp only [Mh (c:=⟨p,(p.Funcs.length:Int)⟩) (l:=p.Main) (yU _) hp g2 g3,af]
end Go.Proofs.YtkkkkondjclcnaaGreat.A
