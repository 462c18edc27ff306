/- Programs: the program's own check of them answers as plain mathematics says. -/
import Derived.Test.YtlmphbbhaeampaaGreatScopeS
set_option linter.all false
namespace Go.Proofs.YtlmphbbhaeampaaGreat.A
open Go
variable [Lp]
theorem apk(n:Nat):∀ (l:List Stmt)(d c:Int),1≤d→d≤7→8 - d≤n→0≤c→c≤50→(eY n).f_scope_Walk__scope_few_1 l d c=some (oT l d c):=by
 induction n with
 | zero=>grind
 | succ n ih=>
  intro l d c h1 h2 h3 h4 h5
  show ja (eY n) l d c=_
  unfold ja
  obtain ⟨x,hx,hQ⟩:=eX (B:=fun v=>iN (eY n) l d v.1 v.2) (fun v=>l.length - v.1)
   (fun v=>v.1≤l.length∧oT l d c=oT (l.drop v.1) d v.2∧0≤v.2∧v.2≤50∧(v.1:Int)≤v.2)
   (fun x=>(match x with
    | .inl y=>(false,y)
    | .inr (_,_,y)=>(true,y))=oT l d c) (by
    rintro ⟨k,c'⟩ ⟨hk,he,g1,g2,g3⟩
    simp only at hk he g1 g2 g3 ⊢
    unfold iN zO
    by_cases g:k<l.length
    ·rw [dU g,oT,Z5] at he
     rw [af (by omega),bu g,ab,af (fG (by omega) (by omega))]
     generalize l[k]=s at *
     by_cases hc:c'+1≤50
     ·rw [af hc]
      by_cases hd:d≤6
      ·rw [af ⟨hc,hd⟩] at he
       simp only [ab,hd,rV,aH]
       rw [af (fG (by omega) (by omega)),ih _ _ _ (by omega) (by omega) (by omega) (by omega) (by omega),ab]
       cases ht:oT s.Then (d+1) (c'+1) with
       | mk b m=>
        cases b with
        | false=>
         rw [ht] at he
         refine .inl ⟨_,rfl,?_⟩
         rw [he];rfl
        | true=>
         obtain ⟨rfl,q1,q2⟩:=(kR _ _ _ _ (by omega) (by omega)).1 ht
         rw [ht] at he
         simp only [aH]
         rw [ih _ _ _ (by omega) (by omega) (by omega) (by omega) (by omega),ab]
         simp only [andThen,aH] at he
         cases j:oT s.Else (d+1) (c'+1+(bR s.Then:Int)) with
         | mk b m=>
          rw [j] at he
          cases b with
          | false=>grind
          | true=>
           obtain ⟨rfl,q3,q4⟩:=(kR _ _ _ _ (by omega) (by omega)).1 j
           simp only [aH] at he ⊢
           rw [af (eQ (by omega))]
           grind
      ·rw [ah (by omega)] at he
       simp only [ab,hd,decide_false,dy,cH]
       exact .inl ⟨_,rfl,by rw [he];rfl⟩
     ·rw [ah hc]
      rw [ah (by omega)] at he
      simp only [ab,dy,cH]
      exact .inl ⟨_,rfl,by rw [he];rfl⟩
    simp_all [jg,oT]) (0,c) (by grind)
  grind
variable {l:List Stmt}
theorem V2{c:Int}(h1:0≤c)(h2:c≤50):jy l 1 c=some (oT l 1 c):=
 uH 8 (by grind [apk])
variable {p:Program}
theorem RC(hf:p.Funcs.length≤5):yI p=some (l7 p.Main p.Funcs 0).1:=by
 unfold yI
 obtain ⟨x,hx,hQ⟩:=eX (B:=fun v=>uK p v.1 v.2) (fun v=>p.Funcs.length - v.1)
  (fun v=>v.1≤p.Funcs.length∧l7 p.Main p.Funcs 0=l7 p.Main (p.Funcs.drop v.1) v.2∧0≤v.2∧v.2≤50)
  (fun x=>(match x with
   | .inl _=>(l7 p.Main p.Funcs 0).1=false
   | .inr (_,_,y)=>l7 p.Main p.Funcs 0=oT p.Main 1 y∧0≤y∧y≤50)) (by
   rintro ⟨k,c⟩ ⟨hk,he,g1,g2⟩
   simp only at hk he g1 g2 ⊢
   unfold uK
   by_cases g:k<p.Funcs.length
   ·rw [dU g,l7] at he
    rw [af (by omega),bu g,ab,V2 g1 g2,ab]
    cases hl:oT p.Funcs[k].Body 1 c with
    | mk b m=>
     rw [hl] at he
     cases b with
     | false=>exact .inl ⟨_,rfl,by simp only;rw [he];rfl⟩
     | true=>
      obtain ⟨rfl,q1,q2⟩:=(kR _ _ _ _ g2 (by decide)).1 hl
      simp only [andThen,aH] at he ⊢
      rw [af (eQ (by omega))]
      grind
   simp_all [jg,l7]) (0,0) (by grind)
 grind [V2]
def T6{α:Type} : Int⊕α→Int
 | .inl y=>y
 | .inr _=>0
variable {β:Type}
theorem uO(f:β→Int)(x:β)(l:List β):cT f (x::l)=if f x≠0 then f x else cT f l:=by
 grind [cT]
theorem Qh{ζ:Type}{B:Nat→Option (Nat⊕(Int⊕ζ))}(es:List β)(f:β→Int)(hs:∀ k (h:k<es.length),B k=if f es[k]≠0 then some (.inr (.inl (f es[k]))) else some (.inl (k+1)))(he:∃ z,B es.length=some (.inr (.inr z))):
  ∃ x,lp B 0=some x∧T6 x=cT f es∧(cT f es=0→∃ z,x= .inr z):=by
 refine eX (B:=B) (fun k=>es.length - k) (fun k=>k≤es.length∧cT f es=cT f (es.drop k)) (fun x=>T6 x=cT f es∧(cT f es=0→∃ z,x= .inr z)) ?_ 0 ⟨du _,rfl⟩
 rintro k ⟨hk,hf⟩
 by_cases g:k<es.length
 ·rw [dU g,uO] at hf
  rw [hs k g]
  by_cases h0:f es[k]=0
  ·grind
  ·rw [af h0] at hf ⊢
   exact .inl ⟨_,rfl,hf.symm,by grind⟩
 ·obtain rfl:k=es.length:=by omega
  rw [Gd] at hf
  obtain ⟨z,hz⟩:=he
  exact .inl ⟨_,hz,hf.symm,fun _=>⟨z,rfl⟩⟩
theorem Qi(p:Program)(e:ay):np e (p.Vars.length:Int)=some (eP p e):=aaa e _
variable [Lp]
theorem NR{ex:ay→Option Int}(p:Program)(hx:∀ e,ex e=some (eP p e)):∀ l:List ay,wm ex l=some (cT (eP p) l)
 | []=>rfl
 | e::r=>by
  rw [wm,hx,ab,uO,NR p hx r]
  grind
variable {s:Stmt}
theorem SK{ex:ay→Option Int}{i:Int}(hx:∀ e,ex e=some (eP p e))(h0:i≤p.Funcs.length)(hp:∀ f∈p.Funcs,f.Params.length≤9223372036854775807)(k18:¬(s.Kind<1∨8<s.Kind)):Mu ex p i s=some (cV p i s):=by
 unfold Mu cV
 rw [ah k18]
 have n5:uJ p i s=true↔(fI s.Kind=true∧(s.Var<0∨(p.Vars.length:Int)≤s.Var))∨(jC s.Kind=true∧(s.Other<0∨fL p i s.Kind≤s.Other)):=by simp [uJ]
 by_cases h5:(fI s.Kind=true∧(s.Var<0∨(p.Vars.length:Int)≤s.Var))∨(jC s.Kind=true∧(s.Other<0∨fL p i s.Kind≤s.Other))
 ·grind
 rw [ah (fun h=>h5 (n5.1 h)),ah h5]
 have n1:Aq s=true↔(fI s.Kind=false∧s.Var≠0)∨(jC s.Kind=false∧s.Other≠0)∨(gG s.Kind=false∧¬(s.Expr.Kind=0∧s.Expr.N=0∧s.Expr.Args.length=0))∨(s.Kind≠2∧0<s.Args.length)∨(s.Kind<7∧0<s.Then.length)∨(s.Kind≠7∧0<s.Else.length):=by
  grind [Aq,mh]
 by_cases h1:(fI s.Kind=false∧s.Var≠0)∨(jC s.Kind=false∧s.Other≠0)∨(gG s.Kind=false∧¬(s.Expr.Kind=0∧s.Expr.N=0∧s.Expr.Args.length=0))∨(s.Kind≠2∧0<s.Args.length)∨(s.Kind<7∧0<s.Then.length)∨(s.Kind≠7∧0<s.Else.length)
 ·grind
 grind [gG,wm,cT,NR,jC,fL,GN]
variable {c:Checker}
theorem aac(h0:c.funcs≤c.p.Funcs.length)(hp:∀ f∈c.p.Funcs,f.Params.length≤9223372036854775807):ig c s=some (cV c.p c.funcs s):=by
 unfold ig
 grind [cV,SK,Qi]
theorem amw(h0:c.funcs≤c.p.Funcs.length)(hp:∀ f∈c.p.Funcs,f.Params.length≤9223372036854775807)(n:Nat):∀ (l:List Stmt)(d:Int),ed l+1≤n→bR l≤50→1≤d→d+ed l≤100→
  (dK n).f_scope_Walk__scope_checker_stmts_1 l d () c 0=some (eU (cV c.p c.funcs) l==0,(),eU (cV c.p c.funcs) l):=by
 induction n with
 | zero=>grind
 | succ n ih=>
  intro l d h1 h2 h3 h4
  show eO (dK n) l d () c 0=_
  unfold eO
  have hlen:=jU l
  obtain ⟨x,hx,hQ⟩:=eX (B:=fun v=>eL (dK n) l d c v.1 v.2) (fun v=>l.length - v.1)
   (fun v=>v.1≤l.length∧eU (cV c.p c.funcs) l=eU (cV c.p c.funcs) (l.drop v.1)∧v.2=0)
   (fun x=>(match x with
    | .inl y=>y≠0∧y=eU (cV c.p c.funcs) l
    | .inr (_,_,y)=>y=0∧eU (cV c.p c.funcs) l=0)) (by
    rintro ⟨k,e⟩ ⟨hk,he,hz⟩
    simp only at hk he hz ⊢
    subst hz
    unfold eL nS
    by_cases g:k<l.length
    ·rw [dU g,eU,SH] at he
     have hm:=cg g
     have g1:=vj hm
     have g2:=ye hm
     rw [af (by omega),bu g,ab]
     generalize l[k]=s at *
     have g3:=sB s
     have g4:=sC s
     rw [aac h0 hp,ab,ab]
     by_cases e1:cV c.p c.funcs s=0
     ·simp only [e1,xG,aH,ne_eq,xv,cH] at he ⊢
      rw [af (fG (by omega) (by omega)),ih _ _ (by omega) (by omega) (by omega) (by omega),ab]
      by_cases e2:eU (cV c.p c.funcs) s.Then=0
      ·simp only [e2,xG,aH,xv,cH] at he ⊢
       rw [ih _ _ (by omega) (by omega) (by omega) (by omega),ab]
       by_cases e3:eU (cV c.p c.funcs) s.Else=0
       ·simp only [e3,xG,aH,xv,cH] at he ⊢
        rw [af (eQ (by omega))]
        grind
       simp_all
      simp_all
     simp_all
    simp_all [jg,eU]) (0,0) ⟨du _,rfl,rfl⟩
  grind
theorem Qj(h0:c.funcs≤c.p.Funcs.length)(hp:∀ f∈c.p.Funcs,f.Params.length≤9223372036854775807)(hc:bR l≤50)(hd:ed l≤6):js c l=some (eU (cV c.p c.funcs) l):=by
 unfold js
 have:iq l 1 () c 0=some (eU (cV c.p c.funcs) l==0,(),eU (cV c.p c.funcs) l):=
  uH 8 (by grind [amw])
 rw [this];rfl
theorem RD{l:List Int}{a:Int}(hl:l.length≤9223372036854775807):lI l a=some (decide (a∈l)):=by
 unfold lI ss
 obtain ⟨x,hx,hQ⟩:=eX (B:=fun v=>mz l a v) (fun k=>l.length - k) (fun k=>k≤l.length∧¬a∈l.take k)
  (fun x=>match x with
   | .inl _=>a∈l
   | .inr _=>¬a∈l) (by
   rintro k ⟨hk,hn⟩
   unfold mz
   by_cases g:k<l.length
   ·rw [af (by omega),bu g,ab]
    by_cases h:a=l[k]
    ·simp_all
    ·rw [ah (by simp [h]),af (eQ (by omega))]
     grind [List.take_add_one]
   simp_all [iC]) 0 ⟨du _,by simp⟩
 rw [hx]
 simp only [ab]
 rcases x with y | ⟨y,z⟩
 ·simp_all
 grind
theorem amx{f:Func}(h0:c.funcs≤c.p.Funcs.length)(hp:∀ f∈c.p.Funcs,f.Params.length≤9223372036854775807)(hc:bR f.Body≤50)(hd:ed f.Body≤6):oq c f=some (uy c.p c.funcs f):=by
 unfold oq uy
 by_cases h4:4<f.Params.length
 ·grind
 rw [ah (by omega),ah h4]
 obtain ⟨x,hx,hQ⟩:=eX (B:=fun v=>mA c f v) (fun k=>f.Params.length - k)
  (fun k=>k≤f.Params.length∧uc c.p.Vars.length [] f.Params=uc c.p.Vars.length (f.Params.take k) (f.Params.drop k))
  (fun x=>(match x with
   | .inl _=>(5:Int)
   | .inr (.inl _)=>6
   | .inr (.inr _)=>0)=uc c.p.Vars.length [] f.Params) (by
   rintro k ⟨hk,he⟩
   unfold mA
   by_cases g:k<f.Params.length
   ·rw [dU g,uc] at he
    rw [af (by omega),bu g,ab]
    have q:f.Params.take k++[f.Params[k]]=f.Params.take (k+1):=by grind [List.take_add_one]
    grind [RD,eQ]
   simp_all [jg,uc]) 0 ⟨du _,by simp⟩
 grind [Qj,Qi]
theorem V3(a b:List Label)(ha:a.length≤5)(hb:b.length≤5):jx [a,b]=some (a++b):=by
 unfold jx
 have z1:IntKind.i64.wrap 1=1:=by decide
 have z2:IntKind.i64.wrap 2=2:=by decide
 have w1:IntKind.i64.wrap (0+(a.length:Int))=0+(a.length:Int):=fG (by omega) (by omega)
 have w2:IntKind.i64.wrap (0+(a.length:Int)+(b.length:Int))=0+(a.length:Int)+(b.length:Int):=fG (by omega) (by omega)
 have n1:¬(0+(a.length:Int))<0:=by omega
 have n2:¬(0+(a.length:Int)+(b.length:Int))<0:=by omega
 have l0:lp (fun v=>eF [a,b] v.1 v.2) (0,0)=some (0+(a.length:Int)+(b.length:Int),2,false):=by
  rw [nV (w:=(0+(a.length:Int),1)) (by grind [eF]),
   nV (w:=(0+(a.length:Int)+(b.length:Int),2)) (by grind [eF])]
  exact jQ (by simp [eF])
 have l1:lp (fun v=>eG [a,b] v.1 v.2) (([]:List Label),0)=some (a++b,2,false):=by
  rw [nV (w:=(a,1)) (by grind [eG]),
   nV (w:=(a++b,2)) (by grind [eG])]
  exact jQ (by simp [eG])
 grind
variable [Lp]
theorem amy(p:Program):rB p=some (decide (16<p.Vars.length∨5<p.Ins.length∨5<p.Outs.length∨5<p.Funcs.length∨p.ak.Many<(p.Speak.length:Int))):=by
 grind [rB,lH]
theorem XC{m:Int}{l:Label}(h:fw m l=0):l.Read.length≤4∧l.Write.length≤4:=⟨(yd (qx h).1).1,(yd (qx h).2).1⟩
theorem aad(p:Program):wo p=some (tE p):=by
 unfold wo tE
 rw [Z3,ab]
 by_cases a1:iw p.ak=0
 rotate_left
 ·grind
 rw [ah (show ¬(iw p.ak !=0)=true by simp [a1]),ah (show ¬iw p.ak≠0 from fun h=>h a1),amy,ab]
 obtain ⟨c1,c2,c3,c4⟩:=mU a1
 by_cases a4:16<p.Vars.length∨5<p.Ins.length∨5<p.Outs.length∨5<p.Funcs.length∨p.ak.Many<(p.Speak.length:Int)
 ·grind
 rw [ah (by simpa using a4),ah a4]
 have hs:ij p.Speak p=some (p.Speak.any (fun n=>!de p.ak.Many n)):=qh (fun y=>tn y p) _ p.Speak (by omega) (fun y _=>by simp [tn,TZ])
 rw [hs,ab]
 cases a5:p.Speak.any (fun n=>!de p.ak.Many n) with
 | true=>rfl
 | false=>
  simp only [dy,cH]
  rw [V3 _ _ (by omega) (by omega),ab]
  obtain ⟨x,hx,e1,e2⟩:=Qh (B:=fun v=>pr p (p.Ins++p.Outs) v) (p.Ins++p.Outs) (fw p.ak.Many) ((by grind [pr,VZ,eQ])) ⟨_,by unfold pr;rw [ah (by omega)]⟩
  rw [hx,ab]
  by_cases h6:cT (fw p.ak.Many) (p.Ins++p.Outs)=0
  rotate_left
  ·rcases x with y | ⟨a,b⟩
   ·have hy:y=_:=e1
    grind
   ·have hy:(0:Int)=_:=e1
    grind
  obtain ⟨z,rfl⟩:=e2 h6
  rw [ah (show ¬cT (fw p.ak.Many) (p.Ins++p.Outs)≠0 from fun h=>h h6)]
  obtain ⟨z1,z2⟩:=z
  simp only
  obtain ⟨x,hx,e3,e4⟩:=Qh (B:=fun v=>pt p v) p.Vars (fun v:Var=>fw p.ak.Many v.Label) ((by grind [pt,VZ,eQ])) (by grind [pt])
  rw [hx,ab]
  by_cases h7:cT (fun v:Var=>fw p.ak.Many v.Label) p.Vars=0
  rotate_left
  ·rcases x with y | ⟨a,b⟩
   ·have hy:y=_:=e3
    grind
   ·have hy:(0:Int)=_:=e3
    grind
  obtain ⟨z,rfl⟩:=e4 h7
  rw [ah (show ¬cT (fun v:Var=>fw p.ak.Many v.Label) p.Vars≠0 from fun h=>h h7)]
  obtain ⟨z1,z2⟩:=z
  simp only
  have hv:ik p.Vars=some (p.Vars.any (fun v=>!v.Known&&decide (0<v.Label.Read.length+v.Label.Write.length))):=qh tw _ p.Vars (by omega) (fun y hy=>by
   have hl:=XC (qP h7 y hy)
   unfold tw
   rw [af (c:=IntKind.i64.wrap _=_) (fG (by omega) (by omega))]
   cases y.Known with
   | true=>simp
   | false=>simp;omega)
  grind
theorem XD(hf:p.Funcs.length≤5)(hp:∀ f∈p.Funcs,f.Params.length≤9223372036854775807)(hc:∀ f∈p.Funcs,bR f.Body≤50∧ed f.Body≤6):
  ∃ x,lp (fun v=>ot p v.1 v.2) (0,0)=some x∧T6 x=mC p 0 p.Funcs∧(mC p 0 p.Funcs=0→∃ z,x= .inr z):=by
 refine eX (B:=fun v=>ot p v.1 v.2) (fun v=>p.Funcs.length - v.1) (fun v=>v.1≤p.Funcs.length∧mC p 0 p.Funcs=mC p v.1 (p.Funcs.drop v.1)) (fun x=>T6 x=mC p 0 p.Funcs∧(mC p 0 p.Funcs=0→∃ z,x= .inr z)) ?_ (0,0) ⟨du _,rfl⟩
 rintro ⟨k,m⟩ ⟨hk,he⟩
 simp only at hk he ⊢
 unfold ot
 by_cases g:k<p.Funcs.length
 ·rw [dU g,mC] at he
  have hm:=hc _ (cg g)
  rw [af (by omega),bu g,ab,amx (c:=⟨p,(k:Int)⟩) (by simp only;omega) hp hm.1 hm.2,ab]
  simp only
  by_cases h0:uy p k p.Funcs[k]=0
  ·rw [ah (by simp [h0])] at he
   rw [ah (by simp [h0]),af (eQ (by omega))]
   grind
  ·rw [af h0] at he
   rw [af (by simp [h0])]
   exact .inl ⟨_,rfl,he.symm,by grind⟩
 ·rw [jg (by omega),mC] at he
  rw [ah (by omega)]
  exact .inl ⟨_,rfl,he.symm,fun _=>⟨_,rfl⟩⟩
theorem XE(hp:∀ f∈p.Funcs,f.Params.length≤9223372036854775807):uL p=some (jV p):=by
 unfold uL jV
 rw [aad,ab]
 by_cases h1:tE p=0
 rotate_left
 ·grind
 rw [ah (show ¬(tE p !=0)=true by simp [h1]),ah (show ¬tE p≠0 from fun h=>h h1)]
 have hf:p.Funcs.length≤5:=by
  grind [tE]
 rw [RC hf,ab]
 cases h2:(l7 p.Main p.Funcs 0).1 with
 | false=>rfl
 | true=>
  have o:l7 p.Main p.Funcs 0=(true,(l7 p.Main p.Funcs 0).2):=Prod.ext h2 rfl
  obtain ⟨g1,g2,g3,_⟩:=EU (by decide) (by decide) o
  obtain ⟨x,hx,e1,e2⟩:=XD hf hp g1
  simp only [aH,hx,ab,Bool.true_eq_false,cH]
  by_cases h3:mC p 0 p.Funcs=0
  rotate_left
  ·rcases x with y | ⟨a,b,e⟩
   ·have hy:y=_:=e1
    grind
   ·have hy:(0:Int)=_:=e1
    grind
  grind [Qj]
end Go.Proofs.YtlmphbbhaeampaaGreat.A
