/- Programs: the program's own check of them answers as plain mathematics says. -/
import Derived.Test.YtlmphbbhaeampaaGreatScopeS
set_option linter.all false
namespace Go.Proofs.YtlmphbbhaeampaaGreat.A
open Go
variable [Lp]
theorem ah8(n:Nat):∀ (l:List Stmt)(d c:Int),1≤d→d≤7→8 - d≤n→0≤c→c≤50→(eE n).f_scope_Walk__scope_few_1 l d c=some (n9 l d c):=by
 induction n with
 | zero=>grind
 | succ n ih=>
  intro l d c h1 h2 h3 h4 h5
  show iA (eE n) l d c=_
  unfold iA
  obtain ⟨x,hx,hQ⟩:=kT (B:=fun v=>ic (eE n) l d v.1 v.2) (fun v=>l.length - v.1)
   (fun v=>v.1≤l.length∧n9 l d c=n9 (l.drop v.1) d v.2∧0≤v.2∧v.2≤50∧(v.1:Int)≤v.2)
   (fun x=>(match x with
    | .inl y=>(false,y)
    | .inr (_,_,y)=>(true,y))=n9 l d c) (by
    rintro ⟨k,c'⟩ ⟨hk,he,g1,g2,g3⟩
    simp only at hk he g1 g2 g3 ⊢
    unfold ic xb
    by_cases g:k<l.length
    ·rw [e6 g,n9,V8] at he
     rw [af (by omega),aV g,ad,af (qm (by omega) (by omega))]
     generalize l[k]=s at *
     by_cases hc:c'+1≤50
     ·rw [af hc]
      by_cases hd:d≤6
      ·rw [af ⟨hc,hd⟩] at he
       simp only [ad,hd,qC,aA]
       rw [af (qm (by omega) (by omega)),ih _ _ _ (by omega) (by omega) (by omega) (by omega) (by omega),ad]
       cases ht:n9 s.Then (d+1) (c'+1) with
       | mk b m=>
        cases b with
        | false=>
         rw [ht] at he
         refine .inl ⟨_,rfl,?_⟩
         rw [he];rfl
        | true=>
         obtain ⟨rfl,q1,q2⟩:=(mF _ _ _ _ (by omega) (by omega)).1 ht
         rw [ht] at he
         simp only [aA]
         rw [ih _ _ _ (by omega) (by omega) (by omega) (by omega) (by omega),ad]
         simp only [andThen,aA] at he
         cases j:n9 s.Else (d+1) (c'+1+(cP s.Then:Int)) with
         | mk b m=>
          rw [j] at he
          cases b with
          | false=>grind
          | true=>
           obtain ⟨rfl,q3,q4⟩:=(mF _ _ _ _ (by omega) (by omega)).1 j
           simp only [aA] at he ⊢
           rw [af (oK (by omega))]
           grind
      ·rw [ab (by omega)] at he
       simp only [ad,hd,decide_false,dq,cF]
       exact .inl ⟨_,rfl,by rw [he];rfl⟩
     ·rw [ab hc]
      rw [ab (by omega)] at he
      simp only [ad,dq,cF]
      exact .inl ⟨_,rfl,by rw [he];rfl⟩
    simp_all [mr,n9]) (0,c) (by grind)
  grind
variable {l:List Stmt}
theorem Sl{c:Int}(h1:0≤c)(h2:c≤50):iV l 1 c=some (n9 l 1 c):=
 Cm 8 (by grind [ah8])
variable {p:Program}
theorem N2(hf:p.Funcs.length≤5):vS p=some (p8 p.Main p.Funcs 0).1:=by
 unfold vS
 obtain ⟨x,hx,hQ⟩:=kT (B:=fun v=>sB p v.1 v.2) (fun v=>p.Funcs.length - v.1)
  (fun v=>v.1≤p.Funcs.length∧p8 p.Main p.Funcs 0=p8 p.Main (p.Funcs.drop v.1) v.2∧0≤v.2∧v.2≤50)
  (fun x=>(match x with
   | .inl _=>(p8 p.Main p.Funcs 0).1=false
   | .inr (_,_,y)=>p8 p.Main p.Funcs 0=n9 p.Main 1 y∧0≤y∧y≤50)) (by
   rintro ⟨k,c⟩ ⟨hk,he,g1,g2⟩
   simp only at hk he g1 g2 ⊢
   unfold sB
   by_cases g:k<p.Funcs.length
   ·rw [e6 g,p8] at he
    rw [af (by omega),aV g,ad,Sl g1 g2,ad]
    cases hl:n9 p.Funcs[k].Body 1 c with
    | mk b m=>
     rw [hl] at he
     cases b with
     | false=>exact .inl ⟨_,rfl,by simp only;rw [he];rfl⟩
     | true=>
      obtain ⟨rfl,q1,q2⟩:=(mF _ _ _ _ g2 (by decide)).1 hl
      simp only [andThen,aA] at he ⊢
      rw [af (oK (by omega))]
      grind
   simp_all [mr,p8]) (0,0) (by grind)
 grind [Sl]
def Qd{α:Type} : Int⊕α→Int
 | .inl y=>y
 | .inr _=>0
variable {β:Type}
theorem C4(f:β→Int)(x:β)(l:List β):c8 f (x::l)=if f x≠0 then f x else c8 f l:=by
 grind [c8]
theorem Sm{ζ:Type}{B:Nat→Option (Nat⊕(Int⊕ζ))}(es:List β)(f:β→Int)(hs:∀ k (h:k<es.length),B k=if f es[k]≠0 then some (.inr (.inl (f es[k]))) else some (.inl (k+1)))(he:∃ z,B es.length=some (.inr (.inr z))):
  ∃ x,lp B 0=some x∧Qd x=c8 f es∧(c8 f es=0→∃ z,x= .inr z):=by
 refine kT (B:=B) (fun k=>es.length - k) (fun k=>k≤es.length∧c8 f es=c8 f (es.drop k)) (fun x=>Qd x=c8 f es∧(c8 f es=0→∃ z,x= .inr z)) ?_ 0 ⟨dy _,rfl⟩
 rintro k ⟨hk,hf⟩
 by_cases g:k<es.length
 ·rw [e6 g,C4] at hf
  rw [hs k g]
  by_cases h0:f es[k]=0
  ·grind
  ·rw [af h0] at hf ⊢
   exact .inl ⟨_,rfl,hf.symm,by grind⟩
 ·obtain rfl:k=es.length:=by omega
  rw [Dz] at hf
  obtain ⟨z,hz⟩:=he
  exact .inl ⟨_,hz,hf.symm,fun _=>⟨z,rfl⟩⟩
theorem MG(p:Program)(e:aK):mB e (p.Vars.length:Int)=some (fK p e):=We e _
variable [Lp]
theorem Kf{ex:aK→Option Int}(p:Program)(hx:∀ e,ex e=some (fK p e)):∀ l:List aK,Bf ex l=some (c8 (fK p) l)
 | []=>rfl
 | e::r=>by
  rw [Bf,hx,ad,C4,Kf p hx r]
  grind
variable {s:Stmt}
theorem Wh{ex:aK→Option Int}{i:Int}(hx:∀ e,ex e=some (fK p e))(h0:i≤p.Funcs.length)(hp:∀ f∈p.Funcs,f.Params.length≤9223372036854775807)(k18:¬(s.Kind<1∨8<s.Kind)):P9 ex p i s=some (dc p i s):=by
 unfold P9 dc
 rw [ab k18]
 have n5:Cu p i s=true↔(ir s.Kind=true∧(s.Var<0∨(p.Vars.length:Int)≤s.Var))∨(lP s.Kind=true∧(s.Other<0∨ij p i s.Kind≤s.Other)):=by simp [Cu]
 by_cases h5:(ir s.Kind=true∧(s.Var<0∨(p.Vars.length:Int)≤s.Var))∨(lP s.Kind=true∧(s.Other<0∨ij p i s.Kind≤s.Other))
 ·grind
 rw [ab (fun h=>h5 (n5.1 h)),ab h5]
 have n1:E1 s=true↔(ir s.Kind=false∧s.Var≠0)∨(lP s.Kind=false∧s.Other≠0)∨(jI s.Kind=false∧¬(s.Expr.Kind=0∧s.Expr.N=0∧s.Expr.Args.length=0))∨(s.Kind≠2∧0<s.Args.length)∨(s.Kind<7∧0<s.Then.length)∨(s.Kind≠7∧0<s.Else.length):=by
  grind [E1,yE]
 by_cases h1:(ir s.Kind=false∧s.Var≠0)∨(lP s.Kind=false∧s.Other≠0)∨(jI s.Kind=false∧¬(s.Expr.Kind=0∧s.Expr.N=0∧s.Expr.Args.length=0))∨(s.Kind≠2∧0<s.Args.length)∨(s.Kind<7∧0<s.Then.length)∨(s.Kind≠7∧0<s.Else.length)
 ·grind
 grind [jI,Bf,c8,Kf,lP,ij,Bu]
variable {c:Checker}
theorem Wi(h0:c.funcs≤c.p.Funcs.length)(hp:∀ f∈c.p.Funcs,f.Params.length≤9223372036854775807):gw c s=some (dc c.p c.funcs s):=by
 unfold gw
 grind [dc,Wh,MG]
theorem afK(h0:c.funcs≤c.p.Funcs.length)(hp:∀ f∈c.p.Funcs,f.Params.length≤9223372036854775807)(n:Nat):∀ (l:List Stmt)(d:Int),lA l+1≤n→cP l≤50→1≤d→d+lA l≤100→
  (db n).f_scope_Walk__scope_checker_stmts_1 l d () c 0=some (fF (dc c.p c.funcs) l==0,(),fF (dc c.p c.funcs) l):=by
 induction n with
 | zero=>grind
 | succ n ih=>
  intro l d h1 h2 h3 h4
  show er (db n) l d () c 0=_
  unfold er
  have hlen:=qW l
  obtain ⟨x,hx,hQ⟩:=kT (B:=fun v=>ef (db n) l d c v.1 v.2) (fun v=>l.length - v.1)
   (fun v=>v.1≤l.length∧fF (dc c.p c.funcs) l=fF (dc c.p c.funcs) (l.drop v.1)∧v.2=0)
   (fun x=>(match x with
    | .inl y=>y≠0∧y=fF (dc c.p c.funcs) l
    | .inr (_,_,y)=>y=0∧fF (dc c.p c.funcs) l=0)) (by
    rintro ⟨k,e⟩ ⟨hk,he,hz⟩
    simp only at hk he hz ⊢
    subst hz
    unfold ef mV
    by_cases g:k<l.length
    ·rw [e6 g,fF,O9] at he
     have hm:=cp g
     have g1:=Cy hm
     have g2:=Cz hm
     rw [af (by omega),aV g,ad]
     generalize l[k]=s at *
     have g3:=yK s
     have g4:=yL s
     rw [Wi h0 hp,ad,ad]
     by_cases e1:dc c.p c.funcs s=0
     ·simp only [e1,wu,aA,ne_eq,uJ,cF] at he ⊢
      rw [af (qm (by omega) (by omega)),ih _ _ (by omega) (by omega) (by omega) (by omega),ad]
      by_cases e2:fF (dc c.p c.funcs) s.Then=0
      ·simp only [e2,wu,aA,uJ,cF] at he ⊢
       rw [ih _ _ (by omega) (by omega) (by omega) (by omega),ad]
       by_cases e3:fF (dc c.p c.funcs) s.Else=0
       ·simp only [e3,wu,aA,uJ,cF] at he ⊢
        rw [af (oK (by omega))]
        grind
       simp_all
      simp_all
     simp_all
    simp_all [mr,fF]) (0,0) ⟨dy _,rfl,rfl⟩
  grind
theorem MH(h0:c.funcs≤c.p.Funcs.length)(hp:∀ f∈c.p.Funcs,f.Params.length≤9223372036854775807)(hc:cP l≤50)(hd:lA l≤6):iR c l=some (fF (dc c.p c.funcs) l):=by
 unfold iR
 have:gG l 1 () c 0=some (fF (dc c.p c.funcs) l==0,(),fF (dc c.p c.funcs) l):=
  Cm 8 (by grind [afK])
 rw [this];rfl
theorem N3{l:List Int}{a:Int}(hl:l.length≤9223372036854775807):kW l a=some (decide (a∈l)):=by
 unfold kW qS
 obtain ⟨x,hx,hQ⟩:=kT (B:=fun v=>lS l a v) (fun k=>l.length - k) (fun k=>k≤l.length∧¬a∈l.take k)
  (fun x=>match x with
   | .inl _=>a∈l
   | .inr _=>¬a∈l) (by
   rintro k ⟨hk,hn⟩
   unfold lS
   by_cases g:k<l.length
   ·rw [af (by omega),aV g,ad]
    by_cases h:a=l[k]
    ·simp_all
    ·rw [ab (by simp [h]),af (oK (by omega))]
     grind [List.take_add_one]
   simp_all [pb]) 0 ⟨dy _,by simp⟩
 rw [hx]
 simp only [ad]
 rcases x with y | ⟨y,z⟩
 ·simp_all
 grind
theorem afL{f:Func}(h0:c.funcs≤c.p.Funcs.length)(hp:∀ f∈c.p.Funcs,f.Params.length≤9223372036854775807)(hc:cP f.Body≤50)(hd:lA f.Body≤6):nD c f=some (C2 c.p c.funcs f):=by
 unfold nD C2
 by_cases h4:4<f.Params.length
 ·grind
 rw [ab (by omega),ab h4]
 obtain ⟨x,hx,hQ⟩:=kT (B:=fun v=>lT c f v) (fun k=>f.Params.length - k)
  (fun k=>k≤f.Params.length∧AM c.p.Vars.length [] f.Params=AM c.p.Vars.length (f.Params.take k) (f.Params.drop k))
  (fun x=>(match x with
   | .inl _=>(5:Int)
   | .inr (.inl _)=>6
   | .inr (.inr _)=>0)=AM c.p.Vars.length [] f.Params) (by
   rintro k ⟨hk,he⟩
   unfold lT
   by_cases g:k<f.Params.length
   ·rw [e6 g,AM] at he
    rw [af (by omega),aV g,ad]
    have q:f.Params.take k++[f.Params[k]]=f.Params.take (k+1):=by grind [List.take_add_one]
    grind [N3,oK]
   simp_all [mr,AM]) 0 ⟨dy _,by simp⟩
 grind [MH,MG]
theorem Sn(a b:List Label)(ha:a.length≤5)(hb:b.length≤5):iU [a,b]=some (a++b):=by
 unfold iU
 have z1:IntKind.i64.wrap 1=1:=by decide
 have z2:IntKind.i64.wrap 2=2:=by decide
 have w1:IntKind.i64.wrap (0+(a.length:Int))=0+(a.length:Int):=qm (by omega) (by omega)
 have w2:IntKind.i64.wrap (0+(a.length:Int)+(b.length:Int))=0+(a.length:Int)+(b.length:Int):=qm (by omega) (by omega)
 have n1:¬(0+(a.length:Int))<0:=by omega
 have n2:¬(0+(a.length:Int)+(b.length:Int))<0:=by omega
 have l0:lp (fun v=>dY [a,b] v.1 v.2) (0,0)=some (0+(a.length:Int)+(b.length:Int),2,false):=by
  rw [mh (w:=(0+(a.length:Int),1)) (by grind [dY]),
   mh (w:=(0+(a.length:Int)+(b.length:Int),2)) (by grind [dY])]
  exact gJ (by simp [dY])
 have l1:lp (fun v=>dZ [a,b] v.1 v.2) (([]:List Label),0)=some (a++b,2,false):=by
  rw [mh (w:=(a,1)) (by grind [dZ]),
   mh (w:=(a++b,2)) (by grind [dZ])]
  exact gJ (by simp [dZ])
 grind
variable [Lp]
theorem afM(p:Program):qj p=some (decide (16<p.Vars.length∨5<p.Ins.length∨5<p.Outs.length∨5<p.Funcs.length∨p.an.Many<(p.Speak.length:Int))):=by
 grind [qj,kU]
theorem Ud{m:Int}{l:Label}(h:kx m l=0):l.Read.length≤4∧l.Write.length≤4:=⟨(yJ (vo h).1).1,(yJ (vo h).2).1⟩
theorem Wj(p:Program):tW p=some (sC p):=by
 unfold tW sC
 rw [V6,ad]
 by_cases a1:jV p.an=0
 rotate_left
 ·grind
 rw [ab (show ¬(jV p.an !=0)=true by simp [a1]),ab (show ¬jV p.an≠0 from fun h=>h a1),afM,ad]
 obtain ⟨c1,c2,c3,c4⟩:=oY a1
 by_cases a4:16<p.Vars.length∨5<p.Ins.length∨5<p.Outs.length∨5<p.Funcs.length∨p.an.Many<(p.Speak.length:Int)
 ·grind
 rw [ab (by simpa using a4),ab a4]
 have hs:gx p.Speak p=some (p.Speak.any (fun n=>!dk p.an.Many n)):=pj (fun y=>rB y p) _ p.Speak (by omega) (fun y _=>by simp [rB,Mz])
 rw [hs,ad]
 cases a5:p.Speak.any (fun n=>!dk p.an.Many n) with
 | true=>rfl
 | false=>
  simp only [dq,cF]
  rw [Sn _ _ (by omega) (by omega),ad]
  obtain ⟨x,hx,e1,e2⟩:=Sm (B:=fun v=>ov p (p.Ins++p.Outs) v) (p.Ins++p.Outs) (kx p.an.Many) ((by grind [ov,Si,oK])) ⟨_,by unfold ov;rw [ab (by omega)]⟩
  rw [hx,ad]
  by_cases h6:c8 (kx p.an.Many) (p.Ins++p.Outs)=0
  rotate_left
  ·rcases x with y | ⟨a,b⟩
   ·have hy:y=_:=e1
    grind
   ·have hy:(0:Int)=_:=e1
    grind
  obtain ⟨z,rfl⟩:=e2 h6
  rw [ab (show ¬c8 (kx p.an.Many) (p.Ins++p.Outs)≠0 from fun h=>h h6)]
  obtain ⟨z1,z2⟩:=z
  simp only
  obtain ⟨x,hx,e3,e4⟩:=Sm (B:=fun v=>ox p v) p.Vars (fun v:Var=>kx p.an.Many v.Label) ((by grind [ox,Si,oK])) (by grind [ox])
  rw [hx,ad]
  by_cases h7:c8 (fun v:Var=>kx p.an.Many v.Label) p.Vars=0
  rotate_left
  ·rcases x with y | ⟨a,b⟩
   ·have hy:y=_:=e3
    grind
   ·have hy:(0:Int)=_:=e3
    grind
  obtain ⟨z,rfl⟩:=e4 h7
  rw [ab (show ¬c8 (fun v:Var=>kx p.an.Many v.Label) p.Vars≠0 from fun h=>h h7)]
  obtain ⟨z1,z2⟩:=z
  simp only
  have hv:gy p.Vars=some (p.Vars.any (fun v=>!v.Known&&decide (0<v.Label.Read.length+v.Label.Write.length))):=pj rF _ p.Vars (by omega) (fun y hy=>by
   have hl:=Ud (pJ h7 y hy)
   unfold rF
   rw [af (c:=IntKind.i64.wrap _=_) (qm (by omega) (by omega))]
   cases y.Known with
   | true=>simp
   | false=>simp;omega)
  grind
theorem Ue(hf:p.Funcs.length≤5)(hp:∀ f∈p.Funcs,f.Params.length≤9223372036854775807)(hc:∀ f∈p.Funcs,cP f.Body≤50∧lA f.Body≤6):
  ∃ x,lp (fun v=>nE p v.1 v.2) (0,0)=some x∧Qd x=s0 p 0 p.Funcs∧(s0 p 0 p.Funcs=0→∃ z,x= .inr z):=by
 refine kT (B:=fun v=>nE p v.1 v.2) (fun v=>p.Funcs.length - v.1) (fun v=>v.1≤p.Funcs.length∧s0 p 0 p.Funcs=s0 p v.1 (p.Funcs.drop v.1)) (fun x=>Qd x=s0 p 0 p.Funcs∧(s0 p 0 p.Funcs=0→∃ z,x= .inr z)) ?_ (0,0) ⟨dy _,rfl⟩
 rintro ⟨k,m⟩ ⟨hk,he⟩
 simp only at hk he ⊢
 unfold nE
 by_cases g:k<p.Funcs.length
 ·rw [e6 g,s0] at he
  have hm:=hc _ (cp g)
  rw [af (by omega),aV g,ad,afL (c:=⟨p,(k:Int)⟩) (by simp only;omega) hp hm.1 hm.2,ad]
  simp only
  by_cases h0:C2 p k p.Funcs[k]=0
  ·rw [ab (by simp [h0])] at he
   rw [ab (by simp [h0]),af (oK (by omega))]
   grind
  ·rw [af h0] at he
   rw [af (by simp [h0])]
   exact .inl ⟨_,rfl,he.symm,by grind⟩
 ·rw [mr (by omega),s0] at he
  rw [ab (by omega)]
  exact .inl ⟨_,rfl,he.symm,fun _=>⟨_,rfl⟩⟩
theorem MI(hp:∀ f∈p.Funcs,f.Params.length≤9223372036854775807):pG p=some (nI p):=by
 unfold pG nI
 rw [Wj,ad]
 by_cases h1:sC p=0
 rotate_left
 ·grind
 rw [ab (show ¬(sC p !=0)=true by simp [h1]),ab (show ¬sC p≠0 from fun h=>h h1)]
 have hf:p.Funcs.length≤5:=by
  grind [sC]
 rw [N2 hf,ad]
 cases h2:(p8 p.Main p.Funcs 0).1 with
 | false=>rfl
 | true=>
  have o:p8 p.Main p.Funcs 0=(true,(p8 p.Main p.Funcs 0).2):=Prod.ext h2 rfl
  obtain ⟨g1,g2,g3,_⟩:=Gm (by decide) (by decide) o
  obtain ⟨x,hx,e1,e2⟩:=Ue hf hp g1
  simp only [aA,hx,ad,Bool.true_eq_false,cF]
  by_cases h3:s0 p 0 p.Funcs=0
  rotate_left
  ·rcases x with y | ⟨a,b,e⟩
   ·have hy:y=_:=e1
    grind
   ·have hy:(0:Int)=_:=e1
    grind
  grind [MH]
end Go.Proofs.YtlmphbbhaeampaaGreat.A
