/- Programs: the program's own check of them answers as plain mathematics says. -/
import Derived.Test.YtkkkkondjclcnaaGreatScopeS
set_option linter.all false
namespace Go.Proofs.YtkkkkondjclcnaaGreat.A
open Go
variable [Lp]
theorem amK(n:Nat):∀ (l:List Stmt)(d c:Int),1≤d→d≤7→8 - d≤n→0≤c→c≤50→(fe n).f_scope_Walk__scope_few_1 l d c=some (oF l d c):=by
 induction n with
 | zero=>grind
 | succ n ih=>
  intro l d c h1 h2 h3 h4 h5
  show jf (fe n) l d c=_
  unfold jf
  obtain ⟨x,hx,hQ⟩:=kA (B:=fun v=>iR (fe n) l d v.1 v.2) (fun v=>l.length - v.1)
   (fun v=>v.1≤l.length∧oF l d c=oF (l.drop v.1) d v.2∧0≤v.2∧v.2≤50∧(v.1:Int)≤v.2)
   (fun x=>(match x with
    | .inl y=>(false,y)
    | .inr (_,_,y)=>(true,y))=oF l d c) (by
    rintro ⟨k,c'⟩ ⟨hk,he,g1,g2,g3⟩
    simp only at hk he g1 g2 g3 ⊢
    unfold iR zk
    by_cases g:k<l.length
    ·rw [ov g,oF,Zt] at he
     rw [ab (by omega),aP g,ad,ab (yP (by omega) (by omega))]
     generalize l[k]=s at *
     by_cases hc:c'+1≤50
     ·rw [ab hc]
      by_cases hd:d≤6
      ·rw [ab ⟨hc,hd⟩] at he
       simp only [ad,hd,rV,az]
       rw [ab (yP (by omega) (by omega)),ih _ _ _ (by omega) (by omega) (by omega) (by omega) (by omega),ad]
       cases ht:oF s.Then (d+1) (c'+1) with
       | mk b m=>
        cases b with
        | false=>
         rw [ht] at he
         refine .inl ⟨_,rfl,?_⟩
         rw [he];rfl
        | true=>
         obtain ⟨rfl,q1,q2⟩:=(kX _ _ _ _ (by omega) (by omega)).1 ht
         rw [ht] at he
         simp only [az]
         rw [ih _ _ _ (by omega) (by omega) (by omega) (by omega) (by omega),ad]
         simp only [andThen,az] at he
         cases j:oF s.Else (d+1) (c'+1+(bn s.Then:Int)) with
         | mk b m=>
          rw [j] at he
          cases b with
          | false=>grind
          | true=>
           obtain ⟨rfl,q3,q4⟩:=(kX _ _ _ _ (by omega) (by omega)).1 j
           simp only [az] at he ⊢
           rw [ab (nm (by omega))]
           grind
      ·rw [aa (by omega)] at he
       simp only [ad,hd,decide_false,bU,bB]
       exact .inl ⟨_,rfl,by rw [he];rfl⟩
     ·rw [aa hc]
      rw [aa (by omega)] at he
      simp only [ad,bU,bB]
      exact .inl ⟨_,rfl,by rw [he];rfl⟩
    simp_all [rY,oF]) (0,c) (by grind)
  grind
variable {l:List Stmt}
theorem U0{c:Int}(h1:0≤c)(h2:c≤50):jA l 1 c=some (oF l 1 c):=
 D5 8 (by grind [amK])
variable {p:Program}
theorem QK(hf:p.Funcs.length≤5):yc p=some (lP p.Main p.Funcs 0).1:=by
 unfold yc
 obtain ⟨x,hx,hQ⟩:=kA (B:=fun v=>uE p v.1 v.2) (fun v=>p.Funcs.length - v.1)
  (fun v=>v.1≤p.Funcs.length∧lP p.Main p.Funcs 0=lP p.Main (p.Funcs.drop v.1) v.2∧0≤v.2∧v.2≤50)
  (fun x=>(match x with
   | .inl _=>(lP p.Main p.Funcs 0).1=false
   | .inr (_,_,y)=>lP p.Main p.Funcs 0=oF p.Main 1 y∧0≤y∧y≤50)) (by
   rintro ⟨k,c⟩ ⟨hk,he,g1,g2⟩
   simp only at hk he g1 g2 ⊢
   unfold uE
   by_cases g:k<p.Funcs.length
   ·rw [ov g,lP] at he
    rw [ab (by omega),aP g,ad,U0 g1 g2,ad]
    cases hl:oF p.Funcs[k].Body 1 c with
    | mk b m=>
     rw [hl] at he
     cases b with
     | false=>exact .inl ⟨_,rfl,by simp only;rw [he];rfl⟩
     | true=>
      obtain ⟨rfl,q1,q2⟩:=(kX _ _ _ _ g2 (by decide)).1 hl
      simp only [andThen,az] at he ⊢
      rw [ab (nm (by omega))]
      grind
   simp_all [rY,lP]) (0,0) (by grind)
 grind [U0]
def Tc{α:Type} : Int⊕α→Int
 | .inl y=>y
 | .inr _=>0
variable {β:Type}
theorem uI(f:β→Int)(x:β)(l:List β):cj f (x::l)=if f x≠0 then f x else cj f l:=by
 grind [cj]
theorem Pe{ζ:Type}{B:Nat→Option (Nat⊕(Int⊕ζ))}(es:List β)(f:β→Int)(hs:∀ k (h:k<es.length),B k=if f es[k]≠0 then some (.inr (.inl (f es[k]))) else some (.inl (k+1)))(he:∃ z,B es.length=some (.inr (.inr z))):
  ∃ x,lp B 0=some x∧Tc x=cj f es∧(cj f es=0→∃ z,x= .inr z):=by
 refine kA (B:=B) (fun k=>es.length - k) (fun k=>k≤es.length∧cj f es=cj f (es.drop k)) (fun x=>Tc x=cj f es∧(cj f es=0→∃ z,x= .inr z)) ?_ 0 ⟨dc _,rfl⟩
 rintro k ⟨hk,hf⟩
 by_cases g:k<es.length
 ·rw [ov g,uI] at hf
  rw [hs k g]
  by_cases h0:f es[k]=0
  ·grind
  ·rw [ab h0] at hf ⊢
   exact .inl ⟨_,rfl,hf.symm,by grind⟩
 ·obtain rfl:k=es.length:=by omega
  rw [Fp] at hf
  obtain ⟨z,hz⟩:=he
  exact .inl ⟨_,hz,hf.symm,fun _=>⟨z,rfl⟩⟩
theorem Pf(p:Program)(e:aB):m7 e (p.Vars.length:Int)=some (fL p e):=Zy e _
variable [Lp]
theorem MG{ex:aB→Option Int}(p:Program)(hx:∀ e,ex e=some (fL p e)):∀ l:List aB,wo ex l=some (cj (fL p) l)
 | []=>rfl
 | e::r=>by
  rw [wo,hx,ad,uI,MG p hx r]
  grind
variable {s:Stmt}
theorem RI{ex:aB→Option Int}{i:Int}(hx:∀ e,ex e=some (fL p e))(h0:i≤p.Funcs.length)(hp:∀ f∈p.Funcs,f.Params.length≤9223372036854775807)(k18:¬(s.Kind<1∨8<s.Kind)):Lo ex p i s=some (bW p i s):=by
 unfold Lo bW
 rw [aa k18]
 have n5:uD p i s=true↔(fv s.Kind=true∧(s.Var<0∨(p.Vars.length:Int)≤s.Var))∨(iv s.Kind=true∧(s.Other<0∨fD p i s.Kind≤s.Other)):=by simp [uD]
 by_cases h5:(fv s.Kind=true∧(s.Var<0∨(p.Vars.length:Int)≤s.Var))∨(iv s.Kind=true∧(s.Other<0∨fD p i s.Kind≤s.Other))
 ·grind
 rw [aa (fun h=>h5 (n5.1 h)),aa h5]
 have n1:zX s=true↔(fv s.Kind=false∧s.Var≠0)∨(iv s.Kind=false∧s.Other≠0)∨(eP s.Kind=false∧¬(s.Expr.Kind=0∧s.Expr.N=0∧s.Expr.Args.length=0))∨(s.Kind≠2∧0<s.Args.length)∨(s.Kind<7∧0<s.Then.length)∨(s.Kind≠7∧0<s.Else.length):=by
  grind [zX,lS]
 by_cases h1:(fv s.Kind=false∧s.Var≠0)∨(iv s.Kind=false∧s.Other≠0)∨(eP s.Kind=false∧¬(s.Expr.Kind=0∧s.Expr.N=0∧s.Expr.Args.length=0))∨(s.Kind≠2∧0<s.Args.length)∨(s.Kind<7∧0<s.Then.length)∨(s.Kind≠7∧0<s.Else.length)
 ·grind
 grind [eP,wo,cj,MG,iv,fD,Gb]
variable {c:Checker}
theorem Zz(h0:c.funcs≤c.p.Funcs.length)(hp:∀ f∈c.p.Funcs,f.Params.length≤9223372036854775807):iw c s=some (bW c.p c.funcs s):=by
 unfold iw
 grind [bW,RI,Pf]
theorem akm(h0:c.funcs≤c.p.Funcs.length)(hp:∀ f∈c.p.Funcs,f.Params.length≤9223372036854775807)(n:Nat):∀ (l:List Stmt)(d:Int),eR l+1≤n→bn l≤50→1≤d→d+eR l≤100→
  (dh n).f_scope_Walk__scope_checker_stmts_1 l d () c 0=some (eg (bW c.p c.funcs) l==0,(),eg (bW c.p c.funcs) l):=by
 induction n with
 | zero=>grind
 | succ n ih=>
  intro l d h1 h2 h3 h4
  show eQ (dh n) l d () c 0=_
  unfold eQ
  have hlen:=ib l
  obtain ⟨x,hx,hQ⟩:=kA (B:=fun v=>eH (dh n) l d c v.1 v.2) (fun v=>l.length - v.1)
   (fun v=>v.1≤l.length∧eg (bW c.p c.funcs) l=eg (bW c.p c.funcs) (l.drop v.1)∧v.2=0)
   (fun x=>(match x with
    | .inl y=>y≠0∧y=eg (bW c.p c.funcs) l
    | .inr (_,_,y)=>y=0∧eg (bW c.p c.funcs) l=0)) (by
    rintro ⟨k,e⟩ ⟨hk,he,hz⟩
    simp only at hk he hz ⊢
    subst hz
    unfold eH nC
    by_cases g:k<l.length
    ·rw [ov g,eg,RG] at he
     have hm:=bN g
     have g1:=II hm
     have g2:=IJ hm
     rw [ab (by omega),aP g,ad]
     generalize l[k]=s at *
     have g3:=A0 s
     have g4:=J3 s
     rw [Zz h0 hp,ad,ad]
     by_cases e1:bW c.p c.funcs s=0
     ·simp only [e1,Fx,az,ne_eq,vv,bB] at he ⊢
      rw [ab (yP (by omega) (by omega)),ih _ _ (by omega) (by omega) (by omega) (by omega),ad]
      by_cases e2:eg (bW c.p c.funcs) s.Then=0
      ·simp only [e2,Fx,az,vv,bB] at he ⊢
       rw [ih _ _ (by omega) (by omega) (by omega) (by omega),ad]
       by_cases e3:eg (bW c.p c.funcs) s.Else=0
       ·simp only [e3,Fx,az,vv,bB] at he ⊢
        rw [ab (nm (by omega))]
        grind
       simp_all
      simp_all
     simp_all
    simp_all [rY,eg]) (0,0) ⟨dc _,rfl,rfl⟩
  grind
theorem Pg(h0:c.funcs≤c.p.Funcs.length)(hp:∀ f∈c.p.Funcs,f.Params.length≤9223372036854775807)(hc:bn l≤50)(hd:eR l≤6):jt c l=some (eg (bW c.p c.funcs) l):=by
 unfold jt
 have:iB l 1 () c 0=some (eg (bW c.p c.funcs) l==0,(),eg (bW c.p c.funcs) l):=
  D5 8 (by grind [akm])
 rw [this];rfl
theorem QL{l:List Int}{a:Int}(hl:l.length≤9223372036854775807):lG l a=some (decide (a∈l)):=by
 unfold lG ss
 obtain ⟨x,hx,hQ⟩:=kA (B:=fun v=>mb l a v) (fun k=>l.length - k) (fun k=>k≤l.length∧¬a∈l.take k)
  (fun x=>match x with
   | .inl _=>a∈l
   | .inr _=>¬a∈l) (by
   rintro k ⟨hk,hn⟩
   unfold mb
   by_cases g:k<l.length
   ·rw [ab (by omega),aP g,ad]
    by_cases h:a=l[k]
    ·simp_all
    ·rw [aa (by simp [h]),ab (nm (by omega))]
     grind [List.take_add_one]
   simp_all [jL]) 0 ⟨dc _,by simp⟩
 rw [hx]
 simp only [ad]
 rcases x with y | ⟨y,z⟩
 ·simp_all
 grind
theorem akn{f:Func}(h0:c.funcs≤c.p.Funcs.length)(hp:∀ f∈c.p.Funcs,f.Params.length≤9223372036854775807)(hc:bn f.Body≤50)(hd:eR f.Body≤6):od c f=some (uu c.p c.funcs f):=by
 unfold od uu
 by_cases h4:4<f.Params.length
 ·grind
 rw [aa (by omega),aa h4]
 obtain ⟨x,hx,hQ⟩:=kA (B:=fun v=>mc c f v) (fun k=>f.Params.length - k)
  (fun k=>k≤f.Params.length∧ue c.p.Vars.length [] f.Params=ue c.p.Vars.length (f.Params.take k) (f.Params.drop k))
  (fun x=>(match x with
   | .inl _=>(5:Int)
   | .inr (.inl _)=>6
   | .inr (.inr _)=>0)=ue c.p.Vars.length [] f.Params) (by
   rintro k ⟨hk,he⟩
   unfold mc
   by_cases g:k<f.Params.length
   ·rw [ov g,ue] at he
    rw [ab (by omega),aP g,ad]
    have q:f.Params.take k++[f.Params[k]]=f.Params.take (k+1):=by grind [List.take_add_one]
    grind [QL,nm]
   simp_all [rY,ue]) 0 ⟨dc _,by simp⟩
 grind [Pg,Pf]
theorem U1(a b:List Label)(ha:a.length≤5)(hb:b.length≤5):jz [a,b]=some (a++b):=by
 unfold jz
 have z1:IntKind.i64.wrap 1=1:=by decide
 have z2:IntKind.i64.wrap 2=2:=by decide
 have w1:IntKind.i64.wrap (0+(a.length:Int))=0+(a.length:Int):=yP (by omega) (by omega)
 have w2:IntKind.i64.wrap (0+(a.length:Int)+(b.length:Int))=0+(a.length:Int)+(b.length:Int):=yP (by omega) (by omega)
 have n1:¬(0+(a.length:Int))<0:=by omega
 have n2:¬(0+(a.length:Int)+(b.length:Int))<0:=by omega
 have l0:lp (fun v=>eA [a,b] v.1 v.2) (0,0)=some (0+(a.length:Int)+(b.length:Int),2,false):=by
  rw [nJ (w:=(0+(a.length:Int),1)) (by grind [eA]),
   nJ (w:=(0+(a.length:Int)+(b.length:Int),2)) (by grind [eA])]
  exact jQ (by simp [eA])
 have l1:lp (fun v=>eB [a,b] v.1 v.2) (([]:List Label),0)=some (a++b,2,false):=by
  rw [nJ (w:=(a,1)) (by grind [eB]),
   nJ (w:=(a++b,2)) (by grind [eB])]
  exact jQ (by simp [eB])
 grind
variable [Lp]
theorem ako(p:Program):rF p=some (decide (16<p.Vars.length∨5<p.Ins.length∨5<p.Outs.length∨5<p.Funcs.length∨p.ak.Many<(p.Speak.length:Int))):=by
 grind [rF,lF]
theorem WE{m:Int}{l:Label}(h:fK m l=0):l.Read.length≤4∧l.Write.length≤4:=⟨(xy (qw h).1).1,(xy (qw h).2).1⟩
theorem ZA(p:Program):wu p=some (tC p):=by
 unfold wu tC
 rw [Zr,ad]
 by_cases a1:iG p.ak=0
 rotate_left
 ·grind
 rw [aa (show ¬(iG p.ak !=0)=true by simp [a1]),aa (show ¬iG p.ak≠0 from fun h=>h a1),ako,ad]
 obtain ⟨c1,c2,c3,c4⟩:=my a1
 by_cases a4:16<p.Vars.length∨5<p.Ins.length∨5<p.Outs.length∨5<p.Funcs.length∨p.ak.Many<(p.Speak.length:Int)
 ·grind
 rw [aa (by simpa using a4),aa a4]
 have hs:ix p.Speak p=some (p.Speak.any (fun n=>!cw p.ak.Many n)):=xc (fun y=>tk y p) _ p.Speak (by omega) (fun y _=>by simp [tk,Tb])
 rw [hs,ad]
 cases a5:p.Speak.any (fun n=>!cw p.ak.Many n) with
 | true=>rfl
 | false=>
  simp only [bU,bB]
  rw [U1 _ _ (by omega) (by omega),ad]
  obtain ⟨x,hx,e1,e2⟩:=Pe (B:=fun v=>pc p (p.Ins++p.Outs) v) (p.Ins++p.Outs) (fK p.ak.Many) ((by grind [pc,UY,nm])) ⟨_,by unfold pc;rw [aa (by omega)]⟩
  rw [hx,ad]
  by_cases h6:cj (fK p.ak.Many) (p.Ins++p.Outs)=0
  rotate_left
  ·rcases x with y | ⟨a,b⟩
   ·have hy:y=_:=e1
    grind
   ·have hy:(0:Int)=_:=e1
    grind
  obtain ⟨z,rfl⟩:=e2 h6
  rw [aa (show ¬cj (fK p.ak.Many) (p.Ins++p.Outs)≠0 from fun h=>h h6)]
  obtain ⟨z1,z2⟩:=z
  simp only
  obtain ⟨x,hx,e3,e4⟩:=Pe (B:=fun v=>pd p v) p.Vars (fun v:Var=>fK p.ak.Many v.Label) ((by grind [pd,UY,nm])) (by grind [pd])
  rw [hx,ad]
  by_cases h7:cj (fun v:Var=>fK p.ak.Many v.Label) p.Vars=0
  rotate_left
  ·rcases x with y | ⟨a,b⟩
   ·have hy:y=_:=e3
    grind
   ·have hy:(0:Int)=_:=e3
    grind
  obtain ⟨z,rfl⟩:=e4 h7
  rw [aa (show ¬cj (fun v:Var=>fK p.ak.Many v.Label) p.Vars≠0 from fun h=>h h7)]
  obtain ⟨z1,z2⟩:=z
  simp only
  have hv:iy p.Vars=some (p.Vars.any (fun v=>!v.Known&&decide (0<v.Label.Read.length+v.Label.Write.length))):=xc tr _ p.Vars (by omega) (fun y hy=>by
   have hl:=WE (qL h7 y hy)
   unfold tr
   rw [ab (c:=IntKind.i64.wrap _=_) (yP (by omega) (by omega))]
   cases y.Known with
   | true=>simp
   | false=>simp;omega)
  grind
theorem WG(hf:p.Funcs.length≤5)(hp:∀ f∈p.Funcs,f.Params.length≤9223372036854775807)(hc:∀ f∈p.Funcs,bn f.Body≤50∧eR f.Body≤6):
  ∃ x,lp (fun v=>oe p v.1 v.2) (0,0)=some x∧Tc x=mh p 0 p.Funcs∧(mh p 0 p.Funcs=0→∃ z,x= .inr z):=by
 refine kA (B:=fun v=>oe p v.1 v.2) (fun v=>p.Funcs.length - v.1) (fun v=>v.1≤p.Funcs.length∧mh p 0 p.Funcs=mh p v.1 (p.Funcs.drop v.1)) (fun x=>Tc x=mh p 0 p.Funcs∧(mh p 0 p.Funcs=0→∃ z,x= .inr z)) ?_ (0,0) ⟨dc _,rfl⟩
 rintro ⟨k,m⟩ ⟨hk,he⟩
 simp only at hk he ⊢
 unfold oe
 by_cases g:k<p.Funcs.length
 ·rw [ov g,mh] at he
  have hm:=hc _ (bN g)
  rw [ab (by omega),aP g,ad,akn (c:=⟨p,(k:Int)⟩) (by simp only;omega) hp hm.1 hm.2,ad]
  simp only
  by_cases h0:uu p k p.Funcs[k]=0
  ·rw [aa (by simp [h0])] at he
   rw [aa (by simp [h0]),ab (nm (by omega))]
   grind
  ·rw [ab h0] at he
   rw [ab (by simp [h0])]
   exact .inl ⟨_,rfl,he.symm,by grind⟩
 ·rw [rY (by omega),mh] at he
  rw [aa (by omega)]
  exact .inl ⟨_,rfl,he.symm,fun _=>⟨_,rfl⟩⟩
theorem WH(hp:∀ f∈p.Funcs,f.Params.length≤9223372036854775807):uG p=some (sB p):=by
 unfold uG sB
 rw [ZA,ad]
 by_cases h1:tC p=0
 rotate_left
 ·grind
 rw [aa (show ¬(tC p !=0)=true by simp [h1]),aa (show ¬tC p≠0 from fun h=>h h1)]
 have hf:p.Funcs.length≤5:=by
  grind [tC]
 rw [QK hf,ad]
 cases h2:(lP p.Main p.Funcs 0).1 with
 | false=>rfl
 | true=>
  have o:lP p.Main p.Funcs 0=(true,(lP p.Main p.Funcs 0).2):=Prod.ext h2 rfl
  obtain ⟨g1,g2,g3,_⟩:=En (by decide) (by decide) o
  obtain ⟨x,hx,e1,e2⟩:=WG hf hp g1
  simp only [az,hx,ad,Bool.true_eq_false,bB]
  by_cases h3:mh p 0 p.Funcs=0
  rotate_left
  ·rcases x with y | ⟨a,b,e⟩
   ·have hy:y=_:=e1
    grind
   ·have hy:(0:Int)=_:=e1
    grind
  grind [Pg]
end Go.Proofs.YtkkkkondjclcnaaGreat.A
