/- The document's check of a program: actors, labels, expressions, as plain mathematics says. -/
import Derived.Test.YtkkkkondjclcnaaGreatScopeP
import Derived.Test.YtkkkkondjclcnaaGreatFR
set_option linter.all false
namespace Go.Proofs.YtkkkkondjclcnaaGreat.A
open Go
variable [Lp]
theorem lq(a:ah)(n:Int)(h:1≤a.Many∧a.Many≤6):ll a n=some (bN a.Many n):=by
 unfold ll
 have e:(0≤n∧n≤a.Many - 1)↔(0≤n∧n<a.Many):=by omega
 rw [aa (wrap64 (by omega) (by omega)),zV]
 simp [bN,e]
theorem KF(a:ah):pC a=some (eL a):=by
 unfold pC eL
 rw [zV]
 by_cases h:a.Many<1∨6<a.Many
 ·have:¬(1≤a.Many∧a.Many≤6):=by omega
  simp [h,this]
 have hm:1≤a.Many∧a.Many≤6:=by omega
 by_cases h3:20<a.Grants.length
 ·have h3':(20:Int)<(a.Grants.length:Int):=by omega
  simp [h,hm,h3,h3']
 have h3':¬(20:Int)<(a.Grants.length:Int):=by omega
 have hi:=fun n=>lq a n hm
 have hl:=qo (B:=fun v=>eP a v) a.Grants (ku a.Many) id (x:=.inl ()) (y:=.inr (a.Grants.length,false))
  (fun k hk hp=>by
   have hb:bN a.Many a.Grants[k].Who=true∧bN a.Many a.Grants[k].For=true:=by simpa [ku] using hp
   simp [eP,hk,hi,hb.1,hb.2,fM k (by omega)])
  (fun k hk hp=>by
   cases hw:bN a.Many a.Grants[k].Who with
   | true=>
    have hb:bN a.Many a.Grants[k].For=false:=by simpa [ku,hw] using hp
    simp [eP,hk,hi,hw,hb]
   | false=>simp [eP,hk,hi,hw])
  (by simp [eP])
 have hl':lp (fun v=>eP a v) 0=_:=hl
 simp only [hm,and_self,oa,ae,an,h,aI,h3,h3',hl']
 cases a.Grants.any (ku a.Many)<;>simp
theorem HK(a:ah)(hm:1≤a.Many∧a.Many≤6)(ps:List br)(i:Nat)(hi:i<ps.length)(hl:ps[i].Names.length≤6) :
  ∃ z,lp (fun v=>eU a ps i v) 0=some (if ps[i].Names.any (fun n=>!bN a.Many n) then .inl () else .inr z):=by
 have h:=qo (B:=fun v=>eU a ps i v) ps[i].Names (fun n=>!bN a.Many n) id (x:=.inl ()) (y:=.inr (ps[i].Names.length,false))
  (fun k hk hq=>by
   have hq':bN a.Many ps[i].Names[k]=true:=by simpa using hq
   simp [eU,hi,hk,lq a _ hm,hq',fM k (by omega)])
  (fun k hk hq=>by
   have hq':bN a.Many ps[i].Names[k]=false:=by simpa using hq
   simp [eU,hi,hk,lq a _ hm,hq'])
  (by simp [eU,hi])
 exact ⟨_,h⟩
theorem HL(a:ah)(ps:List br)(i:Nat)(hi:i<ps.length)(h6:ps[i].Names.length≤6):∃ z,lp (fun v=>ej a ps i v) 1=some (if desc ps[i].Names then .inl () else .inr z):=by
 by_cases h:ps[i].Names.length=0
 ·refine ⟨(1,false),?_⟩
  rw [show desc ps[i].Names=false by simp [desc,h]]
  exact iI (by simp [ej,h,hi])
 ·refine ⟨(ps[i].Names.length,false),?_⟩
  exact Jc (B:=fun v=>ej a ps i v) ps[i].Names.length 1 (fun k=>decide (ps[i].Names.getD k 0≤ps[i].Names.getD (k - 1) 0)) id (by omega)
   (fun k h1 hk hp=>by
    have hp':¬ps[i].Names.getD k 0≤ps[i].Names.getD (k - 1) 0:=by simpa using hp
    obtain ⟨hw,hn⟩:=Lh k h1 (by omega)
    simp only [ej,id,aA hi,show (k:Int)<(ps[i].Names.length:Int) by omega,an,qG hk,ae,hw,hn,qG (show k - 1<ps[i].Names.length by omega),hp',aI,fM k (by omega)])
   (fun k h1 hk hp=>by
    have hp':ps[i].Names.getD k 0≤ps[i].Names.getD (k - 1) 0:=by simpa using hp
    obtain ⟨hw,hn⟩:=Lh k h1 (by omega)
    simp only [ej,id,aA hi,show (k:Int)<(ps[i].Names.length:Int) by omega,an,qG hk,ae,hw,hn,qG (show k - 1<ps[i].Names.length by omega),hp'])
   (by simp [ej,hi])
theorem zX(a:ah)(hm:1≤a.Many∧a.Many≤6)(ps:List br):kL a ps=some (sJ a.Many ps):=by
 unfold kL sJ
 by_cases h4:4<ps.length
 ·simp [h4,show (4:Int)<(ps.length:Int) by omega]
 have h4':¬(4:Int)<(ps.length:Int):=by omega
 have h:=Mm (B:=fun v=>dk a ps v) ps (fun p=>if cj a.Many p=5 then some (.inr (.inl ())) else if cj a.Many p=2 then some (.inl ()) else if cj a.Many p=4 then some (.inr (.inr (.inl ()))) else none) id (y:=.inr (.inr (.inr (ps.length,false))))
  (fun i hi hq=>by
   have hE:cj a.Many ps[i]=0:=by
    unfold cj at hq ⊢
    split at hq
    ·simp at hq
    split at hq
    ·simp at hq
    split at hq
    ·simp at hq
    split at hq
    ·simp at hq
    rename_i h1 h2 h3 h5
    simp [h1,h2,h3,h5]
   have hE0:=hE
   obtain ⟨ho,hl,hn⟩:=Hp hE
   have hany:ps[i].Names.any (fun n=>!bN a.Many n)=false:=by
    unfold cj at hE
    split at hE
    ·cases hE
    split at hE
    ·cases hE
    split at hE
    ·cases hE
    rename_i h1 h2 h3;simpa using h3
   have hdesc:desc ps[i].Names=false:=by
    unfold cj at hE0
    simp only [ho,zr,aI,show ¬6<ps[i].Names.length by omega,hany,bn] at hE0
    cases hd:desc ps[i].Names with
    | false=>rfl
    | true=>rw [hd] at hE0;cases hE0
   obtain ⟨z,hz⟩:=HK a hm ps i hi hl
   obtain ⟨z',hz'⟩:=HL a ps i hi hl
   simp only [hany,hdesc,bn,aI] at hz hz'
   simp only [dk,id,show (i:Int)<(ps.length:Int) by omega,an,aA hi,ae,lq a _ hm,ho,show ¬(6:Int)<(ps[i].Names.length:Int) by omega,aI,hz,hz',fM i (by omega)])
  (fun i hi x hq=>by
   unfold cj at hq
   cases ho:bN a.Many ps[i].Owner with
   | false=>
    simp [ho] at hq
    subst hq
    simp [dk,hi,lq a _ hm,ho]
   | true=>
    by_cases h6:6<ps[i].Names.length
    ·simp [ho,h6] at hq
     subst hq
     simp [dk,hi,lq a _ hm,ho,show (6:Int)<(ps[i].Names.length:Int) by omega]
    ·obtain ⟨z,hz⟩:=HK a hm ps i hi (by omega)
     obtain ⟨z',hz'⟩:=HL a ps i hi (by omega)
     have h6':¬(6:Int)<(ps[i].Names.length:Int):=by omega
     cases hany:ps[i].Names.any (fun n=>!bN a.Many n) with
     | true=>
      simp only [ho,zr,aI,h6,hany,an] at hq
      obtain rfl:=ad hq
      simp only [hany,an] at hz
      simp only [dk,id,show (i:Int)<(ps.length:Int) by omega,an,aA hi,ae,lq a _ hm,ho,h6',aI,hz]
     | false=>
      simp only [hany,bn,aI] at hz
      cases hd:desc ps[i].Names with
      | true=>
       simp [ho,h6,hany,hd] at hq
       subst hq
       simp only [hd,an] at hz'
       simp only [dk,id,show (i:Int)<(ps.length:Int) by omega,an,aA hi,ae,lq a _ hm,ho,h6',aI,hz,hz']
      | false=>simp [ho,h6,hany,hd] at hq)
  (by simp [dk])
 have h':lp (fun v=>dk a ps v) 0=_:=h
 simp only [h4',aI,h4,h',ae]
 unfold bK
 clear h h' h4 h4'
 have hval:∀ p,cj a.Many p=0∨cj a.Many p=5∨cj a.Many p=2∨cj a.Many p=4:=fun p=>by
  unfold cj;split
  ·simp
  split
  ·simp
  split
  ·simp
  split<;>simp
 have hgen:∀ (l:List br)(n:Nat),
  (match ((l.findSome? fun p=>if cj a.Many p=5 then some (.inr (.inl ())) else if cj a.Many p=2 then some (.inl ()) else if cj a.Many p=4 then some (.inr (.inr (.inl ()))) else none).getD (.inr (.inr (.inr (n,false)))):Unit⊕(Unit⊕(Unit⊕(Nat×Bool)))) with
   | .inl _=>some (2:Int)
   | .inr (.inl _)=>some 5
   | .inr (.inr (.inl _))=>some 4
   | .inr (.inr (.inr _))=>some 0)=some ((l.findSome? fun x=>if cj a.Many x≠0 then some (cj a.Many x) else none).getD 0):=by
  intro l n
  induction l with
  | nil=>rfl
  | cons p l ih=>
   simp only [zq]
   rcases hval p with h | h | h | h<;>simp only [h]
   ·simpa using ih
   ·rfl
   ·rfl
   ·rfl
 exact hgen ps ps.length
theorem MG(a:ah)(hm:1≤a.Many∧a.Many≤6)(l:Label):rL a l=some (dC a.Many l):=by
 unfold rL dC
 rw [zX a hm,zX a hm,ae]
 by_cases h:sJ a.Many l.Read=0<;>simp [h]
theorem WL(n:Nat):∀ (e:ax)(m:Int),sz e≤n→0≤m→m≤15→(mq n).f_R_exprParts e m=some (min (sz e:Int) (m+1)):=by
 induction n with
 | zero=>intro e m h;have:=xX e;omega
 | succ n ih=>
  intro e m h hm hm15
  show rJ (mq n) e m=_
  unfold rJ
  have he:=Ep e
  obtain ⟨x,hx,hQ⟩:=j0 (B:=fun v=>pB (mq n) e m v.1 v.2) (fun v=>e.Args.length - v.2)
   (fun v=>v.2≤e.Args.length∧v.1=min (1+(oK (e.Args.take v.2):Int)) (m+1)∧(v.2:Int)<v.1+1) (fun x=>x.2.1=min (sz e:Int) (m+1)) (by
    rintro ⟨v,k⟩ ⟨hk,hv,hkv⟩
    simp only at hk hv hkv ⊢
    have ht:=By e.Args k
    unfold pB
    by_cases hlt:k<e.Args.length
    ·rw [aa (by omega)]
     by_cases hmv:v≤m
     ·rw [aa hmv,aA hlt,ae,aa (wc (by omega) (by omega)),ih _ _ (by have:=AD hlt;omega) (by omega) (by omega),ae]
      have hs:=wA hlt
      have hp:=xX e.Args[k]
      rw [aa (wc (by omega) (by omega)),aa (m7 (by omega))]
      exact .inr ⟨_,rfl,⟨by simp only;omega,by simp only;omega,by simp only;omega⟩,by simp only;omega⟩
     ·rw [ab hmv]
      exact .inl ⟨_,rfl,by simp only;omega⟩
    ·rw [ab (by omega)]
     have hl:e.Args.take k=e.Args:=lG (by omega)
     rw [hl] at hv
     exact .inl ⟨_,rfl,by simp only;omega⟩) (1,0) ⟨b9 _,by simp [oK];omega,by simp⟩
  rw [hx,ae]
  exact ak some hQ
theorem TZ{e:ax}{m:Int}(h0:0≤m)(h:m≤15):wR e m=some (min (sz e:Int) (m+1)):=
 Bu (sz e) fun n hn=>WL n e m hn h0 h
theorem ab0(n:Nat):∀ (e:ax),sz e≤n→sz e≤15→(nR n).f_R_allParts e=some (mX e):=by
 induction n with
 | zero=>intro e h;have:=xX e;omega
 | succ n ih=>
  intro e h h15
  show sN (nR n) e=_
  unfold sN
  have he:=Ep e
  have hlen:=IE e.Args
  obtain ⟨x,hx,hQ⟩:=j0 (B:=fun v=>rK (nR n) e v.1 v.2) (fun v=>e.Args.length - v.2)
   (fun v=>v.2≤e.Args.length∧v.1=e::eN (e.Args.take v.2)) (fun x=>x.1=mX e) (by
    rintro ⟨l,k⟩ ⟨hk,hv⟩
    simp only at hk hv ⊢
    unfold rK
    by_cases hlt:k<e.Args.length
    ·rw [aa (by omega),aA hlt,ae,ih _ (by have:=AD hlt;omega) (by have:=AD hlt;omega),ae]
     have hs:=zE hlt
     have h1:=By e.Args k
     have h2:=By e.Args (k+1)
     have h3:=wA hlt
     rw [aa (by rw [hv,Bz,bD,Df];omega),aa (m7 (by omega))]
     exact .inr ⟨_,rfl,⟨by simp only;omega,by simp only;rw [hv,hs];rfl⟩,by simp only;omega⟩
    ·rw [ab (by omega)]
     have hl:e.Args.take k=e.Args:=lG (by omega)
     rw [hl] at hv
     exact .inl ⟨_,rfl,by rw [AB];exact hv⟩) ([e],0) ⟨b9 _,by simp [eN]⟩
  rw [hx,ae]
  exact ak some hQ
theorem OJ{e:ax}(h:sz e≤15):ur e=some (mX e):=Bu (sz e) fun n hn=>ab0 n e hn h
def zY:(Unit⊕(Unit⊕(Unit⊕(Unit⊕(Nat×Bool)))))→Int
 | .inl _=>1
 | .inr (.inl _)=>3
 | .inr (.inr (.inl _))=>5
 | .inr (.inr (.inr (.inl _)))=>7
 | .inr (.inr (.inr (.inr _)))=>0
theorem ab1{v:Int}(hv:0≤v∧v≤9223372036854775807){l:List ax}{k:Nat}(hk:k<l.length)(hl:l.length<4611686018427387904) :
  (jd v l[k]=0∧iM v l k=some (.inl (k+1)))∨∃ x,jd v l[k]≠0∧iM v l k=some (.inr x)∧zY x=jd v l[k]:=by
 unfold iM
 rw [aa (by omega),aA hk,ae,Ba,ae]
 generalize l[k]=e
 by_cases h1:1≤e.Kind∧e.Kind≤7
 ·rw [aa (av h1)]
  have hn:¬(e.Kind<1∨7<e.Kind):=by omega
  have hw:=m7 (k:=k) (by omega)
  have hw1:IntKind.i64.wrap (v - 1)=v - 1:=wc (by omega) (by omega)
  unfold jd tq tr
  rw [ab hn]
  simp only [Ba,hw,hw1,an,ae]
  by_cases h2:2<e.Kind
  ·have g1:¬e.Kind≤2:=by omega
   have g2:¬e.Kind=1:=by omega
   have g3:¬e.Kind=2:=by omega
   by_cases hL:e.Args.length=2
   ·by_cases hN:e.N=0
    ·simp [h2,g1,g2,g3,hL,hN]
    ·simp [h2,g1,g2,g3,hL,hN,zY]
   ·have:¬(e.Args.length:Int)=2:=by omega
    simp [h2,g1,hL,this,zY]
  ·have g1:e.Kind≤2:=by omega
   by_cases hL:e.Args.length=0
   ·by_cases hK:e.Kind=1
    ·by_cases hN : -9999999≤e.N∧e.N≤9999999
     ·have hN':¬(e.N < -9999999∨9999999<e.N):=by omega
      simp [hK,hL,hN.1,hN.2,hN']
     ·have hN':(e.N < -9999999∨9999999<e.N):=by omega
      simp [hK,hL,hN,hN',zY]
    ·have hK2:e.Kind=2:=by omega
     by_cases hN:0≤e.N∧e.N≤v - 1
     ·have hN':¬(e.N<0∨v≤e.N):=by omega
      simp [hK2,hL,hN.1,hN.2,hN']
     ·have hN':(e.N<0∨v≤e.N):=by omega
      simp [hK2,hL,hN,hN',zY]
   ·have:¬(e.Args.length:Int)=0:=by omega
    simp [h2,g1,hL,this,zY]
 ·rw [ab (by simp;omega)]
  have hn:e.Kind<1∨7<e.Kind:=by omega
  exact .inr ⟨_,by simp [jd,hn],rfl,by simp [jd,hn,zY]⟩
theorem yE{e:ax}{v:Int}(hv:0≤v∧v≤9223372036854775807):eM e v=some (Hs v e):=by
 unfold eM Hs
 rw [TZ (by decide) (by decide),ae]
 by_cases h:15<sz e
 ·rw [aa (by omega),aa h]
 ·rw [ab (by omega),ab h,OJ (by omega),ae]
  have hlen:=Bz e
  generalize mX e=l at *
  obtain ⟨x,hx,hQ⟩:=j0 (B:=fun k=>iM v l k) (fun k=>l.length - k)
   (fun k=>k≤l.length∧jH v l=jH v (l.drop k)) (fun x=>zY x=jH v l) (by
    rintro k ⟨hk,hf⟩
    by_cases hlt:k<l.length
    ·rw [kg hlt,jH] at hf
     rcases ab1 hv hlt (by omega) with ⟨h1,h2⟩ | ⟨x,h1,h2,h3⟩
     ·rw [ab (by simp [h1])] at hf
      exact .inr ⟨_,h2,⟨by omega,hf⟩,by omega⟩
     ·rw [aa h1] at hf
      exact .inl ⟨_,h2,by rw [h3,hf]⟩
    ·rw [p9 (by omega),jH] at hf
     unfold iM
     rw [ab (by omega)]
     exact .inl ⟨_,rfl,by rw [hf];rfl⟩) 0 ⟨b9 _,by simp⟩
  rw [hx,ae]
  rcases x with _ | _ | _ | _ | ⟨a,b⟩
  ·exact ak some hQ
  ·exact ak some hQ
  ·exact ak some hQ
  ·exact ak some hQ
  ·exact ak some hQ
theorem take_one{α:Type}{l:List α}{k:Nat}(h:k<l.length):l.take (k+1)=l.take k++[l[k]]:=by rw [pW,aA h];rfl
theorem Bc:∀ {l:List Stmt}{k:Nat}(h:k<l.length),bb (l.take (k+1))=bb (l.take k)+oQ l[k]
 | x::l,0,_=>by simp [bb]
 | x::l,k+1,h=>by
  rw [vL,vL,bb,bb,Bc (k:=k) (by simpa using h)]
  simp only [List.getElem_cons_succ];omega
theorem Bd:∀ {l:List Stmt}{k:Nat}(h:k<l.length),dS (l.take (k+1))=max (dS (l.take k)) (dep l[k])
 | x::l,0,_=>by simp [dS]
 | x::l,k+1,h=>by
  rw [vL,vL,dS,dS,Bd (k:=k) (by simpa using h)]
  simp only [List.getElem_cons_succ];omega
theorem yF:∀ (l:List Stmt)(k:Nat),bb (l.take k)≤bb l
 | [],k=>by simp
 | x::l,0=>by simp [bb]
 | x::l,k+1=>by rw [vL,bb,bb];have:=yF l k;omega
variable [Lp]
def MH(l:List Stmt)(d r:Int):Prop:=0≤r∧r≤51∧(r≤50→r=bb l∧d+dS l≤7)∧((bb l:Int)≤50→d+dS l≤7→r=bb l)
theorem R2(n:Nat):∀ (l:List Stmt)(d:Int),1≤d→d≤7→8 - d≤n→∃ r,(kz n).f_R_ManyStmts l d=some r∧MH l d r:=by
 induction n with
 | zero=>intro l d h1 h2 h3;omega
 | succ n ih=>
  intro l d h1 h2 h3
  show ∃ r,rO (kz n) l d=some r∧_
  unfold rO
  have hd:0<l.length∧6<d∨∃ r,(lV (kz n) l d).bind (fun (x:Unit⊕Int)=>match x with
   | .inl _=>some (51:Int)
   | .inr y=>some y)=some r∧MH l d r:=by
   by_cases h0:0<l.length∧6<d
   ·exact .inl h0
   refine .inr ?_
   unfold lV
   obtain ⟨x,hx,hQ⟩:=j0 (B:=fun v=>pD (kz n) l d v.1 v.2) (fun v=>l.length - v.2)
    (fun v=>v.2≤l.length∧0≤v.1∧v.1≤153∧(v.2:Int)≤v.1∧(v.1≤50→v.1=bb (l.take v.2)∧(v.2=0∨d+dS (l.take v.2)≤7))∧((bb l:Int)≤50→d+dS l≤7→v.1=bb (l.take v.2)))
    (fun x=>0≤x.2.1∧x.2.1≤153∧(x.2.1≤50→x.2.1=bb l∧d+dS l≤7)∧((bb l:Int)≤50→d+dS l≤7→x.2.1=bb l)) (by
     rintro ⟨v,k⟩ ⟨hk,g0,g1,g2,g3,g4⟩
     simp only at hk g0 g1 g2 g3 g4 ⊢
     unfold pD
     by_cases hlt:k<l.length
     ·rw [aa (by omega)]
      by_cases hv:v≤50
      ·rw [aa hv,aA hlt,ae]
       have hs1:=Bc hlt
       have hs2:=Bd hlt
       have hm:=FY (bY hlt)
       have hm2:=FZ (bY hlt)
       have hle:=yF l (k+1)
       have e1:=yn l[k]
       have e2:=Hr l[k]
       generalize l[k]=s at *
       obtain ⟨r1,q1,p1,p2,p3,p4⟩:=ih s.Then (d+1) (by omega) (by omega) (by omega)
       obtain ⟨r2,q2,o1,o2,o3,o4⟩:=ih s.Else (d+1) (by omega) (by omega) (by omega)
       rw [aa (wc (by omega) (by omega)),q1,ae,aa (wc (by omega) (by omega)),q2,ae,aa (wc (by omega) (by omega)),aa (wc (by omega) (by omega)),aa (m7 (by omega))]
       refine .inr ⟨_,rfl,⟨by simp only;omega,by simp only;omega,by simp only;omega,by simp only;omega,?_,?_⟩,by simp only;omega⟩
       ·simp only
        intro hle50
        obtain ⟨a1,a2⟩:=g3 hv
        obtain ⟨a3,a4⟩:=p3 (by omega)
        obtain ⟨a5,a6⟩:=o3 (by omega)
        refine ⟨by omega,.inr ?_⟩
        rcases a2 with rfl | a2
        ·simp only [List.take_zero,dS] at hs2;omega
        ·omega
       ·simp only
        intro c1 c2
        have b1:=g4 c1 c2
        have b2:=p4 (by omega) (by omega)
        have b3:=o4 (by omega) (by omega)
        omega
      ·rw [ab hv]
       refine .inl ⟨_,rfl,by simp only;omega,by simp only;omega,by simp only;omega,?_⟩
       simp only
       intro c1 c2
       have:=g4 c1 c2
       have:=yF l k
       omega
     ·rw [ab (by omega)]
      have hl:l.take k=l:=lG (by omega)
      rw [hl] at g3 g4
      refine .inl ⟨_,rfl,by simp only;omega,by simp only;omega,?_,by simp only;exact g4⟩
      simp only
      intro h50
      obtain ⟨a1,a2⟩:=g3 h50
      refine ⟨a1,?_⟩
      rcases a2 with a2 | a2
      ·have:l=[]:=p7 (by omega)
       subst this
       simp only [dS];omega
      ·exact a2) (0,0) ⟨b9 _,by simp,by simp,by simp,fun _=>by simp [bb],fun _ _=>by simp [bb]⟩
   rw [hx,ae]
   obtain ⟨c0,c1,c2,c3⟩:=hQ
   by_cases h51:51<x.2.1
   ·rw [aa h51]
    exact ⟨51,rfl,by decide,by decide,fun h=>by omega,fun h1 h2=>by have:=c3 h1 h2;omega⟩
   ·rw [ab h51]
    exact ⟨_,rfl,c0,by omega,c2,c3⟩
  rcases hd with ⟨h4,h5⟩ | ⟨r,hr,hok⟩
  ·rw [aa (by omega),aa h5]
   refine ⟨51,rfl,by decide,by decide,fun h=>by omega,fun _ h7=>?_⟩
   have hp:1≤dS l:=by
    cases l with
    | nil=>simp at h4
    | cons x l=>rw [dS];have:=Hr x;omega
   omega
  ·by_cases h4:0<l.length
   ·rw [aa (by omega)]
    by_cases h5:6<d
    ·rw [aa h5]
     refine ⟨51,rfl,by decide,by decide,fun h=>by omega,fun _ h7=>?_⟩
     have hp:1≤dS l:=by
      cases l with
      | nil=>simp at h4
      | cons x l=>rw [dS];have:=Hr x;omega
     omega
    ·rw [ab h5];exact ⟨r,hr,hok⟩
   ·rw [ab (by omega)];exact ⟨r,hr,hok⟩
theorem MI(l:List Stmt):∃ r,sO l 1=some r∧MH l 1 r:=by
 obtain ⟨r,h1,h2⟩:=R2 7 l 1 (by decide) (by decide) (by decide)
 refine ⟨r,Bu 7 fun n hn=>?_,h2⟩
 obtain ⟨r',h3,h4⟩:=R2 n l 1 (by decide) (by decide) (by omega)
 obtain ⟨a1,a2,a3,a4⟩:=h2
 obtain ⟨b1,b2,b3,b4⟩:=h4
 rw [h3]
 congr 1
 by_cases h:r≤50
 ·have:=a3 h;have:=b4 (by omega) (by omega);omega
 ·by_cases h':r'≤50
  ·have:=b3 h';have:=a4 (by omega) (by omega);omega
  ·omega
theorem OK{main:List Stmt} : ∀ {l:List Func}{n:Int},0≤n→(∀ f∈l,dS f.Body≤6)→dS main≤6→n+((l.map fun f=>bb f.Body).sum:Nat)+bb main≤50→(kx main l n).1=true
 | [],n,h0,_,h2,h3=>by
  rw [kx,(jx main 1 n (n+bb main) (by simp at h3;omega) (by decide)).2 ⟨rfl,by simpa using h3,by omega⟩]
 | f::r,n,h0,h1,h2,h3=>by
  rw [cq,vI] at h3
  have hd:=h1 f (by simp)
  rw [kx,(jx f.Body 1 n (n+bb f.Body) (by omega) (by decide)).2 ⟨rfl,by omega,by omega⟩]
  simp only [andThen,an]
  exact OK (by omega) (fun g hg=>h1 g (by simp [hg])) h2 (by omega)
variable [Lp]
section
variable {p:Program}{i:Int}(h0:0≤i∧i≤p.Funcs.length)(hb:p.Vars.length≤16∧p.Ins.length≤5∧p.Outs.length≤5∧p.Funcs.length≤5)(hp:∀ f∈p.Funcs,f.Params.length≤9223372036854775807)
include h0 hb hp
theorem WM(s:Stmt):ME p i s=some (bw p i s):=by
 unfold ME
 by_cases hk:1≤s.Kind∧s.Kind≤8
 ·have ho : -1000000≤pa p i s.Kind∧pa p i s.Kind≤1000000:=by
   unfold pa
   split
   ·omega
   split
   ·omega
   split<;>omega
  rw [ab (fun h=>h hk),ab (fun h=>h ⟨by omega,ho⟩)]
  exact Oo (fun e=>yE (by omega)) h0.2 hp (by omega)
 ·rw [aa hk]
  unfold bw
  rw [aa (by omega)]
mutual
theorem ab2:∀ s:Stmt,oQ s≤50→OH p i s=some (uk (bw p i) s)
 | ⟨k,v,o,e,args,th,el⟩,h=>by
  rw [oQ] at h
  have l1:=fA th
  have l2:=fA el
  rw [OH,uk,WM h0 hb hp,ae,aa (show th.length≤9223372036854775807 by omega),aa (show el.length≤9223372036854775807 by omega),HM th (by omega),HM el (by omega),ae]
  by_cases c1:bw p i ⟨k,v,o,e,args,th,el⟩=0
  ·by_cases c2:cZ (bw p i) th=0<;>simp [c1,c2]
  ·simp [c1]
theorem HM:∀ l:List Stmt,bb l≤50→Fg p i l=some (cZ (bw p i) l)
 | [],_=>by rw [Fg,cZ]
 | s::r,h=>by
  rw [bb] at h
  rw [Fg,cZ,ab2 s (by omega),HM r (by omega),ae]
  by_cases c1:uk (bw p i) s=0
  ·simp [c1]
  ·simp [c1]
end
theorem R3{l:List Stmt}(hc:bb l≤50)(hd:dS l≤6):cH p i l=some (cZ (bw p i) l):=by
 have:=fA l
 unfold cH
 rw [aa (by omega),HM h0 hb hp l hc]
end
theorem pj1(p:Program):me p=some (decide (16<p.Vars.length∨5<p.Ins.length∨5<p.Outs.length∨5<p.Funcs.length∨p.ah.Many<(p.Speak.length:Int))):=by
 unfold me gJ
 by_cases h1:16<p.Vars.length
 ·have:(16:Int)<(p.Vars.length:Int):=by omega
  simp [h1,this]
 have h1':¬(16:Int)<(p.Vars.length:Int):=by omega
 by_cases h2:5<p.Ins.length
 ·have:(5:Int)<(p.Ins.length:Int):=by omega
  simp [h1',h2,this]
 have h2':¬(5:Int)<(p.Ins.length:Int):=by omega
 by_cases h3:5<p.Outs.length
 ·have:(5:Int)<(p.Outs.length:Int):=by omega
  simp [h1',h2',h3,this]
 have h3':¬(5:Int)<(p.Outs.length:Int):=by omega
 by_cases h4:5<p.Funcs.length
 ·have:(5:Int)<(p.Funcs.length:Int):=by omega
  simp [h1',h2',h3',h4,this]
 have h4':¬(5:Int)<(p.Funcs.length:Int):=by omega
 simp [h1,h1',h2,h2',h3,h3',h4,h4']
abbrev XP:=Unit⊕(Unit⊕(Nat×Bool))
def ab3:XP→Int
 | .inl _=>6
 | .inr (.inl _)=>5
 | .inr (.inr _)=>0
theorem ajo{p:Program}(hv:p.Vars.length≤16)(j:Nat)(f:Func)(hl:f.Params.length≤4):∃ x,lp (fun v=>mP p j f v) 0=some x∧ab3 x=oD p.Vars.length [] f.Params:=by
 refine j0 (fun k=>f.Params.length - k) (fun k=>k≤f.Params.length∧oD p.Vars.length [] f.Params=oD p.Vars.length (f.Params.take k) (f.Params.drop k)) (fun x=>ab3 x=oD p.Vars.length [] f.Params) ?_ 0 ⟨b9 _,by simp⟩
 rintro k ⟨hk,hq⟩
 unfold mP
 by_cases hlt:k<f.Params.length
 ·rw [kg hlt,oD] at hq
  rw [aa (show (k:Int)<(f.Params.length:Int) by omega),aA hlt,ae,aa (wc (by omega) (by omega)),Ba,ae]
  by_cases c1:f.Params[k]<0∨(p.Vars.length:Int)≤f.Params[k]
  ·rw [aa c1] at hq
   rw [ab (show ¬decide (0≤f.Params[k]∧f.Params[k]≤(p.Vars.length:Int) - 1)=true by simp;omega)]
   exact .inl ⟨_,rfl,by rw [hq];rfl⟩
  ·rw [ab c1] at hq
   rw [aa (show decide (0≤f.Params[k]∧f.Params[k]≤(p.Vars.length:Int) - 1)=true by simp;omega)]
   have hin:=qo (B:=fun v=>fD p j f k v) (f.Params.take k) (fun n=>n==f.Params[k]) id (x:=.inl ()) (y:=.inr (k,false))
    (fun m hm hp=>by
     have hm':m<k∧m<f.Params.length:=by simp at hm;omega
     have hp':(f.Params[m]==f.Params[k])=false:=by simpa using hp
     simp only [fD,id,show (m:Int)<(k:Int) by omega,an,aA hm'.2,aA hlt,ae,hp',bn,aI,m7 (show m<9223372036854775807 by omega)])
    (fun m hm hp=>by
     have hm':m<k∧m<f.Params.length:=by simp at hm;omega
     have hp':(f.Params[m]==f.Params[k])=true:=by simpa using hp
     simp only [fD,id,show (m:Int)<(k:Int) by omega,an,aA hm'.2,aA hlt,ae,hp'])
    (by
     have:(f.Params.take k).length=k:=by simp;omega
     simp [fD,this])
   have hin':lp (fun v=>fD p j f k v) 0=_:=hin
   rw [hin',ae]
   by_cases c2:f.Params[k]∈f.Params.take k
   ·rw [aa c2] at hq
    rw [aa (lD.2 ⟨_,c2,by simp⟩)]
    exact .inl ⟨_,rfl,by rw [hq];rfl⟩
   ·rw [ab c2] at hq
    rw [ab (show ¬(f.Params.take k).any (fun n=>n==f.Params[k])=true from fun h=>by
     obtain ⟨x,h1,h2⟩:=lD.1 h
     exact c2 ((by simpa using h2:x=f.Params[k])▸h1))]
    simp only [m7 (show k<9223372036854775807 by omega),an]
    exact .inr ⟨_,rfl,⟨by omega,by rw [hq,take_one hlt]⟩,by omega⟩
 ·rw [ab (show ¬(k:Int)<(f.Params.length:Int) by omega)]
  rw [p9 (by omega),oD] at hq
  exact .inl ⟨_,rfl,by rw [hq];rfl⟩
abbrev XF:=Unit⊕(Unit⊕(Unit⊕(Int⊕(Nat×Bool))))
def ab4:XF→Int
 | .inl _=>2
 | .inr (.inl _)=>6
 | .inr (.inr (.inl _))=>5
 | .inr (.inr (.inr (.inl e)))=>e
 | .inr (.inr (.inr (.inr _)))=>0
theorem ajp{p:Program}(hb:p.Vars.length≤16∧p.Ins.length≤5∧p.Outs.length≤5∧p.Funcs.length≤5)(hp:∀ f∈p.Funcs,f.Params.length≤9223372036854775807)(hc:∀ f∈p.Funcs,bb f.Body≤50∧dS f.Body≤6) :
  ∃ x,lp (fun v=>mR p v) 0=some x∧ab4 x=kv p 0 p.Funcs∧(kv p 0 p.Funcs=0→∃ z,x= .inr (.inr (.inr (.inr z)))):=by
 refine j0 (fun k=>p.Funcs.length - k) (fun k=>k≤p.Funcs.length∧kv p 0 p.Funcs=kv p k (p.Funcs.drop k)) (fun x=>ab4 x=kv p 0 p.Funcs∧(kv p 0 p.Funcs=0→∃ z,x= .inr (.inr (.inr (.inr z))))) ?_ 0 ⟨b9 _,by simp⟩
 rintro k ⟨hk,hq⟩
 unfold mR
 by_cases hlt:k<p.Funcs.length
 rotate_left
 ·rw [ab (show ¬(k:Int)<(p.Funcs.length:Int) by omega)]
  rw [p9 (by omega),kv] at hq
  exact .inl ⟨_,rfl,by rw [hq];rfl,fun _=>⟨_,rfl⟩⟩
 rw [kg hlt,kv] at hq
 obtain ⟨b1,b2⟩:=hc _ (bY hlt)
 rw [aa (show (k:Int)<(p.Funcs.length:Int) by omega),aA hlt,ae]
 generalize p.Funcs[k]=f at *
 have hw:IntKind.i64.wrap ((k:Int)+1)=((k+1:Nat):Int):=m7 (by omega)
 have h19:∀ e:Int,iN p k e=some (if e≠0 then .inl e else .inr (e,e !=0)):=fun e=>by
  unfold iN
  by_cases h:e=0<;>simp [h]
 by_cases c1:4<f.Params.length
 ·have e1:sA p k f=2:=by unfold sA;rw [aa c1]
  rw [e1,aa (by decide)] at hq
  rw [aa (show (4:Int)<(f.Params.length:Int) by omega)]
  exact .inl ⟨_,rfl,by rw [hq];rfl,fun h=>by rw [hq] at h;cases h⟩
 rw [ab (show ¬(4:Int)<(f.Params.length:Int) by omega)]
 obtain ⟨x,hx,hxe⟩:=ajo (p:=p) hb.1 k f (by omega)
 rw [hx,ae]
 rcases x with x | x | x
 ·have e1:sA p k f=6:=by unfold sA;rw [ab c1,←hxe];rfl
  rw [e1,aa (by decide)] at hq
  exact .inl ⟨_,rfl,by rw [hq];rfl,fun h=>by rw [hq] at h;cases h⟩
 ·have e1:sA p k f=5:=by unfold sA;rw [ab c1,←hxe];rfl
  rw [e1,aa (by decide)] at hq
  exact .inl ⟨_,rfl,by rw [hq];rfl,fun h=>by rw [hq] at h;cases h⟩
 have e1:sA p k f=if cZ (bw p k) f.Body≠0 then cZ (bw p k) f.Body else dT p f.Result:=by
  unfold sA;rw [ab c1,←hxe];rfl
 simp only
 rw [R3 (i:=(k:Int)) ⟨by omega,by omega⟩ hb hp b1 b2,ae]
 by_cases c2:cZ (bw p k) f.Body=0
 ·rw [ab (fun h=>h c2)] at e1
  rw [aa (show (cZ (bw p k) f.Body==0)=true by simpa using c2),yE (by omega),ae,h19,ae]
  have e2:Hs (p.Vars.length:Int) f.Result=sA p k f:=e1.symm
  rw [e2]
  by_cases c3:sA p k f=0
  ·rw [ab (fun h=>h c3)]
   rw [ab (fun h=>h c3)] at hq
   exact .inr ⟨_,by simp only [hw,an],⟨by omega,hq⟩,by omega⟩
  ·rw [aa c3]
   rw [aa c3] at hq
   exact .inl ⟨_,rfl,by rw [hq];rfl,fun h=>absurd (hq.symm.trans h) c3⟩
 ·rw [aa c2] at e1
  rw [ab (show ¬(cZ (bw p k) f.Body==0)=true by simpa using c2),h19,ae,aa c2]
  rw [e1,aa c2] at hq
  exact .inl ⟨_,rfl,by rw [hq];rfl,fun h=>absurd (hq.symm.trans h) c2⟩
theorem VS{p:Program}(hp:∀ f∈p.Funcs,f.Params.length≤9223372036854775807):lX p=some (dh p):=by
 unfold lX dh px
 rw [KF,ae]
 by_cases a1:eL p.ah=0
 rotate_left
 ·rw [aa (show (eL p.ah !=0)=true by simpa using a1)]
  simp only [ne_eq,a1,pS,an]
 obtain ⟨m1,m2,m3,m4⟩:=lj a1
 rw [ab (show ¬(eL p.ah !=0)=true by simpa using a1),pj1,ae]
 simp only [ne_eq,a1,not_true,aI]
 by_cases a2:16<p.Vars.length∨5<p.Ins.length∨5<p.Outs.length∨5<p.Funcs.length∨p.ah.Many<(p.Speak.length:Int)
 ·rw [aa (av a2),aa a2];rfl
 rw [ab (show ¬decide _=true by simpa using a2),ab a2]
 have hb:p.Vars.length≤16∧p.Ins.length≤5∧p.Outs.length≤5∧p.Funcs.length≤5:=by omega
 have hsp:=qo (B:=fun v=>fB p v) p.Speak (fun n=>!bN p.ah.Many n) id (x:=.inl ()) (y:=.inr (p.Speak.length,false))
  (fun k hk hq=>by
   have hq':bN p.ah.Many p.Speak[k]=true:=by simpa using hq
   simp [fB,hk,lq p.ah _ ⟨m1,m2⟩,hq',fM k (by omega)])
  (fun k hk hq=>by
   have hq':bN p.ah.Many p.Speak[k]=false:=by simpa using hq
   simp [fB,hk,lq p.ah _ ⟨m1,m2⟩,hq'])
  (by simp [fB])
 have hsp':lp (fun v=>fB p v) 0=_:=hsp
 rw [hsp',ae]
 cases a3:p.Speak.any (fun n=>!bN p.ah.Many n) with
 | true=>simp
 | false=>
  simp only [bn,aI]
  rw [aa (show ([]:List Label).length+p.Ins.length≤1000000000 by simp;omega),aa (show (([]:List Label)++p.Ins).length+p.Outs.length≤1000000000 by simp;omega)]
  obtain ⟨x1,hx1,hq1⟩:=j0 (B:=fun v=>mN p v.1 v.2) (fun v=>p.Vars.length - v.2) (fun v=>v.2≤p.Vars.length∧v.1=(p.Ins++p.Outs)++(p.Vars.take v.2).map Var.Label) (fun x=>x.1=(p.Ins++p.Outs)++p.Vars.map Var.Label) (by
   rintro ⟨v,k⟩ ⟨hk,hv⟩
   simp only at hk hv ⊢
   unfold mN
   by_cases hlt:k<p.Vars.length
   ·rw [aa (show (k:Int)<(p.Vars.length:Int) by omega),aA hlt,ae,aa (by rw [hv];simp;omega),aa (m7 (by omega))]
    exact .inr ⟨_,rfl,⟨by simp only;omega,by simp only;rw [hv,take_one hlt,dc,cq,mW,lE]⟩,by simp only;omega⟩
   ·rw [ab (show ¬(k:Int)<(p.Vars.length:Int) by omega)]
    exact .inl ⟨_,rfl,by simp only;rw [hv,lG (by omega)]⟩) (([]++p.Ins)++p.Outs,0) ⟨b9 _,by simp⟩
  rw [hx1,ae]
  have hlx:x1.1.length≤26:=by rw [hq1];simp;omega
  obtain ⟨x2,hx2,he1,he2⟩:=Mr (B:=fun v=>jV p x1 v) x1.1 (dC p.ah.Many) (fun k hk=>by
   unfold jV
   rw [aa (show (k:Int)<(x1.1.length:Int) by omega),aA hk,ae,MG p.ah ⟨m1,m2⟩,ae]
   by_cases h0:dC p.ah.Many x1.1[k]=0
   ·rw [ab (by simp [h0]),aa (m7 (by omega)),ab (by simp [h0])]
   ·rw [aa (by simp [h0]),aa h0]) ⟨(x1.1.length,false),by simp [jV]⟩
  rw [hx2,ae]
  have happ:bK (dC p.ah.Many) x1.1=if bK (dC p.ah.Many) (p.Ins++p.Outs)≠0 then bK (dC p.ah.Many) (p.Ins++p.Outs) else bK (fun v:Var=>dC p.ah.Many v.Label) p.Vars:=by
   rw [hq1]
   generalize p.Ins++p.Outs=l
   have hm:∀ vs:List Var,bK (dC p.ah.Many) (vs.map Var.Label)=bK (fun v:Var=>dC p.ah.Many v.Label) vs:=by
    intro vs
    induction vs with
    | nil=>rfl
    | cons v vs ih=>rw [cq,mn,mn,ih]
   induction l with
   | nil=>rw [dX,hm];rfl
   | cons y l ih=>
    rw [eA,mn,mn,ih]
    by_cases h:dC p.ah.Many y=0
    ·simp only [h,ne_eq,not_true,aI]
    ·simp only [h,ne_eq,pS,an]
  by_cases a4:bK (dC p.ah.Many) x1.1=0
  rotate_left
  ·rcases x2 with y | z
   ·have hy:y=_:=he1
    simp only
    rw [hy,happ]
    rw [happ] at a4
    by_cases a5:bK (dC p.ah.Many) (p.Ins++p.Outs)=0
    ·rw [ab (fun h=>h a5)] at a4 ⊢
     simp [a5,a4]
    ·rw [aa a5]
     simp [a5]
   ·have hy:(0:Int)=_:=he1
    exact absurd hy.symm a4
  obtain ⟨z,rfl⟩:=he2 a4
  rw [happ] at a4
  have a5:bK (dC p.ah.Many) (p.Ins++p.Outs)=0:=by
   by_cases h:bK (dC p.ah.Many) (p.Ins++p.Outs)=0
   ·exact h
   ·rw [aa h] at a4;exact a4
  rw [ab (fun h=>h a5)] at a4
  simp only [a5,a4,not_true,aI]
  have hkn:=qo (B:=fun v=>fC p v) p.Vars (fun v=>!v.Known&&decide (0<v.Label.Read.length+v.Label.Write.length)) id (x:=.inl ()) (y:=.inr (p.Vars.length,false))
   (fun k hk hq=>by
    have hw:=m7 (k:=k) (by omega)
    simp only [fC,id,show (k:Int)<(p.Vars.length:Int) by omega,an,aA hk,ae,hw]
    cases hK:p.Vars[k].Known with
    | true=>simp
    | false=>
     have hq':¬0<p.Vars[k].Label.Read.length+p.Vars[k].Label.Write.length:=by simpa [hK] using hq
     rw [ab (by decide),ab (show ¬(0:Int)<(p.Vars[k].Label.Read.length:Int) by omega),ab (show ¬(0:Int)<(p.Vars[k].Label.Write.length:Int) by omega)])
   (fun k hk hq=>by
    have hq':p.Vars[k].Known=false∧0<p.Vars[k].Label.Read.length+p.Vars[k].Label.Write.length:=by simpa using hq
    simp only [fC,id,show (k:Int)<(p.Vars.length:Int) by omega,an,aA hk,ae,hq'.1,bn,aI]
    by_cases h:0<p.Vars[k].Label.Read.length
    ·rw [aa (show (0:Int)<(p.Vars[k].Label.Read.length:Int) by omega)]
    ·rw [ab (show ¬(0:Int)<(p.Vars[k].Label.Read.length:Int) by omega),aa (show (0:Int)<(p.Vars[k].Label.Write.length:Int) by omega)])
   (by simp [fC])
  have hkn':lp (fun v=>fC p v) 0=_:=hkn
  rw [hkn',ae]
  cases a6:p.Vars.any (fun v=>!v.Known&&decide (0<v.Label.Read.length+v.Label.Write.length)) with
  | true=>simp
  | false=>
   simp only [bn,aI,not_true]
   obtain ⟨r,hr,r0,r1,r2,r3⟩:=MI p.Main
   rw [hr,ae]
   have hcount:∃ x,lp (fun v=>mO p v.1 v.2) (r,0)=some x∧((x.1≤50→(∀ f∈p.Funcs,dS f.Body≤6∧bb f.Body≤50)∧r≤50∧x.1=r+((p.Funcs.map fun f=>bb f.Body).sum:Nat))∧(r≤50→(∀ f∈p.Funcs,dS f.Body≤6)→r+((p.Funcs.map fun f=>bb f.Body).sum:Nat)≤50→x.1≤50)):=by
    refine j0 (fun v=>p.Funcs.length - v.2) (fun v=>v.2≤p.Funcs.length∧0≤v.1∧v.1≤51*((v.2:Int)+1)∧r≤v.1∧(v.1≤50→(∀ f∈p.Funcs.take v.2,dS f.Body≤6∧bb f.Body≤50)∧r≤50∧v.1=r+(((p.Funcs.take v.2).map fun f=>bb f.Body).sum:Nat))∧(r≤50→(∀ f∈p.Funcs,dS f.Body≤6)→r+((p.Funcs.map fun f=>bb f.Body).sum:Nat)≤50→v.1=r+(((p.Funcs.take v.2).map fun f=>bb f.Body).sum:Nat))) _ ?_ (r,0) ⟨b9 _,r0,by simp only;omega,zl _,fun h=>⟨by simp,h,by simp⟩,fun _ _ _=>by simp⟩
    rintro ⟨v,k⟩ ⟨hk,g0,g1,g2,g3,g4⟩
    simp only at hk g0 g1 g2 g3 g4 ⊢
    unfold mO
    by_cases hlt:k<p.Funcs.length
    ·obtain ⟨q,hq,q0,q1,q2,q3⟩:=MI p.Funcs[k].Body
     have hsum:((p.Funcs.map fun f=>bb f.Body).sum:Nat)=(((p.Funcs.take (k+1)).map fun f=>bb f.Body).sum:Nat)+(((p.Funcs.drop (k+1)).map fun f=>bb f.Body).sum:Nat):=by
      rw [←List.sum_append,←dc,vA]
     have hs1:(((p.Funcs.take (k+1)).map fun f=>bb f.Body).sum:Nat)=((p.Funcs.take k).map fun f=>bb f.Body).sum+bb p.Funcs[k].Body:=by
      rw [take_one hlt,dc,List.sum_append];simp
     have htk:∀ f∈p.Funcs.take (k+1),f∈p.Funcs.take k∨f=p.Funcs[k]:=by
      intro f hf
      rw [take_one hlt] at hf
      rcases bJ.1 hf with h | h
      ·exact .inl h
      ·exact .inr (by simpa using h)
     have hmem:p.Funcs[k]∈p.Funcs:=bY hlt
     rw [aa (show (k:Int)<(p.Funcs.length:Int) by omega),aA hlt,ae,hq,ae,aa (wc (by omega) (by omega)),aa (m7 (by omega))]
     generalize p.Funcs[k]=g at *
     refine .inr ⟨_,rfl,⟨by simp only;omega,by simp only;omega,by simp only;omega,by simp only;omega,?_,?_⟩,by simp only;omega⟩
     ·simp only
      intro h50
      obtain ⟨p1,p2,p3⟩:=g3 (by omega)
      obtain ⟨p4,p5⟩:=q2 (by omega)
      refine ⟨fun f hf=>?_,p2,by omega⟩
      rcases htk f hf with h | rfl
      ·exact p1 f h
      ·exact ⟨by omega,by omega⟩
     ·simp only
      intro h1 h2 h3
      have e1:=g4 h1 h2 h3
      have e2:=h2 g hmem
      have e3:=q3 (by omega) (by omega)
      omega
    ·rw [ab (show ¬(k:Int)<(p.Funcs.length:Int) by omega)]
     rw [lG (by omega)] at g3 g4
     exact .inl ⟨_,rfl,by simp only;exact g3,by simp only;intro h1 h2 h3;have:=g4 h1 h2 h3;omega⟩
   obtain ⟨x,hx,x1,x2⟩:=hcount
   rw [hx,ae]
   have hfew:(kx p.Main p.Funcs 0).1=false↔50<x.1:=by
    constructor
    ·intro h
     apply km
     intro hx50
     obtain ⟨y1,y2,y3⟩:=x1 (by omega)
     obtain ⟨y4,y5⟩:=r2 y2
     have:=OK (main:=p.Main) (l:=p.Funcs) (n:=0) (by decide) (fun f hf=>(y1 f hf).1) (by omega) (by omega)
     rw [this] at h;cases h
    ·intro h
     cases hF:(kx p.Main p.Funcs 0).1 with
     | false=>rfl
     | true=>
      have hF':kx p.Main p.Funcs 0=(true,(kx p.Main p.Funcs 0).2):=Prod.ext hF rfl
      obtain ⟨k1,k2,k3,k4,k5,k6⟩:=BS (by decide) (by decide) hF'
      have:=r3 (by omega) (by omega)
      have:=x2 (by omega) (fun f hf=>(k1 f hf).2) (by omega)
      omega
   by_cases a7:50<x.1
   ·rw [aa a7,aa (hfew.2 a7)]
   ·rw [ab a7,ab (fun h=>a7 (hfew.1 h))]
    obtain ⟨y1,y2,y3⟩:=x1 (by omega)
    obtain ⟨y4,y5⟩:=r2 y2
    obtain ⟨xf,hxf,hxe,hxz⟩:=ajp hb hp (fun f hf=>⟨(y1 f hf).2,(y1 f hf).1⟩)
    rw [hxf,ae]
    by_cases a8:kv p 0 p.Funcs=0
    ·obtain ⟨z,rfl⟩:=hxz a8
     rw [ab (fun h=>h a8)]
     simp only
     rw [R3 (i:=(p.Funcs.length:Int)) ⟨by omega,by omega⟩ hb hp (by omega) (by omega)];rfl
    ·rw [aa a8,←hxe]
     rw [←hxe] at a8
     rcases xf with xf | xf | xf | xf | xf
     ·rfl
     ·rfl
     ·rfl
     ·rfl
     ·exact absurd rfl a8
end Go.Proofs.YtkkkkondjclcnaaGreat.A
