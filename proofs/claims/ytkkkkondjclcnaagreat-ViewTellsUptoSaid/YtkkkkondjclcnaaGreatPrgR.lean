/- The document's check of a program: actors, labels, expressions, as plain mathematics says. -/
import Derived.Test.YtkkkkondjclcnaaGreatScopeP
import Derived.Test.YtkkkkondjclcnaaGreatFR
set_option linter.all false
namespace Go.Proofs.YtkkkkondjclcnaaGreat.A
open Go
variable [Lp]
theorem j9(a:aj)(n:Int)(h:1≤a.Many∧a.Many≤6):jO a n=some (bL a.Many n):=by
 unfold jO
 have e:(0≤n∧n≤a.Many - 1)↔(0≤n∧n<a.Many):=by omega
 rw [ab (wrap64 (by omega) (by omega)),mU]
 simp [bL,e]
theorem Ks(a:aj):pN a=some (eP a):=by
 unfold pN eP
 rw [mU]
 by_cases h:a.Many<1∨6<a.Many
 ·have:¬(1≤a.Many∧a.Many≤6):=by omega
  simp [h,this]
 have hm:1≤a.Many∧a.Many≤6:=by omega
 by_cases h3:20<a.Grants.length
 ·have h3':(20:Int)<(a.Grants.length:Int):=by omega
  simp [h,hm,h3,h3']
 have h3':¬(20:Int)<(a.Grants.length:Int):=by omega
 have hi:=fun n=>j9 a n hm
 have hl:=Aj (B:=fun v=>eT a v) a.Grants (kH a.Many) id (x:=.inl ()) (y:=.inr (a.Grants.length,false))
  (fun k hk hp=>by
   have hb:bL a.Many a.Grants[k].Who=true∧bL a.Many a.Grants[k].For=true:=by simpa [kH] using hp
   simp [eT,hk,hi,hb.1,hb.2,eQ k (by omega)])
  (fun k hk hp=>by
   cases hw:bL a.Many a.Grants[k].Who with
   | true=>
    have hb:bL a.Many a.Grants[k].For=false:=by simpa [kH,hw] using hp
    simp [eT,hk,hi,hw,hb]
   | false=>simp [eT,hk,hi,hw])
  (by simp [eT])
 have hl':lp (fun v=>eT a v) 0=_:=hl
 simp only [hm,and_self,oq,af,aq,h,aM,h3,h3',hl']
 cases a.Grants.any (kH a.Many)<;>simp
theorem HB(a:aj)(hm:1≤a.Many∧a.Many≤6)(ps:List bD)(i:Nat)(hi:i<ps.length)(hl:ps[i].Names.length≤6) :
  ∃ z,lp (fun v=>e9 a ps i v) 0=some (if ps[i].Names.any (fun n=>!bL a.Many n) then .inl () else .inr z):=by
 have h:=Aj (B:=fun v=>e9 a ps i v) ps[i].Names (fun n=>!bL a.Many n) id (x:=.inl ()) (y:=.inr (ps[i].Names.length,false))
  (fun k hk hq=>by
   have hq':bL a.Many ps[i].Names[k]=true:=by simpa using hq
   simp [e9,hi,hk,j9 a _ hm,hq',eQ k (by omega)])
  (fun k hk hq=>by
   have hq':bL a.Many ps[i].Names[k]=false:=by simpa using hq
   simp [e9,hi,hk,j9 a _ hm,hq'])
  (by simp [e9,hi])
 exact ⟨_,h⟩
theorem HC(a:aj)(ps:List bD)(i:Nat)(hi:i<ps.length)(h6:ps[i].Names.length≤6):∃ z,lp (fun v=>ep a ps i v) 1=some (if desc ps[i].Names then .inl () else .inr z):=by
 by_cases h:ps[i].Names.length=0
 ·refine ⟨(1,false),?_⟩
  rw [show desc ps[i].Names=false by simp [desc,h]]
  exact fc (by simp [ep,h,hi])
 ·refine ⟨(ps[i].Names.length,false),?_⟩
  exact I2 (B:=fun v=>ep a ps i v) ps[i].Names.length 1 (fun k=>decide (ps[i].Names.getD k 0≤ps[i].Names.getD (k - 1) 0)) id (by omega)
   (fun k h1 hk hp=>by
    have hp':¬ps[i].Names.getD k 0≤ps[i].Names.getD (k - 1) 0:=by simpa using hp
    obtain ⟨hw,hn⟩:=K5 k h1 (by omega)
    simp only [ep,id,aB hi,show (k:Int)<(ps[i].Names.length:Int) by omega,aq,qK hk,af,hw,hn,qK (show k - 1<ps[i].Names.length by omega),hp',aM,eQ k (by omega)])
   (fun k h1 hk hp=>by
    have hp':ps[i].Names.getD k 0≤ps[i].Names.getD (k - 1) 0:=by simpa using hp
    obtain ⟨hw,hn⟩:=K5 k h1 (by omega)
    simp only [ep,id,aB hi,show (k:Int)<(ps[i].Names.length:Int) by omega,aq,qK hk,af,hw,hn,qK (show k - 1<ps[i].Names.length by omega),hp'])
   (by simp [ep,hi])
theorem zH(a:aj)(hm:1≤a.Many∧a.Many≤6)(ps:List bD):kZ a ps=some (sM a.Many ps):=by
 unfold kZ sM
 by_cases h4:4<ps.length
 ·simp [h4,show (4:Int)<(ps.length:Int) by omega]
 have h4':¬(4:Int)<(ps.length:Int):=by omega
 have h:=Mb (B:=fun v=>dq a ps v) ps (fun p=>if cz a.Many p=5 then some (.inr (.inl ())) else if cz a.Many p=2 then some (.inl ()) else if cz a.Many p=4 then some (.inr (.inr (.inl ()))) else none) id (y:=.inr (.inr (.inr (ps.length,false))))
  (fun i hi hq=>by
   have hE:cz a.Many ps[i]=0:=by
    unfold cz at hq ⊢
    split at hq
    ·simp at hq
    split at hq
    ·simp at hq
    split at hq
    ·simp at hq
    split at hq
    ·simp at hq
    rename_i h1 h2 h3 h5
    simp [h1,h2,h3,h5]
   have hE0:=hE
   obtain ⟨ho,hl,hn⟩:=Hf hE
   have hany:ps[i].Names.any (fun n=>!bL a.Many n)=false:=by
    unfold cz at hE
    split at hE
    ·cases hE
    split at hE
    ·cases hE
    split at hE
    ·cases hE
    rename_i h1 h2 h3;simpa using h3
   have hdesc:desc ps[i].Names=false:=by
    unfold cz at hE0
    simp only [ho,y0,aM,show ¬6<ps[i].Names.length by omega,hany,bB] at hE0
    cases hd:desc ps[i].Names with
    | false=>rfl
    | true=>rw [hd] at hE0;cases hE0
   obtain ⟨z,hz⟩:=HB a hm ps i hi hl
   obtain ⟨z',hz'⟩:=HC a ps i hi hl
   simp only [hany,hdesc,bB,aM] at hz hz'
   simp only [dq,id,show (i:Int)<(ps.length:Int) by omega,aq,aB hi,af,j9 a _ hm,ho,show ¬(6:Int)<(ps[i].Names.length:Int) by omega,aM,hz,hz',eQ i (by omega)])
  (fun i hi x hq=>by
   unfold cz at hq
   cases ho:bL a.Many ps[i].Owner with
   | false=>
    simp [ho] at hq
    subst hq
    simp [dq,hi,j9 a _ hm,ho]
   | true=>
    by_cases h6:6<ps[i].Names.length
    ·simp [ho,h6] at hq
     subst hq
     simp [dq,hi,j9 a _ hm,ho,show (6:Int)<(ps[i].Names.length:Int) by omega]
    ·obtain ⟨z,hz⟩:=HB a hm ps i hi (by omega)
     obtain ⟨z',hz'⟩:=HC a ps i hi (by omega)
     have h6':¬(6:Int)<(ps[i].Names.length:Int):=by omega
     cases hany:ps[i].Names.any (fun n=>!bL a.Many n) with
     | true=>
      simp only [ho,y0,aM,h6,hany,aq] at hq
      obtain rfl:=aa hq
      simp only [hany,aq] at hz
      simp only [dq,id,show (i:Int)<(ps.length:Int) by omega,aq,aB hi,af,j9 a _ hm,ho,h6',aM,hz]
     | false=>
      simp only [hany,bB,aM] at hz
      cases hd:desc ps[i].Names with
      | true=>
       simp [ho,h6,hany,hd] at hq
       subst hq
       simp only [hd,aq] at hz'
       simp only [dq,id,show (i:Int)<(ps.length:Int) by omega,aq,aB hi,af,j9 a _ hm,ho,h6',aM,hz,hz']
      | false=>simp [ho,h6,hany,hd] at hq)
  (by simp [dq])
 have h':lp (fun v=>dq a ps v) 0=_:=h
 simp only [h4',aM,h4,h',af]
 unfold bg
 clear h h' h4 h4'
 have hval:∀ p,cz a.Many p=0∨cz a.Many p=5∨cz a.Many p=2∨cz a.Many p=4:=fun p=>by
  unfold cz;split
  ·simp
  split
  ·simp
  split
  ·simp
  split<;>simp
 have hgen:∀ (l:List bD)(n:Nat),
  (match ((l.findSome? fun p=>if cz a.Many p=5 then some (.inr (.inl ())) else if cz a.Many p=2 then some (.inl ()) else if cz a.Many p=4 then some (.inr (.inr (.inl ()))) else none).getD (.inr (.inr (.inr (n,false)))):Unit⊕(Unit⊕(Unit⊕(Nat×Bool)))) with
   | .inl _=>some (2:Int)
   | .inr (.inl _)=>some 5
   | .inr (.inr (.inl _))=>some 4
   | .inr (.inr (.inr _))=>some 0)=some ((l.findSome? fun x=>if cz a.Many x≠0 then some (cz a.Many x) else none).getD 0):=by
  intro l n
  induction l with
  | nil=>rfl
  | cons p l ih=>
   simp only [yZ]
   rcases hval p with h | h | h | h<;>simp only [h]
   ·simpa using ih
   ·rfl
   ·rfl
   ·rfl
 exact hgen ps ps.length
theorem My(a:aj)(hm:1≤a.Many∧a.Many≤6)(l:Label):rK a l=some (dE a.Many l):=by
 unfold rK dE
 rw [zH a hm,zH a hm,af]
 by_cases h:sM a.Many l.Read=0<;>simp [h]
theorem WS(n:Nat):∀ (e:az)(m:Int),sz e≤n→0≤m→m≤15→(mx n).f_R_exprParts e m=some (min (sz e:Int) (m+1)):=by
 induction n with
 | zero=>intro e m h;have:=xQ e;omega
 | succ n ih=>
  intro e m h hm hm15
  show rH (mx n) e m=_
  unfold rH
  have he:=D9 e
  obtain ⟨x,hx,hQ⟩:=ke (B:=fun v=>pM (mx n) e m v.1 v.2) (fun v=>e.Args.length - v.2)
   (fun v=>v.2≤e.Args.length∧v.1=min (1+(oZ (e.Args.take v.2):Int)) (m+1)∧(v.2:Int)<v.1+1) (fun x=>x.2.1=min (sz e:Int) (m+1)) (by
    rintro ⟨v,k⟩ ⟨hk,hv,hkv⟩
    simp only at hk hv hkv ⊢
    have ht:=Bj e.Args k
    unfold pM
    by_cases hlt:k<e.Args.length
    ·rw [ab (by omega)]
     by_cases hmv:v≤m
     ·rw [ab hmv,aB hlt,af,ab (wg (by omega) (by omega)),ih _ _ (by have:=An hlt;omega) (by omega) (by omega),af]
      have hs:=wA hlt
      have hp:=xQ e.Args[k]
      rw [ab (wg (by omega) (by omega)),ab (nA (by omega))]
      exact .inr ⟨_,rfl,⟨by simp only;omega,by simp only;omega,by simp only;omega⟩,by simp only;omega⟩
     ·rw [ad hmv]
      exact .inl ⟨_,rfl,by simp only;omega⟩
    ·rw [ad (by omega)]
     have hl:e.Args.take k=e.Args:=lU (by omega)
     rw [hl] at hv
     exact .inl ⟨_,rfl,by simp only;omega⟩) (1,0) ⟨ct _,by simp [oZ];omega,by simp⟩
  rw [hx,af]
  exact an some hQ
theorem TV{e:az}{m:Int}(h0:0≤m)(h:m≤15):wQ e m=some (min (sz e:Int) (m+1)):=
 Bh (sz e) fun n hn=>WS n e m hn h0 h
theorem aco(n:Nat):∀ (e:az),sz e≤n→sz e≤15→(ob n).f_R_allParts e=some (nv e):=by
 induction n with
 | zero=>intro e h;have:=xQ e;omega
 | succ n ih=>
  intro e h h15
  show sQ (ob n) e=_
  unfold sQ
  have he:=D9 e
  have hlen:=It e.Args
  obtain ⟨x,hx,hQ⟩:=ke (B:=fun v=>rJ (ob n) e v.1 v.2) (fun v=>e.Args.length - v.2)
   (fun v=>v.2≤e.Args.length∧v.1=e::eR (e.Args.take v.2)) (fun x=>x.1=nv e) (by
    rintro ⟨l,k⟩ ⟨hk,hv⟩
    simp only at hk hv ⊢
    unfold rJ
    by_cases hlt:k<e.Args.length
    ·rw [ab (by omega),aB hlt,af,ih _ (by have:=An hlt;omega) (by have:=An hlt;omega),af]
     have hs:=zo hlt
     have h1:=Bj e.Args k
     have h2:=Bj e.Args (k+1)
     have h3:=wA hlt
     rw [ab (by rw [hv,Bk,bu,C0];omega),ab (nA (by omega))]
     exact .inr ⟨_,rfl,⟨by simp only;omega,by simp only;rw [hv,hs];rfl⟩,by simp only;omega⟩
    ·rw [ad (by omega)]
     have hl:e.Args.take k=e.Args:=lU (by omega)
     rw [hl] at hv
     exact .inl ⟨_,rfl,by rw [Am];exact hv⟩) ([e],0) ⟨ct _,by simp [eR]⟩
  rw [hx,af]
  exact an some hQ
theorem OE{e:az}(h:sz e≤15):uh e=some (nv e):=Bh (sz e) fun n hn=>aco n e hn h
def zI:(Unit⊕(Unit⊕(Unit⊕(Unit⊕(Nat×Bool)))))→Int
 | .inl _=>1
 | .inr (.inl _)=>3
 | .inr (.inr (.inl _))=>5
 | .inr (.inr (.inr (.inl _)))=>7
 | .inr (.inr (.inr (.inr _)))=>0
theorem acp{v:Int}(hv:0≤v∧v≤9223372036854775807){l:List az}{k:Nat}(hk:k<l.length)(hl:l.length<4611686018427387904) :
  (jg v l[k]=0∧iS v l k=some (.inl (k+1)))∨∃ x,jg v l[k]≠0∧iS v l k=some (.inr x)∧zI x=jg v l[k]:=by
 unfold iS
 rw [ab (by omega),aB hk,af,AW,af]
 generalize l[k]=e
 by_cases h1:1≤e.Kind∧e.Kind≤7
 ·rw [ab (av h1)]
  have hn:¬(e.Kind<1∨7<e.Kind):=by omega
  have hw:=nA (k:=k) (by omega)
  have hw1:IntKind.i64.wrap (v - 1)=v - 1:=wg (by omega) (by omega)
  unfold jg tj tk
  rw [ad hn]
  simp only [AW,hw,hw1,aq,af]
  by_cases h2:2<e.Kind
  ·have g1:¬e.Kind≤2:=by omega
   have g2:¬e.Kind=1:=by omega
   have g3:¬e.Kind=2:=by omega
   by_cases hL:e.Args.length=2
   ·by_cases hN:e.N=0
    ·simp [h2,g1,g2,g3,hL,hN]
    ·simp [h2,g1,g2,g3,hL,hN,zI]
   ·have:¬(e.Args.length:Int)=2:=by omega
    simp [h2,g1,hL,this,zI]
  ·have g1:e.Kind≤2:=by omega
   by_cases hL:e.Args.length=0
   ·by_cases hK:e.Kind=1
    ·by_cases hN : -9999999≤e.N∧e.N≤9999999
     ·have hN':¬(e.N < -9999999∨9999999<e.N):=by omega
      simp [hK,hL,hN.1,hN.2,hN']
     ·have hN':(e.N < -9999999∨9999999<e.N):=by omega
      simp [hK,hL,hN,hN',zI]
    ·have hK2:e.Kind=2:=by omega
     by_cases hN:0≤e.N∧e.N≤v - 1
     ·have hN':¬(e.N<0∨v≤e.N):=by omega
      simp [hK2,hL,hN.1,hN.2,hN']
     ·have hN':(e.N<0∨v≤e.N):=by omega
      simp [hK2,hL,hN,hN',zI]
   ·have:¬(e.Args.length:Int)=0:=by omega
    simp [h2,g1,hL,this,zI]
 ·rw [ad (by simp;omega)]
  have hn:e.Kind<1∨7<e.Kind:=by omega
  exact .inr ⟨_,by simp [jg,hn],rfl,by simp [jg,hn,zI]⟩
theorem DI{e:az}{v:Int}(hv:0≤v∧v≤9223372036854775807):jc e v=some (Hi v e):=by
 unfold jc Hi
 rw [TV (by decide) (by decide),af]
 by_cases h:15<sz e
 ·rw [ab (by omega),ab h]
 ·rw [ad (by omega),ad h,OE (by omega),af]
  have hlen:=Bk e
  generalize nv e=l at *
  obtain ⟨x,hx,hQ⟩:=ke (B:=fun k=>iS v l k) (fun k=>l.length - k)
   (fun k=>k≤l.length∧jS v l=jS v (l.drop k)) (fun x=>zI x=jS v l) (by
    rintro k ⟨hk,hf⟩
    by_cases hlt:k<l.length
    ·rw [jt hlt,jS] at hf
     rcases acp hv hlt (by omega) with ⟨h1,h2⟩ | ⟨x,h1,h2,h3⟩
     ·rw [ad (by simp [h1])] at hf
      exact .inr ⟨_,h2,⟨by omega,hf⟩,by omega⟩
     ·rw [ab h1] at hf
      exact .inl ⟨_,h2,by rw [h3,hf]⟩
    ·rw [qh (by omega),jS] at hf
     unfold iS
     rw [ad (by omega)]
     exact .inl ⟨_,rfl,by rw [hf];rfl⟩) 0 ⟨ct _,by simp⟩
  rw [hx,af]
  rcases x with _ | _ | _ | _ | ⟨a,b⟩
  ·exact an some hQ
  ·exact an some hQ
  ·exact an some hQ
  ·exact an some hQ
  ·exact an some hQ
theorem take_one{α:Type}{l:List α}{k:Nat}(h:k<l.length):l.take (k+1)=l.take k++[l[k]]:=by rw [p9,aB h];rfl
theorem AY:∀ {l:List Stmt}{k:Nat}(h:k<l.length),br (l.take (k+1))=br (l.take k)+sA l[k]
 | x::l,0,_=>by simp [br]
 | x::l,k+1,h=>by
  rw [vO,vO,br,br,AY (k:=k) (by simpa using h)]
  simp only [List.getElem_cons_succ];omega
theorem AZ:∀ {l:List Stmt}{k:Nat}(h:k<l.length),dX (l.take (k+1))=max (dX (l.take k)) (dep l[k])
 | x::l,0,_=>by simp [dX]
 | x::l,k+1,h=>by
  rw [vO,vO,dX,dX,AZ (k:=k) (by simpa using h)]
  simp only [List.getElem_cons_succ];omega
theorem yq:∀ (l:List Stmt)(k:Nat),br (l.take k)≤br l
 | [],k=>by simp
 | x::l,0=>by simp [br]
 | x::l,k+1=>by rw [vO,br,br];have:=yq l k;omega
variable [Lp]
def Mz(l:List Stmt)(d r:Int):Prop:=0≤r∧r≤51∧(r≤50→r=br l∧d+dX l≤7)∧((br l:Int)≤50→d+dX l≤7→r=br l)
theorem RP(n:Nat):∀ (l:List Stmt)(d:Int),1≤d→d≤7→8 - d≤n→∃ r,(kM n).f_R_ManyStmts l d=some r∧Mz l d r:=by
 induction n with
 | zero=>intro l d h1 h2 h3;omega
 | succ n ih=>
  intro l d h1 h2 h3
  show ∃ r,rM (kM n) l d=some r∧_
  unfold rM
  have hd:0<l.length∧6<d∨∃ r,(mb (kM n) l d).bind (fun (x:Unit⊕Int)=>match x with
   | .inl _=>some (51:Int)
   | .inr y=>some y)=some r∧Mz l d r:=by
   by_cases h0:0<l.length∧6<d
   ·exact .inl h0
   refine .inr ?_
   unfold mb
   obtain ⟨x,hx,hQ⟩:=ke (B:=fun v=>pO (kM n) l d v.1 v.2) (fun v=>l.length - v.2)
    (fun v=>v.2≤l.length∧0≤v.1∧v.1≤153∧(v.2:Int)≤v.1∧(v.1≤50→v.1=br (l.take v.2)∧(v.2=0∨d+dX (l.take v.2)≤7))∧((br l:Int)≤50→d+dX l≤7→v.1=br (l.take v.2)))
    (fun x=>0≤x.2.1∧x.2.1≤153∧(x.2.1≤50→x.2.1=br l∧d+dX l≤7)∧((br l:Int)≤50→d+dX l≤7→x.2.1=br l)) (by
     rintro ⟨v,k⟩ ⟨hk,g0,g1,g2,g3,g4⟩
     simp only at hk g0 g1 g2 g3 g4 ⊢
     unfold pO
     by_cases hlt:k<l.length
     ·rw [ab (by omega)]
      by_cases hv:v≤50
      ·rw [ab hv,aB hlt,af]
       have hs1:=AY hlt
       have hs2:=AZ hlt
       have hm:=FH (cq hlt)
       have hm2:=FI (cq hlt)
       have hle:=yq l (k+1)
       have e1:=AK l[k]
       have e2:=Hh l[k]
       generalize l[k]=s at *
       obtain ⟨r1,q1,p1,p2,p3,p4⟩:=ih s.Then (d+1) (by omega) (by omega) (by omega)
       obtain ⟨r2,q2,o1,o2,o3,o4⟩:=ih s.Else (d+1) (by omega) (by omega) (by omega)
       rw [ab (wg (by omega) (by omega)),q1,af,ab (wg (by omega) (by omega)),q2,af,ab (wg (by omega) (by omega)),ab (wg (by omega) (by omega)),ab (nA (by omega))]
       refine .inr ⟨_,rfl,⟨by simp only;omega,by simp only;omega,by simp only;omega,by simp only;omega,?_,?_⟩,by simp only;omega⟩
       ·simp only
        intro hle50
        obtain ⟨a1,a2⟩:=g3 hv
        obtain ⟨a3,a4⟩:=p3 (by omega)
        obtain ⟨a5,a6⟩:=o3 (by omega)
        refine ⟨by omega,.inr ?_⟩
        rcases a2 with rfl | a2
        ·simp only [List.take_zero,dX] at hs2;omega
        ·omega
       ·simp only
        intro c1 c2
        have b1:=g4 c1 c2
        have b2:=p4 (by omega) (by omega)
        have b3:=o4 (by omega) (by omega)
        omega
      ·rw [ad hv]
       refine .inl ⟨_,rfl,by simp only;omega,by simp only;omega,by simp only;omega,?_⟩
       simp only
       intro c1 c2
       have:=g4 c1 c2
       have:=yq l k
       omega
     ·rw [ad (by omega)]
      have hl:l.take k=l:=lU (by omega)
      rw [hl] at g3 g4
      refine .inl ⟨_,rfl,by simp only;omega,by simp only;omega,?_,by simp only;exact g4⟩
      simp only
      intro h50
      obtain ⟨a1,a2⟩:=g3 h50
      refine ⟨a1,?_⟩
      rcases a2 with a2 | a2
      ·have:l=[]:=oy (by omega)
       subst this
       simp only [dX];omega
      ·exact a2) (0,0) ⟨ct _,by simp,by simp,by simp,fun _=>by simp [br],fun _ _=>by simp [br]⟩
   rw [hx,af]
   obtain ⟨c0,c1,c2,c3⟩:=hQ
   by_cases h51:51<x.2.1
   ·rw [ab h51]
    exact ⟨51,rfl,by decide,by decide,fun h=>by omega,fun h1 h2=>by have:=c3 h1 h2;omega⟩
   ·rw [ad h51]
    exact ⟨_,rfl,c0,by omega,c2,c3⟩
  rcases hd with ⟨h4,h5⟩ | ⟨r,hr,hok⟩
  ·rw [ab (by omega),ab h5]
   refine ⟨51,rfl,by decide,by decide,fun h=>by omega,fun _ h7=>?_⟩
   have hp:1≤dX l:=by
    cases l with
    | nil=>simp at h4
    | cons x l=>rw [dX];have:=Hh x;omega
   omega
  ·by_cases h4:0<l.length
   ·rw [ab (by omega)]
    by_cases h5:6<d
    ·rw [ab h5]
     refine ⟨51,rfl,by decide,by decide,fun h=>by omega,fun _ h7=>?_⟩
     have hp:1≤dX l:=by
      cases l with
      | nil=>simp at h4
      | cons x l=>rw [dX];have:=Hh x;omega
     omega
    ·rw [ad h5];exact ⟨r,hr,hok⟩
   ·rw [ad (by omega)];exact ⟨r,hr,hok⟩
theorem MA(l:List Stmt):∃ r,sS l 1=some r∧Mz l 1 r:=by
 obtain ⟨r,h1,h2⟩:=RP 7 l 1 (by decide) (by decide) (by decide)
 refine ⟨r,Bh 7 fun n hn=>?_,h2⟩
 obtain ⟨r',h3,h4⟩:=RP n l 1 (by decide) (by decide) (by omega)
 obtain ⟨a1,a2,a3,a4⟩:=h2
 obtain ⟨b1,b2,b3,b4⟩:=h4
 rw [h3]
 congr 1
 by_cases h:r≤50
 ·have:=a3 h;have:=b4 (by omega) (by omega);omega
 ·by_cases h':r'≤50
  ·have:=b3 h';have:=a4 (by omega) (by omega);omega
  ·omega
theorem OF{main:List Stmt} : ∀ {l:List Func}{n:Int},0≤n→(∀ f∈l,dX f.Body≤6)→dX main≤6→n+((l.map fun f=>br f.Body).sum:Nat)+br main≤50→(kK main l n).1=true
 | [],n,h0,_,h2,h3=>by
  rw [kK,(jC main 1 n (n+br main) (by simp at h3;omega) (by decide)).2 ⟨rfl,by simpa using h3,by omega⟩]
 | f::r,n,h0,h1,h2,h3=>by
  rw [bZ,vL] at h3
  have hd:=h1 f (by simp)
  rw [kK,(jC f.Body 1 n (n+br f.Body) (by omega) (by decide)).2 ⟨rfl,by omega,by omega⟩]
  simp only [andThen,aq]
  exact OF (by omega) (fun g hg=>h1 g (by simp [hg])) h2 (by omega)
variable [Lp]
section
variable {p:Program}{i:Int}(h0:0≤i∧i≤p.Funcs.length)(hb:p.Vars.length≤16∧p.Ins.length≤5∧p.Outs.length≤5∧p.Funcs.length≤5)(hp:∀ f∈p.Funcs,f.Params.length≤9223372036854775807)
include h0 hb hp
theorem WT(s:Stmt):Mw p i s=some (bO p i s):=by
 unfold Mw
 by_cases hk:1≤s.Kind∧s.Kind≤8
 ·have ho : -1000000≤pr p i s.Kind∧pr p i s.Kind≤1000000:=by
   unfold pr
   split
   ·omega
   split
   ·omega
   split<;>omega
  rw [ad (fun h=>h hk),ad (fun h=>h ⟨by omega,ho⟩)]
  exact Oi (fun e=>DI (by omega)) h0.2 hp (by omega)
 ·rw [ab hk]
  unfold bO
  rw [ab (by omega)]
mutual
theorem acq:∀ s:Stmt,sA s≤50→OC p i s=some (vf (bO p i) s)
 | ⟨k,v,o,e,args,th,el⟩,h=>by
  rw [sA] at h
  have l1:=jB th
  have l2:=jB el
  rw [OC,vf,WT h0 hb hp,af,ab (show th.length≤9223372036854775807 by omega),ab (show el.length≤9223372036854775807 by omega),HD th (by omega),HD el (by omega),af]
  by_cases c1:bO p i ⟨k,v,o,e,args,th,el⟩=0
  ·by_cases c2:dj (bO p i) th=0<;>simp [c1,c2]
  ·simp [c1]
theorem HD:∀ l:List Stmt,br l≤50→EX p i l=some (dj (bO p i) l)
 | [],_=>by rw [EX,dj]
 | s::r,h=>by
  rw [br] at h
  rw [EX,dj,acq s (by omega),HD r (by omega),af]
  by_cases c1:vf (bO p i) s=0
  ·simp [c1]
  ·simp [c1]
end
theorem RQ{l:List Stmt}(hc:br l≤50)(hd:dX l≤6):cK p i l=some (dj (bO p i) l):=by
 have:=jB l
 unfold cK
 rw [ab (by omega),HD h0 hb hp l hc]
end
theorem pj1(p:Program):mj p=some (decide (16<p.Vars.length∨5<p.Ins.length∨5<p.Outs.length∨5<p.Funcs.length∨p.aj.Many<(p.Speak.length:Int))):=by
 unfold mj gR
 by_cases h1:16<p.Vars.length
 ·have:(16:Int)<(p.Vars.length:Int):=by omega
  simp [h1,this]
 have h1':¬(16:Int)<(p.Vars.length:Int):=by omega
 by_cases h2:5<p.Ins.length
 ·have:(5:Int)<(p.Ins.length:Int):=by omega
  simp [h1',h2,this]
 have h2':¬(5:Int)<(p.Ins.length:Int):=by omega
 by_cases h3:5<p.Outs.length
 ·have:(5:Int)<(p.Outs.length:Int):=by omega
  simp [h1',h2',h3,this]
 have h3':¬(5:Int)<(p.Outs.length:Int):=by omega
 by_cases h4:5<p.Funcs.length
 ·have:(5:Int)<(p.Funcs.length:Int):=by omega
  simp [h1',h2',h3',h4,this]
 have h4':¬(5:Int)<(p.Funcs.length:Int):=by omega
 simp [h1,h1',h2,h2',h3,h3',h4,h4']
abbrev XP:=Unit⊕(Unit⊕(Nat×Bool))
def acr:XP→Int
 | .inl _=>6
 | .inr (.inl _)=>5
 | .inr (.inr _)=>0
theorem aka{p:Program}(hv:p.Vars.length≤16)(j:Nat)(f:Func)(hl:f.Params.length≤4):∃ x,lp (fun v=>mX p j f v) 0=some x∧acr x=oO p.Vars.length [] f.Params:=by
 refine ke (fun k=>f.Params.length - k) (fun k=>k≤f.Params.length∧oO p.Vars.length [] f.Params=oO p.Vars.length (f.Params.take k) (f.Params.drop k)) (fun x=>acr x=oO p.Vars.length [] f.Params) ?_ 0 ⟨ct _,by simp⟩
 rintro k ⟨hk,hq⟩
 unfold mX
 by_cases hlt:k<f.Params.length
 ·rw [jt hlt,oO] at hq
  rw [ab (show (k:Int)<(f.Params.length:Int) by omega),aB hlt,af,ab (wg (by omega) (by omega)),AW,af]
  by_cases c1:f.Params[k]<0∨(p.Vars.length:Int)≤f.Params[k]
  ·rw [ab c1] at hq
   rw [ad (show ¬decide (0≤f.Params[k]∧f.Params[k]≤(p.Vars.length:Int) - 1)=true by simp;omega)]
   exact .inl ⟨_,rfl,by rw [hq];rfl⟩
  ·rw [ad c1] at hq
   rw [ab (show decide (0≤f.Params[k]∧f.Params[k]≤(p.Vars.length:Int) - 1)=true by simp;omega)]
   have hin:=Aj (B:=fun v=>fM p j f k v) (f.Params.take k) (fun n=>n==f.Params[k]) id (x:=.inl ()) (y:=.inr (k,false))
    (fun m hm hp=>by
     have hm':m<k∧m<f.Params.length:=by simp at hm;omega
     have hp':(f.Params[m]==f.Params[k])=false:=by simpa using hp
     simp only [fM,id,show (m:Int)<(k:Int) by omega,aq,aB hm'.2,aB hlt,af,hp',bB,aM,nA (show m<9223372036854775807 by omega)])
    (fun m hm hp=>by
     have hm':m<k∧m<f.Params.length:=by simp at hm;omega
     have hp':(f.Params[m]==f.Params[k])=true:=by simpa using hp
     simp only [fM,id,show (m:Int)<(k:Int) by omega,aq,aB hm'.2,aB hlt,af,hp'])
    (by
     have:(f.Params.take k).length=k:=by simp;omega
     simp [fM,this])
   have hin':lp (fun v=>fM p j f k v) 0=_:=hin
   rw [hin',af]
   by_cases c2:f.Params[k]∈f.Params.take k
   ·rw [ab c2] at hq
    rw [ab (lN.2 ⟨_,c2,by simp⟩)]
    exact .inl ⟨_,rfl,by rw [hq];rfl⟩
   ·rw [ad c2] at hq
    rw [ad (show ¬(f.Params.take k).any (fun n=>n==f.Params[k])=true from fun h=>by
     obtain ⟨x,h1,h2⟩:=lN.1 h
     exact c2 ((by simpa using h2:x=f.Params[k])▸h1))]
    simp only [nA (show k<9223372036854775807 by omega),aq]
    exact .inr ⟨_,rfl,⟨by omega,by rw [hq,take_one hlt]⟩,by omega⟩
 ·rw [ad (show ¬(k:Int)<(f.Params.length:Int) by omega)]
  rw [qh (by omega),oO] at hq
  exact .inl ⟨_,rfl,by rw [hq];rfl⟩
abbrev XF:=Unit⊕(Unit⊕(Unit⊕(Int⊕(Nat×Bool))))
def acs:XF→Int
 | .inl _=>2
 | .inr (.inl _)=>6
 | .inr (.inr (.inl _))=>5
 | .inr (.inr (.inr (.inl e)))=>e
 | .inr (.inr (.inr (.inr _)))=>0
theorem akb{p:Program}(hb:p.Vars.length≤16∧p.Ins.length≤5∧p.Outs.length≤5∧p.Funcs.length≤5)(hp:∀ f∈p.Funcs,f.Params.length≤9223372036854775807)(hc:∀ f∈p.Funcs,br f.Body≤50∧dX f.Body≤6) :
  ∃ x,lp (fun v=>mZ p v) 0=some x∧acs x=kJ p 0 p.Funcs∧(kJ p 0 p.Funcs=0→∃ z,x= .inr (.inr (.inr (.inr z)))):=by
 refine ke (fun k=>p.Funcs.length - k) (fun k=>k≤p.Funcs.length∧kJ p 0 p.Funcs=kJ p k (p.Funcs.drop k)) (fun x=>acs x=kJ p 0 p.Funcs∧(kJ p 0 p.Funcs=0→∃ z,x= .inr (.inr (.inr (.inr z))))) ?_ 0 ⟨ct _,by simp⟩
 rintro k ⟨hk,hq⟩
 unfold mZ
 by_cases hlt:k<p.Funcs.length
 rotate_left
 ·rw [ad (show ¬(k:Int)<(p.Funcs.length:Int) by omega)]
  rw [qh (by omega),kJ] at hq
  exact .inl ⟨_,rfl,by rw [hq];rfl,fun _=>⟨_,rfl⟩⟩
 rw [jt hlt,kJ] at hq
 obtain ⟨b1,b2⟩:=hc _ (cq hlt)
 rw [ab (show (k:Int)<(p.Funcs.length:Int) by omega),aB hlt,af]
 generalize p.Funcs[k]=f at *
 have hw:IntKind.i64.wrap ((k:Int)+1)=((k+1:Nat):Int):=nA (by omega)
 have h19:∀ e:Int,iT p k e=some (if e≠0 then .inl e else .inr (e,e !=0)):=fun e=>by
  unfold iT
  by_cases h:e=0<;>simp [h]
 by_cases c1:4<f.Params.length
 ·have e1:sB p k f=2:=by unfold sB;rw [ab c1]
  rw [e1,ab (by decide)] at hq
  rw [ab (show (4:Int)<(f.Params.length:Int) by omega)]
  exact .inl ⟨_,rfl,by rw [hq];rfl,fun h=>by rw [hq] at h;cases h⟩
 rw [ad (show ¬(4:Int)<(f.Params.length:Int) by omega)]
 obtain ⟨x,hx,hxe⟩:=aka (p:=p) hb.1 k f (by omega)
 rw [hx,af]
 rcases x with x | x | x
 ·have e1:sB p k f=6:=by unfold sB;rw [ad c1,←hxe];rfl
  rw [e1,ab (by decide)] at hq
  exact .inl ⟨_,rfl,by rw [hq];rfl,fun h=>by rw [hq] at h;cases h⟩
 ·have e1:sB p k f=5:=by unfold sB;rw [ad c1,←hxe];rfl
  rw [e1,ab (by decide)] at hq
  exact .inl ⟨_,rfl,by rw [hq];rfl,fun h=>by rw [hq] at h;cases h⟩
 have e1:sB p k f=if dj (bO p k) f.Body≠0 then dj (bO p k) f.Body else er p f.Result:=by
  unfold sB;rw [ad c1,←hxe];rfl
 simp only
 rw [RQ (i:=(k:Int)) ⟨by omega,by omega⟩ hb hp b1 b2,af]
 by_cases c2:dj (bO p k) f.Body=0
 ·rw [ad (fun h=>h c2)] at e1
  rw [ab (show (dj (bO p k) f.Body==0)=true by simpa using c2),DI (by omega),af,h19,af]
  have e2:Hi (p.Vars.length:Int) f.Result=sB p k f:=e1.symm
  rw [e2]
  by_cases c3:sB p k f=0
  ·rw [ad (fun h=>h c3)]
   rw [ad (fun h=>h c3)] at hq
   exact .inr ⟨_,by simp only [hw,aq],⟨by omega,hq⟩,by omega⟩
  ·rw [ab c3]
   rw [ab c3] at hq
   exact .inl ⟨_,rfl,by rw [hq];rfl,fun h=>absurd (hq.symm.trans h) c3⟩
 ·rw [ab c2] at e1
  rw [ad (show ¬(dj (bO p k) f.Body==0)=true by simpa using c2),h19,af,ab c2]
  rw [e1,ab c2] at hq
  exact .inl ⟨_,rfl,by rw [hq];rfl,fun h=>absurd (hq.symm.trans h) c2⟩
theorem ahO{p:Program}(hp:∀ f∈p.Funcs,f.Params.length≤9223372036854775807):oQ p=some (sC p):=by
 unfold oQ sC pH
 rw [Ks,af]
 by_cases a1:eP p.aj=0
 rotate_left
 ·rw [ab (show (eP p.aj !=0)=true by simpa using a1)]
  simp only [ne_eq,a1,ot,aq]
 obtain ⟨m1,m2,m3,m4⟩:=lB a1
 rw [ad (show ¬(eP p.aj !=0)=true by simpa using a1),pj1,af]
 simp only [ne_eq,a1,not_true,aM]
 by_cases a2:16<p.Vars.length∨5<p.Ins.length∨5<p.Outs.length∨5<p.Funcs.length∨p.aj.Many<(p.Speak.length:Int)
 ·rw [ab (av a2),ab a2];rfl
 rw [ad (show ¬decide _=true by simpa using a2),ad a2]
 have hb:p.Vars.length≤16∧p.Ins.length≤5∧p.Outs.length≤5∧p.Funcs.length≤5:=by omega
 have hsp:=Aj (B:=fun v=>fK p v) p.Speak (fun n=>!bL p.aj.Many n) id (x:=.inl ()) (y:=.inr (p.Speak.length,false))
  (fun k hk hq=>by
   have hq':bL p.aj.Many p.Speak[k]=true:=by simpa using hq
   simp [fK,hk,j9 p.aj _ ⟨m1,m2⟩,hq',eQ k (by omega)])
  (fun k hk hq=>by
   have hq':bL p.aj.Many p.Speak[k]=false:=by simpa using hq
   simp [fK,hk,j9 p.aj _ ⟨m1,m2⟩,hq'])
  (by simp [fK])
 have hsp':lp (fun v=>fK p v) 0=_:=hsp
 rw [hsp',af]
 cases a3:p.Speak.any (fun n=>!bL p.aj.Many n) with
 | true=>simp
 | false=>
  simp only [bB,aM]
  rw [ab (show ([]:List Label).length+p.Ins.length≤1000000000 by simp;omega),ab (show (([]:List Label)++p.Ins).length+p.Outs.length≤1000000000 by simp;omega)]
  obtain ⟨x1,hx1,hq1⟩:=ke (B:=fun v=>mV p v.1 v.2) (fun v=>p.Vars.length - v.2) (fun v=>v.2≤p.Vars.length∧v.1=(p.Ins++p.Outs)++(p.Vars.take v.2).map Var.Label) (fun x=>x.1=(p.Ins++p.Outs)++p.Vars.map Var.Label) (by
   rintro ⟨v,k⟩ ⟨hk,hv⟩
   simp only at hk hv ⊢
   unfold mV
   by_cases hlt:k<p.Vars.length
   ·rw [ab (show (k:Int)<(p.Vars.length:Int) by omega),aB hlt,af,ab (by rw [hv];simp;omega),ab (nA (by omega))]
    exact .inr ⟨_,rfl,⟨by simp only;omega,by simp only;rw [hv,take_one hlt,cI,bZ,kB,lO]⟩,by simp only;omega⟩
   ·rw [ad (show ¬(k:Int)<(p.Vars.length:Int) by omega)]
    exact .inl ⟨_,rfl,by simp only;rw [hv,lU (by omega)]⟩) (([]++p.Ins)++p.Outs,0) ⟨ct _,by simp⟩
  rw [hx1,af]
  have hlx:x1.1.length≤26:=by rw [hq1];simp;omega
  obtain ⟨x2,hx2,he1,he2⟩:=Hj (B:=fun v=>j8 p x1 v) x1.1 (dE p.aj.Many) (fun k hk=>by
   unfold j8
   rw [ab (show (k:Int)<(x1.1.length:Int) by omega),aB hk,af,My p.aj ⟨m1,m2⟩,af]
   by_cases h0:dE p.aj.Many x1.1[k]=0
   ·rw [ad (by simp [h0]),ab (nA (by omega)),ad (by simp [h0])]
   ·rw [ab (by simp [h0]),ab h0]) ⟨(x1.1.length,false),by simp [j8]⟩
  rw [hx2,af]
  have happ:bg (dE p.aj.Many) x1.1=if bg (dE p.aj.Many) (p.Ins++p.Outs)≠0 then bg (dE p.aj.Many) (p.Ins++p.Outs) else bg (fun v:Var=>dE p.aj.Many v.Label) p.Vars:=by
   rw [hq1]
   generalize p.Ins++p.Outs=l
   have hm:∀ vs:List Var,bg (dE p.aj.Many) (vs.map Var.Label)=bg (fun v:Var=>dE p.aj.Many v.Label) vs:=by
    intro vs
    induction vs with
    | nil=>rfl
    | cons v vs ih=>rw [bZ,kL,kL,ih]
   induction l with
   | nil=>rw [ea,hm];rfl
   | cons y l ih=>
    rw [eu,kL,kL,ih]
    by_cases h:dE p.aj.Many y=0
    ·simp only [h,ne_eq,not_true,aM]
    ·simp only [h,ne_eq,ot,aq]
  by_cases a4:bg (dE p.aj.Many) x1.1=0
  rotate_left
  ·rcases x2 with y | z
   ·have hy:y=_:=he1
    simp only
    rw [hy,happ]
    rw [happ] at a4
    by_cases a5:bg (dE p.aj.Many) (p.Ins++p.Outs)=0
    ·rw [ad (fun h=>h a5)] at a4 ⊢
     simp [a5,a4]
    ·rw [ab a5]
     simp [a5]
   ·have hy:(0:Int)=_:=he1
    exact absurd hy.symm a4
  obtain ⟨z,rfl⟩:=he2 a4
  rw [happ] at a4
  have a5:bg (dE p.aj.Many) (p.Ins++p.Outs)=0:=by
   by_cases h:bg (dE p.aj.Many) (p.Ins++p.Outs)=0
   ·exact h
   ·rw [ab h] at a4;exact a4
  rw [ad (fun h=>h a5)] at a4
  simp only [a5,a4,not_true,aM]
  have hkn:=Aj (B:=fun v=>fL p v) p.Vars (fun v=>!v.Known&&decide (0<v.Label.Read.length+v.Label.Write.length)) id (x:=.inl ()) (y:=.inr (p.Vars.length,false))
   (fun k hk hq=>by
    have hw:=nA (k:=k) (by omega)
    simp only [fL,id,show (k:Int)<(p.Vars.length:Int) by omega,aq,aB hk,af,hw]
    cases hK:p.Vars[k].Known with
    | true=>simp
    | false=>
     have hq':¬0<p.Vars[k].Label.Read.length+p.Vars[k].Label.Write.length:=by simpa [hK] using hq
     rw [ad (by decide),ad (show ¬(0:Int)<(p.Vars[k].Label.Read.length:Int) by omega),ad (show ¬(0:Int)<(p.Vars[k].Label.Write.length:Int) by omega)])
   (fun k hk hq=>by
    have hq':p.Vars[k].Known=false∧0<p.Vars[k].Label.Read.length+p.Vars[k].Label.Write.length:=by simpa using hq
    simp only [fL,id,show (k:Int)<(p.Vars.length:Int) by omega,aq,aB hk,af,hq'.1,bB,aM]
    by_cases h:0<p.Vars[k].Label.Read.length
    ·rw [ab (show (0:Int)<(p.Vars[k].Label.Read.length:Int) by omega)]
    ·rw [ad (show ¬(0:Int)<(p.Vars[k].Label.Read.length:Int) by omega),ab (show (0:Int)<(p.Vars[k].Label.Write.length:Int) by omega)])
   (by simp [fL])
  have hkn':lp (fun v=>fL p v) 0=_:=hkn
  rw [hkn',af]
  cases a6:p.Vars.any (fun v=>!v.Known&&decide (0<v.Label.Read.length+v.Label.Write.length)) with
  | true=>simp
  | false=>
   simp only [bB,aM,not_true]
   obtain ⟨r,hr,r0,r1,r2,r3⟩:=MA p.Main
   rw [hr,af]
   have hcount:∃ x,lp (fun v=>mW p v.1 v.2) (r,0)=some x∧((x.1≤50→(∀ f∈p.Funcs,dX f.Body≤6∧br f.Body≤50)∧r≤50∧x.1=r+((p.Funcs.map fun f=>br f.Body).sum:Nat))∧(r≤50→(∀ f∈p.Funcs,dX f.Body≤6)→r+((p.Funcs.map fun f=>br f.Body).sum:Nat)≤50→x.1≤50)):=by
    refine ke (fun v=>p.Funcs.length - v.2) (fun v=>v.2≤p.Funcs.length∧0≤v.1∧v.1≤51*((v.2:Int)+1)∧r≤v.1∧(v.1≤50→(∀ f∈p.Funcs.take v.2,dX f.Body≤6∧br f.Body≤50)∧r≤50∧v.1=r+(((p.Funcs.take v.2).map fun f=>br f.Body).sum:Nat))∧(r≤50→(∀ f∈p.Funcs,dX f.Body≤6)→r+((p.Funcs.map fun f=>br f.Body).sum:Nat)≤50→v.1=r+(((p.Funcs.take v.2).map fun f=>br f.Body).sum:Nat))) _ ?_ (r,0) ⟨ct _,r0,by simp only;omega,yU _,fun h=>⟨by simp,h,by simp⟩,fun _ _ _=>by simp⟩
    rintro ⟨v,k⟩ ⟨hk,g0,g1,g2,g3,g4⟩
    simp only at hk g0 g1 g2 g3 g4 ⊢
    unfold mW
    by_cases hlt:k<p.Funcs.length
    ·obtain ⟨q,hq,q0,q1,q2,q3⟩:=MA p.Funcs[k].Body
     have hsum:((p.Funcs.map fun f=>br f.Body).sum:Nat)=(((p.Funcs.take (k+1)).map fun f=>br f.Body).sum:Nat)+(((p.Funcs.drop (k+1)).map fun f=>br f.Body).sum:Nat):=by
      rw [←List.sum_append,←cI,vE]
     have hs1:(((p.Funcs.take (k+1)).map fun f=>br f.Body).sum:Nat)=((p.Funcs.take k).map fun f=>br f.Body).sum+br p.Funcs[k].Body:=by
      rw [take_one hlt,cI,List.sum_append];simp
     have htk:∀ f∈p.Funcs.take (k+1),f∈p.Funcs.take k∨f=p.Funcs[k]:=by
      intro f hf
      rw [take_one hlt] at hf
      rcases bU.1 hf with h | h
      ·exact .inl h
      ·exact .inr (by simpa using h)
     have hmem:p.Funcs[k]∈p.Funcs:=cq hlt
     rw [ab (show (k:Int)<(p.Funcs.length:Int) by omega),aB hlt,af,hq,af,ab (wg (by omega) (by omega)),ab (nA (by omega))]
     generalize p.Funcs[k]=g at *
     refine .inr ⟨_,rfl,⟨by simp only;omega,by simp only;omega,by simp only;omega,by simp only;omega,?_,?_⟩,by simp only;omega⟩
     ·simp only
      intro h50
      obtain ⟨p1,p2,p3⟩:=g3 (by omega)
      obtain ⟨p4,p5⟩:=q2 (by omega)
      refine ⟨fun f hf=>?_,p2,by omega⟩
      rcases htk f hf with h | rfl
      ·exact p1 f h
      ·exact ⟨by omega,by omega⟩
     ·simp only
      intro h1 h2 h3
      have e1:=g4 h1 h2 h3
      have e2:=h2 g hmem
      have e3:=q3 (by omega) (by omega)
      omega
    ·rw [ad (show ¬(k:Int)<(p.Funcs.length:Int) by omega)]
     rw [lU (by omega)] at g3 g4
     exact .inl ⟨_,rfl,by simp only;exact g3,by simp only;intro h1 h2 h3;have:=g4 h1 h2 h3;omega⟩
   obtain ⟨x,hx,x1,x2⟩:=hcount
   rw [hx,af]
   have hfew:(kK p.Main p.Funcs 0).1=false↔50<x.1:=by
    constructor
    ·intro h
     apply lT
     intro hx50
     obtain ⟨y1,y2,y3⟩:=x1 (by omega)
     obtain ⟨y4,y5⟩:=r2 y2
     have:=OF (main:=p.Main) (l:=p.Funcs) (n:=0) (by decide) (fun f hf=>(y1 f hf).1) (by omega) (by omega)
     rw [this] at h;cases h
    ·intro h
     cases hF:(kK p.Main p.Funcs 0).1 with
     | false=>rfl
     | true=>
      have hF':kK p.Main p.Funcs 0=(true,(kK p.Main p.Funcs 0).2):=Prod.ext hF rfl
      obtain ⟨k1,k2,k3,k4,k5,k6⟩:=BC (by decide) (by decide) hF'
      have:=r3 (by omega) (by omega)
      have:=x2 (by omega) (fun f hf=>(k1 f hf).2) (by omega)
      omega
   by_cases a7:50<x.1
   ·rw [ab a7,ab (hfew.2 a7)]
   ·rw [ad a7,ad (fun h=>a7 (hfew.1 h))]
    obtain ⟨y1,y2,y3⟩:=x1 (by omega)
    obtain ⟨y4,y5⟩:=r2 y2
    obtain ⟨xf,hxf,hxe,hxz⟩:=akb hb hp (fun f hf=>⟨(y1 f hf).2,(y1 f hf).1⟩)
    rw [hxf,af]
    by_cases a8:kJ p 0 p.Funcs=0
    ·obtain ⟨z,rfl⟩:=hxz a8
     rw [ad (fun h=>h a8)]
     simp only
     rw [RQ (i:=(p.Funcs.length:Int)) ⟨by omega,by omega⟩ hb hp (by omega) (by omega)];rfl
    ·rw [ab a8,←hxe]
     rw [←hxe] at a8
     rcases xf with xf | xf | xf | xf | xf
     ·rfl
     ·rfl
     ·rfl
     ·rfl
     ·exact absurd rfl a8
end Go.Proofs.YtkkkkondjclcnaaGreat.A
