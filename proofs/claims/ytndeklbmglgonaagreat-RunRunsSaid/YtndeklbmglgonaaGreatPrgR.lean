/- The document's check of a program: actors, labels, expressions, as plain mathematics says. -/
import Derived.Test.YtndeklbmglgonaaGreatScopeP
import Derived.Test.YtndeklbmglgonaaGreatC
set_option linter.unusedSectionVars false
set_option linter.unusedVariables false
set_option linter.unusedSimpArgs false
set_option linter.constructorNameAsVariable false
namespace Go.Proofs.YtndeklbmglgonaaGreat.A
open Go
variable [Lp]
theorem yE(n x y:Int):b8 n x y=some (decide (x≤n∧n≤y)):=by
 unfold b8
 by_cases h:x≤n<;>simp [h]
theorem iL(a:an)(n:Int)(h:1≤a.Many∧a.Many≤6):iK a n=some (cm a.Many n):=by
 unfold iK
 have e:(0≤n∧n≤a.Many - 1)↔(0≤n∧n<a.Many):=by omega
 rw [if_pos (wrap64 (by omega) (by omega)),yE]
 simp [cm,e]
theorem E4(a:an):l5 a=some (fQ a):=by
 unfold l5 fQ
 rw [yE]
 by_cases h:a.Many<1∨6<a.Many
 ·have:¬(1≤a.Many∧a.Many≤6):=by omega
  simp [h,this]
 have hm:1≤a.Many∧a.Many≤6:=by omega
 by_cases h3:20<a.Grants.length
 ·have h3':(20:Int)<(a.Grants.length:Int):=by omega
  simp [h,hm,h3,h3']
 have h3':¬(20:Int)<(a.Grants.length:Int):=by omega
 have hi:=fun n=>iL a n hm
 have hl:=qX (B:=fun v=>dN a v) a.Grants (gK a.Many) id (x:=.inl ()) (y:=.inr (a.Grants.length,false))
  (fun k hk hp=>by
   have hb:cm a.Many a.Grants[k].Who=true∧cm a.Many a.Grants[k].For=true:=by simpa [gK] using hp
   simp [dN,hk,hi,hb.1,hb.2,sg k (by omega)])
  (fun k hk hp=>by
   cases hw:cm a.Many a.Grants[k].Who with
   | true=>
    have hb:cm a.Many a.Grants[k].For=false:=by simpa [gK,hw] using hp
    simp [dN,hk,hi,hw,hb]
   | false=>simp [dN,hk,hi,hw])
  (by simp [dN])
 have hl':lp (fun v=>dN a v) 0=_:=hl
 simp only [hm,and_self,decide_true,Option.bind_some,if_true,h,if_false,h3,h3',hl']
 cases a.Grants.any (gK a.Many)<;>simp
theorem CQ(a:an)(hm:1≤a.Many∧a.Many≤6)(ps:List b9)(i:Nat)(hi:i<ps.length)(hl:ps[i].Names.length≤6) :
  ∃ z,lp (fun v=>dP a ps i v) 0=some (if ps[i].Names.any (fun n=>!cm a.Many n) then .inl () else .inr z):=by
 have h:=qX (B:=fun v=>dP a ps i v) ps[i].Names (fun n=>!cm a.Many n) id (x:=.inl ()) (y:=.inr (ps[i].Names.length,false))
  (fun k hk hq=>by
   have hq':cm a.Many ps[i].Names[k]=true:=by simpa using hq
   simp [dP,hi,hk,iL a _ hm,hq',sg k (by omega)])
  (fun k hk hq=>by
   have hq':cm a.Many ps[i].Names[k]=false:=by simpa using hq
   simp [dP,hi,hk,iL a _ hm,hq'])
  (by simp [dP,hi])
 exact ⟨_,h⟩
theorem CS(a:an)(ps:List b9)(i:Nat)(hi:i<ps.length)(h6:ps[i].Names.length≤6):∃ z,lp (fun v=>dt a ps i v) 1=some (if desc ps[i].Names then .inl () else .inr z):=by
 by_cases h:ps[i].Names.length=0
 ·refine ⟨(1,false),?_⟩
  rw [show desc ps[i].Names=false by simp [desc,h]]
  exact fo (by simp [dt,h,hi])
 ·refine ⟨(ps[i].Names.length,false),?_⟩
  exact H4 (B:=fun v=>dt a ps i v) ps[i].Names.length 1 (fun k=>decide (ps[i].Names.getD k 0≤ps[i].Names.getD (k - 1) 0)) id (by omega)
   (fun k h1 hk hp=>by
    have hp':¬ps[i].Names.getD k 0≤ps[i].Names.getD (k - 1) 0:=by simpa using hp
    obtain ⟨hw,hn⟩:=Ff k h1 (by omega)
    simp only [dt,id,List.getElem?_eq_getElem hi,show (k:Int)<(ps[i].Names.length:Int) by omega,if_true,mI hk,Option.bind_some,hw,hn,mI (show k - 1<ps[i].Names.length by omega),hp',if_false,sg k (by omega)])
   (fun k h1 hk hp=>by
    have hp':ps[i].Names.getD k 0≤ps[i].Names.getD (k - 1) 0:=by simpa using hp
    obtain ⟨hw,hn⟩:=Ff k h1 (by omega)
    simp only [dt,id,List.getElem?_eq_getElem hi,show (k:Int)<(ps[i].Names.length:Int) by omega,if_true,mI hk,Option.bind_some,hw,hn,mI (show k - 1<ps[i].Names.length by omega),hp'])
   (by simp [dt,hi])
theorem tX(a:an)(hm:1≤a.Many∧a.Many≤6)(ps:List b9):hY a ps=some (pM a.Many ps):=by
 unfold hY pM
 by_cases h4:4<ps.length
 ·simp [h4,show (4:Int)<(ps.length:Int) by omega]
 have h4':¬(4:Int)<(ps.length:Int):=by omega
 have h:=FY (B:=fun v=>cE a ps v) ps (fun p=>if bN a.Many p=5 then some (.inr (.inl ())) else if bN a.Many p=2 then some (.inl ()) else if bN a.Many p=4 then some (.inr (.inr (.inl ()))) else none) id (y:=.inr (.inr (.inr (ps.length,false))))
  (fun i hi hq=>by
   have hE:bN a.Many ps[i]=0:=by
    unfold bN at hq ⊢
    split at hq
    ·simp at hq
    split at hq
    ·simp at hq
    split at hq
    ·simp at hq
    split at hq
    ·simp at hq
    rename_i h1 h2 h3 h5
    simp [h1,h2,h3,h5]
   have hE0:=hE
   obtain ⟨ho,hl,hn⟩:=IP hE
   have hany:ps[i].Names.any (fun n=>!cm a.Many n)=false:=by
    unfold bN at hE
    split at hE
    ·cases hE
    split at hE
    ·cases hE
    split at hE
    ·cases hE
    rename_i h1 h2 h3;simpa using h3
   have hdesc:desc ps[i].Names=false:=by
    unfold bN at hE0
    simp only [ho,Bool.true_eq_false,if_false,show ¬6<ps[i].Names.length by omega,hany,Bool.false_eq_true] at hE0
    cases hd:desc ps[i].Names with
    | false=>rfl
    | true=>rw [hd] at hE0;cases hE0
   obtain ⟨z,hz⟩:=CQ a hm ps i hi hl
   obtain ⟨z',hz'⟩:=CS a ps i hi hl
   simp only [hany,hdesc,Bool.false_eq_true,if_false] at hz hz'
   simp only [cE,id,show (i:Int)<(ps.length:Int) by omega,if_true,List.getElem?_eq_getElem hi,Option.bind_some,iL a _ hm,ho,show ¬(6:Int)<(ps[i].Names.length:Int) by omega,if_false,hz,hz',sg i (by omega)])
  (fun i hi x hq=>by
   unfold bN at hq
   cases ho:cm a.Many ps[i].Owner with
   | false=>
    simp [ho] at hq
    subst hq
    simp [cE,hi,iL a _ hm,ho]
   | true=>
    by_cases h6:6<ps[i].Names.length
    ·simp [ho,h6] at hq
     subst hq
     simp [cE,hi,iL a _ hm,ho,show (6:Int)<(ps[i].Names.length:Int) by omega]
    ·obtain ⟨z,hz⟩:=CQ a hm ps i hi (by omega)
     obtain ⟨z',hz'⟩:=CS a ps i hi (by omega)
     have h6':¬(6:Int)<(ps[i].Names.length:Int):=by omega
     cases hany:ps[i].Names.any (fun n=>!cm a.Many n) with
     | true=>
      simp only [ho,Bool.true_eq_false,if_false,h6,hany,if_true] at hq
      obtain rfl:=Option.some.inj hq
      simp only [hany,if_true] at hz
      simp only [cE,id,show (i:Int)<(ps.length:Int) by omega,if_true,List.getElem?_eq_getElem hi,Option.bind_some,iL a _ hm,ho,h6',if_false,hz]
     | false=>
      simp only [hany,Bool.false_eq_true,if_false] at hz
      cases hd:desc ps[i].Names with
      | true=>
       simp [ho,h6,hany,hd] at hq
       subst hq
       simp only [hd,if_true] at hz'
       simp only [cE,id,show (i:Int)<(ps.length:Int) by omega,if_true,List.getElem?_eq_getElem hi,Option.bind_some,iL a _ hm,ho,h6',if_false,hz,hz']
      | false=>simp [ho,h6,hany,hd] at hq)
  (by simp [cE])
 have h':lp (fun v=>cE a ps v) 0=_:=h
 simp only [h4',if_false,h4,h',Option.bind_some]
 unfold aT
 clear h h' h4 h4'
 have hval:∀ p,bN a.Many p=0∨bN a.Many p=5∨bN a.Many p=2∨bN a.Many p=4:=fun p=>by
  unfold bN;split
  ·simp
  split
  ·simp
  split
  ·simp
  split<;>simp
 have hgen:∀ (l:List b9)(n:Nat),
  (match ((l.findSome? fun p=>if bN a.Many p=5 then some (.inr (.inl ())) else if bN a.Many p=2 then some (.inl ()) else if bN a.Many p=4 then some (.inr (.inr (.inl ()))) else none).getD (.inr (.inr (.inr (n,false)))):Unit⊕(Unit⊕(Unit⊕(Nat×Bool)))) with
   | .inl _=>some (2:Int)
   | .inr (.inl _)=>some 5
   | .inr (.inr (.inl _))=>some 4
   | .inr (.inr (.inr _))=>some 0)=some ((l.findSome? fun x=>if bN a.Many x≠0 then some (bN a.Many x) else none).getD 0):=by
  intro l n
  induction l with
  | nil=>rfl
  | cons p l ih=>
   simp only [List.findSome?_cons]
   rcases hval p with h | h | h | h<;>simp only [h]
   ·simpa using ih
   ·rfl
   ·rfl
   ·rfl
 exact hgen ps ps.length
theorem Gg(a:an)(hm:1≤a.Many∧a.Many≤6)(l:Label):nC a l=some (dA a.Many l):=by
 unfold nC dA
 rw [tX a hm,tX a hm,Option.bind_some]
 by_cases h:pM a.Many l.Read=0<;>simp [h]
theorem M5(n:Nat):∀ (e:ag)(m:Int),sz e≤n→0≤m→m≤15→(jC n).f_R_exprParts e m=some (min (sz e:Int) (m+1)):=by
 induction n with
 | zero=>intro e m h;have:=ou e;omega
 | succ n ih=>
  intro e m h hm hm15
  show nF (jC n) e m=_
  unfold nF
  have he:=zk e
  obtain ⟨x,hx,hQ⟩:=de (B:=fun v=>l7 (jC n) e m v.1 v.2) (fun v=>e.Args.length - v.2)
   (fun v=>v.2≤e.Args.length∧v.1=min (1+(lA (e.Args.take v.2):Int)) (m+1)∧(v.2:Int)<v.1+1) (fun x=>x.2.1=min (sz e:Int) (m+1)) (by
    rintro ⟨v,k⟩ ⟨hk,hv,hkv⟩
    simp only at hk hv hkv ⊢
    have ht:=vC e.Args k
    unfold l7
    by_cases hlt:k<e.Args.length
    ·rw [if_pos (by omega)]
     by_cases hmv:v≤m
     ·rw [if_pos hmv,List.getElem?_eq_getElem hlt,Option.bind_some,if_pos (dq (by omega) (by omega)),ih _ _ (by have:=ov hlt;omega) (by omega) (by omega),Option.bind_some]
      have hs:=rz hlt
      have hp:=ou e.Args[k]
      rw [if_pos (dq (by omega) (by omega)),if_pos (dz (by omega))]
      exact .inr ⟨_,rfl,⟨by simp only;omega,by simp only;omega,by simp only;omega⟩,by simp only;omega⟩
     ·rw [if_neg hmv]
      exact .inl ⟨_,rfl,by simp only;omega⟩
    ·rw [if_neg (by omega)]
     have hl:e.Args.take k=e.Args:=List.take_of_length_le (by omega)
     rw [hl] at hv
     exact .inl ⟨_,rfl,by simp only;omega⟩) (1,0) ⟨Nat.zero_le _,by simp [lA];omega,by simp⟩
  rw [hx,Option.bind_some]
  exact congrArg some hQ
theorem KT{e:ag}{m:Int}(h0:0≤m)(h:m≤15):rR e m=some (min (sz e:Int) (m+1)):=
 m7 (sz e) fun n hn=>M5 n e m hn h0 h
theorem QE(n:Nat):∀ (e:ag),sz e≤n→sz e≤15→(kK n).f_R_allParts e=some (fi e):=by
 induction n with
 | zero=>intro e h;have:=ou e;omega
 | succ n ih=>
  intro e h h15
  show oT (kK n) e=_
  unfold oT
  have he:=zk e
  have hlen:=Dw e.Args
  obtain ⟨x,hx,hQ⟩:=de (B:=fun v=>nG (kK n) e v.1 v.2) (fun v=>e.Args.length - v.2)
   (fun v=>v.2≤e.Args.length∧v.1=e::ez (e.Args.take v.2)) (fun x=>x.1=fi e) (by
    rintro ⟨l,k⟩ ⟨hk,hv⟩
    simp only at hk hv ⊢
    unfold nG
    by_cases hlt:k<e.Args.length
    ·rw [if_pos (by omega),List.getElem?_eq_getElem hlt,Option.bind_some,ih _ (by have:=ov hlt;omega) (by have:=ov hlt;omega),Option.bind_some]
     have hs:=tR hlt
     have h1:=vC e.Args k
     have h2:=vC e.Args (k+1)
     have h3:=rz hlt
     rw [if_pos (by rw [hv,AL,List.length_cons,xM];omega),if_pos (dz (by omega))]
     exact .inr ⟨_,rfl,⟨by simp only;omega,by simp only;rw [hv,hs];rfl⟩,by simp only;omega⟩
    ·rw [if_neg (by omega)]
     have hl:e.Args.take k=e.Args:=List.take_of_length_le (by omega)
     rw [hl] at hv
     exact .inl ⟨_,rfl,by rw [sv];exact hv⟩) ([e],0) ⟨Nat.zero_le _,by simp [ez]⟩
  rw [hx,Option.bind_some]
  exact congrArg some hQ
theorem M6{e:ag}(h:sz e≤15):tc e=some (fi e):=m7 (sz e) fun n hn=>QE n e hn h
theorem lG(a b c:Int):b8 a b c=some (decide (b≤a∧a≤c)):=yE a b c
def tY:(Unit⊕(Unit⊕(Unit⊕(Unit⊕(Nat×Bool)))))→Int
 | .inl _=>1
 | .inr (.inl _)=>3
 | .inr (.inr (.inl _))=>5
 | .inr (.inr (.inr (.inl _)))=>7
 | .inr (.inr (.inr (.inr _)))=>0
theorem QF{v:Int}(hv:0≤v∧v≤9223372036854775807){l:List ag}{k:Nat}(hk:k<l.length)(hl:l.length<4611686018427387904) :
  (df v l[k]=0∧ft v l k=some (.inl (k+1)))∨∃ x,df v l[k]≠0∧ft v l k=some (.inr x)∧tY x=df v l[k]:=by
 unfold ft
 rw [if_pos (by omega),List.getElem?_eq_getElem hk,Option.bind_some,lG,Option.bind_some]
 generalize l[k]=e
 by_cases h1:1≤e.Kind∧e.Kind≤7
 ·rw [if_pos (decide_eq_true h1)]
  have hn:¬(e.Kind<1∨7<e.Kind):=by omega
  have hw:=dz (k:=k) (by omega)
  have hw1:IntKind.i64.wrap (v - 1)=v - 1:=dq (by omega) (by omega)
  unfold df pa pb
  rw [if_neg hn]
  simp only [lG,hw,hw1,if_true,Option.bind_some]
  by_cases h2:2<e.Kind
  ·have g1:¬e.Kind≤2:=by omega
   have g2:¬e.Kind=1:=by omega
   have g3:¬e.Kind=2:=by omega
   by_cases hL:e.Args.length=2
   ·by_cases hN:e.N=0
    ·simp [h2,g1,g2,g3,hL,hN]
    ·simp [h2,g1,g2,g3,hL,hN,tY]
   ·have:¬(e.Args.length:Int)=2:=by omega
    simp [h2,g1,hL,this,tY]
  ·have g1:e.Kind≤2:=by omega
   by_cases hL:e.Args.length=0
   ·by_cases hK:e.Kind=1
    ·by_cases hN : -9999999≤e.N∧e.N≤9999999
     ·have hN':¬(e.N < -9999999∨9999999<e.N):=by omega
      simp [hK,hL,hN.1,hN.2,hN']
     ·have hN':(e.N < -9999999∨9999999<e.N):=by omega
      simp [hK,hL,hN,hN',tY]
    ·have hK2:e.Kind=2:=by omega
     by_cases hN:0≤e.N∧e.N≤v - 1
     ·have hN':¬(e.N<0∨v≤e.N):=by omega
      simp [hK2,hL,hN.1,hN.2,hN']
     ·have hN':(e.N<0∨v≤e.N):=by omega
      simp [hK2,hL,hN,hN',tY]
   ·have:¬(e.Args.length:Int)=0:=by omega
    simp [h2,g1,hL,this,tY]
 ·rw [if_neg (by simp;omega)]
  have hn:e.Kind<1∨7<e.Kind:=by omega
  exact .inr ⟨_,by simp [df,hn],rfl,by simp [df,hn,tY]⟩
theorem td{e:ag}{v:Int}(hv:0≤v∧v≤9223372036854775807):jD e v=some (zn v e):=by
 unfold jD zn
 rw [KT (by decide) (by decide),Option.bind_some]
 by_cases h:15<sz e
 ·rw [if_pos (by omega),if_pos h]
 ·rw [if_neg (by omega),if_neg h,M6 (by omega),Option.bind_some]
  have hlen:=AL e
  generalize fi e=l at *
  obtain ⟨x,hx,hQ⟩:=de (B:=fun k=>ft v l k) (fun k=>l.length - k)
   (fun k=>k≤l.length∧gj v l=gj v (l.drop k)) (fun x=>tY x=gj v l) (by
    rintro k ⟨hk,hf⟩
    by_cases hlt:k<l.length
    ·rw [List.drop_eq_getElem_cons hlt,gj] at hf
     rcases QF hv hlt (by omega) with ⟨h1,h2⟩ | ⟨x,h1,h2,h3⟩
     ·rw [if_neg (by simp [h1])] at hf
      exact .inr ⟨_,h2,⟨by omega,hf⟩,by omega⟩
     ·rw [if_pos h1] at hf
      exact .inl ⟨_,h2,by rw [h3,hf]⟩
    ·rw [List.drop_eq_nil_of_le (by omega),gj] at hf
     unfold ft
     rw [if_neg (by omega)]
     exact .inl ⟨_,rfl,by rw [hf];rfl⟩) 0 ⟨Nat.zero_le _,by simp⟩
  rw [hx,Option.bind_some]
  rcases x with _ | _ | _ | _ | ⟨a,b⟩
  ·exact congrArg some hQ
  ·exact congrArg some hQ
  ·exact congrArg some hQ
  ·exact congrArg some hQ
  ·exact congrArg some hQ
theorem As(n:Int):pP n=some (dk n):=by
 unfold pP dk
 rw [lG];rfl
theorem take_one{α:Type}{l:List α}{k:Nat}(h:k<l.length):l.take (k+1)=l.take k++[l[k]]:=by rw [List.take_add_one,List.getElem?_eq_getElem h];rfl
theorem nI:∀ {l:List Stmt}{k:Nat}(h:k<l.length),aZ (l.take (k+1))=aZ (l.take k)+eh l[k]
 | x::l,0,_=>by simp [aZ]
 | x::l,k+1,h=>by
  rw [List.take_succ_cons,List.take_succ_cons,aZ,aZ,nI (k:=k) (by simpa using h)]
  simp only [List.getElem_cons_succ];omega
theorem va:∀ {l:List Stmt}{k:Nat}(h:k<l.length),cC (l.take (k+1))=max (cC (l.take k)) (dep l[k])
 | x::l,0,_=>by simp [cC]
 | x::l,k+1,h=>by
  rw [List.take_succ_cons,List.take_succ_cons,cC,cC,va (k:=k) (by simpa using h)]
  simp only [List.getElem_cons_succ];omega
theorem mS:∀ (l:List Stmt)(k:Nat),aZ (l.take k)≤aZ l
 | [],k=>by simp
 | x::l,0=>by simp [aZ]
 | x::l,k+1=>by rw [List.take_succ_cons,aZ,aZ];have:=mS l k;omega
variable [Lp]
def Gh(l:List Stmt)(d r:Int):Prop:=0≤r∧r≤51∧(r≤50→r=aZ l∧d+cC l≤7)∧((aZ l:Int)≤50→d+cC l≤7→r=aZ l)
theorem JK(n:Nat):∀ (l:List Stmt)(d:Int),1≤d→d≤7→8 - d≤n→∃ r,(gP n).f_R_ManyStmts l d=some r∧Gh l d r:=by
 induction n with
 | zero=>intro l d h1 h2 h3;omega
 | succ n ih=>
  intro l d h1 h2 h3
  show ∃ r,nE (gP n) l d=some r∧_
  unfold nE
  have hd:0<l.length∧6<d∨∃ r,(ji (gP n) l d).bind (fun (x:Unit⊕Int)=>match x with
   | .inl _=>some (51:Int)
   | .inr y=>some y)=some r∧Gh l d r:=by
   by_cases h0:0<l.length∧6<d
   ·exact .inl h0
   refine .inr ?_
   unfold ji
   obtain ⟨x,hx,hQ⟩:=de (B:=fun v=>l6 (gP n) l d v.1 v.2) (fun v=>l.length - v.2)
    (fun v=>v.2≤l.length∧0≤v.1∧v.1≤153∧(v.2:Int)≤v.1∧(v.1≤50→v.1=aZ (l.take v.2)∧(v.2=0∨d+cC (l.take v.2)≤7))∧((aZ l:Int)≤50→d+cC l≤7→v.1=aZ (l.take v.2)))
    (fun x=>0≤x.2.1∧x.2.1≤153∧(x.2.1≤50→x.2.1=aZ l∧d+cC l≤7)∧((aZ l:Int)≤50→d+cC l≤7→x.2.1=aZ l)) (by
     rintro ⟨v,k⟩ ⟨hk,g0,g1,g2,g3,g4⟩
     simp only at hk g0 g1 g2 g3 g4 ⊢
     unfold l6
     by_cases hlt:k<l.length
     ·rw [if_pos (by omega)]
      by_cases hv:v≤50
      ·rw [if_pos hv,List.getElem?_eq_getElem hlt,Option.bind_some]
       have hs1:=nI hlt
       have hs2:=va hlt
       have hm:=mK (List.getElem_mem hlt)
       have hm2:=o9 (List.getElem_mem hlt)
       have hle:=mS l (k+1)
       have e1:=mJ l[k]
       have e2:=lE l[k]
       generalize l[k]=s at *
       obtain ⟨r1,q1,p1,p2,p3,p4⟩:=ih s.Then (d+1) (by omega) (by omega) (by omega)
       obtain ⟨r2,q2,o1,o2,o3,o4⟩:=ih s.Else (d+1) (by omega) (by omega) (by omega)
       rw [if_pos (dq (by omega) (by omega)),q1,Option.bind_some,if_pos (dq (by omega) (by omega)),q2,Option.bind_some,if_pos (dq (by omega) (by omega)),if_pos (dq (by omega) (by omega)),if_pos (dz (by omega))]
       refine .inr ⟨_,rfl,⟨by simp only;omega,by simp only;omega,by simp only;omega,by simp only;omega,?_,?_⟩,by simp only;omega⟩
       ·simp only
        intro hle50
        obtain ⟨a1,a2⟩:=g3 hv
        obtain ⟨a3,a4⟩:=p3 (by omega)
        obtain ⟨a5,a6⟩:=o3 (by omega)
        refine ⟨by omega,.inr ?_⟩
        rcases a2 with rfl | a2
        ·simp only [List.take_zero,cC] at hs2;omega
        ·omega
       ·simp only
        intro c1 c2
        have b1:=g4 c1 c2
        have b2:=p4 (by omega) (by omega)
        have b3:=o4 (by omega) (by omega)
        omega
      ·rw [if_neg hv]
       refine .inl ⟨_,rfl,by simp only;omega,by simp only;omega,by simp only;omega,?_⟩
       simp only
       intro c1 c2
       have:=g4 c1 c2
       have:=mS l k
       omega
     ·rw [if_neg (by omega)]
      have hl:l.take k=l:=List.take_of_length_le (by omega)
      rw [hl] at g3 g4
      refine .inl ⟨_,rfl,by simp only;omega,by simp only;omega,?_,by simp only;exact g4⟩
      simp only
      intro h50
      obtain ⟨a1,a2⟩:=g3 h50
      refine ⟨a1,?_⟩
      rcases a2 with a2 | a2
      ·have:l=[]:=List.eq_nil_of_length_eq_zero (by omega)
       subst this
       simp only [cC];omega
      ·exact a2) (0,0) ⟨Nat.zero_le _,by simp,by simp,by simp,fun _=>by simp [aZ],fun _ _=>by simp [aZ]⟩
   rw [hx,Option.bind_some]
   obtain ⟨c0,c1,c2,c3⟩:=hQ
   by_cases h51:51<x.2.1
   ·rw [if_pos h51]
    exact ⟨51,rfl,by decide,by decide,fun h=>by omega,fun h1 h2=>by have:=c3 h1 h2;omega⟩
   ·rw [if_neg h51]
    exact ⟨_,rfl,c0,by omega,c2,c3⟩
  rcases hd with ⟨h4,h5⟩ | ⟨r,hr,hok⟩
  ·rw [if_pos (by omega),if_pos h5]
   refine ⟨51,rfl,by decide,by decide,fun h=>by omega,fun _ h7=>?_⟩
   have hp:1≤cC l:=by
    cases l with
    | nil=>simp at h4
    | cons x l=>rw [cC];have:=lE x;omega
   omega
  ·by_cases h4:0<l.length
   ·rw [if_pos (by omega)]
    by_cases h5:6<d
    ·rw [if_pos h5]
     refine ⟨51,rfl,by decide,by decide,fun h=>by omega,fun _ h7=>?_⟩
     have hp:1≤cC l:=by
      cases l with
      | nil=>simp at h4
      | cons x l=>rw [cC];have:=lE x;omega
     omega
    ·rw [if_neg h5];exact ⟨r,hr,hok⟩
   ·rw [if_neg (by omega)];exact ⟨r,hr,hok⟩
theorem Gi(l:List Stmt):∃ r,oS l 1=some r∧Gh l 1 r:=by
 obtain ⟨r,h1,h2⟩:=JK 7 l 1 (by decide) (by decide) (by decide)
 refine ⟨r,m7 7 fun n hn=>?_,h2⟩
 obtain ⟨r',h3,h4⟩:=JK n l 1 (by decide) (by decide) (by omega)
 obtain ⟨a1,a2,a3,a4⟩:=h2
 obtain ⟨b1,b2,b3,b4⟩:=h4
 rw [h3]
 congr 1
 by_cases h:r≤50
 ·have:=a3 h;have:=b4 (by omega) (by omega);omega
 ·by_cases h':r'≤50
  ·have:=b3 h';have:=a4 (by omega) (by omega);omega
  ·omega
theorem Ia{main:List Stmt} : ∀ {l:List Func}{n:Int},0≤n→(∀ f∈l,cC f.Body≤6)→cC main≤6→n+((l.map fun f=>aZ f.Body).sum:Nat)+aZ main≤50→(gO main l n).1=true
 | [],n,h0,_,h2,h3=>by
  rw [gO,(fW main 1 n (n+aZ main) (by simp at h3;omega) (by decide)).2 ⟨rfl,by simpa using h3,by omega⟩]
 | f::r,n,h0,h1,h2,h3=>by
  rw [List.map_cons,List.sum_cons] at h3
  have hd:=h1 f (by simp)
  rw [gO,(fW f.Body 1 n (n+aZ f.Body) (by omega) (by decide)).2 ⟨rfl,by omega,by omega⟩]
  simp only [andThen,if_true]
  exact Ia (by omega) (fun g hg=>h1 g (by simp [hg])) h2 (by omega)
theorem EA{k:Int}(h:1≤k∧k≤8):pO k=some (dY k):=by
 unfold pO dY
 rw [lG,Option.bind_some]
 by_cases h1:1≤k∧k≤3
 ·rw [if_pos (decide_eq_true h1)];congr 1;symm;simp;omega
 ·rw [if_neg (by simpa using h1)]
  by_cases h5:k=5
  ·simp [h5]
  ·rw [if_neg (by simpa using h5)];congr 1
   rw [Bool.eq_iff_iff];simp;omega
theorem CT{k:Int}(h:1≤k∧k≤8):oF k=some (dH k):=by
 unfold oF dH
 by_cases h1:k=1
 ·simp [h1]
 ·rw [if_neg (by simpa using h1),lG,Option.bind_some];congr 1
  rw [Bool.eq_iff_iff];simp;omega
section
variable (R:dM)(p:Program)(i:Int)(l:List Stmt)(k:Nat)(s:Stmt)
theorem sj1(y:Int)(hk:1≤s.Kind∧s.Kind≤8)(hv:p.Vars.length≤9223372036854775807)(hy:0≤y∧y≤9223372036854775807):kx R p i l k s y=some (decide ((dY s.Kind=true∧(s.Var<0∨(p.Vars.length:Int)≤s.Var))∨(dB s.Kind=true∧(s.Other<0∨y≤s.Other)))):=by
 unfold kx
 have hw:IntKind.i64.wrap ((p.Vars.length:Int) - 1)=(p.Vars.length:Int) - 1:=dq (by omega) (by omega)
 have hw2:IntKind.i64.wrap (y - 1)=y - 1:=dq (by omega) (by omega)
 rw [EA hk,Option.bind_some]
 have hO:decide (2≤s.Kind∧s.Kind≤4)=dB s.Kind:=rfl
 simp only [lG,hw,hw2,if_true,Option.bind_some,hO]
 have e1:(0≤s.Other∧s.Other≤y - 1)↔¬(s.Other<0∨y≤s.Other):=by omega
 have e2:(0≤s.Var∧s.Var≤(p.Vars.length:Int) - 1)↔¬(s.Var<0∨(p.Vars.length:Int)≤s.Var):=by omega
 simp only [e1,e2]
 by_cases c1:s.Var<0∨(p.Vars.length:Int)≤s.Var<;>by_cases c2:s.Other<0∨y≤s.Other<;>cases dY s.Kind<;>cases dB s.Kind<;>simp [c1,c2]
theorem sj2:ky R p i l k s=some (decide (s.Expr.Kind=0∧s.Expr.N=0∧s.Expr.Args.length=0)):=by
 unfold ky hZ
 have e:((s.Expr.Args.length:Int)==0)=decide (s.Expr.Args.length=0):=by rw [Bool.eq_iff_iff];simp
 by_cases h1:s.Expr.Kind=0<;>by_cases h2:s.Expr.N=0<;>simp [h1,h2,e]
variable (x r a b c d:Bool)
theorem sj8:fw R p i l k s x r a b c d=some (d||(decide (s.Kind≠7)&&decide (0<s.Else.length))):=by
 unfold fw
 have e:decide (0<(s.Else.length:Int))=decide (0<s.Else.length):=by rw [Bool.eq_iff_iff];simp
 cases d<;>by_cases h:s.Kind=7<;>simp [h,e]
theorem sj7:fx R p i l k s x r a b c=some (c||(decide (s.Kind<7)&&decide (0<s.Then.length))||(decide (s.Kind≠7)&&decide (0<s.Else.length))):=by
 unfold fx
 have e:decide (0<(s.Then.length:Int))=decide (0<s.Then.length):=by rw [Bool.eq_iff_iff];simp
 simp only [sj8,Option.bind_some,e]
 cases c<;>by_cases h:s.Kind<7<;>simp [h]
theorem sj6:fy R p i l k s x r a b=some (b||(decide (s.Kind≠2)&&decide (0<s.Args.length))||(decide (s.Kind<7)&&decide (0<s.Then.length))||(decide (s.Kind≠7)&&decide (0<s.Else.length))):=by
 unfold fy
 have e:decide (0<(s.Args.length:Int))=decide (0<s.Args.length):=by rw [Bool.eq_iff_iff];simp
 simp only [sj7,Option.bind_some,e]
 cases b<;>by_cases h:s.Kind=2<;>simp [h]
theorem sj5(hk:1≤s.Kind∧s.Kind≤8):dO R p i l k s x r a=some (a||(!dH s.Kind&&!x)||(decide (s.Kind≠2)&&decide (0<s.Args.length))||(decide (s.Kind<7)&&decide (0<s.Then.length))||(decide (s.Kind≠7)&&decide (0<s.Else.length))):=by
 unfold dO
 simp only [CT hk,sj6,Option.bind_some]
 cases a<;>cases dH s.Kind<;>simp
theorem sj4(hk:1≤s.Kind∧s.Kind≤8):kz R p i l k s x=some ((!dY s.Kind&&decide (s.Var≠0))||(!dB s.Kind&&decide (s.Other≠0))||(!dH s.Kind&&!x)||(decide (s.Kind≠2)&&decide (0<s.Args.length))||(decide (s.Kind<7)&&decide (0<s.Then.length))||(decide (s.Kind≠7)&&decide (0<s.Else.length))):=by
 unfold kz
 have hO:decide (2≤s.Kind∧s.Kind≤4)=dB s.Kind:=rfl
 simp only [EA hk,lG,hO,sj5 R p i l k s _ _ _ hk,Option.bind_some]
 have e1:(s.Var !=0)=decide (s.Var≠0):=by rw [Bool.eq_iff_iff];simp
 have e2:(s.Other !=0)=decide (s.Other≠0):=by rw [Bool.eq_iff_iff];simp
 rw [e1,e2]
 cases dY s.Kind<;>cases dB s.Kind<;>by_cases h1:s.Var=0<;>simp [h1]
def CU(f:List Stmt→Int):Int:=
 if dH s.Kind=true∧bQ p s.Expr≠0 then bQ p s.Expr
 else if aT (bQ p) s.Args≠0 then aT (bQ p) s.Args
 else if f s.Then≠0 then f s.Then else f s.Else
theorem sd4(f:List Stmt→Int)(hk:1≤s.Kind∧s.Kind≤8)(hv:p.Vars.length≤9223372036854775807)(ha:s.Args.length≤9223372036854775807)(ht:R.f_R_checkStmts p i s.Then=some (f s.Then))(he:R.f_R_checkStmts p i s.Else=some (f s.Else)) :
  ∃ z,eN R p i l k s=some (if CU p s f≠0 then .inl (CU p s f) else .inr z):=by
 have h9:∀ e:Int,ib R p i l k e=some (if e≠0 then .inl e else .inr (e,e !=0)):=fun e=>by
  unfold ib
  by_cases h:e=0<;>simp [h]
 have h8:∀ e:Int,∃ z,ic R p i l k s e=some (if (if e≠0 then e else f s.Else)≠0 then .inl (if e≠0 then e else f s.Else) else .inr z):=fun e=>by
  unfold ic
  by_cases h:e=0
  ·simp only [h,he,h9,Option.bind_some]
   by_cases h':f s.Else=0<;>simp [h']
  ·simp [h,h9]
 have h5:∀ e:Int,∃ z,fA R p i l k s e=some (if (if e≠0 then e else if aT (bQ p) s.Args≠0 then aT (bQ p) s.Args else if f s.Then≠0 then f s.Then else f s.Else)≠0 then .inl (if e≠0 then e else if aT (bQ p) s.Args≠0 then aT (bQ p) s.Args else if f s.Then≠0 then f s.Then else f s.Else) else .inr z):=fun e=>by
  unfold fA
  have key:∀ T:Int,T=(if e≠0 then e else aT (bQ p) s.Args)→∃ y,lp (fun v=>jj R p i l k s v.1 v.2) (e,0)=some y∧y.2.1=T:=fun T hT=>de (B:=fun v=>jj R p i l k s v.1 v.2) (fun v=>s.Args.length - v.2)
   (fun v=>v.2≤s.Args.length∧T=if v.1≠0 then v.1 else aT (bQ p) (s.Args.drop v.2))
   (fun y=>y.2.1=T) (by
    rintro ⟨v,j⟩ ⟨hj,hq⟩
    simp only at hj hq ⊢
    unfold jj
    by_cases hlt:j<s.Args.length
    ·rw [if_pos (by omega)]
     by_cases hv0:v=0
     ·rw [if_pos (by simp [hv0]),List.getElem?_eq_getElem hlt,Option.bind_some,td (by omega),Option.bind_some,if_pos (dz (by omega))]
      rw [List.drop_eq_getElem_cons hlt,jB,if_neg (by simpa using hv0)] at hq
      exact .inr ⟨_,rfl,⟨by simp only;omega,hq⟩,by simp only;omega⟩
     ·rw [if_neg (by simpa using hv0)]
      rw [if_pos hv0] at hq
      exact .inl ⟨_,rfl,hq.symm⟩
    ·rw [if_neg (by omega)]
     rw [List.drop_eq_nil_of_le (by omega)] at hq
     refine .inl ⟨_,rfl,?_⟩
     rw [hq]
     by_cases hv0:v=0<;>simp [hv0,aT]) (e,0) ⟨Nat.zero_le _,by simpa using hT⟩
  obtain ⟨y,hy,hQ⟩:=key _ rfl
  rw [hy,Option.bind_some,hQ]
  generalize hE:(if e≠0 then e else aT (bQ p) s.Args)=E
  have hE2:(if e≠0 then e else if aT (bQ p) s.Args≠0 then aT (bQ p) s.Args else if f s.Then≠0 then f s.Then else f s.Else)=if E≠0 then E else if f s.Then≠0 then f s.Then else f s.Else:=by
   rw [←hE]
   by_cases h1:e=0
   ·simp [h1]
   ·simp [h1]
  rw [hE2]
  by_cases h0:E=0
  ·obtain ⟨z,hz⟩:=h8 (f s.Then)
   rw [if_pos (by simp [h0]),ht,Option.bind_some,hz,Option.bind_some,if_neg (show ¬E≠0 from fun h=>h h0)]
   by_cases h1:(if f s.Then≠0 then f s.Then else f s.Else)=0
   ·rw [h1];exact ⟨_,rfl⟩
   ·rw [if_pos h1];exact ⟨(0,false),by rw [if_pos h1]⟩
  ·obtain ⟨z,hz⟩:=h8 E
   rw [if_neg (by simpa using h0),hz,Option.bind_some,if_pos h0]
   rw [if_pos h0,if_pos h0];exact ⟨(0,false),by rw [if_pos h0]⟩
 unfold eN CU
 rw [CT hk,Option.bind_some]
 cases hE:dH s.Kind with
 | true=>
  obtain ⟨z,hz⟩:=h5 (bQ p s.Expr)
  rw [if_pos rfl,td (by omega),Option.bind_some]
  have hz':fA R p i l k s (zn (p.Vars.length:Int) s.Expr)=_:=hz
  rw [hz',Option.bind_some]
  simp only [true_and]
  generalize (if bQ p s.Expr≠0 then bQ p s.Expr else if aT (bQ p) s.Args≠0 then aT (bQ p) s.Args else if f s.Then≠0 then f s.Then else f s.Else)=E
  by_cases h1:E=0
  ·rw [if_neg (by simpa using h1)];exact ⟨_,by rw [if_neg (by simpa using h1)]⟩
  ·rw [if_pos h1];exact ⟨(0,false),by rw [if_pos h1]⟩
 | false=>
  obtain ⟨z,hz⟩:=h5 0
  rw [if_neg (by decide),hz,Option.bind_some]
  simp only [ne_eq,not_true,if_false,Bool.false_eq_true,false_and]
  generalize (if ¬aT (bQ p) s.Args=0 then aT (bQ p) s.Args else if ¬f s.Then=0 then f s.Then else f s.Else)=E
  by_cases h1:E=0
  ·rw [if_neg (by simpa using h1)];exact ⟨_,by rw [if_neg (by simpa using h1)]⟩
  ·rw [if_pos h1];exact ⟨(0,false),by rw [if_pos h1]⟩
end
variable [Lp]
abbrev XE:=Unit⊕(Unit⊕(Int⊕(Unit⊕(Nat×Bool))))
def vZ:XE→Int
 | .inl _=>5
 | .inr (.inl _)=>1
 | .inr (.inr (.inl e))=>e
 | .inr (.inr (.inr (.inl _)))=>7
 | .inr (.inr (.inr (.inr _)))=>0
section
variable {p:Program}{i:Int}(h0:0≤i∧i≤p.Funcs.length)(hb:p.Vars.length≤16∧p.Ins.length≤5∧p.Outs.length≤5∧p.Funcs.length≤5)(hp:∀ f∈p.Funcs,f.Params.length≤9223372036854775807)
include h0 hb hp
theorem XZ{R:dM}{f:List Stmt→Int}{l:List Stmt}{k:Nat}(hk:k<l.length)(hl:k<4611686018427387904)(ht:R.f_R_checkStmts p i l[k].Then=some (f l[k].Then))(he:R.f_R_checkStmts p i l[k].Else=some (f l[k].Else)) :
  ((if bA p i l[k]≠0 then bA p i l[k] else if f l[k].Then≠0 then f l[k].Then else f l[k].Else)=0∧e6 R p i l k=some (.inl (k+1)))∨
  ∃ x,e6 R p i l k=some (.inr x)∧vZ x=(if bA p i l[k]≠0 then bA p i l[k] else if f l[k].Then≠0 then f l[k].Then else f l[k].Else)∧vZ x≠0:=by
 unfold e6
 rw [if_pos (show (k:Int)<(l.length:Int) by omega),List.getElem?_eq_getElem hk,Option.bind_some,lG,Option.bind_some]
 generalize hs:l[k]=s at *
 clear hs
 generalize hE:(if bA p i s≠0 then bA p i s else if f s.Then≠0 then f s.Then else f s.Else)=E
 have hw:IntKind.i64.wrap ((k:Int)+1)=((k+1:Nat):Int):=dz (by omega)
 by_cases c0:1≤s.Kind∧s.Kind≤8
 rotate_left
 ·have c0':s.Kind<1∨8<s.Kind:=by omega
  rw [if_neg (show ¬decide (1≤s.Kind∧s.Kind≤8)=true by simpa using c0)]
  have:bA p i s=7:=by unfold bA;rw [if_pos c0']
  exact .inr ⟨_,rfl,by rw [←hE,this];rfl,by simp [vZ]⟩
 have c0':¬(s.Kind<1∨8<s.Kind):=by omega
 rw [if_pos (decide_eq_true c0),cQ (by omega),Option.bind_some]
 have hlen:s.Kind.toNat<([0,0,i,(p.Ins.length:Int),(p.Outs.length:Int),0,0,0,0]:List Int).length:=by simp;omega
 rw [List.getElem?_eq_getElem hlen,Option.bind_some]
 obtain ⟨y,hy,hyb,hyo⟩:∃ y:Int,([0,0,i,(p.Ins.length:Int),(p.Outs.length:Int),0,0,0,0]:List Int)[s.Kind.toNat]=y∧(0≤y∧y≤9223372036854775807)∧(dB s.Kind=true→y=eF p i s.Kind):=by
  refine ⟨_,rfl,?_⟩
  have:s.Kind=1∨s.Kind=2∨s.Kind=3∨s.Kind=4∨s.Kind=5∨s.Kind=6∨s.Kind=7∨s.Kind=8:=by omega
  rcases this with e | e | e | e | e | e | e | e<;>simp only [e,dB,eF]<;>refine ⟨by simp;try omega,fun h=>?_⟩<;>first | (exact absurd h (by decide)) | rfl
 rw [hy,sj1 R p i l k s y c0 (by omega) hyb,Option.bind_some]
 have hcond:((dY s.Kind=true∧(s.Var<0∨(p.Vars.length:Int)≤s.Var))∨(dB s.Kind=true∧(s.Other<0∨y≤s.Other)))↔((dY s.Kind=true∧(s.Var<0∨(p.Vars.length:Int)≤s.Var))∨(dB s.Kind=true∧(s.Other<0∨eF p i s.Kind≤s.Other))):=by
  constructor
  ·rintro (h | ⟨h,h'⟩)
   ·exact .inl h
   ·exact .inr ⟨h,by rw [←hyo h];exact h'⟩
  ·rintro (h | ⟨h,h'⟩)
   ·exact .inl h
   ·exact .inr ⟨h,by rw [hyo h];exact h'⟩
 by_cases c1:(dY s.Kind=true∧(s.Var<0∨(p.Vars.length:Int)≤s.Var))∨(dB s.Kind=true∧(s.Other<0∨eF p i s.Kind≤s.Other))
 ·rw [if_pos (decide_eq_true (hcond.2 c1))]
  have:bA p i s=5:=by unfold bA;rw [if_neg c0',if_pos c1]
  exact .inr ⟨_,rfl,by rw [←hE,this];rfl,by simp [vZ]⟩
 rw [if_neg (show ¬decide _=true by rw [decide_eq_true_eq,hcond];exact c1),sj2,Option.bind_some,sj4 R p i l k s _ c0,Option.bind_some]
 have hb2:((!dY s.Kind&&decide (s.Var≠0))||(!dB s.Kind&&decide (s.Other≠0))||(!dH s.Kind&&!decide (s.Expr.Kind=0∧s.Expr.N=0∧s.Expr.Args.length=0))||(decide (s.Kind≠2)&&decide (0<s.Args.length))||(decide (s.Kind<7)&&decide (0<s.Then.length))||(decide (s.Kind≠7)&&decide (0<s.Else.length)))=true↔
   ((dY s.Kind=false∧s.Var≠0)∨(dB s.Kind=false∧s.Other≠0)∨(dH s.Kind=false∧¬(s.Expr.Kind=0∧s.Expr.N=0∧s.Expr.Args.length=0))∨(s.Kind≠2∧0<s.Args.length)∨(s.Kind<7∧0<s.Then.length)∨(s.Kind≠7∧0<s.Else.length)):=by
  simp only [Bool.or_eq_true,Bool.and_eq_true,Bool.not_eq_true',decide_eq_true_eq,decide_eq_false_iff_not,or_assoc]
 by_cases c2:(dY s.Kind=false∧s.Var≠0)∨(dB s.Kind=false∧s.Other≠0)∨(dH s.Kind=false∧¬(s.Expr.Kind=0∧s.Expr.N=0∧s.Expr.Args.length=0))∨(s.Kind≠2∧0<s.Args.length)∨(s.Kind<7∧0<s.Then.length)∨(s.Kind≠7∧0<s.Else.length)
 ·rw [if_pos (hb2.2 c2)]
  have:bA p i s=1:=by unfold bA;rw [if_neg c0',if_neg c1,if_pos c2]
  exact .inr ⟨_,rfl,by rw [←hE,this];rfl,by simp [vZ]⟩
 rw [if_neg (fun h=>c2 (hb2.1 h))]
 have hend:∀ (hS:bA p i s=if dH s.Kind=true∧bQ p s.Expr≠0 then bQ p s.Expr else aT (bQ p) s.Args)(hA:s.Args.length≤9223372036854775807),
   (E=0∧((eN R p i l k s).bind fun (x:Int⊕(Int×Bool))=>match x with
    | .inl z=>some (.inr (.inr (.inr (.inl z))))
    | .inr _=>if IntKind.i64.wrap ((k:Int)+1)=((k+1:Nat):Int) then some (.inl (k+1)) else none:Option (Nat⊕XE))=some (.inl (k+1)))∨
   ∃ x,((eN R p i l k s).bind fun (x:Int⊕(Int×Bool))=>match x with
    | .inl z=>some (.inr (.inr (.inr (.inl z))))
    | .inr _=>if IntKind.i64.wrap ((k:Int)+1)=((k+1:Nat):Int) then some (.inl (k+1)) else none:Option (Nat⊕XE))=some (.inr x)∧vZ x=E∧vZ x≠0:=by
  intro hS hA
  obtain ⟨z,hz⟩:=sd4 R p i l k s f c0 (by omega) hA ht he
  have hpe:CU p s f=E:=by
   rw [←hE,hS]
   unfold CU
   by_cases q1:dH s.Kind=true∧bQ p s.Expr≠0
   ·rw [if_pos q1,if_pos q1,if_pos q1.2]
   ·rw [if_neg q1,if_neg q1]
  rw [hz,hpe,Option.bind_some]
  by_cases q:E=0
  ·rw [if_neg (fun h=>h q)]
   exact .inl ⟨q,by simp only [hw,if_true]⟩
  ·rw [if_pos q]
   exact .inr ⟨_,rfl,rfl,q⟩
 by_cases c3:s.Kind=2
 ·rw [if_pos (show (s.Kind==2)=true by simpa using c3)]
  have hO:dB s.Kind=true:=by rw [c3];rfl
  have hoth:¬(s.Other<0∨eF p i s.Kind≤s.Other):=fun h=>c1 (.inr ⟨hO,h⟩)
  have hi:eF p i s.Kind=i:=by rw [c3];rfl
  rw [hi] at hoth
  have hlt:s.Other.toNat<p.Funcs.length:=by omega
  rw [cQ (by omega),Option.bind_some,List.getElem?_eq_getElem hlt,Option.bind_some]
  have hpo:oD p s.Other=p.Funcs[s.Other.toNat].Params.length:=by
   unfold oD;rw [List.getElem?_eq_getElem hlt];rfl
  have hpl:=hp _ (List.getElem_mem hlt)
  by_cases c4:s.Args.length=p.Funcs[s.Other.toNat].Params.length
  ·rw [if_neg (show ¬((s.Args.length:Int) !=(p.Funcs[s.Other.toNat].Params.length:Int))=true by simp [c4])]
   refine hend ?_ (by omega)
   unfold bA
   rw [if_neg c0',if_neg c1,if_neg c2,if_neg (show ¬(s.Kind=2∧s.Args.length≠oD p s.Other) by rw [hpo];exact fun h=>h.2 c4)]
  ·rw [if_pos (show ((s.Args.length:Int) !=(p.Funcs[s.Other.toNat].Params.length:Int))=true by simp;omega)]
   have:bA p i s=1:=by unfold bA;rw [if_neg c0',if_neg c1,if_neg c2,if_pos ⟨c3,by rw [hpo];exact c4⟩]
   exact .inr ⟨_,rfl,by rw [←hE,this];rfl,by simp [vZ]⟩
 ·rw [if_neg (show ¬(s.Kind==2)=true by simpa using c3)]
  have:¬(s.Kind≠2∧0<s.Args.length):=fun h=>c2 (.inr (.inr (.inr (.inl h))))
  refine hend ?_ (by omega)
  unfold bA
  rw [if_neg c0',if_neg c1,if_neg c2,if_neg (show ¬(s.Kind=2∧s.Args.length≠oD p s.Other) from fun h=>c3 h.1)]
theorem M7(n:Nat):∀ (l:List Stmt),cC l+1≤n→aZ l≤50→(iQ n).f_R_checkStmts p i l=some (cH (bA p i) l):=by
 induction n with
 | zero=>intro l h;omega
 | succ n ih=>
  intro l hd hc
  show l8 (iQ n) p i l=_
  unfold l8
  have hlen:=jh l
  obtain ⟨x,hx,hQ⟩:=de (B:=fun v=>e6 (iQ n) p i l v) (fun k=>l.length - k)
   (fun k=>k≤l.length∧cH (bA p i) l=cH (bA p i) (l.drop k)) (fun x=>vZ x=cH (bA p i) l) (by
    rintro k ⟨hk,hq⟩
    by_cases hlt:k<l.length
    ·have hm1:=mK (List.getElem_mem hlt)
     have hm2:=o9 (List.getElem_mem hlt)
     have e1:=mJ l[k]
     have e2:=lE l[k]
     rw [List.drop_eq_getElem_cons hlt,cH] at hq
     rcases XZ h0 hb hp (f:=cH (bA p i)) hlt (by omega) (ih l[k].Then (by omega) (by omega)) (ih l[k].Else (by omega) (by omega)) with ⟨q1,q2⟩ | ⟨x,q1,q2,q3⟩
     ·rw [←zm] at q1
      rw [if_neg (by simpa using q1)] at hq
      exact .inr ⟨_,q2,⟨by omega,hq⟩,by omega⟩
     ·rw [←zm] at q2
      rw [q2] at q3
      rw [if_pos q3] at hq
      exact .inl ⟨_,q1,by rw [q2,hq]⟩
    ·rw [List.drop_eq_nil_of_le (by omega),cH] at hq
     unfold e6
     rw [if_neg (show ¬(k:Int)<(l.length:Int) by omega)]
     exact .inl ⟨_,rfl,by rw [hq];rfl⟩) 0 ⟨Nat.zero_le _,by simp⟩
  rw [hx,Option.bind_some]
  rcases x with _ | _ | _ | _ | _<;>exact congrArg some hQ
theorem JL{l:List Stmt}(hc:aZ l≤50)(hd:cC l≤6):nH p i l=some (cH (bA p i) l):=
 m7 7 fun n hn=>M7 h0 hb hp n l (by omega) hc
end
theorem pj1(p:Program):jq p=some (decide (16<p.Vars.length∨5<p.Ins.length∨5<p.Outs.length∨5<p.Funcs.length∨p.an.Many<(p.Speak.length:Int))):=by
 unfold jq eT
 by_cases h1:16<p.Vars.length
 ·have:(16:Int)<(p.Vars.length:Int):=by omega
  simp [h1,this]
 have h1':¬(16:Int)<(p.Vars.length:Int):=by omega
 by_cases h2:5<p.Ins.length
 ·have:(5:Int)<(p.Ins.length:Int):=by omega
  simp [h1',h2,this]
 have h2':¬(5:Int)<(p.Ins.length:Int):=by omega
 by_cases h3:5<p.Outs.length
 ·have:(5:Int)<(p.Outs.length:Int):=by omega
  simp [h1',h2',h3,this]
 have h3':¬(5:Int)<(p.Outs.length:Int):=by omega
 by_cases h4:5<p.Funcs.length
 ·have:(5:Int)<(p.Funcs.length:Int):=by omega
  simp [h1',h2',h3',h4,this]
 have h4':¬(5:Int)<(p.Funcs.length:Int):=by omega
 simp [h1,h1',h2,h2',h3,h3',h4,h4']
abbrev XP:=Unit⊕(Unit⊕(Nat×Bool))
def QG:XP→Int
 | .inl _=>6
 | .inr (.inl _)=>5
 | .inr (.inr _)=>0
theorem aaJ{p:Program}(hv:p.Vars.length≤16)(j:Nat)(f:Func)(hl:f.Params.length≤4):∃ x,lp (fun v=>jU p j f v) 0=some x∧QG x=lj p.Vars.length [] f.Params:=by
 refine de (fun k=>f.Params.length - k) (fun k=>k≤f.Params.length∧lj p.Vars.length [] f.Params=lj p.Vars.length (f.Params.take k) (f.Params.drop k)) (fun x=>QG x=lj p.Vars.length [] f.Params) ?_ 0 ⟨Nat.zero_le _,by simp⟩
 rintro k ⟨hk,hq⟩
 unfold jU
 by_cases hlt:k<f.Params.length
 ·rw [List.drop_eq_getElem_cons hlt,lj] at hq
  rw [if_pos (show (k:Int)<(f.Params.length:Int) by omega),List.getElem?_eq_getElem hlt,Option.bind_some,if_pos (dq (by omega) (by omega)),lG,Option.bind_some]
  by_cases c1:f.Params[k]<0∨(p.Vars.length:Int)≤f.Params[k]
  ·rw [if_pos c1] at hq
   rw [if_neg (show ¬decide (0≤f.Params[k]∧f.Params[k]≤(p.Vars.length:Int) - 1)=true by simp;omega)]
   exact .inl ⟨_,rfl,by rw [hq];rfl⟩
  ·rw [if_neg c1] at hq
   rw [if_pos (show decide (0≤f.Params[k]∧f.Params[k]≤(p.Vars.length:Int) - 1)=true by simp;omega)]
   have hin:=qX (B:=fun v=>ek p j f k v) (f.Params.take k) (fun n=>n==f.Params[k]) id (x:=.inl ()) (y:=.inr (k,false))
    (fun m hm hp=>by
     have hm':m<k∧m<f.Params.length:=by simp at hm;omega
     have hp':(f.Params[m]==f.Params[k])=false:=by simpa using hp
     simp only [ek,id,show (m:Int)<(k:Int) by omega,if_true,List.getElem?_eq_getElem hm'.2,List.getElem?_eq_getElem hlt,Option.bind_some,hp',Bool.false_eq_true,if_false,dz (show m<9223372036854775807 by omega)])
    (fun m hm hp=>by
     have hm':m<k∧m<f.Params.length:=by simp at hm;omega
     have hp':(f.Params[m]==f.Params[k])=true:=by simpa using hp
     simp only [ek,id,show (m:Int)<(k:Int) by omega,if_true,List.getElem?_eq_getElem hm'.2,List.getElem?_eq_getElem hlt,Option.bind_some,hp'])
    (by
     have:(f.Params.take k).length=k:=by simp;omega
     simp [ek,this])
   have hin':lp (fun v=>ek p j f k v) 0=_:=hin
   rw [hin',Option.bind_some]
   by_cases c2:f.Params[k]∈f.Params.take k
   ·rw [if_pos c2] at hq
    rw [if_pos (List.any_eq_true.2 ⟨_,c2,by simp⟩)]
    exact .inl ⟨_,rfl,by rw [hq];rfl⟩
   ·rw [if_neg c2] at hq
    rw [if_neg (show ¬(f.Params.take k).any (fun n=>n==f.Params[k])=true from fun h=>by
     obtain ⟨x,h1,h2⟩:=List.any_eq_true.1 h
     exact c2 ((by simpa using h2:x=f.Params[k])▸h1))]
    simp only [dz (show k<9223372036854775807 by omega),if_true]
    exact .inr ⟨_,rfl,⟨by omega,by rw [hq,take_one hlt]⟩,by omega⟩
 ·rw [if_neg (show ¬(k:Int)<(f.Params.length:Int) by omega)]
  rw [List.drop_eq_nil_of_le (by omega),lj] at hq
  exact .inl ⟨_,rfl,by rw [hq];rfl⟩
abbrev XF:=Unit⊕(Unit⊕(Unit⊕(Int⊕(Nat×Bool))))
def QH:XF→Int
 | .inl _=>2
 | .inr (.inl _)=>6
 | .inr (.inr (.inl _))=>5
 | .inr (.inr (.inr (.inl e)))=>e
 | .inr (.inr (.inr (.inr _)))=>0
theorem aaK{p:Program}(hb:p.Vars.length≤16∧p.Ins.length≤5∧p.Outs.length≤5∧p.Funcs.length≤5)(hp:∀ f∈p.Funcs,f.Params.length≤9223372036854775807)(hc:∀ f∈p.Funcs,aZ f.Body≤50∧cC f.Body≤6) :
  ∃ x,lp (fun v=>jV p v) 0=some x∧QH x=gN p 0 p.Funcs∧(gN p 0 p.Funcs=0→∃ z,x= .inr (.inr (.inr (.inr z)))):=by
 refine de (fun k=>p.Funcs.length - k) (fun k=>k≤p.Funcs.length∧gN p 0 p.Funcs=gN p k (p.Funcs.drop k)) (fun x=>QH x=gN p 0 p.Funcs∧(gN p 0 p.Funcs=0→∃ z,x= .inr (.inr (.inr (.inr z))))) ?_ 0 ⟨Nat.zero_le _,by simp⟩
 rintro k ⟨hk,hq⟩
 unfold jV
 by_cases hlt:k<p.Funcs.length
 rotate_left
 ·rw [if_neg (show ¬(k:Int)<(p.Funcs.length:Int) by omega)]
  rw [List.drop_eq_nil_of_le (by omega),gN] at hq
  exact .inl ⟨_,rfl,by rw [hq];rfl,fun _=>⟨_,rfl⟩⟩
 rw [List.drop_eq_getElem_cons hlt,gN] at hq
 obtain ⟨b1,b2⟩:=hc _ (List.getElem_mem hlt)
 rw [if_pos (show (k:Int)<(p.Funcs.length:Int) by omega),List.getElem?_eq_getElem hlt,Option.bind_some]
 generalize p.Funcs[k]=f at *
 have hw:IntKind.i64.wrap ((k:Int)+1)=((k+1:Nat):Int):=dz (by omega)
 have h19:∀ e:Int,fu p k e=some (if e≠0 then .inl e else .inr (e,e !=0)):=fun e=>by
  unfold fu
  by_cases h:e=0<;>simp [h]
 by_cases c1:4<f.Params.length
 ·have e1:oE p k f=2:=by unfold oE;rw [if_pos c1]
  rw [e1,if_pos (by decide)] at hq
  rw [if_pos (show (4:Int)<(f.Params.length:Int) by omega)]
  exact .inl ⟨_,rfl,by rw [hq];rfl,fun h=>by rw [hq] at h;cases h⟩
 rw [if_neg (show ¬(4:Int)<(f.Params.length:Int) by omega)]
 obtain ⟨x,hx,hxe⟩:=aaJ (p:=p) hb.1 k f (by omega)
 rw [hx,Option.bind_some]
 rcases x with x | x | x
 ·have e1:oE p k f=6:=by unfold oE;rw [if_neg c1,←hxe];rfl
  rw [e1,if_pos (by decide)] at hq
  exact .inl ⟨_,rfl,by rw [hq];rfl,fun h=>by rw [hq] at h;cases h⟩
 ·have e1:oE p k f=5:=by unfold oE;rw [if_neg c1,←hxe];rfl
  rw [e1,if_pos (by decide)] at hq
  exact .inl ⟨_,rfl,by rw [hq];rfl,fun h=>by rw [hq] at h;cases h⟩
 have e1:oE p k f=if cH (bA p k) f.Body≠0 then cH (bA p k) f.Body else bQ p f.Result:=by
  unfold oE;rw [if_neg c1,←hxe];rfl
 simp only
 rw [JL (i:=(k:Int)) ⟨by omega,by omega⟩ hb hp b1 b2,Option.bind_some]
 by_cases c2:cH (bA p k) f.Body=0
 ·rw [if_neg (fun h=>h c2)] at e1
  rw [if_pos (show (cH (bA p k) f.Body==0)=true by simpa using c2),td (by omega),Option.bind_some,h19,Option.bind_some]
  have e2:zn (p.Vars.length:Int) f.Result=oE p k f:=e1.symm
  rw [e2]
  by_cases c3:oE p k f=0
  ·rw [if_neg (fun h=>h c3)]
   rw [if_neg (fun h=>h c3)] at hq
   exact .inr ⟨_,by simp only [hw,if_true],⟨by omega,hq⟩,by omega⟩
  ·rw [if_pos c3]
   rw [if_pos c3] at hq
   exact .inl ⟨_,rfl,by rw [hq];rfl,fun h=>absurd (hq.symm.trans h) c3⟩
 ·rw [if_pos c2] at e1
  rw [if_neg (show ¬(cH (bA p k) f.Body==0)=true by simpa using c2),h19,Option.bind_some,if_pos c2]
  rw [e1,if_pos c2] at hq
  exact .inl ⟨_,rfl,by rw [hq];rfl,fun h=>absurd (hq.symm.trans h) c2⟩
theorem X0{p:Program}(hp:∀ f∈p.Funcs,f.Params.length≤9223372036854775807):lk p=some (fR p):=by
 unfold lk fR oR
 rw [E4,Option.bind_some]
 by_cases a1:fQ p.an=0
 rotate_left
 ·rw [if_pos (show (fQ p.an !=0)=true by simpa using a1)]
  simp only [ne_eq,a1,not_false_eq_true,if_true]
 obtain ⟨m1,m2,m3,m4⟩:=yc a1
 rw [if_neg (show ¬(fQ p.an !=0)=true by simpa using a1),pj1,Option.bind_some]
 simp only [ne_eq,a1,not_true,if_false]
 by_cases a2:16<p.Vars.length∨5<p.Ins.length∨5<p.Outs.length∨5<p.Funcs.length∨p.an.Many<(p.Speak.length:Int)
 ·rw [if_pos (decide_eq_true a2),if_pos a2];rfl
 rw [if_neg (show ¬decide _=true by simpa using a2),if_neg a2]
 have hb:p.Vars.length≤16∧p.Ins.length≤5∧p.Outs.length≤5∧p.Funcs.length≤5:=by omega
 have hsp:=qX (B:=fun v=>ei p v) p.Speak (fun n=>!cm p.an.Many n) id (x:=.inl ()) (y:=.inr (p.Speak.length,false))
  (fun k hk hq=>by
   have hq':cm p.an.Many p.Speak[k]=true:=by simpa using hq
   simp [ei,hk,iL p.an _ ⟨m1,m2⟩,hq',sg k (by omega)])
  (fun k hk hq=>by
   have hq':cm p.an.Many p.Speak[k]=false:=by simpa using hq
   simp [ei,hk,iL p.an _ ⟨m1,m2⟩,hq'])
  (by simp [ei])
 have hsp':lp (fun v=>ei p v) 0=_:=hsp
 rw [hsp',Option.bind_some]
 cases a3:p.Speak.any (fun n=>!cm p.an.Many n) with
 | true=>simp
 | false=>
  simp only [Bool.false_eq_true,if_false]
  rw [if_pos (show ([]:List Label).length+p.Ins.length≤1000000000 by simp;omega),if_pos (show (([]:List Label)++p.Ins).length+p.Outs.length≤1000000000 by simp;omega)]
  obtain ⟨x1,hx1,hq1⟩:=de (B:=fun v=>jS p v.1 v.2) (fun v=>p.Vars.length - v.2) (fun v=>v.2≤p.Vars.length∧v.1=(p.Ins++p.Outs)++(p.Vars.take v.2).map Var.Label) (fun x=>x.1=(p.Ins++p.Outs)++p.Vars.map Var.Label) (by
   rintro ⟨v,k⟩ ⟨hk,hv⟩
   simp only at hk hv ⊢
   unfold jS
   by_cases hlt:k<p.Vars.length
   ·rw [if_pos (show (k:Int)<(p.Vars.length:Int) by omega),List.getElem?_eq_getElem hlt,Option.bind_some,if_pos (by rw [hv];simp;omega),if_pos (dz (by omega))]
    exact .inr ⟨_,rfl,⟨by simp only;omega,by simp only;rw [hv,take_one hlt,List.map_append,List.map_cons,List.map_nil,List.append_assoc]⟩,by simp only;omega⟩
   ·rw [if_neg (show ¬(k:Int)<(p.Vars.length:Int) by omega)]
    exact .inl ⟨_,rfl,by simp only;rw [hv,List.take_of_length_le (by omega)]⟩) (([]++p.Ins)++p.Outs,0) ⟨Nat.zero_le _,by simp⟩
  rw [hx1,Option.bind_some]
  have hlx:x1.1.length≤26:=by rw [hq1];simp;omega
  obtain ⟨x2,hx2,he1,he2⟩:=Cy (B:=fun v=>gv p x1 v) x1.1 (dA p.an.Many) (fun k hk=>by
   unfold gv
   rw [if_pos (show (k:Int)<(x1.1.length:Int) by omega),List.getElem?_eq_getElem hk,Option.bind_some,Gg p.an ⟨m1,m2⟩,Option.bind_some]
   by_cases h0:dA p.an.Many x1.1[k]=0
   ·rw [if_neg (by simp [h0]),if_pos (dz (by omega)),if_neg (by simp [h0])]
   ·rw [if_pos (by simp [h0]),if_pos h0]) ⟨(x1.1.length,false),by simp [gv]⟩
  rw [hx2,Option.bind_some]
  have happ:aT (dA p.an.Many) x1.1=if aT (dA p.an.Many) (p.Ins++p.Outs)≠0 then aT (dA p.an.Many) (p.Ins++p.Outs) else aT (fun v:Var=>dA p.an.Many v.Label) p.Vars:=by
   rw [hq1]
   generalize p.Ins++p.Outs=l
   have hm:∀ vs:List Var,aT (dA p.an.Many) (vs.map Var.Label)=aT (fun v:Var=>dA p.an.Many v.Label) vs:=by
    intro vs
    induction vs with
    | nil=>rfl
    | cons v vs ih=>rw [List.map_cons,jB,jB,ih]
   induction l with
   | nil=>rw [List.nil_append,hm];rfl
   | cons y l ih=>
    rw [List.cons_append,jB,jB,ih]
    by_cases h:dA p.an.Many y=0
    ·simp only [h,ne_eq,not_true,if_false]
    ·simp only [h,ne_eq,not_false_eq_true,if_true]
  by_cases a4:aT (dA p.an.Many) x1.1=0
  rotate_left
  ·rcases x2 with y | z
   ·have hy:y=_:=he1
    simp only
    rw [hy,happ]
    rw [happ] at a4
    by_cases a5:aT (dA p.an.Many) (p.Ins++p.Outs)=0
    ·rw [if_neg (fun h=>h a5)] at a4 ⊢
     simp [a5,a4]
    ·rw [if_pos a5]
     simp [a5]
   ·have hy:(0:Int)=_:=he1
    exact absurd hy.symm a4
  obtain ⟨z,rfl⟩:=he2 a4
  rw [happ] at a4
  have a5:aT (dA p.an.Many) (p.Ins++p.Outs)=0:=by
   by_cases h:aT (dA p.an.Many) (p.Ins++p.Outs)=0
   ·exact h
   ·rw [if_pos h] at a4;exact a4
  rw [if_neg (fun h=>h a5)] at a4
  simp only [a5,a4,not_true,if_false]
  have hkn:=qX (B:=fun v=>ej p v) p.Vars (fun v=>!v.Known&&decide (0<v.Label.Read.length+v.Label.Write.length)) id (x:=.inl ()) (y:=.inr (p.Vars.length,false))
   (fun k hk hq=>by
    have hw:=dz (k:=k) (by omega)
    simp only [ej,id,show (k:Int)<(p.Vars.length:Int) by omega,if_true,List.getElem?_eq_getElem hk,Option.bind_some,hw]
    cases hK:p.Vars[k].Known with
    | true=>simp
    | false=>
     have hq':¬0<p.Vars[k].Label.Read.length+p.Vars[k].Label.Write.length:=by simpa [hK] using hq
     rw [if_neg (by decide),if_neg (show ¬(0:Int)<(p.Vars[k].Label.Read.length:Int) by omega),if_neg (show ¬(0:Int)<(p.Vars[k].Label.Write.length:Int) by omega)])
   (fun k hk hq=>by
    have hq':p.Vars[k].Known=false∧0<p.Vars[k].Label.Read.length+p.Vars[k].Label.Write.length:=by simpa using hq
    simp only [ej,id,show (k:Int)<(p.Vars.length:Int) by omega,if_true,List.getElem?_eq_getElem hk,Option.bind_some,hq'.1,Bool.false_eq_true,if_false]
    by_cases h:0<p.Vars[k].Label.Read.length
    ·rw [if_pos (show (0:Int)<(p.Vars[k].Label.Read.length:Int) by omega)]
    ·rw [if_neg (show ¬(0:Int)<(p.Vars[k].Label.Read.length:Int) by omega),if_pos (show (0:Int)<(p.Vars[k].Label.Write.length:Int) by omega)])
   (by simp [ej])
  have hkn':lp (fun v=>ej p v) 0=_:=hkn
  rw [hkn',Option.bind_some]
  cases a6:p.Vars.any (fun v=>!v.Known&&decide (0<v.Label.Read.length+v.Label.Write.length)) with
  | true=>simp
  | false=>
   simp only [Bool.false_eq_true,if_false,not_true]
   obtain ⟨r,hr,r0,r1,r2,r3⟩:=Gi p.Main
   rw [hr,Option.bind_some]
   have hcount:∃ x,lp (fun v=>jT p v.1 v.2) (r,0)=some x∧((x.1≤50→(∀ f∈p.Funcs,cC f.Body≤6∧aZ f.Body≤50)∧r≤50∧x.1=r+((p.Funcs.map fun f=>aZ f.Body).sum:Nat))∧(r≤50→(∀ f∈p.Funcs,cC f.Body≤6)→r+((p.Funcs.map fun f=>aZ f.Body).sum:Nat)≤50→x.1≤50)):=by
    refine de (fun v=>p.Funcs.length - v.2) (fun v=>v.2≤p.Funcs.length∧0≤v.1∧v.1≤51*((v.2:Int)+1)∧r≤v.1∧(v.1≤50→(∀ f∈p.Funcs.take v.2,cC f.Body≤6∧aZ f.Body≤50)∧r≤50∧v.1=r+(((p.Funcs.take v.2).map fun f=>aZ f.Body).sum:Nat))∧(r≤50→(∀ f∈p.Funcs,cC f.Body≤6)→r+((p.Funcs.map fun f=>aZ f.Body).sum:Nat)≤50→v.1=r+(((p.Funcs.take v.2).map fun f=>aZ f.Body).sum:Nat))) _ ?_ (r,0) ⟨Nat.zero_le _,r0,by simp only;omega,Int.le_refl _,fun h=>⟨by simp,h,by simp⟩,fun _ _ _=>by simp⟩
    rintro ⟨v,k⟩ ⟨hk,g0,g1,g2,g3,g4⟩
    simp only at hk g0 g1 g2 g3 g4 ⊢
    unfold jT
    by_cases hlt:k<p.Funcs.length
    ·obtain ⟨q,hq,q0,q1,q2,q3⟩:=Gi p.Funcs[k].Body
     have hsum:((p.Funcs.map fun f=>aZ f.Body).sum:Nat)=(((p.Funcs.take (k+1)).map fun f=>aZ f.Body).sum:Nat)+(((p.Funcs.drop (k+1)).map fun f=>aZ f.Body).sum:Nat):=by
      rw [←List.sum_append,←List.map_append,List.take_append_drop]
     have hs1:(((p.Funcs.take (k+1)).map fun f=>aZ f.Body).sum:Nat)=((p.Funcs.take k).map fun f=>aZ f.Body).sum+aZ p.Funcs[k].Body:=by
      rw [take_one hlt,List.map_append,List.sum_append];simp
     have htk:∀ f∈p.Funcs.take (k+1),f∈p.Funcs.take k∨f=p.Funcs[k]:=by
      intro f hf
      rw [take_one hlt] at hf
      rcases List.mem_append.1 hf with h | h
      ·exact .inl h
      ·exact .inr (by simpa using h)
     have hmem:p.Funcs[k]∈p.Funcs:=List.getElem_mem hlt
     rw [if_pos (show (k:Int)<(p.Funcs.length:Int) by omega),List.getElem?_eq_getElem hlt,Option.bind_some,hq,Option.bind_some,if_pos (dq (by omega) (by omega)),if_pos (dz (by omega))]
     generalize p.Funcs[k]=g at *
     refine .inr ⟨_,rfl,⟨by simp only;omega,by simp only;omega,by simp only;omega,by simp only;omega,?_,?_⟩,by simp only;omega⟩
     ·simp only
      intro h50
      obtain ⟨p1,p2,p3⟩:=g3 (by omega)
      obtain ⟨p4,p5⟩:=q2 (by omega)
      refine ⟨fun f hf=>?_,p2,by omega⟩
      rcases htk f hf with h | rfl
      ·exact p1 f h
      ·exact ⟨by omega,by omega⟩
     ·simp only
      intro h1 h2 h3
      have e1:=g4 h1 h2 h3
      have e2:=h2 g hmem
      have e3:=q3 (by omega) (by omega)
      omega
    ·rw [if_neg (show ¬(k:Int)<(p.Funcs.length:Int) by omega)]
     rw [List.take_of_length_le (by omega)] at g3 g4
     exact .inl ⟨_,rfl,by simp only;exact g3,by simp only;intro h1 h2 h3;have:=g4 h1 h2 h3;omega⟩
   obtain ⟨x,hx,x1,x2⟩:=hcount
   rw [hx,Option.bind_some]
   have hfew:(gO p.Main p.Funcs 0).1=false↔50<x.1:=by
    constructor
    ·intro h
     apply Classical.byContradiction
     intro hx50
     obtain ⟨y1,y2,y3⟩:=x1 (by omega)
     obtain ⟨y4,y5⟩:=r2 y2
     have:=Ia (main:=p.Main) (l:=p.Funcs) (n:=0) (by decide) (fun f hf=>(y1 f hf).1) (by omega) (by omega)
     rw [this] at h;cases h
    ·intro h
     cases hF:(gO p.Main p.Funcs 0).1 with
     | false=>rfl
     | true=>
      have hF':gO p.Main p.Funcs 0=(true,(gO p.Main p.Funcs 0).2):=Prod.ext hF rfl
      obtain ⟨k1,k2,k3,k4,k5,k6⟩:=vR (by decide) (by decide) hF'
      have:=r3 (by omega) (by omega)
      have:=x2 (by omega) (fun f hf=>(k1 f hf).2) (by omega)
      omega
   by_cases a7:50<x.1
   ·rw [if_pos a7,if_pos (hfew.2 a7)]
   ·rw [if_neg a7,if_neg (fun h=>a7 (hfew.1 h))]
    obtain ⟨y1,y2,y3⟩:=x1 (by omega)
    obtain ⟨y4,y5⟩:=r2 y2
    obtain ⟨xf,hxf,hxe,hxz⟩:=aaK hb hp (fun f hf=>⟨(y1 f hf).2,(y1 f hf).1⟩)
    rw [hxf,Option.bind_some]
    by_cases a8:gN p 0 p.Funcs=0
    ·obtain ⟨z,rfl⟩:=hxz a8
     rw [if_neg (fun h=>h a8)]
     simp only
     rw [JL (i:=(p.Funcs.length:Int)) ⟨by omega,by omega⟩ hb hp (by omega) (by omega)];rfl
    ·rw [if_pos a8,←hxe]
     rw [←hxe] at a8
     rcases xf with xf | xf | xf | xf | xf
     ·rfl
     ·rfl
     ·rfl
     ·rfl
     ·exact absurd rfl a8
end Go.Proofs.YtndeklbmglgonaaGreat.A
