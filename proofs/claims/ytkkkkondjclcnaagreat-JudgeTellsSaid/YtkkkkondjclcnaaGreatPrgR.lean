/- The document's check of a program: actors, labels, expressions, as plain mathematics says. -/
import Derived.Test.YtkkkkondjclcnaaGreatScopeP
import Derived.Test.YtkkkkondjclcnaaGreatFR
set_option linter.all false
namespace Go.Proofs.YtkkkkondjclcnaaGreat.A
open Go
variable [Lp]
theorem mC(a:ak)(n:Int)(h:1≤a.Many∧a.Many≤6):mB a n=some (cw a.Many n):=by
 grind [mB,wrap64,Cd,cw]
theorem Nv(a:ak):rM a=some (iG a):=by
 unfold rM iG
 rw [Cd]
 by_cases h:a.Many<1∨6<a.Many
 ·grind
 have hm:1≤a.Many∧a.Many≤6:=by omega
 by_cases h3:20<a.Grants.length
 ·grind
 have ax:¬(20:Int)<(a.Grants.length:Int):=by omega
 have hi:=fun n=>mC a n hm
 have hl:=sg (B:=fun v=>ko a v) a.Grants (qv a.Many) id (x:=.inl ()) (y:=.inr (a.Grants.length,false))
  ((by grind [qv,ko,gJ]))
  ((by grind [qv,ko]))
  (by simp [ko])
 grind
theorem Ko(a:ak)(hm:1≤a.Many∧a.Many≤6)(ps:List bz)(i:Nat)(hi:i<ps.length)(hl:ps[i].Names.length≤6) :
  ∃ z,lp (fun v=>gu a ps i v) 0=some (if ps[i].Names.any (fun n=>!cw a.Many n) then .inl () else .inr z):=by
 have h:=sg (B:=fun v=>gu a ps i v) ps[i].Names (fun n=>!cw a.Many n) id (x:=.inl ()) (y:=.inr (ps[i].Names.length,false))
  (fun k hk hq=>by
   have Y:cw a.Many ps[i].Names[k]=true:=by simpa using hq
   simp [gu,hi,hk,mC a _ hm,Y,gJ k (by omega)])
  ((by grind [cw,gu,mC]))
  (by simp [gu,hi])
 exact ⟨_,h⟩
theorem Kp(a:ak)(ps:List bz)(i:Nat)(hi:i<ps.length)(h6:ps[i].Names.length≤6):∃ z,lp (fun v=>fh ps i v) 1=some (if desc ps[i].Names then .inl () else .inr z):=by
 by_cases h:ps[i].Names.length=0
 ·simp_all [desc,jQ,fh]
 ·refine ⟨(ps[i].Names.length,false),?_⟩
  exact LK (B:=fun v=>fh ps i v) ps[i].Names.length 1 (fun k=>decide (ps[i].Names.getD k 0≤ps[i].Names.getD (k - 1) 0)) id (by omega)
   (fun k h1 hk hp=>by
    have hp':¬ps[i].Names.getD k 0≤ps[i].Names.getD (k - 1) 0:=by simpa using hp
    obtain ⟨hw,hn⟩:=N4 k h1 (by omega)
    grind [fh,gJ])
   ((by grind [N4,fh]))
   (by simp [fh,hi])
theorem Kq(a:ak)(hm:1≤a.Many∧a.Many≤6)(ps:List bz):lU a ps=some (tB a.Many ps):=by
 unfold lU tB
 by_cases h4:4<ps.length
 ·grind
 have M:¬(4:Int)<(ps.length:Int):=by omega
 have h:=O9 (B:=fun v=>dY a ps v) ps (fun p=>if cS a.Many p=5 then some (.inr (.inl ())) else if cS a.Many p=2 then some (.inl ()) else if cS a.Many p=4 then some (.inr (.inr (.inl ()))) else none) id (y:=.inr (.inr (.inr (ps.length,false))))
  (fun i hi hq=>by
   have hE:cS a.Many ps[i]=0:=by
    grind [cS]
   have au:=hE
   obtain ⟨ho,hl,hn⟩:=wx hE
   have u:ps[i].Names.any (fun n=>!cw a.Many n)=false:=by
    grind
   have C:desc ps[i].Names=false:=by
    grind [cS]
   obtain ⟨z,hz⟩:=Ko a hm ps i hi hl
   obtain ⟨z',I⟩:=Kp a ps i hi hl
   simp only [u,C,bU,bB] at hz I
   grind [dY,mC,gJ])
  (fun i hi x hq=>by
   unfold cS at hq
   cases ho:cw a.Many ps[i].Owner with
   | false=>
    grind [dY,mC]
   | true=>
    by_cases h6:6<ps[i].Names.length
    ·grind [dY,mC]
    ·obtain ⟨z,hz⟩:=Ko a hm ps i hi (by omega)
     obtain ⟨z',I⟩:=Kp a ps i hi (by omega)
     have av:¬(6:Int)<(ps[i].Names.length:Int):=by omega
     cases u:ps[i].Names.any (fun n=>!cw a.Many n) with
     | true=>
      grind [dY,mC]
     | false=>
      simp only [u,bU,bB] at hz
      grind [dY,mC])
  (by simp [dY])
 have h':lp (fun v=>dY a ps v) 0=_:=h
 simp only [M,bB,h4,h',ad]
 unfold cj
 clear h h' h4 M
 have S:∀ p,cS a.Many p=0∨cS a.Many p=5∨cS a.Many p=2∨cS a.Many p=4:=by grind [cS]
 have ah:∀ (l:List bz)(n:Nat),
  (match ((l.findSome? fun p=>if cS a.Many p=5 then some (.inr (.inl ())) else if cS a.Many p=2 then some (.inl ()) else if cS a.Many p=4 then some (.inr (.inr (.inl ()))) else none).getD (.inr (.inr (.inr (n,false)))):Unit⊕(Unit⊕(Unit⊕(Nat×Bool)))) with
   | .inl _=>some (2:Int)
   | .inr (.inl _)=>some 5
   | .inr (.inr (.inl _))=>some 4
   | .inr (.inr (.inr _))=>some 0)=some ((l.findSome? fun x=>if cS a.Many x≠0 then some (cS a.Many x) else none).getD 0):=by
  intro l n
  induction l with
  | nil=>rfl
  | cons p l ih=>
   grind
 grind
theorem PB(a:ak)(hm:1≤a.Many∧a.Many≤6)(l:Label):tI a l=some (fK a.Many l):=by
 grind [tI,fK,Kq]
theorem ZM(n:Nat):∀ (e:aB)(m:Int),sz e≤n→0≤m→m≤15→(nP n).f_R_exprParts e m=some (min (sz e:Int) (m+1)):=by
 induction n with
 | zero=>grind [AH]
 | succ n ih=>
  intro e m h hm ac
  show tG (nP n) e m=_
  unfold tG
  have he:=G1 e
  obtain ⟨x,hx,hQ⟩:=kA (B:=fun v=>rK (nP n) e m v.1 v.2) (fun v=>e.Args.length - v.2)
   (fun v=>v.2≤e.Args.length∧v.1=min (1+(qE (e.Args.take v.2):Int)) (m+1)∧(v.2:Int)<v.1+1) (fun x=>x.2.1=min (sz e:Int) (m+1)) (by
    rintro ⟨v,k⟩ ⟨hk,hv,ae⟩
    simp only at hk hv ae ⊢
    have ht:=D7 e.Args k
    unfold rK
    by_cases c:k<e.Args.length
    ·rw [ab (by omega)]
     by_cases J:v≤m
     ·rw [ab J,aP c,ad,ab (yP (by omega) (by omega)),ih _ _ (by have:=CV c;omega) (by omega) (by omega),ad]
      have hs:=zc c
      have hp:=AH e.Args[k]
      rw [ab (yP (by omega) (by omega)),ab (nm (by omega))]
      grind
     ·rw [aa J]
      grind
    simp_all [aa,jL]) (1,0) (by grind [qE])
  grind
variable {e:aB}
theorem WS{m:Int}(h0:0≤m)(h:m≤15):zq e m=some (min (sz e:Int) (m+1)):=
 D5 (sz e) fun n hn=>ZM n e m hn h0 h
theorem afZ(n:Nat):∀ (e:aB),sz e≤n→sz e≤15→(pC n).f_R_allParts e=some (gy e):=by
 induction n with
 | zero=>grind [AH]
 | succ n ih=>
  intro e h ay
  show uN (pC n) e=_
  unfold uN
  have he:=G1 e
  have hlen:=La e.Args
  obtain ⟨x,hx,hQ⟩:=kA (B:=fun v=>tH (pC n) e v.1 v.2) (fun v=>e.Args.length - v.2)
   (fun v=>v.2≤e.Args.length∧v.1=e::fV (e.Args.take v.2)) (fun x=>x.1=gy e) (by
    rintro ⟨l,k⟩ ⟨hk,hv⟩
    simp only at hk hv ⊢
    unfold tH
    by_cases c:k<e.Args.length
    ·rw [ab (by omega),aP c,ad,ih _ (by have:=CV c;omega) (by have:=CV c;omega),ad]
     have hs:=BS c
     have h1:=D7 e.Args k
     have h2:=D7 e.Args (k+1)
     have h3:=zc c
     rw [ab (by grind [FV]),ab (nm (by omega))]
     grind
    simp_all [jL,CU]) ([e],0) (by grind [fV])
  grind
theorem Hl(h:sz e≤15):pD e=some (gy e):=D5 (sz e) fun n hn=>afZ n e hn h
def Hm:(Unit⊕(Unit⊕(Unit⊕(Unit⊕(Nat×Bool)))))→Int
 | .inl _=>1
 | .inr (.inl _)=>3
 | .inr (.inr (.inl _))=>5
 | .inr (.inr (.inr (.inl _)))=>7
 | .inr (.inr (.inr (.inr _)))=>0
variable {v:Int}{k:Nat}
theorem af0(hv:0≤v∧v≤9223372036854775807){l:List aB}(hk:k<l.length)(hl:l.length<4611686018427387904):
  (lf v l[k]=0∧j0 v l k=some (.inl (k+1)))∨∃ x,lf v l[k]≠0∧j0 v l k=some (.inr x)∧Hm x=lf v l[k]:=by
 unfold j0
 rw [ab (by omega),aP hk,ad,DJ,ad]
 generalize l[k]=e
 by_cases h1:1≤e.Kind∧e.Kind≤7
 ·rw [ab (aA h1)]
  have hn:¬(e.Kind<1∨7<e.Kind):=by omega
  have hw:=nm (k:=k) (by omega)
  have R:IntKind.i64.wrap (v - 1)=v - 1:=yP (by omega) (by omega)
  unfold lf vg vj
  rw [aa hn]
  simp only [DJ,hw,R,az,ad]
  by_cases h2:2<e.Kind
  ·grind [Hm]
  ·have g1:e.Kind≤2:=by omega
   by_cases hL:e.Args.length=0
   ·grind [Hm]
   grind [Hm]
 grind [lf,Hm]
theorem Gy(hv:0≤v∧v≤9223372036854775807):kx e v=some (J4 v e):=by
 unfold kx J4
 rw [WS (by decide) (by decide),ad]
 by_cases h:15<sz e
 ·grind
 ·rw [aa (by omega),aa h,Hl (by omega),ad]
  have hlen:=AI e
  generalize gy e=l at *
  obtain ⟨x,hx,hQ⟩:=kA (B:=fun k=>j0 v l k) (fun k=>l.length - k)
   (fun k=>k≤l.length∧ll v l=ll v (l.drop k)) (fun x=>Hm x=ll v l) (by
    rintro k ⟨hk,hf⟩
    by_cases c:k<l.length
    ·grind [List.drop_eq_getElem_cons,ll,af0]
    ·rw [rY (by omega),ll] at hf
     unfold j0
     rw [aa (by omega)]
     exact .inl ⟨_,rfl,by rw [hf];rfl⟩) 0 ⟨dc _,by simp⟩
  rw [hx,ad]
  rcases x with _ | _ | _ | _ | ⟨a,b⟩
  ·exact an some hQ
  ·exact an some hQ
  ·exact an some hQ
  ·exact an some hQ
  ·exact an some hQ
theorem take_one{α:Type}{l:List α}(h:k<l.length):l.take (k+1)=l.take k++[l[k]]:=by grind [List.take_add_one]
theorem DL:∀ {l:List Stmt}{k:Nat}(h:k<l.length),bn (l.take (k+1))=bn (l.take k)+qM l[k]
 | x::l,0,_=>by simp [bn]
 | x::l,k+1,h=>by
  rw [yu,yu,bn,bn,DL (k:=k) (by simpa using h)]
  grind
theorem DM:∀ {l:List Stmt}{k:Nat}(h:k<l.length),eR (l.take (k+1))=max (eR (l.take k)) (dep l[k])
 | x::l,0,_=>by simp [eR]
 | x::l,k+1,h=>by
  rw [yu,yu,eR,eR,DM (k:=k) (by simpa using h)]
  grind
theorem Be:∀ (l:List Stmt)(k:Nat),bn (l.take k)≤bn l
 | [],k=>by simp
 | x::l,0=>by simp [bn]
 | x::l,k+1=>by rw [yu,bn,bn];have:=Be l k;omega
variable [Lp]
def PC(l:List Stmt)(d r:Int):Prop:=0≤r∧r≤51∧(r≤50→r=bn l∧d+eR l≤7)∧((bn l:Int)≤50→d+eR l≤7→r=bn l)
theorem Vn(n:Nat):∀ (l:List Stmt)(d:Int),1≤d→d≤7→8 - d≤n→∃ r,(lQ n).f_R_ManyStmts l d=some r∧PC l d r:=by
 induction n with
 | zero=>grind
 | succ n ih=>
  intro l d h1 h2 h3
  show ∃ r,tK (lQ n) l d=some r∧_
  unfold tK
  have hd:0<l.length∧6<d∨∃ r,(nr (lQ n) l d).bind (fun (x:Unit⊕Int)=>match x with
   | .inl _=>some (51:Int)
   | .inr y=>some y)=some r∧PC l d r:=by
   by_cases h0:0<l.length∧6<d
   ·exact .inl h0
   refine .inr ?_
   unfold nr
   obtain ⟨x,hx,hQ⟩:=kA (B:=fun v=>rO (lQ n) l d v.1 v.2) (fun v=>l.length - v.2)
    (fun v=>v.2≤l.length∧0≤v.1∧v.1≤153∧(v.2:Int)≤v.1∧(v.1≤50→v.1=bn (l.take v.2)∧(v.2=0∨d+eR (l.take v.2)≤7))∧((bn l:Int)≤50→d+eR l≤7→v.1=bn (l.take v.2)))
    (fun x=>0≤x.2.1∧x.2.1≤153∧(x.2.1≤50→x.2.1=bn l∧d+eR l≤7)∧((bn l:Int)≤50→d+eR l≤7→x.2.1=bn l)) (by
     rintro ⟨v,k⟩ ⟨hk,g0,g1,g2,g3,g4⟩
     simp only at hk g0 g1 g2 g3 g4 ⊢
     unfold rO
     by_cases c:k<l.length
     ·rw [ab (by omega)]
      by_cases hv:v≤50
      ·rw [ab hv,aP c,ad]
       have W:=DL c
       have am:=DM c
       have hm:=II (bN c)
       have ap:=IJ (bN c)
       have hle:=Be l (k+1)
       have e1:=A0 l[k]
       have e2:=J3 l[k]
       generalize l[k]=s at *
       obtain ⟨r1,q1,p1,p2,p3,p4⟩:=ih s.Then (d+1) (by omega) (by omega) (by omega)
       obtain ⟨r2,q2,o1,o2,o3,o4⟩:=ih s.Else (d+1) (by omega) (by omega) (by omega)
       rw [ab (yP (by omega) (by omega)),q1,ad,ab (yP (by omega) (by omega)),q2,ad,ab (yP (by omega) (by omega)),ab (yP (by omega) (by omega)),ab (nm (by omega))]
       grind [eR]
      ·rw [aa hv]
       grind [Be]
     ·rw [aa (by omega)]
      grind [eR]) (0,0) (by grind [bn])
   rw [hx,ad]
   obtain ⟨c0,c1,c2,c3⟩:=hQ
   by_cases L:51<x.2.1
   ·rw [ab L]
    exact ⟨51,rfl,by decide,by decide,fun h=>by omega,by grind⟩
   ·rw [aa L]
    exact ⟨_,rfl,c0,by omega,c2,c3⟩
  rcases hd with ⟨h4,h5⟩ | ⟨r,hr,ao⟩
  ·rw [ab (by omega),ab h5]
   refine ⟨51,rfl,by decide,by decide,fun h=>by omega,fun _ h7=>?_⟩
   have hp:1≤eR l:=by
    cases l with
    | nil=>simp at h4
    | cons x l=>grind [eR,J3]
   omega
  ·by_cases h4:0<l.length
   ·rw [ab (by omega)]
    by_cases h5:6<d
    ·rw [ab h5]
     refine ⟨51,rfl,by decide,by decide,fun h=>by omega,fun _ h7=>?_⟩
     have hp:1≤eR l:=by
      cases l with
      | nil=>simp at h4
      | cons x l=>grind [eR,J3]
     omega
    grind
   grind
theorem PD(l:List Stmt):∃ r,uO l 1=some r∧PC l 1 r:=by
 obtain ⟨r,h1,h2⟩:=Vn 7 l 1 (by decide) (by decide) (by decide)
 refine ⟨r,D5 7 fun n hn=>?_,h2⟩
 obtain ⟨r',h3,h4⟩:=Vn n l 1 (by decide) (by decide) (by omega)
 obtain ⟨a1,a2,a3,a4⟩:=h2
 obtain ⟨b1,b2,b3,b4⟩:=h4
 grind
theorem R4{main:List Stmt} : ∀ {l:List Func}{n:Int},0≤n→(∀ f∈l,eR f.Body≤6)→eR main≤6→n+((l.map fun f=>bn f.Body).sum:Nat)+bn main≤50→(lP main l n).1=true
 | [],n,h0,_,h2,h3=>by
  rw [lP,(kX main 1 n (n+bn main) (by simp at h3;omega) (by decide)).2 (by grind)]
 | f::r,n,h0,h1,h2,h3=>by
  rw [fj,List.sum_cons] at h3
  have hd:=h1 f (by simp)
  rw [lP,(kX f.Body 1 n (n+bn f.Body) (by omega) (by decide)).2 ⟨rfl,by omega,by omega⟩]
  simp only [andThen,az]
  exact R4 (by omega) (fun g hg=>h1 g (by simp [hg])) h2 (by omega)
variable [Lp]
section
variable {p:Program}{i:Int}(h0:0≤i∧i≤p.Funcs.length)(hb:p.Vars.length≤16∧p.Ins.length≤5∧p.Outs.length≤5∧p.Funcs.length≤5)(hp:∀ f∈p.Funcs,f.Params.length≤9223372036854775807)
include h0 hb hp
theorem ZN(s:Stmt):PA p i s=some (bW p i s):=by
 unfold PA
 by_cases hk:1≤s.Kind∧s.Kind≤8
 ·have ho : -1000000≤rj p i s.Kind∧rj p i s.Kind≤1000000:=by
   grind [rj]
  rw [aa (fun h=>h hk),aa (fun h=>h ⟨by omega,ho⟩)]
  exact RI (fun e=>Gy (by omega)) h0.2 hp (by omega)
 grind [bW]
mutual
theorem af1:∀ s:Stmt,qM s≤50→R2 p i s=some (xz (bW p i) s)
 | ⟨k,v,o,e,args,th,el⟩,h=>by
  rw [qM] at h
  have l1:=ib th
  have l2:=ib el
  rw [R2,xz,ZN h0 hb hp,ad,ab (show th.length≤9223372036854775807 by omega),ab (show el.length≤9223372036854775807 by omega),Kr th (by omega),Kr el (by omega),ad]
  grind
theorem Kr:∀ l:List Stmt,bn l≤50→HX p i l=some (eg (bW p i) l)
 | [],_=>by rw [HX,eg]
 | s::r,h=>by
  rw [bn] at h
  rw [HX,eg,af1 s (by omega),Kr r (by omega),ad]
  grind
end
theorem Vp{l:List Stmt}(hc:bn l≤50)(hd:eR l≤6):c9 p i l=some (eg (bW p i) l):=by
 grind [ib,c9,Kr]
end
theorem pj1(p:Program):nz p=some (decide (16<p.Vars.length∨5<p.Ins.length∨5<p.Outs.length∨5<p.Funcs.length∨p.ak.Many<(p.Speak.length:Int))):=by
 grind [nz,iY]
abbrev XP:=Unit⊕(Unit⊕(Nat×Bool))
def af2:XP→Int
 | .inl _=>6
 | .inr (.inl _)=>5
 | .inr (.inr _)=>0
theorem amN{p:Program}(hv:p.Vars.length≤16)(j:Nat)(f:Func)(hl:f.Params.length≤4):∃ x,lp (fun v=>om p f v) 0=some x∧af2 x=ue p.Vars.length [] f.Params:=by
 refine kA (fun k=>f.Params.length - k) (fun k=>k≤f.Params.length∧ue p.Vars.length [] f.Params=ue p.Vars.length (f.Params.take k) (f.Params.drop k)) (fun x=>af2 x=ue p.Vars.length [] f.Params) ?_ 0 ⟨dc _,by simp⟩
 rintro k ⟨hk,hq⟩
 unfold om
 by_cases c:k<f.Params.length
 ·rw [ov c,ue] at hq
  rw [ab (show (k:Int)<(f.Params.length:Int) by omega),aP c,ad,ab (yP (by omega) (by omega)),DJ,ad]
  by_cases c1:f.Params[k]<0∨(p.Vars.length:Int)≤f.Params[k]
  ·rw [ab c1] at hq
   rw [aa (show ¬decide (0≤f.Params[k]∧f.Params[k]≤(p.Vars.length:Int) - 1)=true by simp;omega)]
   exact .inl ⟨_,rfl,by rw [hq];rfl⟩
  ·rw [aa c1] at hq
   rw [ab (show decide (0≤f.Params[k]∧f.Params[k]≤(p.Vars.length:Int) - 1)=true by simp;omega)]
   have ag:=sg (B:=fun v=>ij f k v) (f.Params.take k) (fun n=>n==f.Params[k]) id (x:=.inl ()) (y:=.inr (k,false))
    ((by grind [ij,nm]))
    (fun m hm hp=>by
     have aq:m<k∧m<f.Params.length:=by simp at hm;omega
     grind [ij])
    (by
     grind [ij])
   have F:lp (fun v=>ij f k v) 0=_:=ag
   rw [F,ad]
   by_cases c2:f.Params[k]∈f.Params.take k
   ·rw [ab c2] at hq
    rw [ab ((by grind))]
    exact .inl ⟨_,rfl,by rw [hq];rfl⟩
   grind [nm,take_one]
 ·rw [aa (show ¬(k:Int)<(f.Params.length:Int) by omega)]
  rw [rY (by omega),ue] at hq
  exact .inl ⟨_,rfl,by rw [hq];rfl⟩
abbrev XF:=Unit⊕(Unit⊕(Unit⊕(Int⊕(Nat×Bool))))
def af3:XF→Int
 | .inl _=>2
 | .inr (.inl _)=>6
 | .inr (.inr (.inl _))=>5
 | .inr (.inr (.inr (.inl e)))=>e
 | .inr (.inr (.inr (.inr _)))=>0
theorem amO{p:Program}(hb:p.Vars.length≤16∧p.Ins.length≤5∧p.Outs.length≤5∧p.Funcs.length≤5)(hp:∀ f∈p.Funcs,f.Params.length≤9223372036854775807)(hc:∀ f∈p.Funcs,bn f.Body≤50∧eR f.Body≤6) :
  ∃ x,lp (fun v=>oq p v) 0=some x∧af3 x=mh p 0 p.Funcs∧(mh p 0 p.Funcs=0→∃ z,x= .inr (.inr (.inr (.inr z)))):=by
 refine kA (fun k=>p.Funcs.length - k) (fun k=>k≤p.Funcs.length∧mh p 0 p.Funcs=mh p k (p.Funcs.drop k)) (fun x=>af3 x=mh p 0 p.Funcs∧(mh p 0 p.Funcs=0→∃ z,x= .inr (.inr (.inr (.inr z))))) ?_ 0 ⟨dc _,by simp⟩
 rintro k ⟨hk,hq⟩
 unfold oq
 by_cases c:k<p.Funcs.length
 rotate_left
 ·rw [aa (show ¬(k:Int)<(p.Funcs.length:Int) by omega)]
  rw [rY (by omega),mh] at hq
  exact .inl ⟨_,rfl,by rw [hq];rfl,fun _=>⟨_,rfl⟩⟩
 rw [ov c,mh] at hq
 obtain ⟨b1,b2⟩:=hc _ (bN c)
 rw [ab (show (k:Int)<(p.Funcs.length:Int) by omega),aP c,ad]
 generalize p.Funcs[k]=f at *
 have hw:IntKind.i64.wrap ((k:Int)+1)=((k+1:Nat):Int):=nm (by omega)
 have N:∀ e:Int,ka e=some (if e≠0 then .inl e else .inr (e,e !=0)):=by grind [ka]
 by_cases c1:4<f.Params.length
 ·have e1:uu p k f=2:=by grind [uu]
  rw [e1,ab (by decide)] at hq
  rw [ab (show (4:Int)<(f.Params.length:Int) by omega)]
  exact .inl ⟨_,rfl,by rw [hq];rfl,fun h=>by grind⟩
 rw [aa (show ¬(4:Int)<(f.Params.length:Int) by omega)]
 obtain ⟨x,hx,w⟩:=amN (p:=p) hb.1 k f (by omega)
 rw [hx,ad]
 rcases x with x | x | x
 ·have e1:uu p k f=6:=by unfold uu;rw [aa c1,←w];rfl
  rw [e1,ab (by decide)] at hq
  exact .inl ⟨_,rfl,by rw [hq];rfl,fun h=>by grind⟩
 ·have e1:uu p k f=5:=by unfold uu;rw [aa c1,←w];rfl
  rw [e1,ab (by decide)] at hq
  exact .inl ⟨_,rfl,by rw [hq];rfl,fun h=>by grind⟩
 have e1:uu p k f=if eg (bW p k) f.Body≠0 then eg (bW p k) f.Body else fL p f.Result:=by
  unfold uu;rw [aa c1,←w];rfl
 simp only
 rw [Vp (i:=(k:Int)) ⟨by omega,by omega⟩ hb hp b1 b2,ad]
 by_cases c2:eg (bW p k) f.Body=0
 ·rw [aa (fun h=>h c2)] at e1
  rw [ab (show (eg (bW p k) f.Body==0)=true by simpa using c2),Gy (by omega),ad,N,ad]
  have e2:J4 (p.Vars.length:Int) f.Result=uu p k f:=e1.symm
  rw [e2]
  by_cases c3:uu p k f=0
  ·grind
  ·rw [ab c3]
   rw [ab c3] at hq
   exact .inl ⟨_,rfl,by rw [hq];rfl,by grind⟩
 ·rw [ab c2] at e1
  rw [aa (show ¬(eg (bW p k) f.Body==0)=true by simpa using c2),N,ad,ab c2]
  rw [e1,ab c2] at hq
  exact .inl ⟨_,rfl,by rw [hq];rfl,by grind⟩
theorem aku{p:Program}(hp:∀ f∈p.Funcs,f.Params.length≤9223372036854775807):qy p=some (sB p):=by
 unfold qy sB tC
 rw [Nv,ad]
 by_cases a1:iG p.ak=0
 rotate_left
 ·grind
 obtain ⟨m1,m2,m3,m4⟩:=my a1
 rw [aa (show ¬(iG p.ak !=0)=true by simpa using a1),pj1,ad]
 simp only [ne_eq,a1,not_true,bB]
 by_cases a2:16<p.Vars.length∨5<p.Ins.length∨5<p.Outs.length∨5<p.Funcs.length∨p.ak.Many<(p.Speak.length:Int)
 ·grind
 rw [aa (show ¬decide _=true by simpa using a2),aa a2]
 have hb:p.Vars.length≤16∧p.Ins.length≤5∧p.Outs.length≤5∧p.Funcs.length≤5:=by omega
 have V:=sg (B:=fun v=>ie p v) p.Speak (fun n=>!cw p.ak.Many n) id (x:=.inl ()) (y:=.inr (p.Speak.length,false))
  ((by grind [ie,mC,gJ]))
  ((by grind [ie,mC]))
  (by simp [ie])
 have D:lp (fun v=>ie p v) 0=_:=V
 rw [D,ad]
 cases a3:p.Speak.any (fun n=>!cw p.ak.Many n) with
 | true=>simp
 | false=>
  simp only [bU,bB]
  rw [ab (show ([]:List Label).length+p.Ins.length≤1000000000 by simp;omega),ab (show (([]:List Label)++p.Ins).length+p.Outs.length≤1000000000 by simp;omega)]
  obtain ⟨x1,Q,X⟩:=kA (B:=fun v=>oi p v.1 v.2) (fun v=>p.Vars.length - v.2) (fun v=>v.2≤p.Vars.length∧v.1=(p.Ins++p.Outs)++(p.Vars.take v.2).map Var.Label) (fun x=>x.1=(p.Ins++p.Outs)++p.Vars.map Var.Label) (by
   rintro ⟨v,k⟩ ⟨hk,hv⟩
   simp only at hk hv ⊢
   unfold oi
   by_cases c:k<p.Vars.length
   ·rw [ab (show (k:Int)<(p.Vars.length:Int) by omega),aP c,ad,ab (by grind),ab (nm (by omega))]
    grind [take_one]
   simp_all [jL]) (([]++p.Ins)++p.Outs,0) ⟨dc _,by simp⟩
  rw [Q,ad]
  have ar:x1.1.length≤26:=by grind
  obtain ⟨x2,P,K,ai⟩:=Pe (B:=fun v=>lA p x1 v) x1.1 (fK p.ak.Many) ((by grind [lA,PB,nm])) ⟨(x1.1.length,false),by simp [lA]⟩
  rw [P,ad]
  have H:cj (fK p.ak.Many) x1.1=if cj (fK p.ak.Many) (p.Ins++p.Outs)≠0 then cj (fK p.ak.Many) (p.Ins++p.Outs) else cj (fun v:Var=>fK p.ak.Many v.Label) p.Vars:=by
   rw [X]
   generalize p.Ins++p.Outs=l
   have hm:∀ vs:List Var,cj (fK p.ak.Many) (vs.map Var.Label)=cj (fun v:Var=>fK p.ak.Many v.Label) vs:=by
    intro vs
    induction vs with
    | nil=>rfl
    | cons v vs ih=>grind [uI]
   induction l with
   | nil=>rw [dZ,hm];rfl
   | cons y l ih=>
    grind [uI]
  by_cases a4:cj (fK p.ak.Many) x1.1=0
  rotate_left
  ·rcases x2 with y | z
   ·have hy:y=_:=K
    grind
   ·have hy:(0:Int)=_:=K
    grind
  obtain ⟨z,rfl⟩:=ai a4
  rw [H] at a4
  have a5:cj (fK p.ak.Many) (p.Ins++p.Outs)=0:=by
   grind
  rw [aa (fun h=>h a5)] at a4
  simp only [a5,a4,not_true,bB]
  have af:=sg (B:=fun v=>ig p v) p.Vars (fun v=>!v.Known&&decide (0<v.Label.Read.length+v.Label.Write.length)) id (x:=.inl ()) (y:=.inr (p.Vars.length,false))
   ((by grind [nm,ig]))
   ((by grind [ig]))
   (by simp [ig])
  have E:lp (fun v=>ig p v) 0=_:=af
  rw [E,ad]
  cases a6:p.Vars.any (fun v=>!v.Known&&decide (0<v.Label.Read.length+v.Label.Write.length)) with
  | true=>simp
  | false=>
   simp only [bU,bB,not_true]
   obtain ⟨r,hr,r0,r1,r2,r3⟩:=PD p.Main
   rw [hr,ad]
   have t:∃ x,lp (fun v=>oj p v.1 v.2) (r,0)=some x∧((x.1≤50→(∀ f∈p.Funcs,eR f.Body≤6∧bn f.Body≤50)∧r≤50∧x.1=r+((p.Funcs.map fun f=>bn f.Body).sum:Nat))∧(r≤50→(∀ f∈p.Funcs,eR f.Body≤6)→r+((p.Funcs.map fun f=>bn f.Body).sum:Nat)≤50→x.1≤50)):=by
    refine kA (fun v=>p.Funcs.length - v.2) (fun v=>v.2≤p.Funcs.length∧0≤v.1∧v.1≤51*((v.2:Int)+1)∧r≤v.1∧(v.1≤50→(∀ f∈p.Funcs.take v.2,eR f.Body≤6∧bn f.Body≤50)∧r≤50∧v.1=r+(((p.Funcs.take v.2).map fun f=>bn f.Body).sum:Nat))∧(r≤50→(∀ f∈p.Funcs,eR f.Body≤6)→r+((p.Funcs.map fun f=>bn f.Body).sum:Nat)≤50→v.1=r+(((p.Funcs.take v.2).map fun f=>bn f.Body).sum:Nat))) _ ?_ (r,0) (by grind)
    rintro ⟨v,k⟩ ⟨hk,g0,g1,g2,g3,g4⟩
    simp only at hk g0 g1 g2 g3 g4 ⊢
    unfold oj
    by_cases c:k<p.Funcs.length
    ·obtain ⟨q,hq,q0,q1,q2,q3⟩:=PD p.Funcs[k].Body
     have U:((p.Funcs.map fun f=>bn f.Body).sum:Nat)=(((p.Funcs.take (k+1)).map fun f=>bn f.Body).sum:Nat)+(((p.Funcs.drop (k+1)).map fun f=>bn f.Body).sum:Nat):=by
      grind [List.take_append_drop]
     have W:(((p.Funcs.take (k+1)).map fun f=>bn f.Body).sum:Nat)=((p.Funcs.take k).map fun f=>bn f.Body).sum+bn p.Funcs[k].Body:=by
      grind [take_one]
     have T:∀ f∈p.Funcs.take (k+1),f∈p.Funcs.take k∨f=p.Funcs[k]:=by
      grind [take_one]
     have Z:p.Funcs[k]∈p.Funcs:=bN c
     rw [ab (show (k:Int)<(p.Funcs.length:Int) by omega),aP c,ad,hq,ad,ab (yP (by omega) (by omega)),ab (nm (by omega))]
     generalize p.Funcs[k]=g at *
     refine .inr ⟨_,rfl,⟨by simp only;omega,by simp only;omega,by simp only;omega,by simp only;omega,?_,?_⟩,by simp only;omega⟩
     ·simp only
      intro aw
      obtain ⟨p1,p2,p3⟩:=g3 (by omega)
      obtain ⟨p4,p5⟩:=q2 (by omega)
      refine ⟨fun f hf=>?_,p2,by omega⟩
      rcases T f hf with h | rfl
      ·exact p1 f h
      ·exact ⟨by omega,by omega⟩
     grind
    ·rw [aa (show ¬(k:Int)<(p.Funcs.length:Int) by omega)]
     rw [jL (by omega)] at g3 g4
     grind
   obtain ⟨x,hx,x1,x2⟩:=t
   rw [hx,ad]
   have G:(lP p.Main p.Funcs 0).1=false↔50<x.1:=by
    constructor
    ·grind [R4]
    ·intro h
     cases hF:(lP p.Main p.Funcs 0).1 with
     | false=>rfl
     | true=>
      have aj:lP p.Main p.Funcs 0=(true,(lP p.Main p.Funcs 0).2):=Prod.ext hF rfl
      obtain ⟨k1,k2,k3,k4,k5,k6⟩:=En (by decide) (by decide) aj
      grind
   by_cases a7:50<x.1
   ·grind
   ·rw [aa a7,aa (fun h=>a7 (G.1 h))]
    obtain ⟨y1,y2,y3⟩:=x1 (by omega)
    obtain ⟨y4,y5⟩:=r2 y2
    obtain ⟨xf,O,w,al⟩:=amO hb hp ((by grind))
    rw [O,ad]
    by_cases a8:mh p 0 p.Funcs=0
    ·grind [Vp]
    ·rw [ab a8,←w]
     rw [←w] at a8
     rcases xf with xf | xf | xf | xf | xf
     ·rfl
     ·rfl
     ·rfl
     ·rfl
     ·exact absurd rfl a8
end Go.Proofs.YtkkkkondjclcnaaGreat.A
