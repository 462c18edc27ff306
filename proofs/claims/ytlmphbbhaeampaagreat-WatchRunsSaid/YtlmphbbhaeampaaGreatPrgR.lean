/- The document's check of a program: actors, labels, expressions, as plain mathematics says. -/
import Derived.Test.YtlmphbbhaeampaaGreatScopeP
import Derived.Test.YtlmphbbhaeampaaGreatFR
set_option linter.all false
namespace Go.Proofs.YtlmphbbhaeampaaGreat.A
open Go
variable [Lp]
theorem mW(a:ak)(n:Int)(h:1≤a.Many∧a.Many≤6):mV a n=some (de a.Many n):=by
 grind [mV,wrap64,CP,de]
theorem Ow(a:ak):rL a=some (iw a):=by
 unfold rL iw
 rw [CP]
 by_cases h:a.Many<1∨6<a.Many
 ·grind
 have hm:1≤a.Many∧a.Many≤6:=by omega
 by_cases h3:20<a.Grants.length
 ·grind
 have ax:¬(20:Int)<(a.Grants.length:Int):=by omega
 have hi:=fun n=>mW a n hm
 have hl:=pj (B:=fun v=>kg a v) a.Grants (qw a.Many) id (x:=.inl ()) (y:=.inr (a.Grants.length,false))
  ((by grind [qw,kg,iL]))
  ((by grind [qw,kg]))
  (by simp [kg])
 grind
theorem Ln(a:ak)(hm:1≤a.Many∧a.Many≤6)(ps:List cp)(i:Nat)(hi:i<ps.length)(hl:ps[i].Names.length≤6) :
  ∃ z,lp (fun v=>fW a ps i v) 0=some (if ps[i].Names.any (fun n=>!de a.Many n) then .inl () else .inr z):=by
 have h:=pj (B:=fun v=>fW a ps i v) ps[i].Names (fun n=>!de a.Many n) id (x:=.inl ()) (y:=.inr (ps[i].Names.length,false))
  (fun k hk hq=>by
   have Y:de a.Many ps[i].Names[k]=true:=by simpa using hq
   simp [fW,hi,hk,mW a _ hm,Y,iL k (by omega)])
  ((by grind [de,fW,mW]))
  (by simp [fW,hi])
 exact ⟨_,h⟩
theorem Lo(a:ak)(ps:List cp)(i:Nat)(hi:i<ps.length)(h6:ps[i].Names.length≤6):∃ z,lp (fun v=>fc ps i v) 1=some (if desc ps[i].Names then .inl () else .inr z):=by
 by_cases h:ps[i].Names.length=0
 ·simp_all [desc,jQ,fc]
 ·refine ⟨(ps[i].Names.length,false),?_⟩
  exact MR (B:=fun v=>fc ps i v) ps[i].Names.length 1 (fun k=>decide (ps[i].Names.getD k 0≤ps[i].Names.getD (k - 1) 0)) id (by omega)
   (fun k h1 hk hp=>by
    have an:¬ps[i].Names.getD k 0≤ps[i].Names.getD (k - 1) 0:=by simpa using hp
    obtain ⟨hw,hn⟩:=OT k h1 (by omega)
    grind [fc,iL])
   ((by grind [OT,fc]))
   (by simp [fc,hi])
theorem Lq(a:ak)(hm:1≤a.Many∧a.Many≤6)(ps:List cp):mm a ps=some (tD a.Many ps):=by
 unfold mm tD
 by_cases h4:4<ps.length
 ·grind
 have M:¬(4:Int)<(ps.length:Int):=by omega
 have h:=Qc (B:=fun v=>eg a ps v) ps (fun p=>if dx a.Many p=5 then some (.inr (.inl ())) else if dx a.Many p=2 then some (.inl ()) else if dx a.Many p=4 then some (.inr (.inr (.inl ()))) else none) id (y:=.inr (.inr (.inr (ps.length,false))))
  (fun i hi hq=>by
   have hE:dx a.Many ps[i]=0:=by
    grind [dx]
   have au:=hE
   obtain ⟨ho,hl,hn⟩:=wx hE
   have u:ps[i].Names.any (fun n=>!de a.Many n)=false:=by
    grind
   have C:desc ps[i].Names=false:=by
    grind [dx]
   obtain ⟨z,hz⟩:=Ln a hm ps i hi hl
   obtain ⟨z',I⟩:=Lo a ps i hi hl
   simp only [u,C,dy,cH] at hz I
   grind [eg,mW,iL])
  (fun i hi x hq=>by
   unfold dx at hq
   cases ho:de a.Many ps[i].Owner with
   | false=>
    grind [eg,mW]
   | true=>
    by_cases h6:6<ps[i].Names.length
    ·grind [eg,mW]
    ·obtain ⟨z,hz⟩:=Ln a hm ps i hi (by omega)
     obtain ⟨z',I⟩:=Lo a ps i hi (by omega)
     have av:¬(6:Int)<(ps[i].Names.length:Int):=by omega
     cases u:ps[i].Names.any (fun n=>!de a.Many n) with
     | true=>
      grind [eg,mW]
     | false=>
      simp only [u,dy,cH] at hz
      grind [eg,mW])
  (by simp [eg])
 have h':lp (fun v=>eg a ps v) 0=_:=h
 simp only [M,cH,h4,h',ab]
 unfold cT
 clear h h' h4 M
 have S:∀ p,dx a.Many p=0∨dx a.Many p=5∨dx a.Many p=2∨dx a.Many p=4:=by grind [dx]
 have ag:∀ (l:List cp)(n:Nat),
  (match ((l.findSome? fun p=>if dx a.Many p=5 then some (.inr (.inl ())) else if dx a.Many p=2 then some (.inl ()) else if dx a.Many p=4 then some (.inr (.inr (.inl ()))) else none).getD (.inr (.inr (.inr (n,false)))):Unit⊕(Unit⊕(Unit⊕(Nat×Bool)))) with
   | .inl _=>some (2:Int)
   | .inr (.inl _)=>some 5
   | .inr (.inr (.inl _))=>some 4
   | .inr (.inr (.inr _))=>some 0)=some ((l.findSome? fun x=>if dx a.Many x≠0 then some (dx a.Many x) else none).getD 0):=by
  intro l n
  induction l with
  | nil=>rfl
  | cons p l ih=>
   grind
 grind
theorem QN(a:ak)(hm:1≤a.Many∧a.Many≤6)(l:Label):tK a l=some (fw a.Many l):=by
 grind [tK,fw,Lq]
theorem aak(n:Nat):∀ (e:ay)(m:Int),sz e≤n→0≤m→m≤15→(n4 n).f_R_exprParts e m=some (min (sz e:Int) (m+1)):=by
 induction n with
 | zero=>grind [uu]
 | succ n ih=>
  intro e m h hm aa
  show tI (n4 n) e m=_
  unfold tI
  have he:=HU e
  obtain ⟨x,hx,hQ⟩:=eX (B:=fun v=>rJ (n4 n) e m v.1 v.2) (fun v=>e.Args.length - v.2)
   (fun v=>v.2≤e.Args.length∧v.1=min (1+(qK (e.Args.take v.2):Int)) (m+1)∧(v.2:Int)<v.1+1) (fun x=>x.2.1=min (sz e:Int) (m+1)) (by
    rintro ⟨v,k⟩ ⟨hk,hv,ac⟩
    simp only at hk hv ac ⊢
    have ht:=EP e.Args k
    unfold rJ
    by_cases c:k<e.Args.length
    ·rw [af (by omega)]
     by_cases J:v≤m
     ·rw [af J,bu c,ab,af (fG (by omega) (by omega)),ih _ _ (by have:=uv c;omega) (by omega) (by omega),ab]
      have hs:=zH c
      have hp:=uu e.Args[k]
      rw [af (fG (by omega) (by omega)),af (eQ (by omega))]
      grind
     ·rw [ah J]
      grind
    simp_all [ah,iC]) (1,0) (by grind [qK])
  grind
variable {e:ay}
theorem XM{m:Int}(h0:0≤m)(h:m≤15):zY e m=some (min (sz e:Int) (m+1)):=
 uH (sz e) fun n hn=>aak n e m hn h0 h
theorem aij(n:Nat):∀ (e:ay),sz e≤n→sz e≤15→(pI n).f_R_allParts e=some (ey e):=by
 induction n with
 | zero=>grind [uu]
 | succ n ih=>
  intro e h aA
  show uS (pI n) e=_
  unfold uS
  have he:=HU e
  have hlen:=Mp e.Args
  obtain ⟨x,hx,hQ⟩:=eX (B:=fun v=>tJ (pI n) e v.1 v.2) (fun v=>e.Args.length - v.2)
   (fun v=>v.2≤e.Args.length∧v.1=e::fv (e.Args.take v.2)) (fun x=>x.1=ey e) (by
    rintro ⟨l,k⟩ ⟨hk,hv⟩
    simp only at hk hv ⊢
    unfold tJ
    by_cases c:k<e.Args.length
    ·rw [af (by omega),bu c,ab,ih _ (by have:=uv c;omega) (by have:=uv c;omega),ab]
     have hs:=Cu c
     have h1:=EP e.Args k
     have h2:=EP e.Args (k+1)
     have h3:=zH c
     rw [af (by grind [GF]),af (eQ (by omega))]
     grind
    simp_all [iC,s9]) ([e],0) (by grind [fv])
  grind
theorem H4(h:sz e≤15):pJ e=some (ey e):=uH (sz e) fun n hn=>aij n e hn h
def H5:(Unit⊕(Unit⊕(Unit⊕(Unit⊕(Nat×Bool)))))→Int
 | .inl _=>1
 | .inr (.inl _)=>3
 | .inr (.inr (.inl _))=>5
 | .inr (.inr (.inr (.inl _)))=>7
 | .inr (.inr (.inr (.inr _)))=>0
variable {v:Int}{k:Nat}
theorem aik(hv:0≤v∧v≤9223372036854775807){l:List ay}(hk:k<l.length)(hl:l.length<4611686018427387904):
  (fg v l[k]=0∧jZ v l k=some (.inl (k+1)))∨∃ x,fg v l[k]≠0∧jZ v l k=some (.inr x)∧H5 x=fg v l[k]:=by
 unfold jZ
 rw [af (by omega),bu hk,ab,yp,ab]
 generalize l[k]=e
 by_cases h1:1≤e.Kind∧e.Kind≤7
 ·rw [af (aF h1)]
  have hn:¬(e.Kind<1∨7<e.Kind):=by omega
  have hw:=eQ (k:=k) (by omega)
  have R:IntKind.i64.wrap (v - 1)=v - 1:=fG (by omega) (by omega)
  unfold fg vm vn
  rw [ah hn]
  simp only [yp,hw,R,aH,ab]
  by_cases h2:2<e.Kind
  ·grind [H5]
  ·have g1:e.Kind≤2:=by omega
   by_cases hL:e.Args.length=0
   ·grind [H5]
   grind [H5]
 grind [fg,H5]
theorem Hj(hv:0≤v∧v≤9223372036854775807):ko e v=some (K3 v e):=by
 unfold ko K3
 rw [XM (by decide) (by decide),ab]
 by_cases h:15<sz e
 ·grind
 ·rw [ah (by omega),ah h,H4 (by omega),ab]
  have hlen:=A4 e
  generalize ey e=l at *
  obtain ⟨x,hx,hQ⟩:=eX (B:=fun k=>jZ v l k) (fun k=>l.length - k)
   (fun k=>k≤l.length∧lj v l=lj v (l.drop k)) (fun x=>H5 x=lj v l) (by
    rintro k ⟨hk,hf⟩
    by_cases c:k<l.length
    ·grind [List.drop_eq_getElem_cons,lj,aik]
    ·rw [jg (by omega),lj] at hf
     unfold jZ
     rw [ah (by omega)]
     exact .inl ⟨_,rfl,by rw [hf];rfl⟩) 0 ⟨du _,by simp⟩
  rw [hx,ab]
  rcases x with _ | _ | _ | _ | ⟨a,b⟩
  ·exact az some hQ
  ·exact az some hQ
  ·exact az some hQ
  ·exact az some hQ
  ·exact az some hQ
theorem IN(n:Int):wG n=some (fT n):=by
 unfold wG fT
 rw [yp];rfl
theorem take_one{α:Type}{l:List α}(h:k<l.length):l.take (k+1)=l.take k++[l[k]]:=by grind [List.take_add_one]
theorem tN:∀ {l:List Stmt}{k:Nat}(h:k<l.length),bR (l.take (k+1))=bR (l.take k)+fD l[k]
 | x::l,0,_=>by simp [bR]
 | x::l,k+1,h=>by
  rw [yX,yX,bR,bR,tN (k:=k) (by simpa using h)]
  grind
theorem Ef:∀ {l:List Stmt}{k:Nat}(h:k<l.length),ed (l.take (k+1))=max (ed (l.take k)) (dep l[k])
 | x::l,0,_=>by simp [ed]
 | x::l,k+1,h=>by
  rw [yX,yX,ed,ed,Ef (k:=k) (by simpa using h)]
  grind
theorem sL:∀ (l:List Stmt)(k:Nat),bR (l.take k)≤bR l
 | [],k=>by simp
 | x::l,0=>by simp [bR]
 | x::l,k+1=>by rw [yX,bR,bR];have:=sL l k;omega
variable [Lp]
def QO(l:List Stmt)(d r:Int):Prop:=0≤r∧r≤51∧(r≤50→r=bR l∧d+ed l≤7)∧((bR l:Int)≤50→d+ed l≤7→r=bR l)
theorem Wp(n:Nat):∀ (l:List Stmt)(d:Int),1≤d→d≤7→8 - d≤n→∃ r,(ma n).f_R_ManyStmts l d=some r∧QO l d r:=by
 induction n with
 | zero=>grind
 | succ n ih=>
  intro l d h1 h2 h3
  show ∃ r,tM (ma n) l d=some r∧_
  unfold tM
  have hd:0<l.length∧6<d∨∃ r,(nF (ma n) l d).bind (fun (x:Unit⊕Int)=>match x with
   | .inl _=>some (51:Int)
   | .inr y=>some y)=some r∧QO l d r:=by
   by_cases h0:0<l.length∧6<d
   ·exact .inl h0
   refine .inr ?_
   unfold nF
   obtain ⟨x,hx,hQ⟩:=eX (B:=fun v=>rM (ma n) l d v.1 v.2) (fun v=>l.length - v.2)
    (fun v=>v.2≤l.length∧0≤v.1∧v.1≤153∧(v.2:Int)≤v.1∧(v.1≤50→v.1=bR (l.take v.2)∧(v.2=0∨d+ed (l.take v.2)≤7))∧((bR l:Int)≤50→d+ed l≤7→v.1=bR (l.take v.2)))
    (fun x=>0≤x.2.1∧x.2.1≤153∧(x.2.1≤50→x.2.1=bR l∧d+ed l≤7)∧((bR l:Int)≤50→d+ed l≤7→x.2.1=bR l)) (by
     rintro ⟨v,k⟩ ⟨hk,g0,g1,g2,g3,g4⟩
     simp only at hk g0 g1 g2 g3 g4 ⊢
     unfold rM
     by_cases c:k<l.length
     ·rw [af (by omega)]
      by_cases hv:v≤50
      ·rw [af hv,bu c,ab]
       have W:=tN c
       have am:=Ef c
       have hm:=vj (cg c)
       have ap:=ye (cg c)
       have hle:=sL l (k+1)
       have e1:=sB l[k]
       have e2:=sC l[k]
       generalize l[k]=s at *
       obtain ⟨r1,q1,p1,p2,p3,p4⟩:=ih s.Then (d+1) (by omega) (by omega) (by omega)
       obtain ⟨r2,q2,o1,o2,o3,o4⟩:=ih s.Else (d+1) (by omega) (by omega) (by omega)
       rw [af (fG (by omega) (by omega)),q1,ab,af (fG (by omega) (by omega)),q2,ab,af (fG (by omega) (by omega)),af (fG (by omega) (by omega)),af (eQ (by omega))]
       grind [ed]
      ·rw [ah hv]
       grind [sL]
     ·rw [ah (by omega)]
      grind [ed]) (0,0) (by grind [bR])
   rw [hx,ab]
   obtain ⟨c0,c1,c2,c3⟩:=hQ
   by_cases L:51<x.2.1
   ·rw [af L]
    exact ⟨51,rfl,by decide,by decide,fun h=>by omega,by grind⟩
   ·rw [ah L]
    exact ⟨_,rfl,c0,by omega,c2,c3⟩
  rcases hd with ⟨h4,h5⟩ | ⟨r,hr,ao⟩
  ·rw [af (by omega),af h5]
   refine ⟨51,rfl,by decide,by decide,fun h=>by omega,fun _ h7=>?_⟩
   have hp:1≤ed l:=by
    cases l with
    | nil=>simp at h4
    | cons x l=>grind [ed,sC]
   omega
  ·by_cases h4:0<l.length
   ·rw [af (by omega)]
    by_cases h5:6<d
    ·rw [af h5]
     refine ⟨51,rfl,by decide,by decide,fun h=>by omega,fun _ h7=>?_⟩
     have hp:1≤ed l:=by
      cases l with
      | nil=>simp at h4
      | cons x l=>grind [ed,sC]
     omega
    grind
   grind
theorem QP(l:List Stmt):∃ r,uT l 1=some r∧QO l 1 r:=by
 obtain ⟨r,h1,h2⟩:=Wp 7 l 1 (by decide) (by decide) (by decide)
 refine ⟨r,uH 7 fun n hn=>?_,h2⟩
 obtain ⟨r',h3,h4⟩:=Wp n l 1 (by decide) (by decide) (by omega)
 obtain ⟨a1,a2,a3,a4⟩:=h2
 obtain ⟨b1,b2,b3,b4⟩:=h4
 grind
theorem SX{main:List Stmt} : ∀ {l:List Func}{n:Int},0≤n→(∀ f∈l,ed f.Body≤6)→ed main≤6→n+((l.map fun f=>bR f.Body).sum:Nat)+bR main≤50→(l7 main l n).1=true
 | [],n,h0,_,h2,h3=>by
  rw [l7,(kR main 1 n (n+bR main) (by simp at h3;omega) (by decide)).2 (by grind)]
 | f::r,n,h0,h1,h2,h3=>by
  rw [je,List.sum_cons] at h3
  have hd:=h1 f (by simp)
  rw [l7,(kR f.Body 1 n (n+bR f.Body) (by omega) (by decide)).2 ⟨rfl,by omega,by omega⟩]
  simp only [andThen,aH]
  exact SX (by omega) (fun g hg=>h1 g (by simp [hg])) h2 (by omega)
variable [Lp]
section
variable {p:Program}{i:Int}(h0:0≤i∧i≤p.Funcs.length)(hb:p.Vars.length≤16∧p.Ins.length≤5∧p.Outs.length≤5∧p.Funcs.length≤5)(hp:∀ f∈p.Funcs,f.Params.length≤9223372036854775807)
include h0 hb hp
theorem aal(s:Stmt):QK p i s=some (cV p i s):=by
 unfold QK
 by_cases hk:1≤s.Kind∧s.Kind≤8
 ·have ho : -1000000≤rl p i s.Kind∧rl p i s.Kind≤1000000:=by
   grind [rl]
  rw [ah (fun h=>h hk),ah (fun h=>h ⟨by omega,ho⟩)]
  exact SK (fun e=>Hj (by omega)) h0.2 hp (by omega)
 grind [cV]
mutual
theorem ail:∀ s:Stmt,fD s≤50→SV p i s=some (vi (cV p i) s)
 | ⟨k,v,o,e,args,th,el⟩,h=>by
  rw [fD] at h
  have l1:=jU th
  have l2:=jU el
  rw [SV,vi,aal h0 hb hp,ab,af (show th.length≤9223372036854775807 by omega),af (show el.length≤9223372036854775807 by omega),Lr th (by omega),Lr el (by omega),ab]
  grind
theorem Lr:∀ l:List Stmt,bR l≤50→IM p i l=some (eU (cV p i) l)
 | [],_=>by rw [IM,eU]
 | s::r,h=>by
  rw [bR] at h
  rw [IM,eU,ail s (by omega),Lr r (by omega),ab]
  grind
end
theorem Wq{l:List Stmt}(hc:bR l≤50)(hd:ed l≤6):dI p i l=some (eU (cV p i) l):=by
 grind [jU,dI,Lr]
end
theorem pj1(p:Program):nM p=some (decide (16<p.Vars.length∨5<p.Ins.length∨5<p.Outs.length∨5<p.Funcs.length∨p.ak.Many<(p.Speak.length:Int))):=by
 grind [nM,iS]
abbrev XP:=Unit⊕(Unit⊕(Nat×Bool))
def aim:XP→Int
 | .inl _=>6
 | .inr (.inl _)=>5
 | .inr (.inr _)=>0
theorem apn{p:Program}(hv:p.Vars.length≤16)(j:Nat)(f:Func)(hl:f.Params.length≤4):∃ x,lp (fun v=>oE p f v) 0=some x∧aim x=uc p.Vars.length [] f.Params:=by
 refine eX (fun k=>f.Params.length - k) (fun k=>k≤f.Params.length∧uc p.Vars.length [] f.Params=uc p.Vars.length (f.Params.take k) (f.Params.drop k)) (fun x=>aim x=uc p.Vars.length [] f.Params) ?_ 0 ⟨du _,by simp⟩
 rintro k ⟨hk,hq⟩
 unfold oE
 by_cases c:k<f.Params.length
 ·rw [dU c,uc] at hq
  rw [af (show (k:Int)<(f.Params.length:Int) by omega),bu c,ab,af (fG (by omega) (by omega)),yp,ab]
  by_cases c1:f.Params[k]<0∨(p.Vars.length:Int)≤f.Params[k]
  ·rw [af c1] at hq
   rw [ah (show ¬decide (0≤f.Params[k]∧f.Params[k]≤(p.Vars.length:Int) - 1)=true by simp;omega)]
   exact .inl ⟨_,rfl,by rw [hq];rfl⟩
  ·rw [ah c1] at hq
   rw [af (show decide (0≤f.Params[k]∧f.Params[k]≤(p.Vars.length:Int) - 1)=true by simp;omega)]
   have ae:=pj (B:=fun v=>gR f k v) (f.Params.take k) (fun n=>n==f.Params[k]) id (x:=.inl ()) (y:=.inr (k,false))
    ((by grind [gR,eQ]))
    (fun m hm hp=>by
     have aq:m<k∧m<f.Params.length:=by simp at hm;omega
     grind [gR])
    (by
     grind [gR])
   have F:lp (fun v=>gR f k v) 0=_:=ae
   rw [F,ab]
   by_cases c2:f.Params[k]∈f.Params.take k
   ·rw [af c2] at hq
    rw [af ((by grind))]
    exact .inl ⟨_,rfl,by rw [hq];rfl⟩
   grind [eQ,take_one]
 ·rw [ah (show ¬(k:Int)<(f.Params.length:Int) by omega)]
  rw [jg (by omega),uc] at hq
  exact .inl ⟨_,rfl,by rw [hq];rfl⟩
abbrev XF:=Unit⊕(Unit⊕(Unit⊕(Int⊕(Nat×Bool))))
def ain:XF→Int
 | .inl _=>2
 | .inr (.inl _)=>6
 | .inr (.inr (.inl _))=>5
 | .inr (.inr (.inr (.inl e)))=>e
 | .inr (.inr (.inr (.inr _)))=>0
theorem apo{p:Program}(hb:p.Vars.length≤16∧p.Ins.length≤5∧p.Outs.length≤5∧p.Funcs.length≤5)(hp:∀ f∈p.Funcs,f.Params.length≤9223372036854775807)(hc:∀ f∈p.Funcs,bR f.Body≤50∧ed f.Body≤6) :
  ∃ x,lp (fun v=>oG p v) 0=some x∧ain x=mC p 0 p.Funcs∧(mC p 0 p.Funcs=0→∃ z,x= .inr (.inr (.inr (.inr z)))):=by
 refine eX (fun k=>p.Funcs.length - k) (fun k=>k≤p.Funcs.length∧mC p 0 p.Funcs=mC p k (p.Funcs.drop k)) (fun x=>ain x=mC p 0 p.Funcs∧(mC p 0 p.Funcs=0→∃ z,x= .inr (.inr (.inr (.inr z))))) ?_ 0 ⟨du _,by simp⟩
 rintro k ⟨hk,hq⟩
 unfold oG
 by_cases c:k<p.Funcs.length
 rotate_left
 ·rw [ah (show ¬(k:Int)<(p.Funcs.length:Int) by omega)]
  rw [jg (by omega),mC] at hq
  exact .inl ⟨_,rfl,by rw [hq];rfl,fun _=>⟨_,rfl⟩⟩
 rw [dU c,mC] at hq
 obtain ⟨b1,b2⟩:=hc _ (cg c)
 rw [af (show (k:Int)<(p.Funcs.length:Int) by omega),bu c,ab]
 generalize p.Funcs[k]=f at *
 have hw:IntKind.i64.wrap ((k:Int)+1)=((k+1:Nat):Int):=eQ (by omega)
 have N:∀ e:Int,j0 e=some (if e≠0 then .inl e else .inr (e,e !=0)):=by grind [j0]
 by_cases c1:4<f.Params.length
 ·have e1:uy p k f=2:=by grind [uy]
  rw [e1,af (by decide)] at hq
  rw [af (show (4:Int)<(f.Params.length:Int) by omega)]
  exact .inl ⟨_,rfl,by rw [hq];rfl,fun h=>by grind⟩
 rw [ah (show ¬(4:Int)<(f.Params.length:Int) by omega)]
 obtain ⟨x,hx,w⟩:=apn (p:=p) hb.1 k f (by omega)
 rw [hx,ab]
 rcases x with x | x | x
 ·have e1:uy p k f=6:=by unfold uy;rw [ah c1,←w];rfl
  rw [e1,af (by decide)] at hq
  exact .inl ⟨_,rfl,by rw [hq];rfl,fun h=>by grind⟩
 ·have e1:uy p k f=5:=by unfold uy;rw [ah c1,←w];rfl
  rw [e1,af (by decide)] at hq
  exact .inl ⟨_,rfl,by rw [hq];rfl,fun h=>by grind⟩
 have e1:uy p k f=if eU (cV p k) f.Body≠0 then eU (cV p k) f.Body else eP p f.Result:=by
  unfold uy;rw [ah c1,←w];rfl
 simp only
 rw [Wq (i:=(k:Int)) ⟨by omega,by omega⟩ hb hp b1 b2,ab]
 by_cases c2:eU (cV p k) f.Body=0
 ·rw [ah (fun h=>h c2)] at e1
  rw [af (show (eU (cV p k) f.Body==0)=true by simpa using c2),Hj (by omega),ab,N,ab]
  have e2:K3 (p.Vars.length:Int) f.Result=uy p k f:=e1.symm
  rw [e2]
  by_cases c3:uy p k f=0
  ·grind
  ·rw [af c3]
   rw [af c3] at hq
   exact .inl ⟨_,rfl,by rw [hq];rfl,by grind⟩
 ·rw [af c2] at e1
  rw [ah (show ¬(eU (cV p k) f.Body==0)=true by simpa using c2),N,ab,af c2]
  rw [e1,af c2] at hq
  exact .inl ⟨_,rfl,by rw [hq];rfl,by grind⟩
theorem amE{p:Program}(hp:∀ f∈p.Funcs,f.Params.length≤9223372036854775807):qC p=some (jV p):=by
 unfold qC jV tE
 rw [Ow,ab]
 by_cases a1:iw p.ak=0
 rotate_left
 ·grind
 obtain ⟨m1,m2,m3,m4⟩:=mU a1
 rw [ah (show ¬(iw p.ak !=0)=true by simpa using a1),pj1,ab]
 simp only [ne_eq,a1,not_true,cH]
 by_cases a2:16<p.Vars.length∨5<p.Ins.length∨5<p.Outs.length∨5<p.Funcs.length∨p.ak.Many<(p.Speak.length:Int)
 ·grind
 rw [ah (show ¬decide _=true by simpa using a2),ah a2]
 have hb:p.Vars.length≤16∧p.Ins.length≤5∧p.Outs.length≤5∧p.Funcs.length≤5:=by omega
 have V:=pj (B:=fun v=>gO p v) p.Speak (fun n=>!de p.ak.Many n) id (x:=.inl ()) (y:=.inr (p.Speak.length,false))
  ((by grind [gO,mW,iL]))
  ((by grind [gO,mW]))
  (by simp [gO])
 have D:lp (fun v=>gO p v) 0=_:=V
 rw [D,ab]
 cases a3:p.Speak.any (fun n=>!de p.ak.Many n) with
 | true=>simp
 | false=>
  simp only [dy,cH]
  rw [af (show ([]:List Label).length+p.Ins.length≤1000000000 by simp;omega),af (show (([]:List Label)++p.Ins).length+p.Outs.length≤1000000000 by simp;omega)]
  obtain ⟨x1,Q,X⟩:=eX (B:=fun v=>oC p v.1 v.2) (fun v=>p.Vars.length - v.2) (fun v=>v.2≤p.Vars.length∧v.1=(p.Ins++p.Outs)++(p.Vars.take v.2).map Var.Label) (fun x=>x.1=(p.Ins++p.Outs)++p.Vars.map Var.Label) (by
   rintro ⟨v,k⟩ ⟨hk,hv⟩
   simp only at hk hv ⊢
   unfold oC
   by_cases c:k<p.Vars.length
   ·rw [af (show (k:Int)<(p.Vars.length:Int) by omega),bu c,ab,af (by grind),af (eQ (by omega))]
    grind [take_one]
   simp_all [iC]) (([]++p.Ins)++p.Outs,0) ⟨du _,by simp⟩
  rw [Q,ab]
  have ar:x1.1.length≤26:=by grind
  obtain ⟨x2,P,K,ai⟩:=Qh (B:=fun v=>lx p x1 v) x1.1 (fw p.ak.Many) ((by grind [lx,QN,eQ])) ⟨(x1.1.length,false),by simp [lx]⟩
  rw [P,ab]
  have H:cT (fw p.ak.Many) x1.1=if cT (fw p.ak.Many) (p.Ins++p.Outs)≠0 then cT (fw p.ak.Many) (p.Ins++p.Outs) else cT (fun v:Var=>fw p.ak.Many v.Label) p.Vars:=by
   rw [X]
   generalize p.Ins++p.Outs=l
   have hm:∀ vs:List Var,cT (fw p.ak.Many) (vs.map Var.Label)=cT (fun v:Var=>fw p.ak.Many v.Label) vs:=by
    intro vs
    induction vs with
    | nil=>rfl
    | cons v vs ih=>grind [uO]
   induction l with
   | nil=>rw [gw,hm];rfl
   | cons y l ih=>
    grind [uO]
  by_cases a4:cT (fw p.ak.Many) x1.1=0
  rotate_left
  ·rcases x2 with y | z
   ·have hy:y=_:=K
    grind
   ·have hy:(0:Int)=_:=K
    grind
  obtain ⟨z,rfl⟩:=ai a4
  rw [H] at a4
  have a5:cT (fw p.ak.Many) (p.Ins++p.Outs)=0:=by
   grind
  rw [ah (fun h=>h a5)] at a4
  simp only [a5,a4,not_true,cH]
  have ad:=pj (B:=fun v=>gP p v) p.Vars (fun v=>!v.Known&&decide (0<v.Label.Read.length+v.Label.Write.length)) id (x:=.inl ()) (y:=.inr (p.Vars.length,false))
   ((by grind [eQ,gP]))
   ((by grind [gP]))
   (by simp [gP])
  have E:lp (fun v=>gP p v) 0=_:=ad
  rw [E,ab]
  cases a6:p.Vars.any (fun v=>!v.Known&&decide (0<v.Label.Read.length+v.Label.Write.length)) with
  | true=>simp
  | false=>
   simp only [dy,cH,not_true]
   obtain ⟨r,hr,r0,r1,r2,r3⟩:=QP p.Main
   rw [hr,ab]
   have t:∃ x,lp (fun v=>oD p v.1 v.2) (r,0)=some x∧((x.1≤50→(∀ f∈p.Funcs,ed f.Body≤6∧bR f.Body≤50)∧r≤50∧x.1=r+((p.Funcs.map fun f=>bR f.Body).sum:Nat))∧(r≤50→(∀ f∈p.Funcs,ed f.Body≤6)→r+((p.Funcs.map fun f=>bR f.Body).sum:Nat)≤50→x.1≤50)):=by
    refine eX (fun v=>p.Funcs.length - v.2) (fun v=>v.2≤p.Funcs.length∧0≤v.1∧v.1≤51*((v.2:Int)+1)∧r≤v.1∧(v.1≤50→(∀ f∈p.Funcs.take v.2,ed f.Body≤6∧bR f.Body≤50)∧r≤50∧v.1=r+(((p.Funcs.take v.2).map fun f=>bR f.Body).sum:Nat))∧(r≤50→(∀ f∈p.Funcs,ed f.Body≤6)→r+((p.Funcs.map fun f=>bR f.Body).sum:Nat)≤50→v.1=r+(((p.Funcs.take v.2).map fun f=>bR f.Body).sum:Nat))) _ ?_ (r,0) (by grind)
    rintro ⟨v,k⟩ ⟨hk,g0,g1,g2,g3,g4⟩
    simp only at hk g0 g1 g2 g3 g4 ⊢
    unfold oD
    by_cases c:k<p.Funcs.length
    ·obtain ⟨q,hq,q0,q1,q2,q3⟩:=QP p.Funcs[k].Body
     have U:((p.Funcs.map fun f=>bR f.Body).sum:Nat)=(((p.Funcs.take (k+1)).map fun f=>bR f.Body).sum:Nat)+(((p.Funcs.drop (k+1)).map fun f=>bR f.Body).sum:Nat):=by
      grind [List.take_append_drop]
     have W:(((p.Funcs.take (k+1)).map fun f=>bR f.Body).sum:Nat)=((p.Funcs.take k).map fun f=>bR f.Body).sum+bR p.Funcs[k].Body:=by
      grind [take_one]
     have T:∀ f∈p.Funcs.take (k+1),f∈p.Funcs.take k∨f=p.Funcs[k]:=by
      grind [take_one]
     have Z:p.Funcs[k]∈p.Funcs:=cg c
     rw [af (show (k:Int)<(p.Funcs.length:Int) by omega),bu c,ab,hq,ab,af (fG (by omega) (by omega)),af (eQ (by omega))]
     generalize p.Funcs[k]=g at *
     refine .inr ⟨_,rfl,⟨by simp only;omega,by simp only;omega,by simp only;omega,by simp only;omega,?_,?_⟩,by simp only;omega⟩
     ·simp only
      intro aw
      obtain ⟨p1,p2,p3⟩:=g3 (by omega)
      obtain ⟨p4,p5⟩:=q2 (by omega)
      refine ⟨fun f hf=>?_,p2,by omega⟩
      rcases T f hf with h | rfl
      ·exact p1 f h
      ·exact ⟨by omega,by omega⟩
     grind
    ·rw [ah (show ¬(k:Int)<(p.Funcs.length:Int) by omega)]
     rw [iC (by omega)] at g3 g4
     grind
   obtain ⟨x,hx,x1,x2⟩:=t
   rw [hx,ab]
   have G:(l7 p.Main p.Funcs 0).1=false↔50<x.1:=by
    constructor
    ·grind [SX]
    ·intro h
     cases hF:(l7 p.Main p.Funcs 0).1 with
     | false=>rfl
     | true=>
      have aj:l7 p.Main p.Funcs 0=(true,(l7 p.Main p.Funcs 0).2):=Prod.ext hF rfl
      obtain ⟨k1,k2,k3,k4,k5,k6⟩:=EU (by decide) (by decide) aj
      grind
   by_cases a7:50<x.1
   ·grind
   ·rw [ah a7,ah (fun h=>a7 (G.1 h))]
    obtain ⟨y1,y2,y3⟩:=x1 (by omega)
    obtain ⟨y4,y5⟩:=r2 y2
    obtain ⟨xf,O,w,al⟩:=apo hb hp ((by grind))
    rw [O,ab]
    by_cases a8:mC p 0 p.Funcs=0
    ·grind [Wq]
    ·rw [af a8,←w]
     rw [←w] at a8
     rcases xf with xf | xf | xf | xf | xf
     ·rfl
     ·rfl
     ·rfl
     ·rfl
     ·exact absurd rfl a8
end Go.Proofs.YtlmphbbhaeampaaGreat.A
