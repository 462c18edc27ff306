/- Regions whose order is drawn: whatever the order, what the order of the text gives. -/
import Derived.Test.YtkkkkondjclcnaaGreatAbsH
import Derived.Orders
set_option linter.all false
namespace Go.Proofs.YtkkkkondjclcnaaGreat.A
open Go
variable [bJ]
structure Se(s s':St):Prop where
 fr:∀ d,ax s.fr d=ax s'.fr d
 bx:∀ d,aO s.bx d=aO s'.bx d
 hp:s.hp=s'.hp
 mem:∀ y,y∈s.fr↔y∈s'.fr
theorem Se.refl(s:St):Se s s:=⟨fun _=>rfl,fun _=>rfl,rfl,fun _=>Iff.rfl⟩
theorem Se.symm{s s':St}(h:Se s s'):Se s' s:=⟨fun d=>(h.fr d).symm,fun d=>(h.bx d).symm,h.hp.symm,fun y=>(h.mem y).symm⟩
theorem Se.trans{s s' s'':St}(h:Se s s')(h':Se s' s''):Se s s'':=⟨fun d=>(h.fr d).trans (h'.fr d),fun d=>(h.bx d).trans (h'.bx d),h.hp.trans h'.hp,fun y=>(h.mem y).trans (h'.mem y)⟩
theorem Se.box{s s':St}(h:Se s s')(dp:Nat)(k:Key):s.box dp k=s'.box dp k:=by
 simp only [St.box,h.bx,h.hp]
theorem au.se{C:Cx}{s s':St}{a:Act}{w:World}{σ:Sp}(h:au C s a w σ)(hs:Se s s'):au C s' a w σ:=
 h.Bs (fun d=>.inr (hs.fr d).symm) (fun k cs hk=>by rw [hs.box];exact hk) (fun _ _ _ h=>by rw [hs.hp];exact h)
def fi{α:Type}(l:List (Nat×α)):List Nat:=l.map (·.1)
theorem nE(l r:List (Nat×AV))(d:Nat):ax (l++r) d=if d∈fi l then ax l d else ax r d:=by
 induction l with
 | nil=>simp [fi]
 | cons x l ih=>
  grind [ax,fi]
theorem Ad(l r:List (Nat×List AV))(d:Nat):aO (l++r) d=if d∈fi l then aO l d else aO r d:=by
 induction l with
 | nil=>simp [fi]
 | cons x l ih=>
  grind [aO,fi]
theorem rR(bx wb:List (Nat×List AV))(d:Nat):aO (Ba bx wb) d=match aO wb d with
  | some cs=>(aO bx d).map fun _=>cs
  | none=>aO bx d:=by
 induction wb with
 | nil=>rfl
 | cons x wb ih=>
  obtain ⟨k,y⟩:=x
  simp only [Ba,vY,aO]
  by_cases h:k=d
  ·subst h
   simp only [aq,ih]
   cases aO wb k with
   | none=>rfl
   | some cs=>cases aO bx k<;>rfl
  grind
theorem tQ{l:List (Nat×List AV)}{d:Nat}(h:d∉fi l):aO l d=none:=by
 induction l with
 | nil=>rfl
 | cons x l ih=>
  grind [fi,aO]
theorem Se.app{s s':St}(q:cj)(h:Se s s'):Se (q.app s) (q.app s'):=by
 refine ⟨fun d=>?_,fun d=>?_,?_,fun y=>by simp only [cj.app,bU,h.mem y]⟩
 ·simp only [cj.app,nE,h.fr]
 ·simp only [cj.app,Ad,rR,h.bx]
 ·simp only [cj.app,h.hp]
structure V0(q q':cj):Prop where
 fr:∀ d,d∈fi q.fr→d∉fi q'.fr
 nn:∀ d,d∈fi q.nb→d∉fi q'.nb
 nw:∀ d,d∈fi q.nb→d∉fi q'.wb
 wn:∀ d,d∈fi q.wb→d∉fi q'.nb
 ww:∀ d,d∈fi q.wb→d∉fi q'.wb
 hp:q.hp=none∨q'.hp=none
theorem T8{q q':cj}(h:V0 q q')(s:St):Se (q.app (q'.app s)) (q'.app (q.app s)):=by
 refine ⟨fun d=>?_,fun d=>?_,?_,by grind [cj.app]⟩
 ·simp only [cj.app,nE]
  by_cases h1:d∈fi q.fr
  ·simp [h1,h.fr d h1]
  ·simp [h1]
 ·simp only [cj.app,Ad,rR]
  by_cases h1:d∈fi q.nb
  ·have h2:=tQ (h.nw d h1)
   simp [h1,h.nn d h1,h2]
  ·by_cases h3:d∈fi q'.nb
   ·have h4:aO q.wb d=none:=tQ fun h5=>h.wn d h5 h3
    simp [h1,h3,h4]
   ·simp only [ad h1,ad h3]
    by_cases h5:d∈fi q.wb
    ·have:=tQ (h.ww d h5)
     rw [this]
    ·rw [tQ h5]
 ·simp only [cj.app]
  rcases h.hp with e | e<;>rw [e]<;>cases q.hp<;>cases q'.hp<;>first | rfl | cases e
def uw:oV→Bool
 | .st _ _ _=>true
 | _=>false
def mD(p:cp):Bool:=match p.p.o with
 | .ap _ _ _ _ _=>p.cs.length==2
 | _=>false
def mh(p:cp):Bool:=uw p.p.o||mD p
def Ge:oV→Bool
 | .al _=>true
 | _=>false
def yC(d:Option Nat):List Nat:=match d with
 | some d=>[d]
 | none=>[]
def gsl(p:cp):List Nat:=match p.p.g with
 | some (j,_)=>[j]
 | none=>[]
def MU(p:cp):List Nat:=yC p.p.d++p.cs
def rdS(p:cp):List Nat:=gsl p++p.vw
def OJ(p:cp):List Nat:=(if Ge p.p.o=true then yC p.p.d else [])++(if mh p=true then p.vb else [])
def DT(l m:List Nat):Bool:=l.all fun x=>!m.contains x
def zO(p q:cp):Bool:=DT (MU p) (rdS q)&&DT (MU q) (rdS p)&&DT (MU p) (MU q)&&DT (OJ p) q.vb&&DT (OJ q) p.vb&&DT (OJ p) (OJ q)&&!((mh p||mh q)&&p.vh&&q.vh)
theorem qU{l m:List Nat}(h:DT l m=true){x:Nat}(hx:x∈l):x∉m:=by
 have:=bH.1 h x hx
 simpa using this
theorem DU(bx:List (Nat×List AV))(ks:List Nat){d:Nat}(h:d∈fi (dk bx ks)):d∈ks:=by
 induction ks with
 | nil=>simp [dk,fi] at h
 | cons k ks ih=>
  grind [dk,fi]
section
variable {R:Rec}{Ω:du}{E:Env}
structure Small(p:cp)(q:cj):Prop where
 fr:∀ d,d∈fi q.fr→d∈MU p
 nb:∀ d,d∈fi q.nb→Ge p.p.o=true∧d∈yC p.p.d
 wb:∀ d,d∈fi q.wb→mh p=true∧d∈p.vb
 hp:q.hp≠none→mh p=true∧p.vh=true
theorem Gf{p:cp}{fr:List (Nat×AV)}(h:∀ d,d∈fi fr→d∈MU p):Small p ⟨fr,[],[],none⟩:=
 ⟨h,fun d hd=>by simp [fi] at hd,fun d hd=>by simp [fi] at hd,fun h=>absurd rfl h⟩
theorem BR(d:Option Nat)(x:AV):fi (iL d x)=yC d:=by cases d<;>rfl
theorem MV(p:cp)(r:AV×St):Small p (effect p r):=by
 have hgen:Small p ⟨iL p.p.d (eN p.p.fz r.1)++p.cs.map (fun m=>(m,.u)),[],[],none⟩:=Gf fun d hd=>by
  simp only [fi,cI,List.map_map] at hd
  rcases bU.1 hd with hd | hd
  ·have:d∈fi (iL p.p.d (eN p.p.fz r.1)):=hd
   rw [BR] at this
   exact gD _ this
  ·obtain ⟨m,hm,rfl⟩:=eH.1 hd
   exact jv _ hm
 unfold effect
 split
 ·rename_i zs ho
  split
  ·rename_i dd hd
   refine ⟨fun d h=>?_,fun d h=>⟨by rw [ho];rfl,?_⟩,fun d h=>by simp [fi] at h,fun h=>absurd rfl h⟩
   ·grind [fi,MU,yC]
   grind [fi,yC]
  grind [Gf,fi]
 ·rename_i ho
  refine ⟨fun d h=>?_,fun d h=>by simp [fi] at h,fun d h=>⟨by simp [mh,ho,uw],DU _ _ h⟩,fun h=>⟨by simp [mh,ho,uw],?_⟩⟩
  ·simp only [fi,List.map_map] at h
   obtain ⟨m,hm,rfl⟩:=eH.1 h
   exact jv _ hm
  by_cases hv:p.vh=true
  ·exact hv
  ·simp [hv] at h
 ·rename_i ho
  by_cases h2:(p.cs.length==2)=true
  ·have hw:mh p=true:=by grind [mh,mD]
   rw [ab h2]
   refine ⟨hgen.fr,fun d h=>by simp [fi] at h,by grind [DU],fun h=>⟨hw,?_⟩⟩
   grind
  grind
 ·exact hgen
theorem E5{p:cp}{s:St}{q:cj}(h:ei R Ω E p s=some q):Small p q:=by
 have hcore:∀ v q,je R Ω E p v=some q→Small p q:=by
  grind [je,Option.bind_eq_some_iff,MV]
 unfold ei at h
 split at h
 ·exact hcore _ _ h
 ·obtain ⟨y,_,h2⟩:=ah.1 h
  split at h2
  ·grind
  ·obtain rfl:=aa h2
   exact Gf fun d hd=>by rw [BR] at hd;exact gD _ hd
theorem NM{fr fr':List (Nat×AV)}{ks:List Nat}(h:∀ d∈ks,ax fr d=ax fr' d):ef fr ks=ef fr' ks:=
 qi fun d hd=>by rw [h d hd]
theorem NN{bx bx':List (Nat×List AV)}{ks:List Nat}(h:∀ d∈ks,aO bx d=aO bx' d):dk bx ks=dk bx' ks:=by
 induction ks with
 | nil=>rfl
 | cons k ks ih=>
  grind [dk]
structure Qa(p:cp)(s s':St):Prop where
 fr:∀ d∈rdS p,ax s.fr d=ax s'.fr d
 bx:∀ d∈p.vb,aO s.bx d=aO s'.bx d
 hp:p.vh=true→s.hp=s'.hp
theorem Qa.patch{p:cp}{s s':St}(h:Qa p s s'):ei R Ω E p s=ei R Ω E p s':=by
 have hv:view p s=view p s':=by
  unfold view
  rw [NM fun d hd=>h.fr d (jv _ hd),NN h.bx]
  by_cases hh:p.vh=true
  ·simp only [hh,aq,h.hp hh]
  grind
 unfold ei
 rw [hv]
 split
 ·rfl
 ·rename_i j want hg
  rw [h.fr j (gD _ (by unfold gsl;rw [hg];simp))]
theorem Se.akd{p:cp}{s s':St}(h:Se s s'):Qa p s s':=⟨fun d _=>h.fr d,fun d _=>h.bx d,fun _=>h.hp⟩
theorem MW{p p':cp}{q:cj}{s:St}(hq:Small p q)(hc:zO p p'=true):Qa p' (q.app s) s:=by
 simp only [zO,aA,iI] at hc
 obtain ⟨⟨⟨⟨⟨⟨c1,c2⟩,c3⟩,c4⟩,c5⟩,c6⟩,c7⟩:=hc
 refine ⟨fun d hd=>?_,fun d hd=>?_,fun hh=>?_⟩
 ·simp only [cj.app,nE]
  rw [ad]
  intro hm
  exact qU c1 (hq.fr d hm) hd
 ·simp only [cj.app,Ad,rR]
  have hnb:d∉fi q.nb:=fun hm=>by
   obtain ⟨h1,h2⟩:=hq.nb d hm
   exact qU c4 (gD _ (by grind)) hd
  have hwb:d∉fi q.wb:=fun hm=>by
   obtain ⟨h1,h2⟩:=hq.wb d hm
   exact qU c4 (jv _ (by grind)) hd
  grind [tQ]
 ·simp only [cj.app]
  cases hp:q.hp with
  | none=>rfl
  | some x=>
   obtain ⟨h1,h2⟩:=hq.hp (by rw [hp];simp)
   grind
theorem T9{p p':cp}{q q':cj}(hq:Small p q)(hq':Small p' q')(hc:zO p p'=true):V0 q q':=by
 simp only [zO,aA,iI] at hc
 obtain ⟨⟨⟨⟨⟨⟨c1,c2⟩,c3⟩,c4⟩,c5⟩,c6⟩,c7⟩:=hc
 have m1:∀ {p:cp}{q:cj}{d},Small p q→d∈fi q.nb→d∈OJ p:=fun hq h=>by
  obtain ⟨h1,h2⟩:=hq.nb _ h
  exact gD _ (by grind)
 have m2:∀ {p:cp}{q:cj}{d},Small p q→d∈fi q.wb→d∈OJ p:=fun hq h=>by
  obtain ⟨h1,h2⟩:=hq.wb _ h
  exact jv _ (by grind)
 refine ⟨fun d h h'=>qU c3 (hq.fr d h) (hq'.fr d h'),by grind [qU],by grind [qU],by grind [qU],by grind [qU],?_⟩
 cases h1:q.hp with
 | none=>exact .inl rfl
 | some x=>
  cases h2:q'.hp with
  | none=>exact .inr rfl
  | some y=>
   obtain ⟨h3,h4⟩:=hq.hp (by rw [h1];simp)
   obtain ⟨h5,h6⟩:=hq'.hp (by rw [h2];simp)
   grind
def px(R:Rec)(Ω:du)(E:Env)(gs:List cp):List Nat→St→St→Prop
 | [],s,t=>Se s t
 | i::π,s,t=>∃ p s1 s2,gs[i]? =some p∧Se s s1∧ej R Ω E s1 p=some s2∧px R Ω E gs π s2 t
variable {gs:List cp}
theorem px.se{π:List Nat}{s s' t:St}(h:px R Ω E gs π s' t)(hs:Se s s'):px R Ω E gs π s t:=by
 cases π with
 | nil=>exact Se.trans hs h
 | cons i π=>
  obtain ⟨p,s1,s2,h1,h2,h3,h4⟩:=h
  exact ⟨p,s1,s2,h1,hs.trans h2,h3,h4⟩
theorem px.text:∀ (ps:List cp)(i:Nat)(s t:St),gs.drop i=ps→kd R Ω E s ps=some t→px R Ω E gs (List.range' i ps.length) s t
 | [],i,s,t,_,he=>by
  obtain rfl:=aa he
  exact Se.refl _
 | p::ps,i,s,t,hi,he=>by
  obtain ⟨s2,h1,h2⟩:=ah.1 he
  rw [bu,yT]
  refine ⟨p,s,s2,?_,Se.refl _,h1,px.text ps (i+1) s2 t ?_ h2⟩
  ·have:(gs.drop i)[0]? =some p:=by rw [hi];rfl
   simpa using this
  ·rw [←List.drop_drop,hi];rfl
def xE(p q:cp):Bool:=false
theorem Se.ev{s s':St}(h:Se s s')(xs:List ba):xs.map s.ev=xs.map s'.ev:=by
 apply qi
 intro x _
 cases x with
 | c z=>rfl
 | t n=>exact h.fr n
theorem Se.put{s s':St}(h:Se s s')(d:Option Nat)(x:AV):Se (put s d x) (A.put s' d x):=by
 cases d with
 | none=>exact h
 | some d=>exact ⟨fun n=>by simp only [A.put,St.cV,ax];split<;>first | rfl | exact h.fr n,h.bx,h.hp,fun y=>by simp only [A.put,St.cV,cR,h.mem y]⟩
section
variable {p q:cp}{f:FuncId}{args:List ba}{sl dl ow:List Nat}{qq:cj}{s:St}
end
def Qb(gs:List cp)(i j:Nat):Prop:=∃ p q,gs[i]? =some p∧gs[j]? =some q∧((p.lt=true∧q.lt=true∧zO p q=true)∨xE p q=true∨xE q p=true)
theorem px.swap{i j:Nat}{π:List Nat}{s t:St}(hf:Qb gs i j)(h:px R Ω E gs (i::j::π) s t):px R Ω E gs (j::i::π) s t:=by
 obtain ⟨p,q,hp,hq,hcase⟩:=hf
 obtain ⟨p',s1,s2,h1,h2,h3,q',s3,s4,h4,h5,h6,h7⟩:=h
 obtain rfl:p=p':=by grind
 obtain rfl:q=q':=by grind
 rcases hcase with ⟨hpl,hql,hc⟩ | hc | hc
 rotate_left
 ·exact absurd hc (by simp [xE])
 ·exact absurd hc (by simp [xE])
 simp only [ej,ab hpl] at h3
 simp only [ej,ab hql] at h6
 obtain ⟨pp,hpp,he⟩:=ah.1 h3
 obtain rfl:=aa he
 obtain ⟨qq,hqq,he'⟩:=ah.1 h6
 obtain rfl:=aa he'
 have hc':zO q p=true:=by
  grind [zO,DT]
 have sp:=E5 hpp
 have sq:=E5 hqq
 have e1:ei R Ω E q s1=some qq:=by
  rw [←hqq]
  exact ((MW sp hc).patch.symm.trans (Se.akd h5).patch)
 have e2:ei R Ω E p (qq.app s1)=some pp:=by
  rw [←hpp]
  exact (MW sq hc').patch
 refine ⟨q,s1,qq.app s1,hq,h2,by grind [ej],p,qq.app s1,pp.app (qq.app s1),hp,Se.refl _,by grind [ej],?_⟩
 exact h7.se ((T8 (T9 sp sq hc) s1).trans (h5.app qq))
theorem px.front{i:Nat}{B:List Nat}{t:St} : ∀ (A:List Nat)(s:St),(∀ a∈A,Qb gs a i)→px R Ω E gs (A++i::B) s t→px R Ω E gs (i::(A++B)) s t
 | [],_,_,h=>h
 | a::A,s,hf,h=>by
  obtain ⟨p,s1,s2,h1,h2,h3,h4⟩:=h
  exact px.swap (hf a (by simp)) ⟨p,s1,s2,h1,h2,h3,px.front A s2 (fun b hb=>hf b (by simp [hb])) h4⟩
end
variable [bJ]
def MX:oV→Bool
 | .al _=>true
 | .bs _ _ _=>true
 | .ms _ _ _ _ _=>true
 | .ap _ _ _ _ _=>true
 | _=>false
def gO(p:cp):Bool:=
 match p.p.o with
 | .bx _=>false
 | .c2 _ _=>false
 | .d2 _ _=>false
 | .cn _ _=>false
 | .cr _ _ _=>false
 | .cm _ _ _ _=>false
 | .st _ _ y=>p.p.d==none&&(p.cs==[]||match y with
  | .t m=>p.cs==[m]
  | .c _=>false)
 | .ap _ _ _ x _=>match x with
  | .t m=>p.cs==[m]||p.cs==[m,m]
  | .c _=>p.cs==[]
 | _=>p.cs==[]
structure lz(dp:Nat)(s:St)(h:Nat):Prop where
 fr:∀ d,(ax s.fr d).cC ⟨dp,h⟩=true∧(ax s.fr d).ji (.s h)=false
 cs:∀ d cs,aO s.bx d=some cs→∀ c∈cs,c.cC ⟨dp,h⟩=true
theorem lz.of{dp:Nat}{s:St}{h:Nat}(hf:sn dp s h=true):lz dp s h:=by
 simp only [sn,aA] at hf
 refine ⟨fun d=>?_,fun d cs hb c hc=>nh (nx _ hf.2 d cs hb) c hc⟩
 have:=qB (p:=fun y=>y.cC ⟨dp,h⟩&&!y.ji (.s h)) rfl _ hf.1.2 d
 simpa using this
theorem lz.se{dp:Nat}{s s':St}{h:Nat}(hf:lz dp s h)(hs:Se s s'):lz dp s' h:=
 ⟨fun d=>by rw [←hs.fr];exact hf.fr d,fun d cs hb=>hf.cs d cs (by rw [hs.bx];exact hb)⟩
def rS(dp:Nat)(s:St)(h:Nat):Prop:=∀ d,jR ⟨dp,h⟩ (ax s.fr d)=false
theorem rS.se{dp:Nat}{s s':St}{h:Nat}(hf:rS dp s h)(hs:Se s s'):rS dp s' h:=fun d=>by rw [←hs.fr];exact hf d
theorem Ua{k:Key}{off:Nat}{x:AV}(h:x.ji (.c k off)=true):jR k x=true:=by
 cases x with
 | r pl=>
   have:pl= .c k off:=by simpa [AV.ji] using h
   subst this;simp [jR]
 | v pl lo len=>
   have:pl= .c k off:=by simpa [AV.ji] using h
   subst this;simp [jR]
 | q pl i sz off'=>
   have:pl= .c k off:=by simpa [AV.ji] using h
   subst this;simp [jR]
 | _=>cases h
section
variable {C:Cx}{s:St}{a:Act}{w:World}{σ:Sp}{o:Oper}{R:Rec}{Ω:du}
theorem Jp(p:cp)(s:St)(dp:Nat):Le dp (view p s) s:=by
 refine ⟨GX s.fr p.vw,fun k cs hk=>?_⟩
 by_cases hd:k.dp=dp
 ·simp only [St.box,view,hd,aq] at hk ⊢
  exact de hk
 ·simp only [St.box,view,ad hd] at hk ⊢
  split at hk
  ·exact hk
  ·cases hk
theorem HX{p:cp}{r:AV×St}(h1:Ge p.p.o=false)(h2:mh p=false):effect p r=⟨iL p.p.d (eN p.p.fz r.1)++p.cs.map (fun m=>(m,.u)),[],[],none⟩:=by
 unfold effect
 split
 ·rename_i ho;rw [ho] at h1;cases h1
 ·rename_i ho;simp [mh,ho,uw] at h2
 ·rename_i ho
  have:(p.cs.length==2)=false:=by simpa [mh,mD,ho,uw] using h2
  simp [this]
 ·rfl
theorem R8(d:Option Nat)(x:AV)(s:St)(d':Nat):ax (iL d x++s.fr) d'=ax (A.put s d x).fr d':=by cases d<;>rfl
theorem oo(cs:List Nat)(fr:List (Nat×AV))(d:Nat):ax (cs.map (fun m=>(m,AV.u))++fr) d=if d∈cs then .u else ax fr d:=by
 induction cs with
 | nil=>simp
 | cons c cs ih=>
  simp only [bZ,eu,ax,cR,ih]
  by_cases h:c=d
  ·subst h;simp
  ·have h':¬d=c:=fun e=>h e.symm
   simp [h,h']
theorem finish{p:cp}{q:cj}{x:AV}{s':St}{K:Act→World→Prop}{Q:Exit→Act→World→Prop}(hdst:o.dst=p.p.d)(hd:∀ dd,p.p.d=some dd→dd<C.nt)(hsim:eo C o p.p.d a w σ s' x)
  (hfr:∀ d',ax (q.app s).fr d'= .u∨ax (q.app s).fr d'=ax (A.put s' p.p.d (eN p.p.fz x)).fr d') (hbx:∀ k cs,(q.app s).box C.E.dp k=some cs→s'.box C.E.dp k=some cs)
  (hhp:∀ k cs,k.dp≠C.E.dp→(q.app s).hp k=some cs→s'.hp k=some cs) (hK:∀ a' w' σ',cM C w σ w' σ'→au C (q.app s) a' w' σ'→K a' w'):o.wp C.P a w K Q:=by
 refine hsim _ _ fun cv w' σ' hop=>?_
 obtain ⟨σ'',hs,hc⟩:=hop.ab4 hd p.p.fz
 rw [hdst]
 refine hK _ _ _ hs (hc.Bs hfr (fun k cs hk=>?_) (fun k cs hk hc=>?_))
 ·have:=hbx k cs hk
  cases p.p.d<;>exact this
 ·have:=hhp k cs hk hc
  cases p.p.d<;>exact this
theorem Gg{dp:Nat}{p:cp}{s:St}{k:Key}{cs nw:List AV}(fr:List (Nat×AV))(hb:(view p s).box dp k=some cs) :
  (∀ k' cs',((⟨fr,[],dk ((view p s).aK dp k nw).bx p.vb,if p.vh=true then some ((view p s).aK dp k nw).hp else none⟩:cj).app s).box dp k'=some cs'→(s.aK dp k nw).box dp k'=some cs')∧
  (∀ k' cs',k'.dp≠dp→((⟨fr,[],dk ((view p s).aK dp k nw).bx p.vb,if p.vh=true then some ((view p s).aK dp k nw).hp else none⟩:cj).app s).hp k'=some cs'→(s.aK dp k nw).hp k'=some cs'):=by
 have hb':=(Jp p s dp).bx k cs hb
 refine ⟨fun k' cs' hk'=>?_,fun k' cs' hkd hk'=>?_⟩
 ·rw [iP hb']
  by_cases hkd':k'.dp=dp
  ·simp only [St.box,hkd',aq,cj.app,ea,rR] at hk'
   by_cases hkd:k.dp=dp
   ·simp only [St.aK,hkd,aq] at hk'
    by_cases hkk:k'=k
    ·subst hkk
     rw [ab rfl]
     have hvb:aO (view p s).bx k'.d=some cs:=by simpa [St.box,hkd] using hb
     have hin:k'.d∈p.vb:=by
      have:∀ ks,aO (dk s.bx ks) k'.d=some cs→k'.d∈ks:=by
       intro ks hks
       refine DU s.bx ks ?_
       apply lT
       intro hno
       rw [tQ hno] at hks;cases hks
      exact this p.vb hvb
     have hkeep:∀ (bx:List (Nat×List AV))(ks:List Nat)(d:Nat),d∈ks→aO (dk bx ks) d=aO bx d:=by
      intro bx ks d
      induction ks with
      | nil=>intro h;cases h
      | cons c ks ih=>
       intro hm
       simp only [dk]
       cases hc2:aO bx c with
       | none=>
        simp only
        rcases cR.1 hm with rfl | hm
        ·cases hq2:aO (dk bx ks) d with
         | none=>exact hc2.symm
         | some z=>have:=de hq2;rw [hc2] at this;cases this
        ·exact ih hm
       | some z=>
        simp only [aO]
        by_cases hcd:c=d
        ·subst hcd;rw [ab rfl,hc2]
        ·rw [ad hcd]
         rcases cR.1 hm with rfl | hm
         ·exact absurd rfl hcd
         ·exact ih hm
     rw [hkeep _ _ _ hin,vY,ab rfl,hvb] at hk'
     have hsb:aO s.bx k'.d=some cs:=by simpa [St.box,hkd] using hb'
     rw [hsb] at hk'
     exact hk'
    ·rw [ad hkk]
     have hne:k'.d≠k.d:=fun e=>hkk (by cases k;cases k';simp at hkd hkd' e;rw [hkd,hkd',e])
     simp only [St.box,hkd',aq]
     cases hq:aO (dk (nP (view p s).bx k.d nw) p.vb) k'.d with
     | none=>rw [hq] at hk';exact hk'
     | some z=>
      rw [hq] at hk'
      have h1:=de hq
      rw [vY,ad hne] at h1
      have h2:aO s.bx k'.d=some z:=de h1
      rw [h2] at hk' ⊢
      exact hk'
   ·simp only [St.aK,ad hkd] at hk'
    have hkk:k'≠k:=fun e=>hkd (e▸hkd')
    rw [ad hkk]
    simp only [St.box,hkd',aq]
    cases hq:aO (dk (view p s).bx p.vb) k'.d with
    | none=>rw [hq] at hk';exact hk'
    | some z=>
     rw [hq] at hk'
     have h1:=de hq
     have h2:aO s.bx k'.d=some z:=de h1
     rw [h2] at hk' ⊢
     exact hk'
  ·simp only [St.box,ad hkd',cj.app] at hk' ⊢
   by_cases hkd:k.dp=dp
   ·have hkk:k'≠k:=fun e=>hkd' (e▸hkd)
    rw [ad hkk]
    simp only [St.aK,hkd,aq] at hk'
    by_cases hv:p.vh=true
    ·simp only [hv,aq,kt,view] at hk';exact hk'
    ·simp only [ad hv,Option.getD_none] at hk';exact hk'
   ·by_cases hv:p.vh=true
    ·simp only [St.aK,ad hkd,hv,aq,kt,view,aF] at hk'
     exact hk'
    ·exfalso
     simp only [St.box,ad hkd,view,ad hv] at hb
     cases hb
 ·by_cases hkd2:k.dp=dp
  ·simp only [St.aK,hkd2,aq] at hk' ⊢
   by_cases hv:p.vh=true
   ·simp only [cj.app,hv,aq,kt,view] at hk';exact hk'
   ·simp only [cj.app,ad hv,Option.getD_none] at hk';exact hk'
  ·simp only [St.aK,ad hkd2] at hk' ⊢
   by_cases hv:p.vh=true
   ·simp only [cj.app,hv,aq,kt,view] at hk';exact hk'
   ·exfalso
    simp only [St.box,ad hkd2,view,ad hv] at hb
    cases hb
theorem au.W9{p:cp}{r:AV×St}{K:Act→World→Prop}{Q:Exit→Act→World→Prop}(hR:lX C.P R)(hΩ:iA C.P Ω)(h:au C s a w σ)(hlo:bC C.P p.p.o o.op=true)(hdst:o.dst=p.p.d)(hd:∀ dd,p.p.d=some dd→dd<C.nt)
  (hk:gO p=true) (hfree:MX p.p.o=true→∀ dd,p.p.d=some dd→lz C.E.dp s dd) (hlt:lE (view p s) p.p.o=true) (hls:eG C.E.dp p (view p s)=true) (hfb:uN p.p.o p.cs=true→∀ h∈p.vb,rS C.E.dp s h) (hr:execOp R Ω C.E (view p s) p.p.d p.p.o=some r)
  (hK:∀ a' w' σ',cM C w σ w' σ'→au C ((effect p r).app s) a' w' σ'→K a' w'):o.wp C.P a w K Q:=by
 have hle:=Jp p s C.E.dp
 have wv:Ge p.p.o=false→mh p=false→∀ s',eo C o p.p.d a w σ s' r.1→(∀ d',d'∈p.cs∨p.p.d=some d'∨ax s.fr d'=ax s'.fr d')→(∀ k,s'.box C.E.dp k=s.box C.E.dp k)→s'.hp=s.hp→o.wp C.P a w K Q:=by
  intro h1 h2 s' he hf hb hh
  have he2:=HX (r:=r) h1 h2
  rw [he2] at hK
  refine finish hdst hd he (fun d'=>?_) (fun k cs hk=>?_) (fun k cs _ hk=>?_) hK
  ·simp only [cj.app,lO]
   rw [nE,BR]
   cases hdd:p.p.d with
   | none=>
    rw [ad (by simp [yC]),oo]
    by_cases hm:d'∈p.cs
    ·rw [ab hm];exact .inl rfl
    ·rw [ad hm]
     rcases hf d' with h3 | h3 | h3
     ·exact absurd h3 hm
     ·rw [hdd] at h3;cases h3
     ·exact .inr h3
   | some dd=>
    by_cases hm:d'=dd
    ·subst hm
     rw [ab (by simp [yC])]
     exact .inr (by simp [iL,ax,A.put,St.cV])
    ·rw [ad (by simp [yC,hm]),oo]
     by_cases hm2:d'∈p.cs
     ·rw [ab hm2];exact .inl rfl
     ·rw [ad hm2]
      rcases hf d' with h3 | h3 | h3
      ·exact absurd h3 hm2
      ·rw [hdd] at h3;exact absurd (aa h3).symm hm
      ·refine .inr ?_
       simp only [A.put,St.cV,ax,ad (fun e=>hm (Eq.symm e))]
       exact h3
  ·rw [hb];exact hk
  ·rw [hh];exact hk
 have plain:Ge p.p.o=false→mh p=false→∀ s',execOp R Ω C.E s p.p.d p.p.o=some (r.1,s')→(∀ d',d'∈p.cs∨p.p.d=some d'∨ax s.fr d'=ax s'.fr d')→(∀ k,s'.box C.E.dp k=s.box C.E.dp k)→s'.hp=s.hp→o.wp C.P a w K Q:=
  fun h1 h2 s' he hf hb hh=>wv h1 h2 s' (Da hR hΩ p.p.o h hlo he) hf hb hh
 have hdrop:∀ {dd},p.p.d=some dd→lz C.E.dp s dd→∀ d',d'∈p.cs∨p.p.d=some d'∨ax s.fr d'=ax (s.aZ (.s dd)).fr d':=by
  intro dd _ hf d'
  refine .inr (.inr ?_)
  simp only [St.aZ,mJ,(hf.fr d').2,bB,aM]
 cases hao:p.p.o with
 | bx x=>simp [gO,hao] at hk
 | c2 f args=>simp [gO,hao] at hk
 | d2 x args=>simp [gO,hao] at hk
 | cn f args=>simp [gO,hao] at hk
 | c3 f args=>
  rw [hao] at hr hlo
  obtain ⟨_,h2⟩:=Ob (d:=p.p.d) hR.h h (fun x hx=>hle.ev rfl hx) hle.bx hlo hr
  exact wv (by rw [hao];rfl) (by simp [mh,mD,hao,uw]) s h2 (fun d'=>.inr (.inr rfl)) (fun _=>rfl) rfl
 | d3 x args=>
  rw [hao] at hr hlo
  obtain ⟨_,h2⟩:=Oc (d:=p.p.d) hR.h h (fun x hx=>hle.ev rfl hx) hle.bx hlo hr
  exact wv (by rw [hao];rfl) (by simp [mh,mD,hao,uw]) s h2 (fun d'=>.inr (.inr rfl)) (fun _=>rfl) rfl
 | cr t f args=>simp [gO,hao] at hk
 | cm t f args x=>simp [gO,hao] at hk
 | as x=>
  rw [hao] at hr hlt hlo
  refine plain (by rw [hao];rfl) (by simp [mh,mD,hao,uw]) s ?_ (fun d'=>.inr (.inr rfl)) (fun _=>rfl) rfl
  rw [hao]
  have hc:((view p s).ev x).copy=true:=hlt
  have hx:=hle.ev rfl (v7 hc)
  cases x with
  | c z=>
   simp only [execOp] at hr ⊢
   split at hr
   ·rename_i hp
    obtain rfl:=aa hr
    rw [ab hp]
   ·cases hr
  | t n=>
   have hx':ax s.fr n=ax (view p s).fr n:=hx
   simp only [execOp] at hr ⊢
   have hc':(ax (view p s).fr n).copy=true:=hc
   rw [hx']
   generalize ax (view p s).fr n=y at hr hc'
   cases y<;>first | (simp [AV.copy] at hc';done) | skip
   all_goals
    simp only [hc',vJ,aq] at hr ⊢
    obtain rfl:=aa hr
    rfl
 | bs t sz es=>
  rw [hao] at hr hlt hlo
  simp only [execOp] at hr
  obtain ⟨dd,hdd,hr1⟩:=ah.1 hr
  have hf:=hfree (by rw [hao];rfl) dd hdd
  split at hr1
  ·rename_i hall
   obtain rfl:=aa hr1
   refine plain (by rw [hao];rfl) (by simp [mh,mD,hao,uw]) (s.aZ (.s dd)) ?_ (hdrop hdd hf) (fun _=>rfl) rfl
   rw [hao]
   have hm:=hle.map (xs:=es) fun x hx=>by
    have:=bH.1 hall _ (ox hx)
    simp only [aA] at this
    exact ab5 this.1.1
   simp only [execOp,hdd,af,hm,ab hall]
  ·cases hr1
 | ms t sz by_ z n=>
  rw [hao] at hr hlt hlo
  simp only [execOp] at hr
  obtain ⟨dd,hdd,hr1⟩:=ah.1 hr
  obtain ⟨m,hm,hr2⟩:=ah.1 hr1
  have hf:=hfree (by rw [hao];rfl) dd hdd
  split at hr2
  ·rename_i hc
   obtain rfl:=aa hr2
   refine plain (by rw [hao];rfl) (by simp [mh,mD,hao,uw]) (s.aZ (.s dd)) ?_ (hdrop hdd hf) (fun _=>rfl) rfl
   rw [hao]
   simp only [execOp,hdd,af,hle.nat hm,ab hc]
  ·cases hr2
 | ap t sz by_ x y=>
  rw [hao] at hr hlt hlo
  simp only [execOp] at hr
  obtain ⟨dd,hdd,hr1⟩:=ah.1 hr
  obtain ⟨ys,hys,hr2⟩:=ah.1 hr1
  obtain ⟨qq,hqq,hr3⟩:=ah.1 hr2
  have hf:=hfree (by rw [hao];rfl) dd hdd
  split at hr3
  ·rename_i hc
   obtain rfl:=aa hr3
   have hyu:(view p s).ev y≠.u:=by intro e;rw [e] at hys;cases hys
   by_cases hrc:Ih ((view p s).ev x)=true
   ·
    have h2:(p.cs.length==2)=true:=by
     have:=hls
     simp only [eG,hao,hrc] at this
     simpa using this
    cases x with
    | c z=>
     exfalso
     unfold A.consume at hqq
     cases z<;>first | (simp [St.ev,Ih] at hrc;done) | cases hqq
    | t m=>
     have hcs:p.cs=[m,m]:=by
      have:=hk
      simp only [gO,hao,jw,cS] at this
      rcases this with e | e
      ·rw [e] at h2;cases h2
      ·exact e
     have hx:∃ k off,ax (view p s).fr m= .r (.c k off):=by
      have h3:Ih (ax (view p s).fr m)=true:=hrc
      generalize ax (view p s).fr m=z at h3
      cases z<;>first | (cases h3;done) | skip
      rename_i pl
      cases pl with
      | s d=>cases h3
      | c k off=>exact ⟨k,off,rfl⟩
     obtain ⟨k,off,hx⟩:=hx
     unfold A.consume at hqq
     simp only [hx] at hqq
     split at hqq
     ·rename_i hmine
      obtain ⟨rw1,hrow,hq1⟩:=ah.1 hqq
      split at hq1
      ·rename_i htt
       obtain ⟨st',hput,hq2⟩:=ah.1 hq1
       obtain rfl:=aa hq2
       simp only [St.putAt] at hput
       split at hput
       ·rename_i cs0 hb
        obtain rfl:=aa hput
        have hb':=hle.bx k cs0 hb
        have hrow':s.rowAt C.E.dp (.c k off)=some rw1:=by
         simp only [St.rowAt,hb] at hrow
         simp only [St.rowAt,hb']
         exact hrow
        have hcon:A.consume C.E s t (.t m)=some (rw1.2,s.aK C.E.dp k (cs0.set off .u)):=by
         simp only [A.consume,hle.slot hx (by simp),ab hmine,hrow',af,ab htt,St.putAt,hb']
        have hex:execOp R Ω C.E s p.p.d p.p.o=some (.o t (rw1.2++ys.2),(s.aK C.E.dp k (cs0.set off .u)).aZ (.s dd)):=by
         rw [hao]
         simp only [execOp,hdd,af,hle.ev (x:=y) rfl hyu,hle.elems hys,hcon,ab hc]
        have hsim:=Da hR hΩ p.p.o h (by rw [hao];exact hlo) hex
        have he:∀ r:AV×St,effect p r=⟨iL p.p.d (eN p.p.fz r.1)++p.cs.map (fun m=>(m,.u)),[],dk r.2.bx p.vb,if p.vh=true then some r.2.hp else none⟩:=by
         intro r
         unfold effect
         simp only [hao,h2,aq,jr]
        rw [he] at hK
        obtain ⟨sb1,sb2⟩:=Gg (nw:=cs0.set off .u) (iL p.p.d (eN p.p.fz (.o t (rw1.2++ys.2)))++p.cs.map (fun m=>(m,AV.u))) hb
        refine finish hdst hd hsim (fun d'=>?_) sb1 sb2 hK
        simp only [cj.app,lO]
        rw [nE,BR,hdd]
        by_cases hm:d'=dd
        ·subst hm
         rw [ab (by simp [yC])]
         exact .inr (by simp [iL,ax,A.put,St.cV])
        ·rw [ad (by simp [yC,hm]),oo]
         split
         ·exact .inl rfl
         ·refine .inr ?_
          simp only [A.put,St.cV,ax,ad (fun e=>hm (Eq.symm e)),St.aZ,mJ,oh,(hf.fr d').2,bB,aM]
       ·cases hput
      ·cases hq1
     ·cases hqq
   have hnw:mh p=false:=by
    have:=hls
    simp only [eG,hao,cS] at this
    simp only [mh,mD,hao,uw,js,←this]
    simpa using hrc
   have hcon:∃ s1:St,A.consume C.E s t x=some (qq.1,s1)∧(∀ d',d'∈p.cs∨ax s.fr d'=ax s1.fr d')∧(∀ k,s1.box C.E.dp k=s.box C.E.dp k)∧s1.hp=s.hp∧(∀ d',(ax s1.fr d').ji (.s dd)=false):=by
    unfold A.consume at hqq
    split at hqq
    ·obtain rfl:=aa hqq
     exact ⟨s,rfl,fun _=>.inr rfl,fun _=>rfl,rfl,fun d'=>(hf.fr d').2⟩
    ·cases hqq
    ·rename_i m
     have hcs:m∈p.cs:=by
      have:=hk
      simp only [gO,hao,jw,cS] at this
      rcases this with e | e<;>rw [e]<;>simp
     split at hqq
     ·rename_i hx
      obtain rfl:=aa hqq
      refine ⟨s,?_,fun _=>.inr rfl,fun _=>rfl,rfl,fun d'=>(hf.fr d').2⟩
      simp only [A.consume,hle.slot hx (by simp)]
     ·rename_i t' es hx
      split at hqq
      ·rename_i htt
       obtain rfl:=aa hqq
       refine ⟨s.cV m .u,?_,fun d'=>?_,fun _=>rfl,rfl,fun d'=>?_⟩
       ·simp only [A.consume,hle.slot hx (by simp),ab htt]
       ·rw [lA]
        by_cases hm:m=d'
        ·exact .inl (hm▸hcs)
        ·exact .inr (by rw [ad hm])
       ·rw [lA]
        split
        ·rfl
        ·exact (hf.fr d').2
      ·cases hqq
     ·rename_i pl hx
      simp only [lE,St.ev,hx] at hlt
      simp only [Ih,St.ev,hx] at hrc
      cases pl with
      | s d=>cases hlt
      | c k off=>exact absurd rfl hrc
     ·rename_i pl lo len hx
      simp only [lE,St.ev,hx] at hlt
      cases hlt
     ·cases hqq
   obtain ⟨s1,h1,h2,h3,h4,h5⟩:=hcon
   refine plain (by rw [hao];rfl) hnw (s1.aZ (.s dd)) ?_ (fun d'=>?_) (fun k=>h3 k) h4
   ·rw [hao]
    simp only [execOp,hdd,af,hle.ev (x:=y) rfl hyu,hle.elems hys,h1,ab hc]
   ·rcases h2 d' with h6 | h6
    ·exact .inl h6
    ·refine .inr (.inr ?_)
     simp only [St.aZ,mJ,h5 d',bB,aM]
     exact h6
  ·cases hr3
 | al zs=>
  rw [hao] at hr hlt hlo
  simp only [execOp] at hr
  obtain ⟨dd,hdd,hr1⟩:=ah.1 hr
  have hf:=hfree (by rw [hao];rfl) dd hdd
  split at hr1
  ·rename_i hcd
   have hd6:dd<1000000:=by simp only [iK,aA,df] at hcd;exact hcd.1.1.2
   obtain rfl:=aa hr1
   have he:effect p (.p ⟨C.E.dp,dd⟩ 0,{(view p s) with bx:=(dd,zs)::(view p s).bx})=⟨[(dd,.p ⟨C.E.dp,dd⟩ 0)],[(dd,zs)],[],none⟩:=by
    unfold effect
    rw [hao,hdd]
   rw [he] at hK
   refine finish (s:=s) hdst hd (N8 (d:=p.p.d) h hd6 hlo hdd (fun d'=>(hf.fr d').1) (fun d' cs' hb c hc=>hf.cs d' cs' hb c hc)) (fun d'=>.inr ?_) (fun k cs hk=>?_) (fun k cs _ hk=>?_) hK
   ·rw [hdd]
    have:eN p.p.fz (.p ⟨C.E.dp,dd⟩ 0)= .p ⟨C.E.dp,dd⟩ 0:=by cases p.p.fz<;>rfl
    rw [this]
    rfl
   ·by_cases hkd:k.dp=C.E.dp
    ·simp only [St.box,cj.app,hkd,aq,Ba,eu,ea] at hk ⊢
     exact hk
    ·simp only [St.box,cj.app,ad hkd] at hk ⊢
     exact hk
   ·exact hk
  ·cases hr1
 | st n x y=>
  rw [hao] at hr hlt hlo
  have hdn:p.p.d=none:=by
   have:=hk
   simp only [gO,hao,aA,cS] at this
   exact this.1
  simp only [lE,aA,jw] at hlt
  obtain ⟨hyc,hxp⟩:=hlt
  have hyu:(view p s).ev y≠.u:=by
   intro e;rw [e] at hyc;rcases hyc with h | h<;>cases h
  have hy:=hle.ev rfl hyu
  have heff:∀ r:AV×St,effect p r=⟨p.cs.map (fun m=>(m,.u)),[],dk r.2.bx p.vb,if p.vh=true then some r.2.hp else none⟩:=by
   intro r
   unfold effect
   rw [hao]
  simp only [execOp] at hr
  split at hr
  ·rename_i k off hx
   split at hr
   ·rename_i hm
    obtain ⟨cs,hb,hr1⟩:=ah.1 hr
    have hb':=hle.bx k cs hb
    split at hr1
    ·rename_i t' es hyy
     have hrow:uE ((view p s).ev y)=true:=by rw [hyy];rfl
     have hls2:=hls
     simp only [eG,hao,hrow,hx,ou,js,aA,df,cS] at hls2
     obtain ⟨⟨hkd,hvb⟩,hcs⟩:=hls2
     cases y with
     | c z=>cases hcs
     | t m=>
      have hcs':p.cs=[m]:=by simpa using hcs
      have hfb':rS C.E.dp s k.d:=hfb (by rw [hao];simp [uN,hcs']) k.d (by rw [hvb];simp)
      simp only at hr1
      split at hr1
      ·rename_i hc
       obtain rfl:=aa hr1
       have hex:execOp R Ω C.E s p.p.d p.p.o=some (.u,((s.cV m .u).aZ (.c k off)).aK C.E.dp k (cs.set off (.o t' es))):=by
        rw [hao]
        simp only [execOp,hle.ev hx (by simp),ab hm,hb',af,hy,hyy]
        rw [ab hc]
       have hsim:=Da (r:=(.u,((s.cV m .u).aZ (.c k off)).aK C.E.dp k (cs.set off (.o t' es)))) hR hΩ p.p.o h (by rw [hao];exact hlo) hex
       rw [heff,hcs'] at hK
       have hbx0:∀ nw,(((view p s).cV m .u).aZ (.c k off)).aK C.E.dp k nw=({((view p s).aK C.E.dp k nw) with fr:=(((view p s).cV m .u).aZ (.c k off)).fr} : St):=by
        intro nw
        simp only [St.aK,hkd,aq,St.aZ,St.cV]
       rw [hbx0] at hK
       obtain ⟨sb1,sb2⟩:=Gg (nw:=cs.set off (.o t' es)) [(m,.u)] hb
       have hbx1:∀ nw k',((((s.cV m .u).aZ (.c k off)).aK C.E.dp k nw).box C.E.dp k')=(s.aK C.E.dp k nw).box C.E.dp k':=by
        intro nw k'
        simp only [St.aK,hkd,aq,St.aZ,St.cV,St.box]
       have hhp1:∀ nw,((((s.cV m .u).aZ (.c k off)).aK C.E.dp k nw).hp)=(s.aK C.E.dp k nw).hp:=by
        intro nw
        simp only [St.aK,hkd,aq,St.aZ,St.cV]
       refine finish hdst hd hsim (fun d'=>?_) (fun k' cs' hk'=>?_) (fun k' cs' hkd' hk'=>?_) hK
       ·rw [hdn]
        simp only [cj.app,A.put,oh,bZ,kB,eu,ea,ax]
        by_cases hmd:m=d'
        ·rw [ab hmd];exact .inl rfl
        ·rw [ad hmd]
         refine .inr ?_
         simp only [St.aZ,St.cV,mJ,ax,ad hmd]
         rw [ad]
         intro hbor
         have:=hfb' d'
         rw [←hkd] at this
         rw [Ua hbor] at this;cases this
       ·rw [hbx1];exact sb1 k' cs' hk'
       ·rw [hhp1];exact sb2 k' cs' hkd' hk'
      ·cases hr1
    ·rename_i pl lo len hyy
     rw [hyy] at hyc;rcases hyc with h | h<;>cases h
    ·rename_i hyo hyv
     have hyc':((view p s).ev y).copy=true:=by
      rcases hyc with h | h
      ·exact h
      ·exfalso
       generalize (view p s).ev y=z at h hyo
       cases z<;>first | (exact hyo _ _ rfl) | (exact absurd rfl (hyo _ _)) | (cases h;done)
     split at hr1
     ·rename_i hc
      obtain rfl:=aa hr1
      have hex:execOp R Ω C.E s p.p.d p.p.o=some (.u,s.aK C.E.dp k (putCells cs off ((view p s).ev y).cl)):=by
       rw [hao]
       simp only [execOp,hle.ev hx (by simp),ab hm,hb',af,hy]
       rw [ab hc]
      have hsim:=Da (r:=(.u,s.aK C.E.dp k (putCells cs off ((view p s).ev y).cl))) hR hΩ p.p.o h (by rw [hao];exact hlo) hex
      rw [heff] at hK
      obtain ⟨sb1,sb2⟩:=Gg (nw:=putCells cs off ((view p s).ev y).cl) (p.cs.map fun m=>(m,AV.u)) hb
      refine finish hdst hd hsim (fun d'=>?_) sb1 sb2 hK
      rw [hdn]
      simp only [cj.app,A.put,oh]
      rw [oo]
      split
      ·exact .inl rfl
      ·exact .inr rfl
     ·cases hr1
   ·cases hr
  ·rename_i hx
   rw [hx] at hxp;cases hxp
  ·cases hr
 | _=>
  have hqk:qk p.p.o=true:=by rw [hao];rfl
  obtain ⟨_,h2⟩:=K4 hle hqk hlt hr
  exact plain (by rw [hao];rfl) (by simp [mh,mD,hao,uw]) s h2 (fun d'=>.inr (.inr rfl)) (fun _=>rfl) rfl
end
variable [bJ]
section
variable {C:Cx}{s:St}{a:Act}{w:World}{σ:Sp}{o:Oper}{R:Rec}{Ω:du}
theorem au.ahY{nt i:Nat}{ops:Array Oper}{p:cp}{q:cj}{K:Act→World→Prop}{Q:Exit→Act→World→Prop}(hR:lX C.P R)(hΩ:iA C.P Ω)(h:au C s a w σ)(ho:ops[i]? =some o)(hl:Db C.P nt ops o p.p=true)(hnt:nt≤C.nt)
  (hk:gO p=true) (hfree:MX p.p.o=true→∀ dd,p.p.d=some dd→lz C.E.dp s dd) (hfb:uN p.p.o p.cs=true→∀ h∈p.vb,rS C.E.dp s h) (hq:ei R Ω C.E p s=some q) (hK:∀ a' w' σ',cM C w σ w' σ'→au C (q.app s) a' w' σ'→K a' w'):wpOp C.P ops Q i K a w:=by
 obtain ⟨hlo,hdst,hd,hgd⟩:=Ft hl hnt
 obtain ⟨hg1,hg2⟩:=h.guard hgd
 have hcore:je R Ω C.E p (view p s)=some q→o.wp C.P a w K Q:=by
  intro hc
  unfold je at hc
  split at hc
  ·rename_i hlt
   obtain ⟨r,hr,h2⟩:=ah.1 hc
   split at h2
   ·obtain rfl:=aa h2
    simp only [aA] at hlt
    exact h.W9 hR hΩ hlo hdst hd hk hfree hlt.1 hlt.2 hfb hr hK
   ·cases h2
  ·cases hc
 simp only [wpOp,ho]
 unfold ei at hq
 split at hq
 ·rename_i hgn
  rw [ab (hg1 hgn)]
  exact .inl (hcore hq)
 ·rename_i j want hgs
  obtain ⟨y,hy,hq1⟩:=ah.1 hq
  have hwt:=hg2 j want y hgs hy
  split at hq1
  ·rename_i hyt
   rw [ab (by rw [hwt,hyt])]
   exact .inl (hcore hq1)
  ·rename_i hyf
   rw [ad (by rw [hwt];exact hyf)]
   refine hK _ _ _ (.refl _ _ _) ?_
   rw [←aa hq1,hdst]
   refine (h.VP hd).se ⟨fun d'=>?_,fun d'=>?_,?_,fun y=>?_⟩
   ·simp only [cj.app];rw [R8]
   ·cases p.p.d<;>rfl
   ·cases p.p.d<;>rfl
   ·cases p.p.d<;>exact Iff.rfl
theorem BS{s:St}{dp:Nat}{k:Key}{cs zs:List AV}{d:Nat}(h:aO (s.aK dp k cs).bx d=some zs):aO s.bx d=some zs∨zs=cs:=by
 unfold St.aK at h
 split at h
 ·simp only [vY] at h
  split at h
  ·rename_i e
   cases hb:aO s.bx k.d with
   | none=>rw [hb] at h;cases h
   | some z=>
    rw [hb] at h
    exact .inr (aa h).symm
  ·exact .inl h
 ·exact .inl h
theorem acD{k:Key}{y:AV}(h:y.cC k=true):∀ c∈y.cl,c.cC k=true:=by
 intro c hc
 cases y<;>simp only [AV.cl,fw] at hc<;>first | (subst hc;exact h) | skip
 exact nh (by simpa [AV.cC] using h) c hc
theorem lz.step{p:cp}{q:cj}{h:Nat}{op:Op}(hf:lz C.E.dp s h)(hlo:bC C.P p.p.o op=true)(hk:gO p=true)(hn:h∈p.nk)(hq:ei R Ω C.E p s=some q):lz C.E.dp (q.app s) h:=by
 have hle:=Jp p s C.E.dp
 have hvf:∀ d,(ax (view p s).fr d).cC ⟨C.E.dp,h⟩=true:=fun d=>by
  rcases hle.fr d with e | e
  ·rw [e];rfl
  ·rw [e];exact (hf.fr d).1
 have hgen:∀ (x:AV)(cs:List Nat),x.cC ⟨C.E.dp,h⟩=true→x.ji (.s h)=false→lz C.E.dp ((⟨iL p.p.d x++cs.map (fun m=>(m,.u)),[],[],none⟩:cj).app s) h:=by
  intro x cs hx hb
  refine ⟨fun d=>?_,hf.cs⟩
  simp only [cj.app,lO]
  rw [nE]
  split
  ·rename_i hm
   cases hd:p.p.d with
   | none=>rw [hd] at hm;simp [iL,fi] at hm
   | some dd=>
    rw [hd] at hm
    simp only [iL,fi,bZ,kB,fw] at hm
    subst hm
    simp [iL,ax,hx,hb]
  ·rw [oo]
   split
   ·exact ⟨rfl,rfl⟩
   ·exact hf.fr d
 have hcore:je R Ω C.E p (view p s)=some q→lz C.E.dp (q.app s) h:=by
  intro hc
  unfold je at hc
  split at hc
  ·rename_i hlt2
   have hlt:=(vP.1 hlt2).1
   obtain ⟨r,hr,h2⟩:=ah.1 hc
   split at h2
   ·rename_i hok2
    have hok:=(vP.1 hok2).1
    obtain rfl:=aa h2
    have hx:r.1.cC ⟨C.E.dp,h⟩=true∧r.1.ji (.s h)=false:=by
     have:=bH.1 hok h hn
     simpa using this
    have hfz:(eN p.p.fz r.1).cC ⟨C.E.dp,h⟩=true∧(eN p.p.fz r.1).ji (.s h)=false:=by
     cases p.p.fz with
     | false=>simpa [eN] using hx
     | true=>cases hr1:r.1<;>rw [hr1] at hx<;>first | exact hx | exact ⟨rfl,rfl⟩
    by_cases hal:Ge p.p.o=true
    ·cases hao:p.p.o<;>rw [hao] at hal<;>simp [Ge] at hal
     case al zs=>
      rw [hao] at hr hlo
      simp only [execOp] at hr
      obtain ⟨dd,hdd,hr1⟩:=ah.1 hr
      split at hr1
      ·obtain rfl:=aa hr1
       have he:effect p (.p ⟨C.E.dp,dd⟩ 0,{(view p s) with bx:=(dd,zs)::(view p s).bx})=⟨[(dd,.p ⟨C.E.dp,dd⟩ 0)],[(dd,zs)],[],none⟩:=by
        unfold effect
        rw [hao,hdd]
       rw [he]
       refine ⟨fun d=>?_,fun d cs hb c hc=>?_⟩
       ·simp only [cj.app,eu,ea,ax]
        split
        ·exact hx
        ·exact hf.fr d
       ·simp only [cj.app,eu,ea,aO,Ba] at hb
        split at hb
        ·obtain rfl:=aa hb
         exact lM c (Wm hlo c hc)
        ·exact hf.cs d cs hb c hc
      ·cases hr1
    ·by_cases hst:uw p.p.o=true
     ·cases hao:p.p.o<;>rw [hao] at hst<;>simp [uw] at hst
      rename_i n x y
      rw [hao] at hr hlo hlt
      simp only [lE,aA,jw] at hlt
      obtain ⟨hyc,hxp⟩:=hlt
      have hyk:((view p s).ev y).cC ⟨C.E.dp,h⟩=true:=by
       cases y with
       | t m=>exact hvf m
       | c z=>
        have hp:z.pure=true:=by
         simp only [bC] at hlo
         split at hlo
         ·simp only [aA] at hlo
          exact sY hlo.1.2
         ·cases hlo
        exact lM z hp
      have hcs:∀ d cs,aO r.2.bx d=some cs→∀ c∈cs,c.cC ⟨C.E.dp,h⟩=true:=by
       simp only [execOp] at hr
       split at hr
       ·rename_i k off hx'
        split at hr
        ·rename_i hm
         obtain ⟨cs0,hb0,hr1⟩:=ah.1 hr
         split at hr1
         ·rename_i t' es hyy
          split at hr1
          ·rename_i m
           split at hr1
           ·obtain rfl:=aa hr1
            intro d cs hb c hc
            rcases BS hb with h3 | rfl
            ·exact hf.cs d cs (de h3) c hc
            ·rcases iH hc with hc | rfl
             ·by_cases hkd:k.dp=C.E.dp
              ·have h4:aO (view p s).bx k.d=some cs0:=by simpa [St.box,hkd] using hb0
               exact hf.cs k.d cs0 (de h4) c hc
              ·simp only [St.aK,ad hkd] at hb
               exact hf.cs d _ (de hb) c (by rcases iH ‹c∈_› with h | h<;>first | exact ‹_› | assumption)
             ·rfl
           ·cases hr1
          ·cases hr1
         ·rename_i pl lo len hyy
          rw [hyy] at hyc;rcases hyc with h | h<;>cases h
         ·split at hr1
          ·obtain rfl:=aa hr1
           intro d cs hb c hc
           rcases BS hb with h3 | rfl
           ·exact hf.cs d cs (de h3) c hc
           ·
            by_cases hkd:k.dp=C.E.dp
            ·rcases xZ hc with hc | hc
             ·have h4:aO (view p s).bx k.d=some cs0:=by simpa [St.box,hkd] using hb0
              exact hf.cs k.d cs0 (de h4) c hc
             ·exact acD hyk c hc
            ·simp only [St.aK,ad hkd] at hb
             exact hf.cs d _ (de hb) c hc
          ·cases hr1
        ·cases hr
       ·rename_i hx'
        rw [hx'] at hxp;cases hxp
       ·cases hr
      have he:effect p r=⟨p.cs.map (fun m=>(m,.u)),[],dk r.2.bx p.vb,if p.vh=true then some r.2.hp else none⟩:=by
       unfold effect
       rw [hao]
      rw [he]
      refine ⟨fun d=>?_,fun d cs hb c hc=>?_⟩
      ·simp only [cj.app]
       rw [oo]
       split
       ·exact ⟨rfl,rfl⟩
       ·exact hf.fr d
      simp only [cj.app,ea,rR] at hb
      split at hb
      ·rename_i zs hz
       cases hb2:aO s.bx d with
       | none=>rw [hb2] at hb;cases hb
       | some z=>
        rw [hb2] at hb
        obtain rfl:=aa hb
        exact hcs d _ (de hz) c hc
      ·exact hf.cs d cs hb c hc
     ·by_cases hra:mD p=true
      ·unfold mD at hra
       split at hra
       ·rename_i t sz by_ x y hao
        rw [hao] at hr hlt
        have he:effect p r=⟨iL p.p.d (eN p.p.fz r.1)++p.cs.map (fun m=>(m,.u)),[],dk r.2.bx p.vb,if p.vh=true then some r.2.hp else none⟩:=by
         unfold effect
         simp only [hao,hra,aq,jr]
        rw [he]
        simp only [execOp] at hr
        obtain ⟨dd,hdd,hr1⟩:=ah.1 hr
        obtain ⟨ys,hys,hr2⟩:=ah.1 hr1
        obtain ⟨qq,hqq,hr3⟩:=ah.1 hr2
        have hcs:∀ d cs,aO qq.2.bx d=some cs→∀ c∈cs,c.cC ⟨C.E.dp,h⟩=true:=by
         unfold A.consume at hqq
         split at hqq
         ·obtain rfl:=aa hqq
          exact fun d cs hb c hc=>hf.cs d cs (de hb) c hc
         ·cases hqq
         ·rename_i m
          split at hqq
          ·obtain rfl:=aa hqq
           exact fun d cs hb c hc=>hf.cs d cs (de hb) c hc
          ·split at hqq
           ·obtain rfl:=aa hqq
            exact fun d cs hb c hc=>hf.cs d cs (de hb) c hc
           ·cases hqq
          ·rename_i pl hx
           split at hqq
           ·obtain ⟨rw1,hrow,hq1⟩:=ah.1 hqq
            split at hq1
            ·obtain ⟨st',hput,hq2⟩:=ah.1 hq1
             obtain rfl:=aa hq2
             cases pl with
             | s d'=>simp only [lE,St.ev,hx] at hlt;cases hlt
             | c k off=>
              simp only [St.putAt] at hput
              split at hput
              ·rename_i cs0 hb0
               obtain rfl:=aa hput
               intro d cs hb c hc
               rcases BS hb with h3 | rfl
               ·exact hf.cs d cs (de h3) c hc
               ·rcases iH hc with hc | rfl
                ·by_cases hkd:k.dp=C.E.dp
                 ·have h4:aO (view p s).bx k.d=some cs0:=by simpa [St.box,hkd] using hb0
                  exact hf.cs k.d cs0 (de h4) c hc
                 ·simp only [St.aK,ad hkd] at hb
                  exact hf.cs d _ (de hb) c (by rcases iH ‹c∈_› with h | h<;>first | exact ‹_› | assumption)
                ·rfl
              ·cases hput
            ·cases hq1
           ·cases hqq
          ·rename_i pl lo len hx
           simp only [lE,St.ev,hx] at hlt
           cases hlt
          ·cases hqq
        have hbx:r.2.bx=qq.2.bx:=by
         split at hr3
         ·obtain rfl:=aa hr3;rfl
         ·cases hr3
        refine ⟨fun d=>(hgen _ _ hfz.1 hfz.2).fr d,fun d cs hb c hc=>?_⟩
        simp only [cj.app,ea,rR] at hb
        split at hb
        ·rename_i zs hz
         cases hb2:aO s.bx d with
         | none=>rw [hb2] at hb;cases hb
         | some z=>
          rw [hb2] at hb
          obtain rfl:=aa hb
          rw [hbx] at hz
          exact hcs d _ (de hz) c hc
        ·exact hf.cs d cs hb c hc
       ·cases hra
      ·rw [HX (by simpa using hal) (by simp only [mh,Bool.or_eq_false_iff];exact ⟨by simpa using hst,by simpa using hra⟩)]
       exact hgen _ _ hfz.1 hfz.2
   ·cases h2
  ·cases hc
 unfold ei at hq
 split at hq
 ·exact hcore hq
 ·obtain ⟨y,hy,hq1⟩:=ah.1 hq
  split at hq1
  ·exact hcore hq1
  ·obtain rfl:=aa hq1
   have:=hgen .sk [] rfl rfl
   simpa using this
end
theorem rS.step{dp:Nat}{ro:Bool}{s:St}{R:Rec}{Ω:du}{p:cp}{q:cj}{h:Nat}(hf:rS dp s h)(hn:h∈p.nb)(hq:ei R Ω ⟨dp,ro⟩ p s=some q):rS dp (q.app s) h:=by
 have hput:∀ (x:AV)(cs:List Nat)(nb wb:List (Nat×List AV))(hp:Option HP),jR ⟨dp,h⟩ x=false→rS dp ((⟨iL p.p.d x++cs.map (fun m=>(m,.u)),nb,wb,hp⟩:cj).app s) h:=by
  intro x cs nb wb hp hx d
  simp only [cj.app,lO]
  rw [nE]
  split
  ·rename_i hm
   cases hd:p.p.d with
   | none=>rw [hd] at hm;simp [iL,fi] at hm
   | some dd=>
    rw [hd] at hm
    simp only [iL,fi,bZ,kB,fw] at hm
    subst hm
    simp [iL,ax,hx]
  ·rw [oo]
   split
   ·rfl
   ·exact hf d
 have hcore:je R Ω ⟨dp,ro⟩ p (view p s)=some q→rS dp (q.app s) h:=by
  intro hc
  unfold je at hc
  split at hc
  ·obtain ⟨r,hr,h2⟩:=ah.1 hc
   split at h2
   ·rename_i hok2
    have hok:=(vP.1 hok2).2
    obtain rfl:=aa h2
    have hx:jR ⟨dp,h⟩ r.1=false:=by
     have:=bH.1 (vP.1 hok).1 h hn
     simpa using this
    have hfz:jR ⟨dp,h⟩ (eN p.p.fz r.1)=false:=by
     cases p.p.fz with
     | false=>simpa [eN] using hx
     | true=>cases hr1:r.1<;>rw [hr1] at hx<;>first | exact hx | rfl
    unfold effect
    split
    ·split
     ·rename_i dd hd
      intro d
      simp only [cj.app,eu,ea,ax]
      split
      ·exact hx
      ·exact hf d
     ·intro d;exact hf d
    ·intro d
     simp only [cj.app]
     rw [oo]
     split
     ·rfl
     ·exact hf d
    ·exact hput _ _ _ _ _ hfz
    ·exact hput _ _ _ _ _ hfz
   ·cases h2
  ·cases hc
 unfold ei at hq
 split at hq
 ·exact hcore hq
 ·obtain ⟨y,hy,hq1⟩:=ah.1 hq
  split at hq1
  ·exact hcore hq1
  ·obtain rfl:=aa hq1
   have:=hput .sk [] [] [] none rfl
   simpa using this
def jh(o:Oper):List Nat:=(o.after.toList.filter fun e=>Region.binds .any e).map (·.on)
def R9(acc:List Nat)(l:List Nat):Nat:=l.foldl (fun s e=>s|||(1 <<< e)|||acc.getD e 0) 0
def zP(acc:List Nat):List (List Nat)→List Nat
 | []=>acc
 | l::r=>zP (acc++[R9 acc l]) r
theorem MY(f:Nat→Nat)(i:Nat):∀ (l:List Nat)(s:Nat),(l.foldl (fun s e=>s|||(1 <<< e)|||f e) s).testBit i=true→s.testBit i=true∨∃ e∈l,e=i∨(f e).testBit i=true
 | [],s,h=>.inl h
 | e::l,s,h=>by
  simp only [qb] at h
  rcases MY f i l _ h with h | ⟨e',he',h⟩
  ·simp only [Nat.testBit_or,jw] at h
   rcases h with (h | h) | h
   ·exact .inl h
   ·refine .inr ⟨e,by simp,.inl ?_⟩
    rw [Nat.one_shiftLeft,Nat.testBit_two_pow] at h
    simpa using h
   ·exact .inr ⟨e,by simp,.inr h⟩
  ·exact .inr ⟨e',by simp [he'],h⟩
theorem MZ:∀ (L:List (List Nat))(acc:List Nat)(A:List (List Nat)),acc.length=A.length→
  (∀ j i,j<acc.length→(acc.getD j 0).testBit i=true→i∈A.getD j []∨∃ e∈A.getD j [],e<j∧(acc.getD e 0).testBit i=true)→
  ∀ j i,((zP acc L).getD j 0).testBit i=true→i∈(A++L).getD j []∨∃ e∈(A++L).getD j [],e<j∧((zP acc L).getD e 0).testBit i=true
 | [],acc,A,hl,h,j,i,hb=>by
  rw [qg]
  simp only [zP] at hb ⊢
  by_cases hj:j<acc.length
  ·exact h j i hj hb
  ·rw [cb,vM (by omega)] at hb
   simp at hb
 | l::L,acc,A,hl,h,j,i,hb=>by
  have:=MZ L (acc++[R9 acc l]) (A++[l]) (by simp [hl]) (fun j i hj hb=>?_) j i hb
  ·simpa [zP] using this
  ·simp only [cH,ov] at hj
   simp only [cb] at hb ⊢
   by_cases hlt:j<acc.length
   ·rw [oz hlt] at hb
    rw [oz (by omega)]
    rcases h j i hlt (by simpa [cb] using hb) with h1 | ⟨e,he,h2,h3⟩
    ·exact .inl (by simpa [cb] using h1)
    ·refine .inr ⟨e,by simpa [cb] using he,h2,?_⟩
     rw [oz (by omega)]
     simpa [cb] using h3
   ·have hje:j=acc.length:=by omega
    subst hje
    rw [tF (aS _)] at hb
    rw [tF (by omega),hl]
    simp only [Nat.sub_self,yV,kt] at hb ⊢
    rcases MY (fun e=>acc.getD e 0) i l 0 hb with h1 | ⟨e,he,h1 | h1⟩
    ·simp at h1
    ·exact .inl (h1▸he)
    ·have hea:e<acc.length:=by
      apply lT
      intro hn
      rw [cb,vM (by omega)] at h1
      simp at h1
     refine .inr ⟨e,he,by omega,?_⟩
     rw [oz hea]
     simpa [cb] using h1
def Sa(gs:List cp)(i j:Nat):Bool:=
 match gs[i]?,gs[j]? with
 | some p,some q=>(p.lt&&q.lt&&zO p q)||xE p q||xE q p
 | _,_=>false
def BT(P:Program)(nt:Nat)(ops:Array Oper):List Oper→List cp→Bool
 | [],[]=>true
 | o::os,g::gs=>Db P nt ops o g.p&&(!g.lt||gO g)&&BT P nt ops os gs
 | _,_=>false
def Ub(q:cp)(dd:Nat):Bool:=false
theorem lz.ahZ{R:Rec}{Ω:du}{E:Env}{s s2:St}{p:cp}{h:Nat}(hf:lz E.dp s h)(hc:Ub p h=true)(he:ej R Ω E s p=some s2):lz E.dp s2 h:=by cases hc
def ake(M:List Nat)(gs:List cp)(n k dd:Nat):Bool:=
 (List.range n).all fun i=>i==k||(M.getD i 0).testBit k||(match gs[i]? with
  | some q=>(q.lt&&q.nk.contains dd)||Ub q dd
  | none=>true)
def V1(M:List Nat)(gs:List cp)(mks:List Nat)(n:Nat):Bool:=
 (List.range n).all fun k=>match gs[k]? with
  | some p=>!p.lt||!MX p.p.o||(match p.p.d with
   | some dd=>mks.contains dd&&ake M gs n k dd
   | none=>true)
  | none=>true
def OK(M:List Nat)(gs:List cp)(n:Nat):Bool:=(List.range n).all fun j=>(List.range j).all fun i=>(M.getD j 0).testBit i||Sa gs i j
def acE(M:List Nat)(gs:List cp)(n:Nat):Bool:=
 (List.range n).all fun k=>match gs[k]? with
  | some p=>!p.lt||!uN p.p.o p.cs||p.vb.all fun h=>(List.range n).all fun i=>i==k||(M.getD i 0).testBit k||(match gs[i]? with
   | some q=>q.lt&&q.nb.contains h
   | none=>true)
  | none=>true
def HY(P:Program)(nt:Nat)(ops:Array Oper)(mks:List Nat)(gs:List cp):Bool:=
 P.follows .mixedOrders&&BT P nt ops ops.toList gs&&((List.range ops.size).all fun i=>match ops[i]? with
  | some o=>(jh o).all fun e=>decide (e<i)
  | none=>true)&&
 OK (zP [] (ops.toList.map jh)) gs ops.size&&V1 (zP [] (ops.toList.map jh)) gs mks ops.size&&acE (zP [] (ops.toList.map jh)) gs ops.size
theorem DV{P:Program}{nt:Nat}{ops:Array Oper} : ∀ {os:List Oper}{gs:List cp},BT P nt ops os gs=true→os.length=gs.length∧∀ (i:Nat)(o:Oper)(p:cp),os[i]? =some o→gs[i]? =some p→Db P nt ops o p.p=true∧(p.lt=true→gO p=true)
 | [],[],_=>⟨rfl,fun i o p h=>by simp at h⟩
 | o::os,g::gs,h=>by
  simp only [BT,aA] at h
  obtain ⟨h1,h2⟩:=DV h.2
  refine ⟨by simp [h1],fun i o' p ho hp=>?_⟩
  cases i with
  | zero=>
   obtain rfl:o=o':=by simpa using ho
   obtain rfl:g=p:=by simpa using hp
   refine ⟨h.1.1,fun hl=>?_⟩
   have:=h.1.2
   rw [hl] at this
   simpa using this
  | succ i=>exact h2 i o' p (by simpa using ho) (by simpa using hp)
 | [],_::_,h=>by simp [BT] at h
 | _::_,[],h=>by simp [BT] at h
section
variable {C:Cx}{st:St}{a:Act}{w:World}{σ:Sp}{R:Rec}{Ω:du}
def mi(n:Nat)(listed:Array Bool):List Nat:=(List.range n).filter fun i=>!listed.getD i true
theorem Qc{ops:Array Oper}{listed:Array Bool}(hback:∀ i o,ops[i]? =some o→∀ e∈jh o,e<i)(hcl:∀ j o,ops[j]? =some o→listed.getD j false=true→∀ e∈jh o,listed.getD e false=true) :
  ∀ (j:Nat)(o:Oper),ops[j]? =some o→(∀ e∈jh o,listed.getD e false=true)→∀ i,((zP [] (ops.toList.map jh)).getD j 0).testBit i=true→listed.getD i false=true:=by
 intro j
 induction j using Nat.strongRecOn with
 | _ j ih=>
  intro o ho haft i hb
  have hspec:=MZ (ops.toList.map jh) [] [] rfl (fun j i hj=>by simp at hj) j i hb
  rw [ea] at hspec
  have hget:(ops.toList.map jh).getD j []=jh o:=by
   rw [cb,gw,vG,ho];rfl
  rw [hget] at hspec
  rcases hspec with h1 | ⟨e,he,hej,h2⟩
  ·exact haft i h1
  ·have hel:=haft e he
   have hes:e<ops.size:=by have:=nq.1 ho;obtain ⟨h3,_⟩:=this;omega
   have hoe:ops[e]? =some ops[e]:=ku hes
   exact ih e hej ops[e] hoe (hcl e _ hoe hel) i h2
theorem J5{o:Oper}{listed:Array Bool} : (o.after.all fun e=>!Region.binds .any e||listed.getD e.on false)=true↔∀ e∈jh o,listed.getD e false=true:=by
 rw [yP]
 constructor
 ·intro h e he
  obtain ⟨x,hx,rfl⟩:=eH.1 he
  obtain ⟨h1,h2⟩:=tH.1 hx
  have:=h x (by simpa using h1)
  simpa [h2] using this
 ·intro h x hx
  by_cases hb:Region.binds .any x=true
  ·have:=h x.on (eH.2 ⟨x,tH.2 ⟨by simpa using hx,hb⟩,rfl⟩)
   simp [this]
  ·simp [hb]
theorem mem_ready{ops:Array Oper}{listed:Array Bool}{i:Nat} : i∈Region.ready .any ops listed↔∃ o,ops[i]? =some o∧listed.getD i true=false∧∀ e∈jh o,listed.getD e false=true:=by
 unfold Region.ready
 rw [tH]
 constructor
 ·rintro ⟨h1,h2⟩
  have hi:i<ops.size:=by simpa using h1
  refine ⟨ops[i],ku hi,?_⟩
  simp only [ku hi,gv,kt,aA,iI] at h2
  exact ⟨h2.1,J5.1 h2.2⟩
 ·rintro ⟨o,ho,h1,h2⟩
  have hi:i<ops.size:=(nq.1 ho).1
  refine ⟨by simpa using hi,?_⟩
  simp only [ho,gv,kt,aA,iI]
  exact ⟨h1,J5.2 h2⟩
theorem J6{listed:Array Bool}{n i:Nat}(hs:listed.size=n)(hi:i<n)(x y:Bool):listed.getD i x=listed.getD i y:=by
 have:i<listed.size:=by omega
 simp [this]
theorem au.any{nt:Nat}{ops:Array Oper}{Q:Exit→Act→World→Prop}{gs:List cp}{t:St}(hR:lX C.P R)(hΩ:iA C.P Ω)(hnt:nt≤C.nt)
  (hds:BT C.P nt ops ops.toList gs=true) (hback:∀ i o,ops[i]? =some o→∀ e∈jh o,e<i) (hpairs:OK (zP [] (ops.toList.map jh)) gs ops.size=true) {mks:List Nat} (hmks:V1 (zP [] (ops.toList.map jh)) gs mks ops.size=true) (hrws:acE (zP [] (ops.toList.map jh)) gs ops.size=true) :
  ∀ (fuel:Nat)(listed:Array Bool)(s:St)(a:Act)(w:World)(σ:Sp),listed.size=ops.size→fuel=(mi ops.size listed).length→(∀ j o,ops[j]? =some o→listed.getD j false=true→∀ e∈jh o,listed.getD e false=true)→
   px R Ω C.E gs (mi ops.size listed) s t→au C s a w σ→(∀ k p dd,k∈mi ops.size listed→gs[k]? =some p→p.lt=true→MX p.p.o=true→p.p.d=some dd→lz C.E.dp s dd)→(∀ k p,k∈mi ops.size listed→gs[k]? =some p→p.lt=true→uN p.p.o p.cs=true→∀ h∈p.vb,rS C.E.dp s h)→
   (∀ a' w' σ',cM C w σ w' σ'→au C t a' w' σ'→Q .normal a' w')→wpAny C.P .any ops Q fuel listed a w:=by
 have hremm:∀ listed i,i∈mi ops.size listed↔i<ops.size∧listed.getD i true=false:=by
  intro listed i;unfold mi;simp [tH]
 have hready:∀ listed i,i∈Region.ready .any ops listed→i∈mi ops.size listed:=by
  intro listed i hi
  obtain ⟨o,ho,h1,_⟩:=mem_ready.1 hi
  exact (hremm _ _).2 ⟨(nq.1 ho).1,h1⟩
 intro fuel
 induction fuel with
 | zero=>
  intro listed s a w σ hsz hfu hcl hg h hfr hfB hK
  have hrem:mi ops.size listed=[]:=oy hfu.symm
  rw [hrem] at hg
  refine ⟨?_,hK a w σ (.refl _ _ _) (h.se hg)⟩
  apply List.eq_nil_iff_forall_not_mem.2
  intro i hi
  have:=hready _ _ hi
  rw [hrem] at this;cases this
 | succ fuel ih=>
  intro listed s a w σ hsz hfu hcl hg h hfr hfB hK
  refine ⟨fun hnil=>?_,fun i hi=>?_⟩
  ·exfalso
   cases hrem:mi ops.size listed with
   | nil=>rw [hrem] at hfu;simp at hfu
   | cons i0 rest=>
    have hi0:i0∈mi ops.size listed:=by rw [hrem];simp
    obtain ⟨h1,h2⟩:=(hremm _ _).1 hi0
    have hsorted:(mi ops.size listed).Pairwise (· < ·):=(List.pairwise_lt_range (n:=ops.size)).filter _
    have:i0∈Region.ready .any ops listed:=by
     refine mem_ready.2 ⟨ops[i0],ku h1,h2,fun e he=>?_⟩
     have hlt:=hback i0 _ (ku h1) e he
     apply lT
     intro hne
     have hem:e∈mi ops.size listed:=(hremm _ _).2 ⟨by omega,by rw [J6 hsz (by omega) true false];simpa using hne⟩
     rw [hrem] at hem hsorted
     rcases cR.1 hem with rfl | hem
     ·omega
     ·have:=(List.pairwise_cons.1 hsorted).1 e hem
      omega
    rw [hnil] at this;cases this
  ·obtain ⟨o,ho,hun,haft⟩:=mem_ready.1 hi
   have hin:i<ops.size:=(nq.1 ho).1
   have hir:=hready _ _ hi
   obtain ⟨A,B,hAB⟩:=List.append_of_mem hir
   have hsorted:(mi ops.size listed).Pairwise (· < ·):=(List.pairwise_lt_range (n:=ops.size)).filter _
   have hnb:∀ k,k∈mi ops.size listed→((zP [] (ops.toList.map jh)).getD i 0).testBit k=false:=by
    intro k hk
    cases hb:((zP [] (ops.toList.map jh)).getD i 0).testBit k with
    | false=>rfl
    | true=>
     have:=Qc hback hcl i o ho haft k hb
     obtain ⟨h1,h2⟩:=(hremm _ _).1 hk
     rw [J6 hsz h1 true false,this] at h2;cases h2
   rw [hAB] at hsorted
   have hsp:=List.pairwise_append.1 hsorted
   have hA:∀ x∈A,Qb gs x i:=by
    intro x hx
    have hlt:x<i:=hsp.2.2 x hx i (by simp)
    have h1:=bH.1 (bH.1 hpairs i (by simpa using hin)) x (by simpa using hlt)
    rw [hnb x (by rw [hAB];simp [hx]),js] at h1
    unfold Sa at h1
    split at h1
    ·rename_i p q hp hq
     simp only [aA,jw] at h1
     refine ⟨p,q,hp,hq,?_⟩
     rcases h1 with (h1 | h1) | h1
     ·exact .inl ⟨h1.1.1,h1.1.2,h1.2⟩
     ·exact .inr (.inl h1)
     ·exact .inr (.inr h1)
    ·cases h1
   rw [hAB] at hg
   obtain ⟨p,s1,s2,hp,hse,hex,hgo⟩:=px.front A s hA hg
   obtain ⟨hlen,hlow⟩:=DV hds
   obtain ⟨hlg,hlk⟩:=hlow i o p (by simpa using ho) hp
   have hnd:i∉A∧i∉B:=by
    refine ⟨fun hm=>?_,fun hm=>?_⟩
    ·have:=hsp.2.2 i hm i (by simp);omega
    ·have:=(List.pairwise_cons.1 hsp.2.1).1 i hm;omega
   have hrem':mi ops.size (listed.setIfInBounds i true)=A++B:=by
    have hget:∀ j,j<ops.size→(listed.setIfInBounds i true).getD j true=(if i=j then true else listed.getD j true):=by
     intro j hj
     have hjs:j<listed.size:=by omega
     by_cases hij:i=j
     ·subst hij;simp [hjs]
     ·simp [tD,hij]
    have e1:mi ops.size (listed.setIfInBounds i true)=(mi ops.size listed).filter (fun j=>j !=i):=by
     unfold mi
     rw [List.filter_filter]
     apply List.filter_congr
     intro j hj
     rw [hget j (by simpa using hj)]
     by_cases hij:i=j
     ·subst hij;simp
     ·have:(j !=i)=true:=by simpa using fun e=>hij e.symm
      simp [hij,this]
    rw [e1,hAB,zb,List.filter_cons]
    have f1:A.filter (fun j=>j !=i)=A:=CK.2 fun x hx=>by
     have:x≠i:=fun e=>hnd.1 (e▸hx)
     simpa using this
    have f2:B.filter (fun j=>j !=i)=B:=CK.2 fun x hx=>by
     have:x≠i:=fun e=>hnd.2 (e▸hx)
     simpa using this
    rw [f1,f2]
    simp
   have hmk:∀ k p' dd,k∈A++B→gs[k]? =some p'→p'.lt=true→MX p'.p.o=true→p'.p.d=some dd→lz C.E.dp s dd∧((p.lt=true∧dd∈p.nk)∨Ub p dd=true):=by
    intro k p' dd hk hp' hlt hm hdd
    have hkr:k∈mi ops.size listed:=by
     rw [hAB]
     rcases bU.1 hk with h1 | h1
     ·exact gD _ h1
     ·exact jv _ (vD _ h1)
    refine ⟨hfr k p' dd hkr hp' hlt hm hdd,?_⟩
    have hki:k≠i:=fun e=>by
     rw [e] at hk
     rcases bU.1 hk with h1 | h1
     ·exact hnd.1 h1
     ·exact hnd.2 h1
    have h1:=bH.1 hmks k (by simpa using ((hremm _ _).1 hkr).1)
    simp only [hp',hlt,hm,hdd,ou,js,aA] at h1
    have h2:=bH.1 h1.2 i (by simpa using hin)
    have e1:(i==k)=false:=by simpa using fun e=>hki (Eq.symm e)
    simp only [e1,hnb k hkr,hp,js,aA,jw] at h2
    exact h2.imp (fun h2=>⟨h2.1,by simpa using h2.2⟩) id
   have hrw:∀ k p',k∈A++B→gs[k]? =some p'→p'.lt=true→uN p'.p.o p'.cs=true→∀ hh∈p'.vb,rS C.E.dp s hh∧(p.lt=true∧hh∈p.nb):=by
    intro k p' hk hp' hlt hm hh hhm
    have hkr:k∈mi ops.size listed:=by
     rw [hAB]
     rcases bU.1 hk with h1 | h1
     ·exact gD _ h1
     ·exact jv _ (vD _ h1)
    refine ⟨hfB k p' hkr hp' hlt hm hh hhm,?_⟩
    have hki:k≠i:=fun e=>by
     rw [e] at hk
     rcases bU.1 hk with h1 | h1
     ·exact hnd.1 h1
     ·exact hnd.2 h1
    have h1:=bH.1 hrws k (by simpa using ((hremm _ _).1 hkr).1)
    simp only [hp',hlt,hm,ou,js] at h1
    have h2:=bH.1 (bH.1 h1 hh hhm) i (by simpa using hin)
    have e1:(i==k)=false:=by simpa using fun e=>hki (Eq.symm e)
    simp only [e1,hnb k hkr,hp,js,aA] at h2
    exact ⟨h2.1,by simpa using h2.2⟩
   have hsz':(listed.setIfInBounds i true).size=ops.size:=by simpa using hsz
   have hcl':∀ j o',ops[j]? =some o'→(listed.setIfInBounds i true).getD j false=true→∀ e∈jh o',(listed.setIfInBounds i true).getD e false=true:=by
    have hmono:∀ e,listed.getD e false=true→(listed.setIfInBounds i true).getD e false=true:=by
     intro e he
     simp only [bn,tD] at he ⊢
     split
     ·split
      ·rfl
      ·rename_i h3 h4
       subst h3
       rw [yX (by omega)] at he;cases he
     ·exact he
    intro j o' hj hl e he
    by_cases hij:i=j
    ·subst hij
     obtain rfl:o=o':=by rw [ho] at hj;exact aa hj
     exact hmono e (haft e he)
    ·have:listed.getD j false=true:=by
      simpa [bn,tD,hij] using hl
     exact hmono e (hcl j o' hj this e he)
   have hfu':fuel=(mi ops.size (listed.setIfInBounds i true)).length:=by
    rw [hrem']
    rw [hAB] at hfu
    simp only [cH,bu] at hfu ⊢
    omega
   have h1:=h.se hse
   by_cases hlt:p.lt=true
   ·simp only [ej,ab hlt] at hex
    obtain ⟨q,hq,he2⟩:=ah.1 hex
    obtain rfl:=aa he2
    refine h1.ahY hR hΩ ho hlg hnt (hlk hlt) (fun hm dd hdd=>(hfr i p dd hir hp hlt hm hdd).se hse) (fun hm hh hhm=>(hfB i p hir hp hlt hm hh hhm).se hse) hq fun a' w' σ' hs' hc'=>?_
    refine ih _ _ a' w' σ' hsz' hfu' hcl' (by rw [hrem'];exact hgo) hc' (fun k p' dd hk hp' hl' hm hdd=>?_) (fun k p' hk hp' hl' hm hh hhm=>?_) fun a'' w'' σ'' hs'' hc''=>hK a'' w'' σ'' (hs'.trans hs'') hc''
    ·rw [hrem'] at hk
     obtain ⟨h3,⟨_,h4⟩ | h4⟩:=hmk k p' dd hk hp' hl' hm hdd
     ·exact (h3.se hse).step (Ft hlg hnt).1 (hlk hlt) h4 hq
     ·exfalso
      cases h4
    ·rw [hrem'] at hk
     obtain ⟨h3,_,h4⟩:=hrw k p' hk hp' hl' hm hh hhm
     exact (h3.se hse).step h4 hq
   ·have hex0:=hex
    simp only [ej,ad hlt] at hex
    refine h1.VQ hR hΩ ho hlg hnt hex fun a' w' σ' hs' hc'=>?_
    refine ih _ _ a' w' σ' hsz' hfu' hcl' (by rw [hrem'];exact hgo) hc' (fun k p' dd hk hp' hl' hm hdd=>?_) (fun k p' hk hp' hl' hm hh hhm=>?_) fun a'' w'' σ'' hs'' hc''=>hK a'' w'' σ'' (hs'.trans hs'') hc''
    ·rw [hrem'] at hk
     obtain ⟨h3,h4 | h4⟩:=hmk k p' dd hk hp' hl' hm hdd
     ·exact absurd h4.1 hlt
     ·exact (h3.se hse).ahZ h4 hex0
    ·rw [hrem'] at hk
     exact absurd (hrw k p' hk hp' hl' hm hh hhm).2.1 hlt
theorem au.M0{nt:Nat}{ops:Array Oper}{Q:Exit→Act→World→Prop}{mks:List Nat}{gs:List cp}{st':St}(hR:lX C.P R)(hΩ:iA C.P Ω)(hnt:nt≤C.nt)(hl:HY C.P nt ops mks gs=true)(h:au C st a w σ)
  (hm:(mks.all (sn C.E.dp st)&&gs.all (jf C.E.dp st))=true) (he:kd R Ω C.E st gs=some st') (hK:∀ a' w' σ',cM C w σ w' σ'→au C st' a' w' σ'→Q .normal a' w'):C.P.follows .mixedOrders=true∧wpAny C.P .any ops Q ops.size (Array.replicate ops.size false) a {w with drawn:=w.drawn+1}:=by
 simp only [HY,aA] at hl
 obtain ⟨⟨⟨⟨⟨hfol,hds⟩,hback⟩,hpairs⟩,hmks⟩,hrws⟩:=hl
 obtain ⟨hm,hfb⟩:=vP.1 hm
 have hback':∀ i o,ops[i]? =some o→∀ e∈jh o,e<i:=by
  intro i o ho e he
  have h1:=bH.1 hback i (by simpa using (nq.1 ho).1)
  simp only [ho] at h1
  simpa using List.all_eq_true.1 h1 e he
 have hrem:mi ops.size (Array.replicate ops.size false)=List.range ops.size:=by
  unfold mi
  apply CK.2
  intro i hi
  have:i<ops.size:=by simpa using hi
  simp [this]
 obtain ⟨hlen,_⟩:=DV hds
 have hd:au C st a {w with drawn:=w.drawn+1} σ:=h.drew
 refine ⟨hfol,au.any hR hΩ hnt hds hback' hpairs hmks hrws ops.size _ st a _ σ (by simp) (by rw [hrem];simp) (fun j o ho hl=>?_) ?_ hd (fun k p dd hk hp hlt hmk hdd=>?_) (fun k p hk hp hlt hmk hh hhm=>?_) fun a' w' σ' hs hc=>hK a' w' σ' (cM.drew (w:=w) hs) hc⟩
 ·exfalso
  by_cases hj:j<ops.size<;>simp [hj] at hl
 ·rw [hrem]
  have:=px.text (R:=R) (Ω:=Ω) (E:=C.E) gs 0 st st' rfl he
  have hl2:gs.length=ops.size:=by simpa using hlen.symm
  rwa [hl2,←vH] at this
 ·have h1:=bH.1 hmks k (by rw [hrem] at hk;exact hk)
  simp only [hp,hlt,hmk,hdd,ou,js,aA] at h1
  exact lz.of (bH.1 hm dd (by simpa using h1.1))
 ·have h1:=bH.1 hfb p (aL hp)
  simp only [jf,hmk,ou,js] at h1
  intro d
  have h2:=bH.1 h1 hh hhm
  have:=qB (p:=fun y=>!jR ⟨C.E.dp,hh⟩ y) rfl _ h2 d
  simpa using this
theorem au.drawn{nt id:Nat}{ops:Array Oper}{Q:Exit→Act→World→Prop}{mks:List Nat}{gs:List cp}{st':St}(hR:lX C.P R)(hΩ:iA C.P Ω)(hnt:nt≤C.nt)(hl:HY C.P nt ops mks gs=true)(h:au C st a w σ)
  (hm:(mks.all (sn C.E.dp st)&&gs.all (jf C.E.dp st))=true) (he:kd R Ω C.E st gs=some st') (hK:∀ a' w' σ',cM C w σ w' σ'→au C st' a' w' σ'→Q .normal a' w'):(Code.region id ops true).wp C.P Q a w:=by
 obtain ⟨h1,h2⟩:=h.M0 hR hΩ hnt hl hm he hK
 exact wp_region_any h1 h2
end
end Go.Proofs.YtkkkkondjclcnaaGreat.A
