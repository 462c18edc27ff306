/- Regions whose order is drawn: whatever the order, what the order of the text gives. -/
import Derived.Test.YtkkkkondjclcnaaGreatAbsH
import Derived.Orders
set_option linter.all false
namespace Go.Proofs.YtkkkkondjclcnaaGreat.A
open Go
variable [bI]
structure Se(s s':St):Prop where
 fr:∀ d,ay s.fr d=ay s'.fr d
 bx:∀ d,aO s.bx d=aO s'.bx d
 hp:s.hp=s'.hp
 mem:∀ y,y∈s.fr↔y∈s'.fr
theorem Se.refl(s:St):Se s s:=⟨fun _=>rfl,fun _=>rfl,rfl,fun _=>Iff.rfl⟩
theorem Se.symm{s s':St}(h:Se s s'):Se s' s:=⟨fun d=>(h.fr d).symm,fun d=>(h.bx d).symm,h.hp.symm,fun y=>(h.mem y).symm⟩
theorem Se.trans{s s' s'':St}(h:Se s s')(h':Se s' s''):Se s s'':=⟨fun d=>(h.fr d).trans (h'.fr d),fun d=>(h.bx d).trans (h'.bx d),h.hp.trans h'.hp,fun y=>(h.mem y).trans (h'.mem y)⟩
theorem Se.box{s s':St}(h:Se s s')(dp:Nat)(k:Key):s.box dp k=s'.box dp k:=by
 simp only [St.box,h.bx,h.hp]
theorem au.se{C:Cx}{s s':St}{a:Act}{w:World}{σ:Sp}(h:au C s a w σ)(hs:Se s s'):au C s' a w σ:=
 h.BG (fun d=>.inr (hs.fr d).symm) (fun k cs hk=>by rw [hs.box];exact hk) (fun _ _ _ h=>by rw [hs.hp];exact h)
def eY{α:Type}(l:List (Nat×α)):List Nat:=l.map (·.1)
theorem np(l r:List (Nat×AV))(d:Nat):ay (l++r) d=if d∈eY l then ay l d else ay r d:=by
 induction l with
 | nil=>simp [eY]
 | cons x l ih=>
  grind [ay,eY]
theorem As(l r:List (Nat×List AV))(d:Nat):aO (l++r) d=if d∈eY l then aO l d else aO r d:=by
 induction l with
 | nil=>simp [eY]
 | cons x l ih=>
  grind [aO,eY]
theorem rS(bx wb:List (Nat×List AV))(d:Nat):aO (Bq bx wb) d=match aO wb d with
  | some cs=>(aO bx d).map fun _=>cs
  | none=>aO bx d:=by
 induction wb with
 | nil=>rfl
 | cons x wb ih=>
  obtain ⟨k,y⟩:=x
  simp only [Bq,vW,aO]
  by_cases h:k=d
  ·subst h
   simp only [an,ih]
   cases aO wb k with
   | none=>rfl
   | some cs=>cases aO bx k<;>rfl
  grind
theorem tV{l:List (Nat×List AV)}{d:Nat}(h:d∉eY l):aO l d=none:=by
 induction l with
 | nil=>rfl
 | cons x l ih=>
  grind [eY,aO]
theorem Se.app{s s':St}(q:bZ)(h:Se s s'):Se (q.app s) (q.app s'):=by
 refine ⟨fun d=>?_,fun d=>?_,?_,fun y=>by simp only [bZ.app,bJ,h.mem y]⟩
 ·simp only [bZ.app,np,h.fr]
 ·simp only [bZ.app,As,rS,h.bx]
 ·simp only [bZ.app,h.hp]
structure VU(q q':bZ):Prop where
 fr:∀ d,d∈eY q.fr→d∉eY q'.fr
 nn:∀ d,d∈eY q.nb→d∉eY q'.nb
 nw:∀ d,d∈eY q.nb→d∉eY q'.wb
 wn:∀ d,d∈eY q.wb→d∉eY q'.nb
 ww:∀ d,d∈eY q.wb→d∉eY q'.wb
 hp:q.hp=none∨q'.hp=none
theorem Uc{q q':bZ}(h:VU q q')(s:St):Se (q.app (q'.app s)) (q'.app (q.app s)):=by
 refine ⟨fun d=>?_,fun d=>?_,?_,by grind [bZ.app]⟩
 ·simp only [bZ.app,np]
  by_cases h1:d∈eY q.fr
  ·simp [h1,h.fr d h1]
  ·simp [h1]
 ·simp only [bZ.app,As,rS]
  by_cases h1:d∈eY q.nb
  ·have h2:=tV (h.nw d h1)
   simp [h1,h.nn d h1,h2]
  ·by_cases h3:d∈eY q'.nb
   ·have h4:aO q.wb d=none:=tV fun h5=>h.wn d h5 h3
    simp [h1,h3,h4]
   ·simp only [ab h1,ab h3]
    by_cases h5:d∈eY q.wb
    ·have:=tV (h.ww d h5)
     rw [this]
    ·rw [tV h5]
 ·simp only [bZ.app]
  rcases h.hp with e | e<;>rw [e]<;>cases q.hp<;>cases q'.hp<;>first | rfl | cases e
def uA:oG→Bool
 | .st _ _ _=>true
 | _=>false
def mA(p:b6):Bool:=match p.p.o with
 | .ap _ _ _ _ _=>p.cs.length==2
 | _=>false
def l7(p:b6):Bool:=uA p.p.o||mA p
def Gk:oG→Bool
 | .al _=>true
 | _=>false
def yV(d:Option Nat):List Nat:=match d with
 | some d=>[d]
 | none=>[]
def gsl(p:b6):List Nat:=match p.p.g with
 | some (j,_)=>[j]
 | none=>[]
def M7(p:b6):List Nat:=yV p.p.d++p.cs
def rdS(p:b6):List Nat:=gsl p++p.vw
def OS(p:b6):List Nat:=(if Gk p.p.o=true then yV p.p.d else [])++(if l7 p=true then p.vb else [])
def D8(l m:List Nat):Bool:=l.all fun x=>!m.contains x
def Ac(p q:b6):Bool:=D8 (M7 p) (rdS q)&&D8 (M7 q) (rdS p)&&D8 (M7 p) (M7 q)&&D8 (OS p) q.vb&&D8 (OS q) p.vb&&D8 (OS p) (OS q)&&!((l7 p||l7 q)&&p.vh&&q.vh)
theorem qX{l m:List Nat}(h:D8 l m=true){x:Nat}(hx:x∈l):x∉m:=by
 have:=bO.1 h x hx
 simpa using this
theorem D9(bx:List (Nat×List AV))(ks:List Nat){d:Nat}(h:d∈eY (di bx ks)):d∈ks:=by
 induction ks with
 | nil=>simp [di,eY] at h
 | cons k ks ih=>
  grind [di,eY]
section
variable {R:Rec}{Ω:dt}{E:Env}
structure Small(p:b6)(q:bZ):Prop where
 fr:∀ d,d∈eY q.fr→d∈M7 p
 nb:∀ d,d∈eY q.nb→Gk p.p.o=true∧d∈yV p.p.d
 wb:∀ d,d∈eY q.wb→l7 p=true∧d∈p.vb
 hp:q.hp≠none→l7 p=true∧p.vh=true
theorem Gl{p:b6}{fr:List (Nat×AV)}(h:∀ d,d∈eY fr→d∈M7 p):Small p ⟨fr,[],[],none⟩:=
 ⟨h,fun d hd=>by simp [eY] at hd,fun d hd=>by simp [eY] at hd,fun h=>absurd rfl h⟩
theorem B5(d:Option Nat)(x:AV):eY (iF d x)=yV d:=by cases d<;>rfl
theorem M8(p:b6)(r:AV×St):Small p (effect p r):=by
 have hgen:Small p ⟨iF p.p.d (eH p.p.fz r.1)++p.cs.map (fun m=>(m,.u)),[],[],none⟩:=Gl fun d hd=>by
  simp only [eY,dc,List.map_map] at hd
  rcases bJ.1 hd with hd | hd
  ·have:d∈eY (iF p.p.d (eH p.p.fz r.1)):=hd
   rw [B5] at this
   exact gq _ this
  ·obtain ⟨m,hm,rfl⟩:=gZ.1 hd
   exact jo _ hm
 unfold effect
 split
 ·rename_i zs ho
  split
  ·rename_i dd hd
   refine ⟨fun d h=>?_,fun d h=>⟨by rw [ho];rfl,?_⟩,fun d h=>by simp [eY] at h,fun h=>absurd rfl h⟩
   ·grind [eY,M7,yV]
   grind [eY,yV]
  grind [Gl,eY]
 ·rename_i ho
  refine ⟨fun d h=>?_,fun d h=>by simp [eY] at h,fun d h=>⟨by simp [l7,ho,uA],D9 _ _ h⟩,fun h=>⟨by simp [l7,ho,uA],?_⟩⟩
  ·simp only [eY,List.map_map] at h
   obtain ⟨m,hm,rfl⟩:=gZ.1 h
   exact jo _ hm
  by_cases hv:p.vh=true
  ·exact hv
  ·simp [hv] at h
 ·rename_i ho
  by_cases h2:(p.cs.length==2)=true
  ·have hw:l7 p=true:=by grind [l7,mA]
   rw [aa h2]
   refine ⟨hgen.fr,fun d h=>by simp [eY] at h,by grind [D9],fun h=>⟨hw,?_⟩⟩
   grind
  grind
 ·exact hgen
theorem Fq{p:b6}{s:St}{q:bZ}(h:ed R Ω E p s=some q):Small p q:=by
 have hcore:∀ v q,jc R Ω E p v=some q→Small p q:=by
  grind [jc,Option.bind_eq_some_iff,M8]
 unfold ed at h
 split at h
 ·exact hcore _ _ h
 ·obtain ⟨y,_,h2⟩:=af.1 h
  split at h2
  ·grind
  ·obtain rfl:=ad h2
   exact Gl fun d hd=>by rw [B5] at hd;exact gq _ hd
theorem NT{fr fr':List (Nat×AV)}{ks:List Nat}(h:∀ d∈ks,ay fr d=ay fr' d):ea fr ks=ea fr' ks:=
 sT fun d hd=>by rw [h d hd]
theorem NU{bx bx':List (Nat×List AV)}{ks:List Nat}(h:∀ d∈ks,aO bx d=aO bx' d):di bx ks=di bx' ks:=by
 induction ks with
 | nil=>rfl
 | cons k ks ih=>
  grind [di]
structure Qk(p:b6)(s s':St):Prop where
 fr:∀ d∈rdS p,ay s.fr d=ay s'.fr d
 bx:∀ d∈p.vb,aO s.bx d=aO s'.bx d
 hp:p.vh=true→s.hp=s'.hp
theorem Qk.patch{p:b6}{s s':St}(h:Qk p s s'):ed R Ω E p s=ed R Ω E p s':=by
 have hv:view p s=view p s':=by
  unfold view
  rw [NT fun d hd=>h.fr d (jo _ hd),NU h.bx]
  by_cases hh:p.vh=true
  ·simp only [hh,an,h.hp hh]
  grind
 unfold ed
 rw [hv]
 split
 ·rfl
 ·rename_i j want hg
  rw [h.fr j (gq _ (by unfold gsl;rw [hg];simp))]
theorem Se.ajr{p:b6}{s s':St}(h:Se s s'):Qk p s s':=⟨fun d _=>h.fr d,fun d _=>h.bx d,fun _=>h.hp⟩
theorem M9{p p':b6}{q:bZ}{s:St}(hq:Small p q)(hc:Ac p p'=true):Qk p' (q.app s) s:=by
 simp only [Ac,aB,gu] at hc
 obtain ⟨⟨⟨⟨⟨⟨c1,c2⟩,c3⟩,c4⟩,c5⟩,c6⟩,c7⟩:=hc
 refine ⟨fun d hd=>?_,fun d hd=>?_,fun hh=>?_⟩
 ·simp only [bZ.app,np]
  rw [ab]
  intro hm
  exact qX c1 (hq.fr d hm) hd
 ·simp only [bZ.app,As,rS]
  have hnb:d∉eY q.nb:=fun hm=>by
   obtain ⟨h1,h2⟩:=hq.nb d hm
   exact qX c4 (gq _ (by grind)) hd
  have hwb:d∉eY q.wb:=fun hm=>by
   obtain ⟨h1,h2⟩:=hq.wb d hm
   exact qX c4 (jo _ (by grind)) hd
  grind [tV]
 ·simp only [bZ.app]
  cases hp:q.hp with
  | none=>rfl
  | some x=>
   obtain ⟨h1,h2⟩:=hq.hp (by rw [hp];simp)
   grind
theorem Ud{p p':b6}{q q':bZ}(hq:Small p q)(hq':Small p' q')(hc:Ac p p'=true):VU q q':=by
 simp only [Ac,aB,gu] at hc
 obtain ⟨⟨⟨⟨⟨⟨c1,c2⟩,c3⟩,c4⟩,c5⟩,c6⟩,c7⟩:=hc
 have m1:∀ {p:b6}{q:bZ}{d},Small p q→d∈eY q.nb→d∈OS p:=fun hq h=>by
  obtain ⟨h1,h2⟩:=hq.nb _ h
  exact gq _ (by grind)
 have m2:∀ {p:b6}{q:bZ}{d},Small p q→d∈eY q.wb→d∈OS p:=fun hq h=>by
  obtain ⟨h1,h2⟩:=hq.wb _ h
  exact jo _ (by grind)
 refine ⟨fun d h h'=>qX c3 (hq.fr d h) (hq'.fr d h'),by grind [qX],by grind [qX],by grind [qX],by grind [qX],?_⟩
 cases h1:q.hp with
 | none=>exact .inl rfl
 | some x=>
  cases h2:q'.hp with
  | none=>exact .inr rfl
  | some y=>
   obtain ⟨h3,h4⟩:=hq.hp (by rw [h1];simp)
   obtain ⟨h5,h6⟩:=hq'.hp (by rw [h2];simp)
   grind
def pd(R:Rec)(Ω:dt)(E:Env)(gs:List b6):List Nat→St→St→Prop
 | [],s,t=>Se s t
 | i::π,s,t=>∃ p s1 s2,gs[i]? =some p∧Se s s1∧ee R Ω E s1 p=some s2∧pd R Ω E gs π s2 t
variable {gs:List b6}
theorem pd.se{π:List Nat}{s s' t:St}(h:pd R Ω E gs π s' t)(hs:Se s s'):pd R Ω E gs π s t:=by
 cases π with
 | nil=>exact Se.trans hs h
 | cons i π=>
  obtain ⟨p,s1,s2,h1,h2,h3,h4⟩:=h
  exact ⟨p,s1,s2,h1,hs.trans h2,h3,h4⟩
theorem pd.text:∀ (ps:List b6)(i:Nat)(s t:St),gs.drop i=ps→jY R Ω E s ps=some t→pd R Ω E gs (List.range' i ps.length) s t
 | [],i,s,t,_,he=>by
  obtain rfl:=ad he
  exact Se.refl _
 | p::ps,i,s,t,hi,he=>by
  obtain ⟨s2,h1,h2⟩:=af.1 he
  rw [bD,zk]
  refine ⟨p,s,s2,?_,Se.refl _,h1,pd.text ps (i+1) s2 t ?_ h2⟩
  ·have:(gs.drop i)[0]? =some p:=by rw [hi];rfl
   simpa using this
  ·rw [←List.drop_drop,hi];rfl
def xJ(p q:b6):Bool:=false
theorem Se.ev{s s':St}(h:Se s s')(xs:List ba):xs.map s.ev=xs.map s'.ev:=by
 apply sT
 intro x _
 cases x with
 | c z=>rfl
 | t n=>exact h.fr n
theorem Se.put{s s':St}(h:Se s s')(d:Option Nat)(x:AV):Se (put s d x) (A.put s' d x):=by
 cases d with
 | none=>exact h
 | some d=>exact ⟨fun n=>by simp only [A.put,St.cS,ay];split<;>first | rfl | exact h.fr n,h.bx,h.hp,fun y=>by simp only [A.put,St.cS,cQ,h.mem y]⟩
section
variable {p q:b6}{f:FuncId}{args:List ba}{sl dl ow:List Nat}{qq:bZ}{s:St}
end
def Ql(gs:List b6)(i j:Nat):Prop:=∃ p q,gs[i]? =some p∧gs[j]? =some q∧((p.lt=true∧q.lt=true∧Ac p q=true)∨xJ p q=true∨xJ q p=true)
theorem pd.swap{i j:Nat}{π:List Nat}{s t:St}(hf:Ql gs i j)(h:pd R Ω E gs (i::j::π) s t):pd R Ω E gs (j::i::π) s t:=by
 obtain ⟨p,q,hp,hq,hcase⟩:=hf
 obtain ⟨p',s1,s2,h1,h2,h3,q',s3,s4,h4,h5,h6,h7⟩:=h
 obtain rfl:p=p':=by grind
 obtain rfl:q=q':=by grind
 rcases hcase with ⟨hpl,hql,hc⟩ | hc | hc
 rotate_left
 ·exact absurd hc (by simp [xJ])
 ·exact absurd hc (by simp [xJ])
 simp only [ee,aa hpl] at h3
 simp only [ee,aa hql] at h6
 obtain ⟨pp,hpp,he⟩:=af.1 h3
 obtain rfl:=ad he
 obtain ⟨qq,hqq,he'⟩:=af.1 h6
 obtain rfl:=ad he'
 have hc':Ac q p=true:=by
  grind [Ac,D8]
 have sp:=Fq hpp
 have sq:=Fq hqq
 have e1:ed R Ω E q s1=some qq:=by
  rw [←hqq]
  exact ((M9 sp hc).patch.symm.trans (Se.ajr h5).patch)
 have e2:ed R Ω E p (qq.app s1)=some pp:=by
  rw [←hpp]
  exact (M9 sq hc').patch
 refine ⟨q,s1,qq.app s1,hq,h2,by grind [ee],p,qq.app s1,pp.app (qq.app s1),hp,Se.refl _,by grind [ee],?_⟩
 exact h7.se ((Uc (Ud sp sq hc) s1).trans (h5.app qq))
theorem pd.front{i:Nat}{B:List Nat}{t:St} : ∀ (A:List Nat)(s:St),(∀ a∈A,Ql gs a i)→pd R Ω E gs (A++i::B) s t→pd R Ω E gs (i::(A++B)) s t
 | [],_,_,h=>h
 | a::A,s,hf,h=>by
  obtain ⟨p,s1,s2,h1,h2,h3,h4⟩:=h
  exact pd.swap (hf a (by simp)) ⟨p,s1,s2,h1,h2,h3,pd.front A s2 (fun b hb=>hf b (by simp [hb])) h4⟩
end
variable [bI]
def Na:oG→Bool
 | .al _=>true
 | .bs _ _ _=>true
 | .ms _ _ _ _ _=>true
 | .ap _ _ _ _ _=>true
 | _=>false
def iw(p:b6):Bool:=
 match p.p.o with
 | .bx _=>false
 | .c2 _ _=>false
 | .d2 _ _=>false
 | .cr _ _ _=>false
 | .cm _ _ _ _=>false
 | .st _ _ y=>p.p.d==none&&(p.cs==[]||match y with
  | .t m=>p.cs==[m]
  | .c _=>false)
 | .ap _ _ _ x _=>match x with
  | .t m=>p.cs==[m]||p.cs==[m,m]
  | .c _=>p.cs==[]
 | _=>p.cs==[]
structure lf(dp:Nat)(s:St)(h:Nat):Prop where
 fr:∀ d,(ay s.fr d).cJ ⟨dp,h⟩=true∧(ay s.fr d).jf (.s h)=false
 cs:∀ d cs,aO s.bx d=some cs→∀ c∈cs,c.cJ ⟨dp,h⟩=true
theorem lf.of{dp:Nat}{s:St}{h:Nat}(hf:su dp s h=true):lf dp s h:=by
 simp only [su,aB] at hf
 refine ⟨fun d=>?_,fun d cs hb c hc=>n9 (qw _ hf.2 d cs hb) c hc⟩
 have:=s8 (p:=fun y=>y.cJ ⟨dp,h⟩&&!y.jf (.s h)) rfl _ hf.1.2 d
 simpa using this
theorem lf.se{dp:Nat}{s s':St}{h:Nat}(hf:lf dp s h)(hs:Se s s'):lf dp s' h:=
 ⟨fun d=>by rw [←hs.fr];exact hf.fr d,fun d cs hb=>hf.cs d cs (by rw [hs.bx];exact hb)⟩
def rT(dp:Nat)(s:St)(h:Nat):Prop:=∀ d,jt ⟨dp,h⟩ (ay s.fr d)=false
theorem rT.se{dp:Nat}{s s':St}{h:Nat}(hf:rT dp s h)(hs:Se s s'):rT dp s' h:=fun d=>by rw [←hs.fr];exact hf d
theorem Ue{k:Key}{off:Nat}{x:AV}(h:x.jf (.c k off)=true):jt k x=true:=by
 cases x with
 | r pl=>
   have:pl= .c k off:=by simpa [AV.jf] using h
   subst this;simp [jt]
 | v pl lo len=>
   have:pl= .c k off:=by simpa [AV.jf] using h
   subst this;simp [jt]
 | q pl i sz off'=>
   have:pl= .c k off:=by simpa [AV.jf] using h
   subst this;simp [jt]
 | _=>cases h
section
variable {C:Cx}{s:St}{a:Act}{w:World}{σ:Sp}{o:Oper}{R:Rec}{Ω:dt}
theorem JB(p:b6)(s:St)(dp:Nat):Le dp (view p s) s:=by
 refine ⟨G1 s.fr p.vw,fun k cs hk=>?_⟩
 by_cases hd:k.dp=dp
 ·simp only [St.box,view,hd,an] at hk ⊢
  exact df hk
 ·simp only [St.box,view,ab hd] at hk ⊢
  split at hk
  ·exact hk
  ·cases hk
theorem Ic{p:b6}{r:AV×St}(h1:Gk p.p.o=false)(h2:l7 p=false):effect p r=⟨iF p.p.d (eH p.p.fz r.1)++p.cs.map (fun m=>(m,.u)),[],[],none⟩:=by
 unfold effect
 split
 ·rename_i ho;rw [ho] at h1;cases h1
 ·rename_i ho;simp [l7,ho,uA] at h2
 ·rename_i ho
  have:(p.cs.length==2)=false:=by simpa [l7,mA,ho,uA] using h2
  simp [this]
 ·rfl
theorem Sg(d:Option Nat)(x:AV)(s:St)(d':Nat):ay (iF d x++s.fr) d'=ay (A.put s d x).fr d':=by cases d<;>rfl
theorem n7(cs:List Nat)(fr:List (Nat×AV))(d:Nat):ay (cs.map (fun m=>(m,AV.u))++fr) d=if d∈cs then .u else ay fr d:=by
 induction cs with
 | nil=>simp
 | cons c cs ih=>
  simp only [cq,eA,ay,cQ,ih]
  by_cases h:c=d
  ·subst h;simp
  ·have h':¬d=c:=fun e=>h e.symm
   simp [h,h']
theorem finish{p:b6}{q:bZ}{x:AV}{s':St}{K:Act→World→Prop}{Q:Exit→Act→World→Prop}(hdst:o.dst=p.p.d)(hd:∀ dd,p.p.d=some dd→dd<C.nt)(hsim:ez C o p.p.d a w σ s' x)
  (hfr:∀ d',ay (q.app s).fr d'= .u∨ay (q.app s).fr d'=ay (A.put s' p.p.d (eH p.p.fz x)).fr d') (hbx:∀ k cs,(q.app s).box C.E.dp k=some cs→s'.box C.E.dp k=some cs)
  (hhp:∀ k cs,k.dp≠C.E.dp→(q.app s).hp k=some cs→s'.hp k=some cs) (hK:∀ a' w' σ',cK C w σ w' σ'→au C (q.app s) a' w' σ'→K a' w'):o.wp C.P a w K Q:=by
 refine hsim _ _ fun cv w' σ' hop=>?_
 obtain ⟨σ'',hs,hc⟩:=hop.abJ hd p.p.fz
 rw [hdst]
 refine hK _ _ _ hs (hc.BG hfr (fun k cs hk=>?_) (fun k cs hk hc=>?_))
 ·have:=hbx k cs hk
  cases p.p.d<;>exact this
 ·have:=hhp k cs hk hc
  cases p.p.d<;>exact this
theorem Gm{dp:Nat}{p:b6}{s:St}{k:Key}{cs nw:List AV}(fr:List (Nat×AV))(hb:(view p s).box dp k=some cs) :
  (∀ k' cs',((⟨fr,[],di ((view p s).aK dp k nw).bx p.vb,if p.vh=true then some ((view p s).aK dp k nw).hp else none⟩:bZ).app s).box dp k'=some cs'→(s.aK dp k nw).box dp k'=some cs')∧
  (∀ k' cs',k'.dp≠dp→((⟨fr,[],di ((view p s).aK dp k nw).bx p.vb,if p.vh=true then some ((view p s).aK dp k nw).hp else none⟩:bZ).app s).hp k'=some cs'→(s.aK dp k nw).hp k'=some cs'):=by
 have hb':=(JB p s dp).bx k cs hb
 refine ⟨fun k' cs' hk'=>?_,fun k' cs' hkd hk'=>?_⟩
 ·rw [iK hb']
  by_cases hkd':k'.dp=dp
  ·simp only [St.box,hkd',an,bZ.app,dX,rS] at hk'
   by_cases hkd:k.dp=dp
   ·simp only [St.aK,hkd,an] at hk'
    by_cases hkk:k'=k
    ·subst hkk
     rw [aa rfl]
     have hvb:aO (view p s).bx k'.d=some cs:=by simpa [St.box,hkd] using hb
     have hin:k'.d∈p.vb:=by
      have:∀ ks,aO (di s.bx ks) k'.d=some cs→k'.d∈ks:=by
       intro ks hks
       refine D9 s.bx ks ?_
       apply km
       intro hno
       rw [tV hno] at hks;cases hks
      exact this p.vb hvb
     have hkeep:∀ (bx:List (Nat×List AV))(ks:List Nat)(d:Nat),d∈ks→aO (di bx ks) d=aO bx d:=by
      intro bx ks d
      induction ks with
      | nil=>intro h;cases h
      | cons c ks ih=>
       intro hm
       simp only [di]
       cases hc2:aO bx c with
       | none=>
        simp only
        rcases cQ.1 hm with rfl | hm
        ·cases hq2:aO (di bx ks) d with
         | none=>exact hc2.symm
         | some z=>have:=df hq2;rw [hc2] at this;cases this
        ·exact ih hm
       | some z=>
        simp only [aO]
        by_cases hcd:c=d
        ·subst hcd;rw [aa rfl,hc2]
        ·rw [ab hcd]
         rcases cQ.1 hm with rfl | hm
         ·exact absurd rfl hcd
         ·exact ih hm
     rw [hkeep _ _ _ hin,vW,aa rfl,hvb] at hk'
     have hsb:aO s.bx k'.d=some cs:=by simpa [St.box,hkd] using hb'
     rw [hsb] at hk'
     exact hk'
    ·rw [ab hkk]
     have hne:k'.d≠k.d:=fun e=>hkk (by cases k;cases k';simp at hkd hkd' e;rw [hkd,hkd',e])
     simp only [St.box,hkd',an]
     cases hq:aO (di (nB (view p s).bx k.d nw) p.vb) k'.d with
     | none=>rw [hq] at hk';exact hk'
     | some z=>
      rw [hq] at hk'
      have h1:=df hq
      rw [vW,ab hne] at h1
      have h2:aO s.bx k'.d=some z:=df h1
      rw [h2] at hk' ⊢
      exact hk'
   ·simp only [St.aK,ab hkd] at hk'
    have hkk:k'≠k:=fun e=>hkd (e▸hkd')
    rw [ab hkk]
    simp only [St.box,hkd',an]
    cases hq:aO (di (view p s).bx p.vb) k'.d with
    | none=>rw [hq] at hk';exact hk'
    | some z=>
     rw [hq] at hk'
     have h1:=df hq
     have h2:aO s.bx k'.d=some z:=df h1
     rw [h2] at hk' ⊢
     exact hk'
  ·simp only [St.box,ab hkd',bZ.app] at hk' ⊢
   by_cases hkd:k.dp=dp
   ·have hkk:k'≠k:=fun e=>hkd' (e▸hkd)
    rw [ab hkk]
    simp only [St.aK,hkd,an] at hk'
    by_cases hv:p.vh=true
    ·simp only [hv,an,od,view] at hk';exact hk'
    ·simp only [ab hv,Option.getD_none] at hk';exact hk'
   ·by_cases hv:p.vh=true
    ·simp only [St.aK,ab hkd,hv,an,od,view,aG] at hk'
     exact hk'
    ·exfalso
     simp only [St.box,ab hkd,view,ab hv] at hb
     cases hb
 ·by_cases hkd2:k.dp=dp
  ·simp only [St.aK,hkd2,an] at hk' ⊢
   by_cases hv:p.vh=true
   ·simp only [bZ.app,hv,an,od,view] at hk';exact hk'
   ·simp only [bZ.app,ab hv,Option.getD_none] at hk';exact hk'
  ·simp only [St.aK,ab hkd2] at hk' ⊢
   by_cases hv:p.vh=true
   ·simp only [bZ.app,hv,an,od,view] at hk';exact hk'
   ·exfalso
    simp only [St.box,ab hkd2,view,ab hv] at hb
    cases hb
theorem au.W3{p:b6}{r:AV×St}{K:Act→World→Prop}{Q:Exit→Act→World→Prop}(hR:lM C.P R)(hΩ:ix C.P Ω)(h:au C s a w σ)(hlo:bG C.P p.p.o o.op=true)(hdst:o.dst=p.p.d)(hd:∀ dd,p.p.d=some dd→dd<C.nt)
  (hk:iw p=true) (hfree:Na p.p.o=true→∀ dd,p.p.d=some dd→lf C.E.dp s dd) (hlt:lx (view p s) p.p.o=true) (hls:er C.E.dp p (view p s)=true) (hfb:uO p.p.o p.cs=true→∀ h∈p.vb,rT C.E.dp s h) (hr:execOp R Ω C.E (view p s) p.p.d p.p.o=some r)
  (hK:∀ a' w' σ',cK C w σ w' σ'→au C ((effect p r).app s) a' w' σ'→K a' w'):o.wp C.P a w K Q:=by
 have hle:=JB p s C.E.dp
 have wx:Gk p.p.o=false→l7 p=false→∀ s',ez C o p.p.d a w σ s' r.1→(∀ d',d'∈p.cs∨p.p.d=some d'∨ay s.fr d'=ay s'.fr d')→(∀ k,s'.box C.E.dp k=s.box C.E.dp k)→s'.hp=s.hp→o.wp C.P a w K Q:=by
  intro h1 h2 s' he hf hb hh
  have he2:=Ic (r:=r) h1 h2
  rw [he2] at hK
  refine finish hdst hd he (fun d'=>?_) (fun k cs hk=>?_) (fun k cs _ hk=>?_) hK
  ·simp only [bZ.app,lE]
   rw [np,B5]
   cases hdd:p.p.d with
   | none=>
    rw [ab (by simp [yV]),n7]
    by_cases hm:d'∈p.cs
    ·rw [aa hm];exact .inl rfl
    ·rw [ab hm]
     rcases hf d' with h3 | h3 | h3
     ·exact absurd h3 hm
     ·rw [hdd] at h3;cases h3
     ·exact .inr h3
   | some dd=>
    by_cases hm:d'=dd
    ·subst hm
     rw [aa (by simp [yV])]
     exact .inr (by simp [iF,ay,A.put,St.cS])
    ·rw [ab (by simp [yV,hm]),n7]
     by_cases hm2:d'∈p.cs
     ·rw [aa hm2];exact .inl rfl
     ·rw [ab hm2]
      rcases hf d' with h3 | h3 | h3
      ·exact absurd h3 hm2
      ·rw [hdd] at h3;exact absurd (ad h3).symm hm
      ·refine .inr ?_
       simp only [A.put,St.cS,ay,ab (fun e=>hm (Eq.symm e))]
       exact h3
  ·rw [hb];exact hk
  ·rw [hh];exact hk
 have plain:Gk p.p.o=false→l7 p=false→∀ s',execOp R Ω C.E s p.p.d p.p.o=some (r.1,s')→(∀ d',d'∈p.cs∨p.p.d=some d'∨ay s.fr d'=ay s'.fr d')→(∀ k,s'.box C.E.dp k=s.box C.E.dp k)→s'.hp=s.hp→o.wp C.P a w K Q:=
  fun h1 h2 s' he hf hb hh=>wx h1 h2 s' (Dq hR hΩ p.p.o h hlo he) hf hb hh
 have hdrop:∀ {dd},p.p.d=some dd→lf C.E.dp s dd→∀ d',d'∈p.cs∨p.p.d=some d'∨ay s.fr d'=ay (s.aX (.s dd)).fr d':=by
  intro dd _ hf d'
  refine .inr (.inr ?_)
  simp only [St.aX,mF,(hf.fr d').2,bn,aI]
 cases hao:p.p.o with
 | bx x=>simp [iw,hao] at hk
 | c2 f args=>simp [iw,hao] at hk
 | d2 x args=>simp [iw,hao] at hk
 | c3 f args=>
  rw [hao] at hr hlo
  obtain ⟨_,h2⟩:=Oh (d:=p.p.d) hR.h h (fun x hx=>hle.ev rfl hx) hle.bx hlo hr
  exact wx (by rw [hao];rfl) (by simp [l7,mA,hao,uA]) s h2 (fun d'=>.inr (.inr rfl)) (fun _=>rfl) rfl
 | d3 x args=>
  rw [hao] at hr hlo
  obtain ⟨_,h2⟩:=Oi (d:=p.p.d) hR.h h (fun x hx=>hle.ev rfl hx) hle.bx hlo hr
  exact wx (by rw [hao];rfl) (by simp [l7,mA,hao,uA]) s h2 (fun d'=>.inr (.inr rfl)) (fun _=>rfl) rfl
 | cr t f args=>simp [iw,hao] at hk
 | cm t f args x=>simp [iw,hao] at hk
 | as x=>
  rw [hao] at hr hlt hlo
  refine plain (by rw [hao];rfl) (by simp [l7,mA,hao,uA]) s ?_ (fun d'=>.inr (.inr rfl)) (fun _=>rfl) rfl
  rw [hao]
  have hc:((view p s).ev x).copy=true:=hlt
  have hx:=hle.ev rfl (vY hc)
  cases x with
  | c z=>
   simp only [execOp] at hr ⊢
   split at hr
   ·rename_i hp
    obtain rfl:=ad hr
    rw [aa hp]
   ·cases hr
  | t n=>
   have hx':ay s.fr n=ay (view p s).fr n:=hx
   simp only [execOp] at hr ⊢
   have hc':(ay (view p s).fr n).copy=true:=hc
   rw [hx']
   generalize ay (view p s).fr n=y at hr hc'
   cases y<;>first | (simp [AV.copy] at hc';done) | skip
   all_goals
    simp only [hc',vF,an] at hr ⊢
    obtain rfl:=ad hr
    rfl
 | bs t sz es=>
  rw [hao] at hr hlt hlo
  simp only [execOp] at hr
  obtain ⟨dd,hdd,hr1⟩:=af.1 hr
  have hf:=hfree (by rw [hao];rfl) dd hdd
  split at hr1
  ·rename_i hall
   obtain rfl:=ad hr1
   refine plain (by rw [hao];rfl) (by simp [l7,mA,hao,uA]) (s.aX (.s dd)) ?_ (hdrop hdd hf) (fun _=>rfl) rfl
   rw [hao]
   have hm:=hle.map (xs:=es) fun x hx=>by
    have:=bO.1 hall _ (oe hx)
    simp only [aB] at this
    exact abK this.1.1
   simp only [execOp,hdd,ae,hm,aa hall]
  ·cases hr1
 | ms t sz by_ z n=>
  rw [hao] at hr hlt hlo
  simp only [execOp] at hr
  obtain ⟨dd,hdd,hr1⟩:=af.1 hr
  obtain ⟨m,hm,hr2⟩:=af.1 hr1
  have hf:=hfree (by rw [hao];rfl) dd hdd
  split at hr2
  ·rename_i hc
   obtain rfl:=ad hr2
   refine plain (by rw [hao];rfl) (by simp [l7,mA,hao,uA]) (s.aX (.s dd)) ?_ (hdrop hdd hf) (fun _=>rfl) rfl
   rw [hao]
   simp only [execOp,hdd,ae,hle.nat hm,aa hc]
  ·cases hr2
 | ap t sz by_ x y=>
  rw [hao] at hr hlt hlo
  simp only [execOp] at hr
  obtain ⟨dd,hdd,hr1⟩:=af.1 hr
  obtain ⟨ys,hys,hr2⟩:=af.1 hr1
  obtain ⟨qq,hqq,hr3⟩:=af.1 hr2
  have hf:=hfree (by rw [hao];rfl) dd hdd
  split at hr3
  ·rename_i hc
   obtain rfl:=ad hr3
   have hyu:(view p s).ev y≠.u:=by intro e;rw [e] at hys;cases hys
   by_cases hrc:Iq ((view p s).ev x)=true
   ·
    have h2:(p.cs.length==2)=true:=by
     have:=hls
     simp only [er,hao,hrc] at this
     simpa using this
    cases x with
    | c z=>
     exfalso
     unfold A.consume at hqq
     cases z<;>first | (simp [St.ev,Iq] at hrc;done) | cases hqq
    | t m=>
     have hcs:p.cs=[m,m]:=by
      have:=hk
      simp only [iw,hao,jq,cR] at this
      rcases this with e | e
      ·rw [e] at h2;cases h2
      ·exact e
     have hx:∃ k off,ay (view p s).fr m= .r (.c k off):=by
      have h3:Iq (ay (view p s).fr m)=true:=hrc
      generalize ay (view p s).fr m=z at h3
      cases z<;>first | (cases h3;done) | skip
      rename_i pl
      cases pl with
      | s d=>cases h3
      | c k off=>exact ⟨k,off,rfl⟩
     obtain ⟨k,off,hx⟩:=hx
     unfold A.consume at hqq
     simp only [hx] at hqq
     split at hqq
     ·rename_i hmine
      obtain ⟨rw1,hrow,hq1⟩:=af.1 hqq
      split at hq1
      ·rename_i htt
       obtain ⟨st',hput,hq2⟩:=af.1 hq1
       obtain rfl:=ad hq2
       simp only [St.putAt] at hput
       split at hput
       ·rename_i cs0 hb
        obtain rfl:=ad hput
        have hb':=hle.bx k cs0 hb
        have hrow':s.rowAt C.E.dp (.c k off)=some rw1:=by
         simp only [St.rowAt,hb] at hrow
         simp only [St.rowAt,hb']
         exact hrow
        have hcon:A.consume C.E s t (.t m)=some (rw1.2,s.aK C.E.dp k (cs0.set off .u)):=by
         simp only [A.consume,hle.slot hx (by simp),aa hmine,hrow',ae,aa htt,St.putAt,hb']
        have hex:execOp R Ω C.E s p.p.d p.p.o=some (.o t (rw1.2++ys.2),(s.aK C.E.dp k (cs0.set off .u)).aX (.s dd)):=by
         rw [hao]
         simp only [execOp,hdd,ae,hle.ev (x:=y) rfl hyu,hle.elems hys,hcon,aa hc]
        have hsim:=Dq hR hΩ p.p.o h (by rw [hao];exact hlo) hex
        have he:∀ r:AV×St,effect p r=⟨iF p.p.d (eH p.p.fz r.1)++p.cs.map (fun m=>(m,.u)),[],di r.2.bx p.vb,if p.vh=true then some r.2.hp else none⟩:=by
         intro r
         unfold effect
         simp only [hao,h2,an,gY]
        rw [he] at hK
        obtain ⟨sb1,sb2⟩:=Gm (nw:=cs0.set off .u) (iF p.p.d (eH p.p.fz (.o t (rw1.2++ys.2)))++p.cs.map (fun m=>(m,AV.u))) hb
        refine finish hdst hd hsim (fun d'=>?_) sb1 sb2 hK
        simp only [bZ.app,lE]
        rw [np,B5,hdd]
        by_cases hm:d'=dd
        ·subst hm
         rw [aa (by simp [yV])]
         exact .inr (by simp [iF,ay,A.put,St.cS])
        ·rw [ab (by simp [yV,hm]),n7]
         split
         ·exact .inl rfl
         ·refine .inr ?_
          simp only [A.put,St.cS,ay,ab (fun e=>hm (Eq.symm e)),St.aX,mF,nY,(hf.fr d').2,bn,aI]
       ·cases hput
      ·cases hq1
     ·cases hqq
   have hnw:l7 p=false:=by
    have:=hls
    simp only [er,hao,cR] at this
    simp only [l7,mA,hao,uA,jl,←this]
    simpa using hrc
   have hcon:∃ s1:St,A.consume C.E s t x=some (qq.1,s1)∧(∀ d',d'∈p.cs∨ay s.fr d'=ay s1.fr d')∧(∀ k,s1.box C.E.dp k=s.box C.E.dp k)∧s1.hp=s.hp∧(∀ d',(ay s1.fr d').jf (.s dd)=false):=by
    unfold A.consume at hqq
    split at hqq
    ·obtain rfl:=ad hqq
     exact ⟨s,rfl,fun _=>.inr rfl,fun _=>rfl,rfl,fun d'=>(hf.fr d').2⟩
    ·cases hqq
    ·rename_i m
     have hcs:m∈p.cs:=by
      have:=hk
      simp only [iw,hao,jq,cR] at this
      rcases this with e | e<;>rw [e]<;>simp
     split at hqq
     ·rename_i hx
      obtain rfl:=ad hqq
      refine ⟨s,?_,fun _=>.inr rfl,fun _=>rfl,rfl,fun d'=>(hf.fr d').2⟩
      simp only [A.consume,hle.slot hx (by simp)]
     ·rename_i t' es hx
      split at hqq
      ·rename_i htt
       obtain rfl:=ad hqq
       refine ⟨s.cS m .u,?_,fun d'=>?_,fun _=>rfl,rfl,fun d'=>?_⟩
       ·simp only [A.consume,hle.slot hx (by simp),aa htt]
       ·rw [lg]
        by_cases hm:m=d'
        ·exact .inl (hm▸hcs)
        ·exact .inr (by rw [ab hm])
       ·rw [lg]
        split
        ·rfl
        ·exact (hf.fr d').2
      ·cases hqq
     ·rename_i pl hx
      simp only [lx,St.ev,hx] at hlt
      simp only [Iq,St.ev,hx] at hrc
      cases pl with
      | s d=>cases hlt
      | c k off=>exact absurd rfl hrc
     ·rename_i pl lo len hx
      simp only [lx,St.ev,hx] at hlt
      cases hlt
     ·cases hqq
   obtain ⟨s1,h1,h2,h3,h4,h5⟩:=hcon
   refine plain (by rw [hao];rfl) hnw (s1.aX (.s dd)) ?_ (fun d'=>?_) (fun k=>h3 k) h4
   ·rw [hao]
    simp only [execOp,hdd,ae,hle.ev (x:=y) rfl hyu,hle.elems hys,h1,aa hc]
   ·rcases h2 d' with h6 | h6
    ·exact .inl h6
    ·refine .inr (.inr ?_)
     simp only [St.aX,mF,h5 d',bn,aI]
     exact h6
  ·cases hr3
 | al zs=>
  rw [hao] at hr hlt hlo
  simp only [execOp] at hr
  obtain ⟨dd,hdd,hr1⟩:=af.1 hr
  have hf:=hfree (by rw [hao];rfl) dd hdd
  split at hr1
  ·rename_i hcd
   have hd6:dd<1000000:=by simp only [iZ,aB,cE] at hcd;exact hcd.1.1.2
   obtain rfl:=ad hr1
   have he:effect p (.p ⟨C.E.dp,dd⟩ 0,{(view p s) with bx:=(dd,zs)::(view p s).bx})=⟨[(dd,.p ⟨C.E.dp,dd⟩ 0)],[(dd,zs)],[],none⟩:=by
    unfold effect
    rw [hao,hdd]
   rw [he] at hK
   refine finish (s:=s) hdst hd (Od (d:=p.p.d) h hd6 hlo hdd (fun d'=>(hf.fr d').1) (fun d' cs' hb c hc=>hf.cs d' cs' hb c hc)) (fun d'=>.inr ?_) (fun k cs hk=>?_) (fun k cs _ hk=>?_) hK
   ·rw [hdd]
    have:eH p.p.fz (.p ⟨C.E.dp,dd⟩ 0)= .p ⟨C.E.dp,dd⟩ 0:=by cases p.p.fz<;>rfl
    rw [this]
    rfl
   ·by_cases hkd:k.dp=C.E.dp
    ·simp only [St.box,bZ.app,hkd,an,Bq,eA,dX] at hk ⊢
     exact hk
    ·simp only [St.box,bZ.app,ab hkd] at hk ⊢
     exact hk
   ·exact hk
  ·cases hr1
 | st n x y=>
  rw [hao] at hr hlt hlo
  have hdn:p.p.d=none:=by
   have:=hk
   simp only [iw,hao,aB,cR] at this
   exact this.1
  simp only [lx,aB,jq] at hlt
  obtain ⟨hyc,hxp⟩:=hlt
  have hyu:(view p s).ev y≠.u:=by
   intro e;rw [e] at hyc;rcases hyc with h | h<;>cases h
  have hy:=hle.ev rfl hyu
  have heff:∀ r:AV×St,effect p r=⟨p.cs.map (fun m=>(m,.u)),[],di r.2.bx p.vb,if p.vh=true then some r.2.hp else none⟩:=by
   intro r
   unfold effect
   rw [hao]
  simp only [execOp] at hr
  split at hr
  ·rename_i k off hx
   split at hr
   ·rename_i hm
    obtain ⟨cs,hb,hr1⟩:=af.1 hr
    have hb':=hle.bx k cs hb
    split at hr1
    ·rename_i t' es hyy
     have hrow:tX ((view p s).ev y)=true:=by rw [hyy];rfl
     have hls2:=hls
     simp only [er,hao,hrow,hx,pT,jl,aB,cE,cR] at hls2
     obtain ⟨⟨hkd,hvb⟩,hcs⟩:=hls2
     cases y with
     | c z=>cases hcs
     | t m=>
      have hcs':p.cs=[m]:=by simpa using hcs
      have hfb':rT C.E.dp s k.d:=hfb (by rw [hao];simp [uO,hcs']) k.d (by rw [hvb];simp)
      simp only at hr1
      split at hr1
      ·rename_i hc
       obtain rfl:=ad hr1
       have hex:execOp R Ω C.E s p.p.d p.p.o=some (.u,((s.cS m .u).aX (.c k off)).aK C.E.dp k (cs.set off (.o t' es))):=by
        rw [hao]
        simp only [execOp,hle.ev hx (by simp),aa hm,hb',ae,hy,hyy]
        rw [aa hc]
       have hsim:=Dq (r:=(.u,((s.cS m .u).aX (.c k off)).aK C.E.dp k (cs.set off (.o t' es)))) hR hΩ p.p.o h (by rw [hao];exact hlo) hex
       rw [heff,hcs'] at hK
       have hbx0:∀ nw,(((view p s).cS m .u).aX (.c k off)).aK C.E.dp k nw=({((view p s).aK C.E.dp k nw) with fr:=(((view p s).cS m .u).aX (.c k off)).fr} : St):=by
        intro nw
        simp only [St.aK,hkd,an,St.aX,St.cS]
       rw [hbx0] at hK
       obtain ⟨sb1,sb2⟩:=Gm (nw:=cs.set off (.o t' es)) [(m,.u)] hb
       have hbx1:∀ nw k',((((s.cS m .u).aX (.c k off)).aK C.E.dp k nw).box C.E.dp k')=(s.aK C.E.dp k nw).box C.E.dp k':=by
        intro nw k'
        simp only [St.aK,hkd,an,St.aX,St.cS,St.box]
       have hhp1:∀ nw,((((s.cS m .u).aX (.c k off)).aK C.E.dp k nw).hp)=(s.aK C.E.dp k nw).hp:=by
        intro nw
        simp only [St.aK,hkd,an,St.aX,St.cS]
       refine finish hdst hd hsim (fun d'=>?_) (fun k' cs' hk'=>?_) (fun k' cs' hkd' hk'=>?_) hK
       ·rw [hdn]
        simp only [bZ.app,A.put,nY,cq,mW,eA,dX,ay]
        by_cases hmd:m=d'
        ·rw [aa hmd];exact .inl rfl
        ·rw [ab hmd]
         refine .inr ?_
         simp only [St.aX,St.cS,mF,ay,ab hmd]
         rw [ab]
         intro hbor
         have:=hfb' d'
         rw [←hkd] at this
         rw [Ue hbor] at this;cases this
       ·rw [hbx1];exact sb1 k' cs' hk'
       ·rw [hhp1];exact sb2 k' cs' hkd' hk'
      ·cases hr1
    ·rename_i pl lo len hyy
     rw [hyy] at hyc;rcases hyc with h | h<;>cases h
    ·rename_i hyo hyv
     have hyc':((view p s).ev y).copy=true:=by
      rcases hyc with h | h
      ·exact h
      ·exfalso
       generalize (view p s).ev y=z at h hyo
       cases z<;>first | (exact hyo _ _ rfl) | (exact absurd rfl (hyo _ _)) | (cases h;done)
     split at hr1
     ·rename_i hc
      obtain rfl:=ad hr1
      have hex:execOp R Ω C.E s p.p.d p.p.o=some (.u,s.aK C.E.dp k (putCells cs off ((view p s).ev y).cl)):=by
       rw [hao]
       simp only [execOp,hle.ev hx (by simp),aa hm,hb',ae,hy]
       rw [aa hc]
      have hsim:=Dq (r:=(.u,s.aK C.E.dp k (putCells cs off ((view p s).ev y).cl))) hR hΩ p.p.o h (by rw [hao];exact hlo) hex
      rw [heff] at hK
      obtain ⟨sb1,sb2⟩:=Gm (nw:=putCells cs off ((view p s).ev y).cl) (p.cs.map fun m=>(m,AV.u)) hb
      refine finish hdst hd hsim (fun d'=>?_) sb1 sb2 hK
      rw [hdn]
      simp only [bZ.app,A.put,nY]
      rw [n7]
      split
      ·exact .inl rfl
      ·exact .inr rfl
     ·cases hr1
   ·cases hr
  ·rename_i hx
   rw [hx] at hxp;cases hxp
  ·cases hr
 | _=>
  have hqk:qk p.p.o=true:=by rw [hao];rfl
  obtain ⟨_,h2⟩:=Lg hle hqk hlt hr
  exact plain (by rw [hao];rfl) (by simp [l7,mA,hao,uA]) s h2 (fun d'=>.inr (.inr rfl)) (fun _=>rfl) rfl
end
variable [bI]
section
variable {C:Cx}{s:St}{a:Act}{w:World}{σ:Sp}{o:Oper}{R:Rec}{Ω:dt}
theorem au.ahc{nt i:Nat}{ops:Array Oper}{p:b6}{q:bZ}{K:Act→World→Prop}{Q:Exit→Act→World→Prop}(hR:lM C.P R)(hΩ:ix C.P Ω)(h:au C s a w σ)(ho:ops[i]? =some o)(hl:Dr C.P nt ops o p.p=true)(hnt:nt≤C.nt)
  (hk:iw p=true) (hfree:Na p.p.o=true→∀ dd,p.p.d=some dd→lf C.E.dp s dd) (hfb:uO p.p.o p.cs=true→∀ h∈p.vb,rT C.E.dp s h) (hq:ed R Ω C.E p s=some q) (hK:∀ a' w' σ',cK C w σ w' σ'→au C (q.app s) a' w' σ'→K a' w'):wpOp C.P ops Q i K a w:=by
 obtain ⟨hlo,hdst,hd,hgd⟩:=FL hl hnt
 obtain ⟨hg1,hg2⟩:=h.guard hgd
 have hcore:jc R Ω C.E p (view p s)=some q→o.wp C.P a w K Q:=by
  intro hc
  unfold jc at hc
  split at hc
  ·rename_i hlt
   obtain ⟨r,hr,h2⟩:=af.1 hc
   split at h2
   ·obtain rfl:=ad h2
    simp only [aB] at hlt
    exact h.W3 hR hΩ hlo hdst hd hk hfree hlt.1 hlt.2 hfb hr hK
   ·cases h2
  ·cases hc
 simp only [wpOp,ho]
 unfold ed at hq
 split at hq
 ·rename_i hgn
  rw [aa (hg1 hgn)]
  exact .inl (hcore hq)
 ·rename_i j want hgs
  obtain ⟨y,hy,hq1⟩:=af.1 hq
  have hwt:=hg2 j want y hgs hy
  split at hq1
  ·rename_i hyt
   rw [aa (by rw [hwt,hyt])]
   exact .inl (hcore hq1)
  ·rename_i hyf
   rw [ab (by rw [hwt];exact hyf)]
   refine hK _ _ _ (.refl _ _ _) ?_
   rw [←ad hq1,hdst]
   refine (h.VJ hd).se ⟨fun d'=>?_,fun d'=>?_,?_,fun y=>?_⟩
   ·simp only [bZ.app];rw [Sg]
   ·cases p.p.d<;>rfl
   ·cases p.p.d<;>rfl
   ·cases p.p.d<;>exact Iff.rfl
theorem B6{s:St}{dp:Nat}{k:Key}{cs zs:List AV}{d:Nat}(h:aO (s.aK dp k cs).bx d=some zs):aO s.bx d=some zs∨zs=cs:=by
 unfold St.aK at h
 split at h
 ·simp only [vW] at h
  split at h
  ·rename_i e
   cases hb:aO s.bx k.d with
   | none=>rw [hb] at h;cases h
   | some z=>
    rw [hb] at h
    exact .inr (ad h).symm
  ·exact .inl h
 ·exact .inl h
theorem ace{k:Key}{y:AV}(h:y.cJ k=true):∀ c∈y.cl,c.cJ k=true:=by
 intro c hc
 cases y<;>simp only [AV.cl,gm] at hc<;>first | (subst hc;exact h) | skip
 exact n9 (by simpa [AV.cJ] using h) c hc
theorem lf.step{p:b6}{q:bZ}{h:Nat}{op:Op}(hf:lf C.E.dp s h)(hlo:bG C.P p.p.o op=true)(hk:iw p=true)(hn:h∈p.nk)(hq:ed R Ω C.E p s=some q):lf C.E.dp (q.app s) h:=by
 have hle:=JB p s C.E.dp
 have hvf:∀ d,(ay (view p s).fr d).cJ ⟨C.E.dp,h⟩=true:=fun d=>by
  rcases hle.fr d with e | e
  ·rw [e];rfl
  ·rw [e];exact (hf.fr d).1
 have hgen:∀ (x:AV)(cs:List Nat),x.cJ ⟨C.E.dp,h⟩=true→x.jf (.s h)=false→lf C.E.dp ((⟨iF p.p.d x++cs.map (fun m=>(m,.u)),[],[],none⟩:bZ).app s) h:=by
  intro x cs hx hb
  refine ⟨fun d=>?_,hf.cs⟩
  simp only [bZ.app,lE]
  rw [np]
  split
  ·rename_i hm
   cases hd:p.p.d with
   | none=>rw [hd] at hm;simp [iF,eY] at hm
   | some dd=>
    rw [hd] at hm
    simp only [iF,eY,cq,mW,gm] at hm
    subst hm
    simp [iF,ay,hx,hb]
  ·rw [n7]
   split
   ·exact ⟨rfl,rfl⟩
   ·exact hf.fr d
 have hcore:jc R Ω C.E p (view p s)=some q→lf C.E.dp (q.app s) h:=by
  intro hc
  unfold jc at hc
  split at hc
  ·rename_i hlt2
   have hlt:=(vM.1 hlt2).1
   obtain ⟨r,hr,h2⟩:=af.1 hc
   split at h2
   ·rename_i hok2
    have hok:=(vM.1 hok2).1
    obtain rfl:=ad h2
    have hx:r.1.cJ ⟨C.E.dp,h⟩=true∧r.1.jf (.s h)=false:=by
     have:=bO.1 hok h hn
     simpa using this
    have hfz:(eH p.p.fz r.1).cJ ⟨C.E.dp,h⟩=true∧(eH p.p.fz r.1).jf (.s h)=false:=by
     cases p.p.fz with
     | false=>simpa [eH] using hx
     | true=>cases hr1:r.1<;>rw [hr1] at hx<;>first | exact hx | exact ⟨rfl,rfl⟩
    by_cases hal:Gk p.p.o=true
    ·cases hao:p.p.o<;>rw [hao] at hal<;>simp [Gk] at hal
     case al zs=>
      rw [hao] at hr hlo
      simp only [execOp] at hr
      obtain ⟨dd,hdd,hr1⟩:=af.1 hr
      split at hr1
      ·obtain rfl:=ad hr1
       have he:effect p (.p ⟨C.E.dp,dd⟩ 0,{(view p s) with bx:=(dd,zs)::(view p s).bx})=⟨[(dd,.p ⟨C.E.dp,dd⟩ 0)],[(dd,zs)],[],none⟩:=by
        unfold effect
        rw [hao,hdd]
       rw [he]
       refine ⟨fun d=>?_,fun d cs hb c hc=>?_⟩
       ·simp only [bZ.app,eA,dX,ay]
        split
        ·exact hx
        ·exact hf.fr d
       ·simp only [bZ.app,eA,dX,aO,Bq] at hb
        split at hb
        ·obtain rfl:=ad hb
         exact lC c (Wf hlo c hc)
        ·exact hf.cs d cs hb c hc
      ·cases hr1
    ·by_cases hst:uA p.p.o=true
     ·cases hao:p.p.o<;>rw [hao] at hst<;>simp [uA] at hst
      rename_i n x y
      rw [hao] at hr hlo hlt
      simp only [lx,aB,jq] at hlt
      obtain ⟨hyc,hxp⟩:=hlt
      have hyk:((view p s).ev y).cJ ⟨C.E.dp,h⟩=true:=by
       cases y with
       | t m=>exact hvf m
       | c z=>
        have hp:z.pure=true:=by
         simp only [bG] at hlo
         split at hlo
         ·simp only [aB] at hlo
          exact s0 hlo.1.2
         ·cases hlo
        exact lC z hp
      have hcs:∀ d cs,aO r.2.bx d=some cs→∀ c∈cs,c.cJ ⟨C.E.dp,h⟩=true:=by
       simp only [execOp] at hr
       split at hr
       ·rename_i k off hx'
        split at hr
        ·rename_i hm
         obtain ⟨cs0,hb0,hr1⟩:=af.1 hr
         split at hr1
         ·rename_i t' es hyy
          split at hr1
          ·rename_i m
           split at hr1
           ·obtain rfl:=ad hr1
            intro d cs hb c hc
            rcases B6 hb with h3 | rfl
            ·exact hf.cs d cs (df h3) c hc
            ·rcases iD hc with hc | rfl
             ·by_cases hkd:k.dp=C.E.dp
              ·have h4:aO (view p s).bx k.d=some cs0:=by simpa [St.box,hkd] using hb0
               exact hf.cs k.d cs0 (df h4) c hc
              ·simp only [St.aK,ab hkd] at hb
               exact hf.cs d _ (df hb) c (by rcases iD ‹c∈_› with h | h<;>first | exact ‹_› | assumption)
             ·rfl
           ·cases hr1
          ·cases hr1
         ·rename_i pl lo len hyy
          rw [hyy] at hyc;rcases hyc with h | h<;>cases h
         ·split at hr1
          ·obtain rfl:=ad hr1
           intro d cs hb c hc
           rcases B6 hb with h3 | rfl
           ·exact hf.cs d cs (df h3) c hc
           ·
            by_cases hkd:k.dp=C.E.dp
            ·rcases yg hc with hc | hc
             ·have h4:aO (view p s).bx k.d=some cs0:=by simpa [St.box,hkd] using hb0
              exact hf.cs k.d cs0 (df h4) c hc
             ·exact ace hyk c hc
            ·simp only [St.aK,ab hkd] at hb
             exact hf.cs d _ (df hb) c hc
          ·cases hr1
        ·cases hr
       ·rename_i hx'
        rw [hx'] at hxp;cases hxp
       ·cases hr
      have he:effect p r=⟨p.cs.map (fun m=>(m,.u)),[],di r.2.bx p.vb,if p.vh=true then some r.2.hp else none⟩:=by
       unfold effect
       rw [hao]
      rw [he]
      refine ⟨fun d=>?_,fun d cs hb c hc=>?_⟩
      ·simp only [bZ.app]
       rw [n7]
       split
       ·exact ⟨rfl,rfl⟩
       ·exact hf.fr d
      simp only [bZ.app,dX,rS] at hb
      split at hb
      ·rename_i zs hz
       cases hb2:aO s.bx d with
       | none=>rw [hb2] at hb;cases hb
       | some z=>
        rw [hb2] at hb
        obtain rfl:=ad hb
        exact hcs d _ (df hz) c hc
      ·exact hf.cs d cs hb c hc
     ·by_cases hra:mA p=true
      ·unfold mA at hra
       split at hra
       ·rename_i t sz by_ x y hao
        rw [hao] at hr hlt
        have he:effect p r=⟨iF p.p.d (eH p.p.fz r.1)++p.cs.map (fun m=>(m,.u)),[],di r.2.bx p.vb,if p.vh=true then some r.2.hp else none⟩:=by
         unfold effect
         simp only [hao,hra,an,gY]
        rw [he]
        simp only [execOp] at hr
        obtain ⟨dd,hdd,hr1⟩:=af.1 hr
        obtain ⟨ys,hys,hr2⟩:=af.1 hr1
        obtain ⟨qq,hqq,hr3⟩:=af.1 hr2
        have hcs:∀ d cs,aO qq.2.bx d=some cs→∀ c∈cs,c.cJ ⟨C.E.dp,h⟩=true:=by
         unfold A.consume at hqq
         split at hqq
         ·obtain rfl:=ad hqq
          exact fun d cs hb c hc=>hf.cs d cs (df hb) c hc
         ·cases hqq
         ·rename_i m
          split at hqq
          ·obtain rfl:=ad hqq
           exact fun d cs hb c hc=>hf.cs d cs (df hb) c hc
          ·split at hqq
           ·obtain rfl:=ad hqq
            exact fun d cs hb c hc=>hf.cs d cs (df hb) c hc
           ·cases hqq
          ·rename_i pl hx
           split at hqq
           ·obtain ⟨rw1,hrow,hq1⟩:=af.1 hqq
            split at hq1
            ·obtain ⟨st',hput,hq2⟩:=af.1 hq1
             obtain rfl:=ad hq2
             cases pl with
             | s d'=>simp only [lx,St.ev,hx] at hlt;cases hlt
             | c k off=>
              simp only [St.putAt] at hput
              split at hput
              ·rename_i cs0 hb0
               obtain rfl:=ad hput
               intro d cs hb c hc
               rcases B6 hb with h3 | rfl
               ·exact hf.cs d cs (df h3) c hc
               ·rcases iD hc with hc | rfl
                ·by_cases hkd:k.dp=C.E.dp
                 ·have h4:aO (view p s).bx k.d=some cs0:=by simpa [St.box,hkd] using hb0
                  exact hf.cs k.d cs0 (df h4) c hc
                 ·simp only [St.aK,ab hkd] at hb
                  exact hf.cs d _ (df hb) c (by rcases iD ‹c∈_› with h | h<;>first | exact ‹_› | assumption)
                ·rfl
              ·cases hput
            ·cases hq1
           ·cases hqq
          ·rename_i pl lo len hx
           simp only [lx,St.ev,hx] at hlt
           cases hlt
          ·cases hqq
        have hbx:r.2.bx=qq.2.bx:=by
         split at hr3
         ·obtain rfl:=ad hr3;rfl
         ·cases hr3
        refine ⟨fun d=>(hgen _ _ hfz.1 hfz.2).fr d,fun d cs hb c hc=>?_⟩
        simp only [bZ.app,dX,rS] at hb
        split at hb
        ·rename_i zs hz
         cases hb2:aO s.bx d with
         | none=>rw [hb2] at hb;cases hb
         | some z=>
          rw [hb2] at hb
          obtain rfl:=ad hb
          rw [hbx] at hz
          exact hcs d _ (df hz) c hc
        ·exact hf.cs d cs hb c hc
       ·cases hra
      ·rw [Ic (by simpa using hal) (by simp only [l7,zx];exact ⟨by simpa using hst,by simpa using hra⟩)]
       exact hgen _ _ hfz.1 hfz.2
   ·cases h2
  ·cases hc
 unfold ed at hq
 split at hq
 ·exact hcore hq
 ·obtain ⟨y,hy,hq1⟩:=af.1 hq
  split at hq1
  ·exact hcore hq1
  ·obtain rfl:=ad hq1
   have:=hgen .sk [] rfl rfl
   simpa using this
end
theorem rT.step{dp:Nat}{ro:Bool}{s:St}{R:Rec}{Ω:dt}{p:b6}{q:bZ}{h:Nat}(hf:rT dp s h)(hn:h∈p.nb)(hq:ed R Ω ⟨dp,ro⟩ p s=some q):rT dp (q.app s) h:=by
 have hput:∀ (x:AV)(cs:List Nat)(nb wb:List (Nat×List AV))(hp:Option HP),jt ⟨dp,h⟩ x=false→rT dp ((⟨iF p.p.d x++cs.map (fun m=>(m,.u)),nb,wb,hp⟩:bZ).app s) h:=by
  intro x cs nb wb hp hx d
  simp only [bZ.app,lE]
  rw [np]
  split
  ·rename_i hm
   cases hd:p.p.d with
   | none=>rw [hd] at hm;simp [iF,eY] at hm
   | some dd=>
    rw [hd] at hm
    simp only [iF,eY,cq,mW,gm] at hm
    subst hm
    simp [iF,ay,hx]
  ·rw [n7]
   split
   ·rfl
   ·exact hf d
 have hcore:jc R Ω ⟨dp,ro⟩ p (view p s)=some q→rT dp (q.app s) h:=by
  intro hc
  unfold jc at hc
  split at hc
  ·obtain ⟨r,hr,h2⟩:=af.1 hc
   split at h2
   ·rename_i hok2
    have hok:=(vM.1 hok2).2
    obtain rfl:=ad h2
    have hx:jt ⟨dp,h⟩ r.1=false:=by
     have:=bO.1 (vM.1 hok).1 h hn
     simpa using this
    have hfz:jt ⟨dp,h⟩ (eH p.p.fz r.1)=false:=by
     cases p.p.fz with
     | false=>simpa [eH] using hx
     | true=>cases hr1:r.1<;>rw [hr1] at hx<;>first | exact hx | rfl
    unfold effect
    split
    ·split
     ·rename_i dd hd
      intro d
      simp only [bZ.app,eA,dX,ay]
      split
      ·exact hx
      ·exact hf d
     ·intro d;exact hf d
    ·intro d
     simp only [bZ.app]
     rw [n7]
     split
     ·rfl
     ·exact hf d
    ·exact hput _ _ _ _ _ hfz
    ·exact hput _ _ _ _ _ hfz
   ·cases h2
  ·cases hc
 unfold ed at hq
 split at hq
 ·exact hcore hq
 ·obtain ⟨y,hy,hq1⟩:=af.1 hq
  split at hq1
  ·exact hcore hq1
  ·obtain rfl:=ad hq1
   have:=hput .sk [] [] [] none rfl
   simpa using this
def je(o:Oper):List Nat:=(o.after.toList.filter fun e=>Region.binds .any e).map (·.on)
def Sh(acc:List Nat)(l:List Nat):Nat:=l.foldl (fun s e=>s|||(1 <<< e)|||acc.getD e 0) 0
def Ad(acc:List Nat):List (List Nat)→List Nat
 | []=>acc
 | l::r=>Ad (acc++[Sh acc l]) r
theorem Nb(f:Nat→Nat)(i:Nat):∀ (l:List Nat)(s:Nat),(l.foldl (fun s e=>s|||(1 <<< e)|||f e) s).testBit i=true→s.testBit i=true∨∃ e∈l,e=i∨(f e).testBit i=true
 | [],s,h=>.inl h
 | e::l,s,h=>by
  simp only [pY] at h
  rcases Nb f i l _ h with h | ⟨e',he',h⟩
  ·simp only [Nat.testBit_or,jq] at h
   rcases h with (h | h) | h
   ·exact .inl h
   ·refine .inr ⟨e,by simp,.inl ?_⟩
    rw [Nat.one_shiftLeft,Nat.testBit_two_pow] at h
    simpa using h
   ·exact .inr ⟨e,by simp,.inr h⟩
  ·exact .inr ⟨e',by simp [he'],h⟩
theorem Nc:∀ (L:List (List Nat))(acc:List Nat)(A:List (List Nat)),acc.length=A.length→
  (∀ j i,j<acc.length→(acc.getD j 0).testBit i=true→i∈A.getD j []∨∃ e∈A.getD j [],e<j∧(acc.getD e 0).testBit i=true)→
  ∀ j i,((Ad acc L).getD j 0).testBit i=true→i∈(A++L).getD j []∨∃ e∈(A++L).getD j [],e<j∧((Ad acc L).getD e 0).testBit i=true
 | [],acc,A,hl,h,j,i,hb=>by
  rw [p8]
  simp only [Ad] at hb ⊢
  by_cases hj:j<acc.length
  ·exact h j i hj hb
  ·rw [cp,vJ (by omega)] at hb
   simp at hb
 | l::L,acc,A,hl,h,j,i,hb=>by
  have:=Nc L (acc++[Sh acc l]) (A++[l]) (by simp [hl]) (fun j i hj hb=>?_) j i hb
  ·simpa [Ad] using this
  ·simp only [cC,vC] at hj
   simp only [cp] at hb ⊢
   by_cases hlt:j<acc.length
   ·rw [og hlt] at hb
    rw [og (by omega)]
    rcases h j i hlt (by simpa [cp] using hb) with h1 | ⟨e,he,h2,h3⟩
    ·exact .inl (by simpa [cp] using h1)
    ·refine .inr ⟨e,by simpa [cp] using he,h2,?_⟩
     rw [og (by omega)]
     simpa [cp] using h3
   ·have hje:j=acc.length:=by omega
    subst hje
    rw [tG (aT _)] at hb
    rw [tG (by omega),hl]
    simp only [Nat.sub_self,zm,od] at hb ⊢
    rcases Nb (fun e=>acc.getD e 0) i l 0 hb with h1 | ⟨e,he,h1 | h1⟩
    ·simp at h1
    ·exact .inl (h1▸he)
    ·have hea:e<acc.length:=by
      apply km
      intro hn
      rw [cp,vJ (by omega)] at h1
      simp at h1
     refine .inr ⟨e,he,by omega,?_⟩
     rw [og hea]
     simpa [cp] using h1
def Si(gs:List b6)(i j:Nat):Bool:=
 match gs[i]?,gs[j]? with
 | some p,some q=>(p.lt&&q.lt&&Ac p q)||xJ p q||xJ q p
 | _,_=>false
def B7(P:Program)(nt:Nat)(ops:Array Oper):List Oper→List b6→Bool
 | [],[]=>true
 | o::os,g::gs=>Dr P nt ops o g.p&&(!g.lt||iw g)&&B7 P nt ops os gs
 | _,_=>false
def Uf(q:b6)(dd:Nat):Bool:=false
theorem lf.ahd{R:Rec}{Ω:dt}{E:Env}{s s2:St}{p:b6}{h:Nat}(hf:lf E.dp s h)(hc:Uf p h=true)(he:ee R Ω E s p=some s2):lf E.dp s2 h:=by cases hc
def ajs(M:List Nat)(gs:List b6)(n k dd:Nat):Bool:=
 (List.range n).all fun i=>i==k||(M.getD i 0).testBit k||(match gs[i]? with
  | some q=>(q.lt&&q.nk.contains dd)||Uf q dd
  | none=>true)
def VV(M:List Nat)(gs:List b6)(mks:List Nat)(n:Nat):Bool:=
 (List.range n).all fun k=>match gs[k]? with
  | some p=>!p.lt||!Na p.p.o||(match p.p.d with
   | some dd=>mks.contains dd&&ajs M gs n k dd
   | none=>true)
  | none=>true
def OT(M:List Nat)(gs:List b6)(n:Nat):Bool:=(List.range n).all fun j=>(List.range j).all fun i=>(M.getD j 0).testBit i||Si gs i j
def acf(M:List Nat)(gs:List b6)(n:Nat):Bool:=
 (List.range n).all fun k=>match gs[k]? with
  | some p=>!p.lt||!uO p.p.o p.cs||p.vb.all fun h=>(List.range n).all fun i=>i==k||(M.getD i 0).testBit k||(match gs[i]? with
   | some q=>q.lt&&q.nb.contains h
   | none=>true)
  | none=>true
def Ie(P:Program)(nt:Nat)(ops:Array Oper)(mks:List Nat)(gs:List b6):Bool:=
 P.follows .mixedOrders&&B7 P nt ops ops.toList gs&&((List.range ops.size).all fun i=>match ops[i]? with
  | some o=>(je o).all fun e=>decide (e<i)
  | none=>true)&&
 OT (Ad [] (ops.toList.map je)) gs ops.size&&VV (Ad [] (ops.toList.map je)) gs mks ops.size&&acf (Ad [] (ops.toList.map je)) gs ops.size
theorem Ea{P:Program}{nt:Nat}{ops:Array Oper} : ∀ {os:List Oper}{gs:List b6},B7 P nt ops os gs=true→os.length=gs.length∧∀ (i:Nat)(o:Oper)(p:b6),os[i]? =some o→gs[i]? =some p→Dr P nt ops o p.p=true∧(p.lt=true→iw p=true)
 | [],[],_=>⟨rfl,fun i o p h=>by simp at h⟩
 | o::os,g::gs,h=>by
  simp only [B7,aB] at h
  obtain ⟨h1,h2⟩:=Ea h.2
  refine ⟨by simp [h1],fun i o' p ho hp=>?_⟩
  cases i with
  | zero=>
   obtain rfl:o=o':=by simpa using ho
   obtain rfl:g=p:=by simpa using hp
   refine ⟨h.1.1,fun hl=>?_⟩
   have:=h.1.2
   rw [hl] at this
   simpa using this
  | succ i=>exact h2 i o' p (by simpa using ho) (by simpa using hp)
 | [],_::_,h=>by simp [B7] at h
 | _::_,[],h=>by simp [B7] at h
section
variable {C:Cx}{st:St}{a:Act}{w:World}{σ:Sp}{R:Rec}{Ω:dt}
def l8(n:Nat)(listed:Array Bool):List Nat:=(List.range n).filter fun i=>!listed.getD i true
theorem Qm{ops:Array Oper}{listed:Array Bool}(hback:∀ i o,ops[i]? =some o→∀ e∈je o,e<i)(hcl:∀ j o,ops[j]? =some o→listed.getD j false=true→∀ e∈je o,listed.getD e false=true) :
  ∀ (j:Nat)(o:Oper),ops[j]? =some o→(∀ e∈je o,listed.getD e false=true)→∀ i,((Ad [] (ops.toList.map je)).getD j 0).testBit i=true→listed.getD i false=true:=by
 intro j
 induction j using Nat.strongRecOn with
 | _ j ih=>
  intro o ho haft i hb
  have hspec:=Nc (ops.toList.map je) [] [] rfl (fun j i hj=>by simp at hj) j i hb
  rw [dX] at hspec
  have hget:(ops.toList.map je).getD j []=je o:=by
   rw [cp,gh,zj,ho];rfl
  rw [hget] at hspec
  rcases hspec with h1 | ⟨e,he,hej,h2⟩
  ·exact haft i h1
  ·have hel:=haft e he
   have hes:e<ops.size:=by have:=oh.1 ho;obtain ⟨h3,_⟩:=this;omega
   have hoe:ops[e]? =some ops[e]:=tK hes
   exact ih e hej ops[e] hoe (hcl e _ hoe hel) i h2
theorem Kh{o:Oper}{listed:Array Bool} : (o.after.all fun e=>!Region.binds .any e||listed.getD e.on false)=true↔∀ e∈je o,listed.getD e false=true:=by
 rw [zf]
 constructor
 ·intro h e he
  obtain ⟨x,hx,rfl⟩:=gZ.1 he
  obtain ⟨h1,h2⟩:=tJ.1 hx
  have:=h x (by simpa using h1)
  simpa [h2] using this
 ·intro h x hx
  by_cases hb:Region.binds .any x=true
  ·have:=h x.on (gZ.2 ⟨x,tJ.2 ⟨by simpa using hx,hb⟩,rfl⟩)
   simp [this]
  ·simp [hb]
theorem mem_ready{ops:Array Oper}{listed:Array Bool}{i:Nat} : i∈Region.ready .any ops listed↔∃ o,ops[i]? =some o∧listed.getD i true=false∧∀ e∈je o,listed.getD e false=true:=by
 unfold Region.ready
 rw [tJ]
 constructor
 ·rintro ⟨h1,h2⟩
  have hi:i<ops.size:=by simpa using h1
  refine ⟨ops[i],tK hi,?_⟩
  simp only [tK hi,fg,od,aB,gu] at h2
  exact ⟨h2.1,Kh.1 h2.2⟩
 ·rintro ⟨o,ho,h1,h2⟩
  have hi:i<ops.size:=(oh.1 ho).1
  refine ⟨by simpa using hi,?_⟩
  simp only [ho,fg,od,aB,gu]
  exact ⟨h1,Kh.2 h2⟩
theorem Ki{listed:Array Bool}{n i:Nat}(hs:listed.size=n)(hi:i<n)(x y:Bool):listed.getD i x=listed.getD i y:=by
 have:i<listed.size:=by omega
 simp [this]
theorem au.any{nt:Nat}{ops:Array Oper}{Q:Exit→Act→World→Prop}{gs:List b6}{t:St}(hR:lM C.P R)(hΩ:ix C.P Ω)(hnt:nt≤C.nt)
  (hds:B7 C.P nt ops ops.toList gs=true) (hback:∀ i o,ops[i]? =some o→∀ e∈je o,e<i) (hpairs:OT (Ad [] (ops.toList.map je)) gs ops.size=true) {mks:List Nat} (hmks:VV (Ad [] (ops.toList.map je)) gs mks ops.size=true) (hrws:acf (Ad [] (ops.toList.map je)) gs ops.size=true) :
  ∀ (fuel:Nat)(listed:Array Bool)(s:St)(a:Act)(w:World)(σ:Sp),listed.size=ops.size→fuel=(l8 ops.size listed).length→(∀ j o,ops[j]? =some o→listed.getD j false=true→∀ e∈je o,listed.getD e false=true)→
   pd R Ω C.E gs (l8 ops.size listed) s t→au C s a w σ→(∀ k p dd,k∈l8 ops.size listed→gs[k]? =some p→p.lt=true→Na p.p.o=true→p.p.d=some dd→lf C.E.dp s dd)→(∀ k p,k∈l8 ops.size listed→gs[k]? =some p→p.lt=true→uO p.p.o p.cs=true→∀ h∈p.vb,rT C.E.dp s h)→
   (∀ a' w' σ',cK C w σ w' σ'→au C t a' w' σ'→Q .normal a' w')→wpAny C.P .any ops Q fuel listed a w:=by
 have hremm:∀ listed i,i∈l8 ops.size listed↔i<ops.size∧listed.getD i true=false:=by
  intro listed i;unfold l8;simp [tJ]
 have hready:∀ listed i,i∈Region.ready .any ops listed→i∈l8 ops.size listed:=by
  intro listed i hi
  obtain ⟨o,ho,h1,_⟩:=mem_ready.1 hi
  exact (hremm _ _).2 ⟨(oh.1 ho).1,h1⟩
 intro fuel
 induction fuel with
 | zero=>
  intro listed s a w σ hsz hfu hcl hg h hfr hfB hK
  have hrem:l8 ops.size listed=[]:=p7 hfu.symm
  rw [hrem] at hg
  refine ⟨?_,hK a w σ (.refl _ _ _) (h.se hg)⟩
  apply List.eq_nil_iff_forall_not_mem.2
  intro i hi
  have:=hready _ _ hi
  rw [hrem] at this;cases this
 | succ fuel ih=>
  intro listed s a w σ hsz hfu hcl hg h hfr hfB hK
  refine ⟨fun hnil=>?_,fun i hi=>?_⟩
  ·exfalso
   cases hrem:l8 ops.size listed with
   | nil=>rw [hrem] at hfu;simp at hfu
   | cons i0 rest=>
    have hi0:i0∈l8 ops.size listed:=by rw [hrem];simp
    obtain ⟨h1,h2⟩:=(hremm _ _).1 hi0
    have hsorted:(l8 ops.size listed).Pairwise (· < ·):=(List.pairwise_lt_range (n:=ops.size)).filter _
    have:i0∈Region.ready .any ops listed:=by
     refine mem_ready.2 ⟨ops[i0],tK h1,h2,fun e he=>?_⟩
     have hlt:=hback i0 _ (tK h1) e he
     apply km
     intro hne
     have hem:e∈l8 ops.size listed:=(hremm _ _).2 ⟨by omega,by rw [Ki hsz (by omega) true false];simpa using hne⟩
     rw [hrem] at hem hsorted
     rcases cQ.1 hem with rfl | hem
     ·omega
     ·have:=(List.pairwise_cons.1 hsorted).1 e hem
      omega
    rw [hnil] at this;cases this
  ·obtain ⟨o,ho,hun,haft⟩:=mem_ready.1 hi
   have hin:i<ops.size:=(oh.1 ho).1
   have hir:=hready _ _ hi
   obtain ⟨A,B,hAB⟩:=List.append_of_mem hir
   have hsorted:(l8 ops.size listed).Pairwise (· < ·):=(List.pairwise_lt_range (n:=ops.size)).filter _
   have hnb:∀ k,k∈l8 ops.size listed→((Ad [] (ops.toList.map je)).getD i 0).testBit k=false:=by
    intro k hk
    cases hb:((Ad [] (ops.toList.map je)).getD i 0).testBit k with
    | false=>rfl
    | true=>
     have:=Qm hback hcl i o ho haft k hb
     obtain ⟨h1,h2⟩:=(hremm _ _).1 hk
     rw [Ki hsz h1 true false,this] at h2;cases h2
   rw [hAB] at hsorted
   have hsp:=List.pairwise_append.1 hsorted
   have hA:∀ x∈A,Ql gs x i:=by
    intro x hx
    have hlt:x<i:=hsp.2.2 x hx i (by simp)
    have h1:=bO.1 (bO.1 hpairs i (by simpa using hin)) x (by simpa using hlt)
    rw [hnb x (by rw [hAB];simp [hx]),jl] at h1
    unfold Si at h1
    split at h1
    ·rename_i p q hp hq
     simp only [aB,jq] at h1
     refine ⟨p,q,hp,hq,?_⟩
     rcases h1 with (h1 | h1) | h1
     ·exact .inl ⟨h1.1.1,h1.1.2,h1.2⟩
     ·exact .inr (.inl h1)
     ·exact .inr (.inr h1)
    ·cases h1
   rw [hAB] at hg
   obtain ⟨p,s1,s2,hp,hse,hex,hgo⟩:=pd.front A s hA hg
   obtain ⟨hlen,hlow⟩:=Ea hds
   obtain ⟨hlg,hlk⟩:=hlow i o p (by simpa using ho) hp
   have hnd:i∉A∧i∉B:=by
    refine ⟨fun hm=>?_,fun hm=>?_⟩
    ·have:=hsp.2.2 i hm i (by simp);omega
    ·have:=(List.pairwise_cons.1 hsp.2.1).1 i hm;omega
   have hrem':l8 ops.size (listed.setIfInBounds i true)=A++B:=by
    have hget:∀ j,j<ops.size→(listed.setIfInBounds i true).getD j true=(if i=j then true else listed.getD j true):=by
     intro j hj
     have hjs:j<listed.size:=by omega
     by_cases hij:i=j
     ·subst hij;simp [hjs]
     ·simp [tE,hij]
    have e1:l8 ops.size (listed.setIfInBounds i true)=(l8 ops.size listed).filter (fun j=>j !=i):=by
     unfold l8
     rw [List.filter_filter]
     apply List.filter_congr
     intro j hj
     rw [hget j (by simpa using hj)]
     by_cases hij:i=j
     ·subst hij;simp
     ·have:(j !=i)=true:=by simpa using fun e=>hij e.symm
      simp [hij,this]
    rw [e1,hAB,CS,List.filter_cons]
    have f1:A.filter (fun j=>j !=i)=A:=CT.2 fun x hx=>by
     have:x≠i:=fun e=>hnd.1 (e▸hx)
     simpa using this
    have f2:B.filter (fun j=>j !=i)=B:=CT.2 fun x hx=>by
     have:x≠i:=fun e=>hnd.2 (e▸hx)
     simpa using this
    rw [f1,f2]
    simp
   have hmk:∀ k p' dd,k∈A++B→gs[k]? =some p'→p'.lt=true→Na p'.p.o=true→p'.p.d=some dd→lf C.E.dp s dd∧((p.lt=true∧dd∈p.nk)∨Uf p dd=true):=by
    intro k p' dd hk hp' hlt hm hdd
    have hkr:k∈l8 ops.size listed:=by
     rw [hAB]
     rcases bJ.1 hk with h1 | h1
     ·exact gq _ h1
     ·exact jo _ (vy _ h1)
    refine ⟨hfr k p' dd hkr hp' hlt hm hdd,?_⟩
    have hki:k≠i:=fun e=>by
     rw [e] at hk
     rcases bJ.1 hk with h1 | h1
     ·exact hnd.1 h1
     ·exact hnd.2 h1
    have h1:=bO.1 hmks k (by simpa using ((hremm _ _).1 hkr).1)
    simp only [hp',hlt,hm,hdd,pT,jl,aB] at h1
    have h2:=bO.1 h1.2 i (by simpa using hin)
    have e1:(i==k)=false:=by simpa using fun e=>hki (Eq.symm e)
    simp only [e1,hnb k hkr,hp,jl,aB,jq] at h2
    exact h2.imp (fun h2=>⟨h2.1,by simpa using h2.2⟩) id
   have hrw:∀ k p',k∈A++B→gs[k]? =some p'→p'.lt=true→uO p'.p.o p'.cs=true→∀ hh∈p'.vb,rT C.E.dp s hh∧(p.lt=true∧hh∈p.nb):=by
    intro k p' hk hp' hlt hm hh hhm
    have hkr:k∈l8 ops.size listed:=by
     rw [hAB]
     rcases bJ.1 hk with h1 | h1
     ·exact gq _ h1
     ·exact jo _ (vy _ h1)
    refine ⟨hfB k p' hkr hp' hlt hm hh hhm,?_⟩
    have hki:k≠i:=fun e=>by
     rw [e] at hk
     rcases bJ.1 hk with h1 | h1
     ·exact hnd.1 h1
     ·exact hnd.2 h1
    have h1:=bO.1 hrws k (by simpa using ((hremm _ _).1 hkr).1)
    simp only [hp',hlt,hm,pT,jl] at h1
    have h2:=bO.1 (bO.1 h1 hh hhm) i (by simpa using hin)
    have e1:(i==k)=false:=by simpa using fun e=>hki (Eq.symm e)
    simp only [e1,hnb k hkr,hp,jl,aB] at h2
    exact ⟨h2.1,by simpa using h2.2⟩
   have hsz':(listed.setIfInBounds i true).size=ops.size:=by simpa using hsz
   have hcl':∀ j o',ops[j]? =some o'→(listed.setIfInBounds i true).getD j false=true→∀ e∈je o',(listed.setIfInBounds i true).getD e false=true:=by
    have hmono:∀ e,listed.getD e false=true→(listed.setIfInBounds i true).getD e false=true:=by
     intro e he
     simp only [bA,tE] at he ⊢
     split
     ·split
      ·rfl
      ·rename_i h3 h4
       subst h3
       rw [zo (by omega)] at he;cases he
     ·exact he
    intro j o' hj hl e he
    by_cases hij:i=j
    ·subst hij
     obtain rfl:o=o':=by rw [ho] at hj;exact ad hj
     exact hmono e (haft e he)
    ·have:listed.getD j false=true:=by
      simpa [bA,tE,hij] using hl
     exact hmono e (hcl j o' hj this e he)
   have hfu':fuel=(l8 ops.size (listed.setIfInBounds i true)).length:=by
    rw [hrem']
    rw [hAB] at hfu
    simp only [cC,bD] at hfu ⊢
    omega
   have h1:=h.se hse
   by_cases hlt:p.lt=true
   ·simp only [ee,aa hlt] at hex
    obtain ⟨q,hq,he2⟩:=af.1 hex
    obtain rfl:=ad he2
    refine h1.ahc hR hΩ ho hlg hnt (hlk hlt) (fun hm dd hdd=>(hfr i p dd hir hp hlt hm hdd).se hse) (fun hm hh hhm=>(hfB i p hir hp hlt hm hh hhm).se hse) hq fun a' w' σ' hs' hc'=>?_
    refine ih _ _ a' w' σ' hsz' hfu' hcl' (by rw [hrem'];exact hgo) hc' (fun k p' dd hk hp' hl' hm hdd=>?_) (fun k p' hk hp' hl' hm hh hhm=>?_) fun a'' w'' σ'' hs'' hc''=>hK a'' w'' σ'' (hs'.trans hs'') hc''
    ·rw [hrem'] at hk
     obtain ⟨h3,⟨_,h4⟩ | h4⟩:=hmk k p' dd hk hp' hl' hm hdd
     ·exact (h3.se hse).step (FL hlg hnt).1 (hlk hlt) h4 hq
     ·exfalso
      cases h4
    ·rw [hrem'] at hk
     obtain ⟨h3,_,h4⟩:=hrw k p' hk hp' hl' hm hh hhm
     exact (h3.se hse).step h4 hq
   ·have hex0:=hex
    simp only [ee,ab hlt] at hex
    refine h1.VK hR hΩ ho hlg hnt hex fun a' w' σ' hs' hc'=>?_
    refine ih _ _ a' w' σ' hsz' hfu' hcl' (by rw [hrem'];exact hgo) hc' (fun k p' dd hk hp' hl' hm hdd=>?_) (fun k p' hk hp' hl' hm hh hhm=>?_) fun a'' w'' σ'' hs'' hc''=>hK a'' w'' σ'' (hs'.trans hs'') hc''
    ·rw [hrem'] at hk
     obtain ⟨h3,h4 | h4⟩:=hmk k p' dd hk hp' hl' hm hdd
     ·exact absurd h4.1 hlt
     ·exact (h3.se hse).ahd h4 hex0
    ·rw [hrem'] at hk
     exact absurd (hrw k p' hk hp' hl' hm hh hhm).2.1 hlt
theorem au.Nd{nt:Nat}{ops:Array Oper}{Q:Exit→Act→World→Prop}{mks:List Nat}{gs:List b6}{st':St}(hR:lM C.P R)(hΩ:ix C.P Ω)(hnt:nt≤C.nt)(hl:Ie C.P nt ops mks gs=true)(h:au C st a w σ)
  (hm:(mks.all (su C.E.dp st)&&gs.all (iG C.E.dp st))=true) (he:jY R Ω C.E st gs=some st') (hK:∀ a' w' σ',cK C w σ w' σ'→au C st' a' w' σ'→Q .normal a' w'):C.P.follows .mixedOrders=true∧wpAny C.P .any ops Q ops.size (Array.replicate ops.size false) a {w with drawn:=w.drawn+1}:=by
 simp only [Ie,aB] at hl
 obtain ⟨⟨⟨⟨⟨hfol,hds⟩,hback⟩,hpairs⟩,hmks⟩,hrws⟩:=hl
 obtain ⟨hm,hfb⟩:=vM.1 hm
 have hback':∀ i o,ops[i]? =some o→∀ e∈je o,e<i:=by
  intro i o ho e he
  have h1:=bO.1 hback i (by simpa using (oh.1 ho).1)
  simp only [ho] at h1
  simpa using List.all_eq_true.1 h1 e he
 have hrem:l8 ops.size (Array.replicate ops.size false)=List.range ops.size:=by
  unfold l8
  apply CT.2
  intro i hi
  have:i<ops.size:=by simpa using hi
  simp [this]
 obtain ⟨hlen,_⟩:=Ea hds
 have hd:au C st a {w with drawn:=w.drawn+1} σ:=h.drew
 refine ⟨hfol,au.any hR hΩ hnt hds hback' hpairs hmks hrws ops.size _ st a _ σ (by simp) (by rw [hrem];simp) (fun j o ho hl=>?_) ?_ hd (fun k p dd hk hp hlt hmk hdd=>?_) (fun k p hk hp hlt hmk hh hhm=>?_) fun a' w' σ' hs hc=>hK a' w' σ' (cK.drew (w:=w) hs) hc⟩
 ·exfalso
  by_cases hj:j<ops.size<;>simp [hj] at hl
 ·rw [hrem]
  have:=pd.text (R:=R) (Ω:=Ω) (E:=C.E) gs 0 st st' rfl he
  have hl2:gs.length=ops.size:=by simpa using hlen.symm
  rwa [hl2,←vD] at this
 ·have h1:=bO.1 hmks k (by rw [hrem] at hk;exact hk)
  simp only [hp,hlt,hmk,hdd,pT,jl,aB] at h1
  exact lf.of (bO.1 hm dd (by simpa using h1.1))
 ·have h1:=bO.1 hfb p (aP hp)
  simp only [iG,hmk,pT,jl] at h1
  intro d
  have h2:=bO.1 h1 hh hhm
  have:=s8 (p:=fun y=>!jt ⟨C.E.dp,hh⟩ y) rfl _ h2 d
  simpa using this
theorem au.drawn{nt id:Nat}{ops:Array Oper}{Q:Exit→Act→World→Prop}{mks:List Nat}{gs:List b6}{st':St}(hR:lM C.P R)(hΩ:ix C.P Ω)(hnt:nt≤C.nt)(hl:Ie C.P nt ops mks gs=true)(h:au C st a w σ)
  (hm:(mks.all (su C.E.dp st)&&gs.all (iG C.E.dp st))=true) (he:jY R Ω C.E st gs=some st') (hK:∀ a' w' σ',cK C w σ w' σ'→au C st' a' w' σ'→Q .normal a' w'):(Code.region id ops true).wp C.P Q a w:=by
 obtain ⟨h1,h2⟩:=h.Nd hR hΩ hnt hl hm he hK
 exact wp_region_any h1 h2
end
end Go.Proofs.YtkkkkondjclcnaaGreat.A
