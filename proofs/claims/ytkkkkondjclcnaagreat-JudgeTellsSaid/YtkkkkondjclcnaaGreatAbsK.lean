/- Regions whose order is drawn: whatever the order, what the order of the text gives. -/
import Derived.Test.YtkkkkondjclcnaaGreatAbsH
import Derived.Orders
set_option linter.all false
namespace Go.Proofs.YtkkkkondjclcnaaGreat.A
open Go
variable [bM]
structure Se(s s':St):Prop where
 fr:∀ d,au s.fr d=au s'.fr d
 bx:∀ d,aE s.bx d=aE s'.bx d
 hp:s.hp=s'.hp
 mem:∀ y,y∈s.fr↔y∈s'.fr
theorem Se.refl(s:St):Se s s:=⟨fun _=>rfl,fun _=>rfl,rfl,fun _=>Iff.rfl⟩
variable {s':St}
theorem Se.symm{s:St}(h:Se s s'):Se s' s:=⟨fun d=>(h.fr d).symm,fun d=>(h.bx d).symm,h.hp.symm,fun y=>(h.mem y).symm⟩
theorem Se.trans{s s'':St}(h:Se s s')(h':Se s' s''):Se s s'':=⟨fun d=>(h.fr d).trans (h'.fr d),fun d=>(h.bx d).trans (h'.bx d),h.hp.trans h'.hp,fun y=>(h.mem y).trans (h'.mem y)⟩
theorem Se.box{s:St}(h:Se s s')(dp:Nat)(k:Key):s.box dp k=s'.box dp k:=by
 simp only [St.box,h.bx,h.hp]
theorem aq.se{C:Cx}{s:St}{a:Act}{w:World}{σ:Sp}(h:aq C s a w σ)(hs:Se s s'):aq C s' a w σ:=
 h.Ee (fun d=>.inr (hs.fr d).symm) (fun k cs hk=>by rw [hs.box];exact hk) (fun _ _ _ h=>by rw [hs.hp];exact h)
def eU{α:Type}(l:List (Nat×α)):List Nat:=l.map (·.1)
theorem mI(l r:List (Nat×AV))(d:Nat):au (l++r) d=if d∈eU l then au l d else au r d:=by
 induction l with
 | nil=>simp [eU]
 | cons x l ih=>
  grind [au,eU]
theorem qY(l r:List (Nat×List AV))(d:Nat):aE (l++r) d=if d∈eU l then aE l d else aE r d:=by
 induction l with
 | nil=>simp [eU]
 | cons x l ih=>
  grind [aE,eU]
theorem tT(bx wb:List (Nat×List AV))(d:Nat):aE (sY bx wb) d=match aE wb d with
  | some cs=>(aE bx d).map fun _=>cs
  | none=>aE bx d:=by
 induction wb with
 | nil=>rfl
 | cons x wb ih=>
  obtain ⟨k,y⟩:=x
  simp only [sY,yH,aE]
  by_cases h:k=d
  ·subst h
   simp only [az,ih]
   cases aE wb k with
   | none=>rfl
   | some cs=>cases aE bx k<;>rfl
  grind
variable {d:Nat}
theorem sU{l:List (Nat×List AV)}(h:d∉eU l):aE l d=none:=by
 induction l with
 | nil=>rfl
 | cons x l ih=>
  grind [eU,aE]
theorem Se.app{s:St}(q:bL)(h:Se s s'):Se (q.app s) (q.app s'):=by
 refine ⟨fun d=>?_,fun d=>?_,?_,fun y=>by simp only [bL.app,dk,h.mem y]⟩
 ·simp only [bL.app,mI,h.fr]
 ·simp only [bL.app,qY,tT,h.bx]
 ·simp only [bL.app,h.hp]
structure YY(q q':bL):Prop where
 fr:∀ d,d∈eU q.fr→d∉eU q'.fr
 nn:∀ d,d∈eU q.nb→d∉eU q'.nb
 nw:∀ d,d∈eU q.nb→d∉eU q'.wb
 wn:∀ d,d∈eU q.wb→d∉eU q'.nb
 ww:∀ d,d∈eU q.wb→d∉eU q'.wb
 hp:q.hp=none∨q'.hp=none
variable {q':bL}
theorem Xb{q:bL}(h:YY q q')(s:St):Se (q.app (q'.app s)) (q'.app (q.app s)):=by
 refine ⟨fun d=>?_,fun d=>?_,?_,by grind [bL.app]⟩
 ·simp only [bL.app,mI]
  by_cases h1:d∈eU q.fr
  ·simp [h1,h.fr d h1]
  ·simp [h1]
 ·simp only [bL.app,qY,tT]
  by_cases h1:d∈eU q.nb
  ·have h2:=sU (h.nw d h1)
   simp [h1,h.nn d h1,h2]
  ·by_cases h3:d∈eU q'.nb
   ·have h4:aE q.wb d=none:=sU fun h5=>h.wn d h5 h3
    simp [h1,h3,h4]
   ·simp only [aa h1,aa h3]
    by_cases h5:d∈eU q.wb
    ·have:=sU (h.ww d h5)
     rw [this]
    ·rw [sU h5]
 ·simp only [bL.app]
  rcases h.hp with e | e<;>rw [e]<;>cases q.hp<;>cases q'.hp<;>first | rfl | cases e
def wG:nY→Bool
 | .st _ _ _=>true
 | _=>false
def mO(p:br):Bool:=match p.p.o with
 | .ap _ _ _ _ _=>p.cs.length==2
 | _=>false
def kz(p:br):Bool:=wG p.p.o||mO p
def uj:nY→Bool
 | .al _=>true
 | .ck _ _=>true
 | _=>false
def wH(d:Option Nat):List Nat:=match d with
 | some d=>[d]
 | none=>[]
def gsl(p:br):List Nat:=match p.p.g with
 | some (j,_)=>[j]
 | none=>[]
def DX(p:br):List Nat:=wH p.p.d++p.cs
def YZ(p:br):List Nat:=gsl p++p.vw
def Sa(p:br):List Nat:=(if uj p.p.o=true then wH p.p.d else [])++(if kz p=true then p.vb else [])
def CO(l m:List Nat):Bool:=l.all fun x=>!m.contains x
def Cl(p q:br):Bool:=CO (DX p) (YZ q)&&CO (DX q) (YZ p)&&CO (DX p) (DX q)&&CO (Sa p) q.vb&&CO (Sa q) p.vb&&CO (Sa p) (Sa q)&&!((kz p||kz q)&&p.vh&&q.vh)
theorem oK{l m:List Nat}(h:CO l m=true){x:Nat}(hx:x∈l):x∉m:=by
 have:=cJ.1 h x hx
 simpa using this
theorem Cm(bx:List (Nat×List AV))(ks:List Nat)(h:d∈eU (du bx ks)):d∈ks:=by
 induction ks with
 | nil=>simp [du,eU] at h
 | cons k ks ih=>
  grind [du,eU]
section
variable {R:Rec}{Ω:ef}{E:Env}
structure Small(p:br)(q:bL):Prop where
 fr:∀ d,d∈eU q.fr→d∈DX p
 nb:∀ d,d∈eU q.nb→uj p.p.o=true∧d∈wH p.p.d
 wb:∀ d,d∈eU q.wb→kz p=true∧d∈p.vb
 hp:q.hp≠none→kz p=true∧p.vh=true
theorem EG{p:br}{fr:List (Nat×AV)}(h:∀ d,d∈eU fr→d∈DX p):Small p ⟨fr,[],[],none⟩:=
 ⟨h,fun d hd=>by simp [eU] at hd,fun d hd=>by simp [eU] at hd,fun h=>absurd rfl h⟩
theorem Ja(d:Option Nat)(x:AV):eU (jO d x)=wH d:=by cases d<;>rfl
theorem P7(p:br)(r:AV×St):Small p (effect p r):=by
 have av:Small p ⟨jO p.p.d (eV p.p.fz r.1)++p.cs.map (fun m=>(m,.u)),[],[],none⟩:=EG fun d hd=>by
  simp only [eU,ei,List.map_map] at hd
  rcases dk.1 hd with hd | hd
  ·have:d∈eU (jO p.p.d (eV p.p.fz r.1)):=hd
   rw [Ja] at this
   exact pW _ this
  ·obtain ⟨m,hm,rfl⟩:=iJ.1 hd
   exact pX _ hm
 unfold effect
 split
 ·rename_i zs ho
  split
  ·rename_i dd hd
   refine ⟨fun d h=>?_,fun d h=>⟨by rw [ho];rfl,?_⟩,fun d h=>by simp [eU] at h,fun h=>absurd rfl h⟩
   ·grind [eU,DX,wH]
   grind [eU,wH]
  grind [EG,eU]
 ·rename_i ho
  split
  ·rename_i dd hd
   refine ⟨fun d h=>?_,fun d h=>⟨by rw [ho];rfl,?_⟩,fun d h=>by simp [eU] at h,fun h=>absurd rfl h⟩
   ·grind [eU,DX,wH]
   grind [eU,wH]
  grind [EG,eU]
 ·rename_i ho
  refine ⟨fun d h=>?_,fun d h=>by simp [eU] at h,fun d h=>⟨by simp [kz,ho,wG],Cm _ _ h⟩,fun h=>⟨by simp [kz,ho,wG],?_⟩⟩
  ·simp only [eU,List.map_map] at h
   obtain ⟨m,hm,rfl⟩:=iJ.1 h
   exact pX _ hm
  by_cases hv:p.vh=true
  ·exact hv
  ·simp [hv] at h
 ·rename_i ho
  by_cases h2:(p.cs.length==2)=true
  ·have hw:kz p=true:=by grind [kz,mO]
   rw [ab h2]
   refine ⟨av.fr,fun d h=>by simp [eU] at h,by grind [Cm],fun h=>⟨hw,?_⟩⟩
   grind
  grind
 ·exact av
theorem yh{p:br}{s:St}{q:bL}(h:dy R Ω E p s=some q):Small p q:=by
 have J:∀ v q,jx R Ω E p v=some q→Small p q:=by
  grind [jx,Option.bind_eq_some_iff,P7]
 unfold dy at h
 split at h
 ·exact J _ _ h
 ·obtain ⟨y,_,h2⟩:=ah.1 h
  split at h2
  ·grind
  ·obtain rfl:=af h2
   exact EG fun d hd=>by rw [Ja] at hd;exact pW _ hd
theorem Ie{fr fr':List (Nat×AV)}{ks:List Nat}(h:∀ d∈ks,au fr d=au fr' d):eE fr ks=eE fr' ks:=
 rU fun d hd=>by rw [h d hd]
theorem Q5{bx bx':List (Nat×List AV)}{ks:List Nat}(h:∀ d∈ks,aE bx d=aE bx' d):du bx ks=du bx' ks:=by
 induction ks with
 | nil=>rfl
 | cons k ks ih=>
  grind [du]
structure P8(p:br)(s s':St):Prop where
 fr:∀ d∈YZ p,au s.fr d=au s'.fr d
 bx:∀ d∈p.vb,aE s.bx d=aE s'.bx d
 hp:p.vh=true→s.hp=s'.hp
theorem P8.patch{p:br}{s:St}(h:P8 p s s'):dy R Ω E p s=dy R Ω E p s':=by
 have hv:view p s=view p s':=by
  unfold view
  rw [Ie fun d hd=>h.fr d (pX _ hd),Q5 h.bx]
  by_cases hh:p.vh=true
  ·simp only [hh,az,h.hp hh]
  grind
 unfold dy
 rw [hv]
 split
 ·rfl
 ·rename_i j want hg
  rw [h.fr j (pW _ (by unfold gsl;rw [hg];simp))]
theorem Se.P9{p:br}{s:St}(h:Se s s'):P8 p s s':=⟨fun d _=>h.fr d,fun d _=>h.bx d,fun _=>h.hp⟩
theorem Qa{p p':br}{q:bL}{s:St}(hq:Small p q)(hc:Cl p p'=true):P8 p' (q.app s) s:=by
 simp only [Cl,aC,gO] at hc
 obtain ⟨⟨⟨⟨⟨⟨c1,c2⟩,c3⟩,c4⟩,c5⟩,c6⟩,c7⟩:=hc
 refine ⟨fun d hd=>?_,fun d hd=>?_,fun hh=>?_⟩
 ·simp only [bL.app,mI]
  rw [aa]
  intro hm
  exact oK c1 (hq.fr d hm) hd
 ·simp only [bL.app,qY,tT]
  have bN:d∉eU q.nb:=fun hm=>by
   obtain ⟨h1,h2⟩:=hq.nb d hm
   exact oK c4 (pW _ (by grind)) hd
  have dz:d∉eU q.wb:=fun hm=>by
   obtain ⟨h1,h2⟩:=hq.wb d hm
   exact oK c4 (pX _ (by grind)) hd
  grind [sU]
 ·simp only [bL.app]
  cases hp:q.hp with
  | none=>rfl
  | some x=>
   obtain ⟨h1,h2⟩:=hq.hp (by rw [hp];simp)
   grind
theorem Xc{p p':br}{q:bL}(hq:Small p q)(cd:Small p' q')(hc:Cl p p'=true):YY q q':=by
 simp only [Cl,aC,gO] at hc
 obtain ⟨⟨⟨⟨⟨⟨c1,c2⟩,c3⟩,c4⟩,c5⟩,c6⟩,c7⟩:=hc
 have m1:∀ {p:br}{q:bL}{d},Small p q→d∈eU q.nb→d∈Sa p:=fun hq h=>by
  obtain ⟨h1,h2⟩:=hq.nb _ h
  exact pW _ (by grind)
 have m2:∀ {p:br}{q:bL}{d},Small p q→d∈eU q.wb→d∈Sa p:=fun hq h=>by
  obtain ⟨h1,h2⟩:=hq.wb _ h
  exact pX _ (by grind)
 refine ⟨fun d h h'=>oK c3 (hq.fr d h) (cd.fr d h'),by grind [oK],by grind [oK],by grind [oK],by grind [oK],?_⟩
 cases h1:q.hp with
 | none=>exact .inl rfl
 | some x=>
  cases h2:q'.hp with
  | none=>exact .inr rfl
  | some y=>
   obtain ⟨h3,h4⟩:=hq.hp (by rw [h1];simp)
   obtain ⟨h5,h6⟩:=cd.hp (by rw [h2];simp)
   grind
def rm(R:Rec)(Ω:ef)(E:Env)(gs:List br):List Nat→St→St→Prop
 | [],s,t=>Se s t
 | i::π,s,t=>∃ p s1 s2,gs[i]? =some p∧Se s s1∧dF R Ω E s1 p=some s2∧rm R Ω E gs π s2 t
variable {gs:List br}
theorem rm.se{π:List Nat}{s t:St}(h:rm R Ω E gs π s' t)(hs:Se s s'):rm R Ω E gs π s t:=by
 cases π with
 | nil=>exact Se.trans hs h
 | cons i π=>
  obtain ⟨p,s1,s2,h1,h2,h3,h4⟩:=h
  exact ⟨p,s1,s2,h1,hs.trans h2,h3,h4⟩
theorem rm.text:∀ (ps:List br)(i:Nat)(s t:St),gs.drop i=ps→lC R Ω E s ps=some t→rm R Ω E gs (List.range' i ps.length) s t
 | [],i,s,t,_,he=>by
  obtain rfl:=af he
  exact Se.refl _
 | p::ps,i,s,t,hi,he=>by
  obtain ⟨s2,h1,h2⟩:=ah.1 he
  rw [cC,Ft]
  refine ⟨p,s,s2,?_,Se.refl _,h1,rm.text ps (i+1) s2 t ?_ h2⟩
  ·have:(gs.drop i)[0]? =some p:=by rw [hi];rfl
   simpa using this
  ·rw [←List.drop_drop,hi];rfl
def TA(xs:List aY):List Nat:=xs.flatMap fun x=>match x with
 | .t n=>[n]
 | .c _=>[]
def Md(sl dl:List Nat):nY→Bool
 | .lk _ (.t _) (.t b) lv=>sl.contains b&&(!lv||dl.contains b)
 | _=>false
def TB:nY→Bool
 | .ln false (.t _)=>true
 | _=>false
def Me(ow:List Nat)(q:br):Bool:=match q.p.o with
 | .al zs=>AV.aX zs&&!q.vh&&(match q.p.d with
  | some d=>ow.contains d&&q.vb==[d]
  | none=>false)
 | _=>false
def Ax(p q:br):Bool:=match p.p.o with
 | .ch _ args sl dl ow=>!p.lt&&q.lt&&p.p.g.isNone&&q.p.g.isNone&&!kz q&&CO (DX q) (TA args++(sl++dl))&&CO (wH p.p.d) (DX q++q.vw)&&(q.nb.contains 1000000||Md sl dl q.p.o)&&(Me ow q||Md sl dl q.p.o||TB q.p.o||(!uj q.p.o&&q.vb.isEmpty&&!q.vh))
 | _=>false
structure iI(p q:br)(f:FuncId)(args:List aY)(sl dl ow:List Nat):Prop where
 o:p.p.o= .ch f args sl dl ow
 pl:p.lt=false
 ql:q.lt=true
 pg:p.p.g=none
 qg:q.p.g=none
 nw:kz q=false
 wr:∀ d,d∈DX q→d∉TA args∧d∉sl∧d∉dl
 ds:∀ d,p.p.d=some d→d∉DX q∧d∉q.vw
 nb:(1000000:Nat)∈q.nb∨Md sl dl q.p.o=true
 kd:Me ow q=true∨Md sl dl q.p.o=true∨TB q.p.o=true∨(uj q.p.o=false∧q.vb=[]∧q.vh=false)
theorem M7{p q:br}(h:Ax p q=true):∃ f args sl dl ow,iI p q f args sl dl ow:=by
 unfold Ax at h
 split at h
 ·rename_i f args sl dl ow ho
  simp only [aC,gO,Option.isNone_iff_eq_none,u0] at h
  obtain ⟨⟨⟨⟨⟨⟨⟨⟨h1,h2⟩,h3⟩,h4⟩,h5⟩,h6⟩,h7⟩,h8⟩,h9⟩:=h
  refine ⟨f,args,sl,dl,ow,ho,h1,h2,h3,h4,h5,fun d hd=>?_,fun d hd=>?_,by grind,?_⟩
  ·have:=oK h6 hd
   grind
  ·have:d∈wH p.p.d:=by rw [hd];simp [wH]
   have:=oK h7 this
   grind
  grind
 ·cases h
theorem KL{ow:List Nat}{q:br}(h:Me ow q=true):∃ zs d,q.p.o= .al zs∧q.p.d=some d∧AV.aX zs=true∧d∈ow∧q.vb=[d]∧q.vh=false:=by
 grind [Me]
theorem TC{sl dl:List Nat}{o:nY}(h:Md sl dl o=true):∃ n m b lv,o= .lk n (.t m) (.t b) lv∧b∈sl∧(lv=true→b∈dl):=by
 unfold Md at h
 grind
theorem Y0{o:nY}(h:TB o=true):∃ m,o= .ln false (.t m):=by
 unfold TB at h
 grind
theorem iI.alw{p q:br}{f:FuncId}{args:List aY}{sl dl ow:List Nat}(hb:iI p q f args sl dl ow)(ha:uj q.p.o=true):Me ow q=true:=by
 rcases hb.kd with h | h | h | h
 ·exact h
 ·obtain ⟨n,m,b,lv,e,_⟩:=TC h
  rw [e] at ha;cases ha
 ·obtain ⟨m,e⟩:=Y0 h
  rw [e] at ha;cases ha
 grind
theorem Z8{z:Bool}{x:AV}{hid:Key→Bool}(h:jN hid x=false):jN hid (eV z x)=false:=by
 cases z with
 | false=>exact h
 | true=>cases x<;>first | exact h | rfl
theorem VJ{hid:Key→Bool}{x:AV}(h:iZ x=false):jN hid x=false:=by
 cases x with
 | r pl=>cases pl<;>first | rfl | cases h
 | v pl lo len=>cases pl<;>first | rfl | cases h
 | q pl i sz off=>cases pl<;>first | rfl | cases h
 | _=>rfl
theorem VK{hid:Key→Bool}{x:AV}(h:x.copy=true):jN hid x=false:=by
 cases x<;>first | rfl | cases h
theorem Xd{fr:List (Nat×AV)}(h:au fr d≠.u):∃ y∈fr,y.2=au fr d:=by
 induction fr with
 | nil=>exact absurd rfl h
 | cons y fr ih=>
  grind [au]
structure vo(dp:Nat)(s:St)(sl dl ow:List Nat):Prop where
 sl:∀ m∈sl,∃ k,fi dp s (au s.fr m) false=some k∧k.dp≤dp
 dl:∀ m∈dl,FD dp ow (au s.fr m)=false∧∃ k,fi dp s (au s.fr m) true=some k∧k.dp≤dp
theorem vo.dp{dp:Nat}{s:St}{sl dl ow:List Nat}(h:vo dp s sl dl ow){k:Key}(hk:jF dp s sl dl ow k=true):k.dp≤dp:=by
 unfold jF at hk
 simp only [u0,jK,aC,eh,eI] at hk
 rcases hk with (⟨n,hn,e⟩ | ⟨n,hn,_,e⟩) | ⟨e,_⟩
 ·obtain ⟨k',e',h'⟩:=h.sl n hn
  grind
 ·obtain ⟨_,k',e',h'⟩:=h.dl n hn
  grind
 ·omega
theorem Xe{dp:Nat}{v s:St}(aZ:∀ k cs,v.box dp k=some cs→s.box dp k=some cs){y:AV}{lv:Bool}{k:Key}(h:fi dp v y lv=some k):fi dp s y lv=some k:=by
 cases y<;>first | (simp [fi] at h;done) | skip
 grind [fi,Option.bind_eq_some_iff]
theorem Sb(q:br)(s:St)(n:Nat):au (view q s).fr n= .u∨au (view q s).fr n=au s.fr n:=Ef s.fr q.vw n
theorem Z9(q:br)(s:St)(dp:Nat)(k:Key)(cs:List AV)(h:(view q s).box dp k=some cs):s.box dp k=some cs:=by
 by_cases hk:k.dp=dp
 ·simp only [St.box,hk,az] at h ⊢
  exact dP h
 grind [St.box,view]
theorem Qb{dp:Nat}{q:br}{s:St}{sl dl ow:List Nat}{b:Nat}{lv:Bool}{k:Key}(hs:vo dp s sl dl ow)(hb:b∈sl)(hl:lv=true→b∈dl)(h:fi dp (view q s) (au (view q s).fr b) lv=some k):jF dp s sl dl ow k=true:=by
 have h1:=Xe (Z9 q s dp) h
 have h2:au (view q s).fr b=au s.fr b:=by
  rcases Sb q s b with e | e
  ·rw [e] at h1;cases h1
  ·exact e
 rw [h2] at h1
 unfold jF
 simp only [u0,jK,aC,eh,gO]
 cases lv with
 | false=>grind
 | true=>exact .inl (.inr ⟨b,hl rfl,(hs.dl b (hl rfl)).1,h1⟩)
structure lB(q:br)(qq:bL)(ow:List Nat):Prop where
 fr:∀ d,d∈eU qq.fr→d∈DX q
 nb:qq.nb=[]∨∃ d zs,qq.nb=[(d,zs)]∧AV.aX zs=true∧d∈ow
 wb:qq.wb=[]
 hp:qq.hp=none
theorem GL{q:br}{r:AV×St}(cg:kz q=false)(ai:uj q.p.o=false):effect q r=⟨jO q.p.d (eV q.p.fz r.1)++q.cs.map (fun m=>(m,.u)),[],[],none⟩:=by
 unfold effect
 split
 ·rename_i zs ho;rw [ho] at ai;cases ai
 ·rename_i ho;rw [ho] at ai;cases ai
 ·grind [kz,wG]
 ·grind [kz,mO]
 ·rfl
theorem iI.inv{p q:br}{f:FuncId}{args:List aY}{sl dl ow:List Nat}(hb:iI p q f args sl dl ow){s:St}{qq:bL}(h:dy R Ω E q s=some qq):∃ r,execOp R Ω E (view q s) q.p.d q.p.o=some r∧okB E.dp q.nb r.1=true∧qq=effect q r:=by
 unfold dy at h
 rw [hb.qg] at h
 grind [jx,Option.bind_eq_some_iff]
theorem iI.patch{p q:br}{f:FuncId}{args:List aY}{sl dl ow:List Nat}(hb:iI p q f args sl dl ow){s:St}{qq:bL}(h:dy R Ω E q s=some qq):lB q qq ow:=by
 have hs:=yh h
 obtain ⟨r,hr,bd,rfl⟩:=hb.inv h
 by_cases ai:uj q.p.o=true
 ·obtain ⟨zs,dd,ho,hd,h1,h2,_⟩:=KL (hb.alw ai)
  have he:effect q r=⟨[(dd,r.1)],[(dd,zs)],[],none⟩:=by
   grind [effect]
  rw [he] at hs ⊢
  exact ⟨hs.fr,.inr ⟨dd,zs,rfl,h1,h2⟩,rfl,rfl⟩
 ·rw [GL hb.nw (by simpa using ai)] at hs ⊢
  exact ⟨hs.fr,.inl rfl,rfl,rfl⟩
theorem iI.plain{p q:br}{f:FuncId}{args:List aY}{sl dl ow:List Nat}(hb:iI p q f args sl dl ow){s:St}{qq:bL}(hi:vo E.dp s sl dl ow)(h:dy R Ω E q s=some qq):∀ y∈qq.fr,jN (jF E.dp s sl dl ow) y.2=false:=by
 obtain ⟨r,hr,bd,rfl⟩:=hb.inv h
 have hx:jN (jF E.dp s sl dl ow) r.1=false:=by
  rcases hb.nb with hn | hl
  ·grind [okB,VJ]
  ·obtain ⟨n,m,b,lv,e,bp,b1⟩:=TC hl
   rw [e] at hr
   simp only [execOp] at hr
   split at hr
   ·rename_i k off hk
    split at hr
    ·rename_i aG
     have cV:=Qb hi bp b1 aG
     grind [Option.bind_eq_some_iff,jN,VK]
    ·cases hr
   ·cases hr
 by_cases ai:uj q.p.o=true
 ·obtain ⟨zs,dd,ho,hd,h1,h2,_⟩:=KL (hb.alw ai)
  grind [effect]
 ·rw [GL hb.nw (by simpa using ai)]
  intro y hy
  rcases dk.1 hy with hy | hy
  ·cases hd:q.p.d with
   | none=>rw [hd] at hy;cases hy
   | some dd=>
    grind [jO,Z8]
  ·obtain ⟨m,_,rfl⟩:=iJ.1 hy
   rfl
theorem iI.akH{p q:br}{f:FuncId}{args:List aY}{sl dl ow:List Nat}(hb:iI p q f args sl dl ow){s:St}{qq:bL}(h:dy R Ω E q s=some qq):∀ d∈eU qq.nb,aE s.bx d=none:=by
 have hs:=yh h
 intro d hd
 obtain ⟨h1,h2⟩:=hs.nb d hd
 obtain ⟨r,hr,_,_⟩:=hb.inv h
 obtain ⟨zs,dd,ho,I,_,_,a8,_⟩:=KL (hb.alw h1)
 grind [wH,execOp,du,ft,view,FF]
structure yj(R:Rec)(E:Env)(s:St)(f:FuncId)(args:List AV)(sl dl ow:List Nat)(x:AV)(hp':HP):Prop where
 ro:E.ro=false
 copy:args.all AV.copy=true
 deep:∀ d cs,aE s.bx d=some cs→AV.dt E.dp cs=true
 nb:∀ y∈s.fr,jN (jF E.dp s sl dl ow) y.2=false
 pt:vo E.dp s sl dl ow
 run:R ⟨E.dp+1,false⟩ f args (Cq E.dp s sl dl ow)=some (.ret x,hp')
 pure:x.pure=true
 post:∀ d cs,aE (s.cF E.dp (eC E.dp s sl dl ow hp')).bx d=some cs→d∈ow∨∀ h∈ow,AV.dm ⟨E.dp,h⟩ cs=true
theorem Cn{dp:Nat}{o:Option Key} : D1 dp o=true↔∃ k,o=some k∧k.dp≤dp:=by
 cases o with
 | none=>simp [D1]
 | some k=>simp [D1]
theorem GM{s:St}{f:FuncId}{args:List AV}{sl dl ow:List Nat}{r:AV×St}(h:nI R E s f args sl dl ow=some r):∃ hp',yj R E s f args sl dl ow r.1 hp'∧r.2=s.cF E.dp (eC E.dp s sl dl ow hp'):=by
 unfold nI at h
 split at h
 ·rename_i hc
  simp only [aC,gO] at hc
  obtain ⟨⟨⟨⟨⟨h1,h2⟩,h3⟩,h4⟩,h5⟩,h6⟩:=hc
  obtain ⟨⟨q,hp'⟩,hq,aw⟩:=ah.1 h
  cases q with
  | new cs=>cases aw
  | row _ _=>cases aw
  | o0 _ _ _ _ _ _=>cases aw
  | ret x=>?_
  simp only at aw
  split at aw
  ·rename_i hk
   obtain rfl:=af aw
   obtain ⟨cQ,dE⟩:=u6.1 hk
   refine ⟨hp',⟨h1,h2,yJ.1 h3,fun n hn=>?_,⟨by grind [Cn],fun m hm=>?_⟩,hq,cQ,fun d cs hd=>?_⟩,rfl⟩
   ·grind
   ·grind [Cn]
   grind [yJ]
  ·cases aw
 ·cases h
theorem yj.mk'{s:St}{f:FuncId}{args:List AV}{sl dl ow:List Nat}{x:AV}{hp':HP}(h:yj R E s f args sl dl ow x hp') :
  nI R E s f args sl dl ow=some (x,s.cF E.dp (eC E.dp s sl dl ow hp')):=by
 unfold nI
 have dq:(s.fr.all fun y=>!jN (jF E.dp s sl dl ow) y.2)=true:=by
  rw [cJ];intro n hn;rw [h.nb n hn];rfl
 have dn:sl.all (fun n=>D1 E.dp (fi E.dp s (au s.fr n) false))=true:=by
  rw [cJ];intro m hm
  exact Cn.2 (h.pt.sl m hm)
 have di:dl.all (fun n=>!FD E.dp ow (au s.fr n)&&D1 E.dp (fi E.dp s (au s.fr n) true))=true:=by
  rw [cJ];intro m hm
  rw [(h.pt.dl m hm).1,Cn.2 (h.pt.dl m hm).2];rfl
 have cu:uA s.bx (fun _ cs=>AV.dt E.dp cs)=true:=yJ.2 h.deep
 have dj:uA (s.cF E.dp (eC E.dp s sl dl ow hp')).bx (fun d cs=>ow.contains d||ow.all fun h=>AV.dm ⟨E.dp,h⟩ cs)=true:=yJ.2 fun d cs hd=>by
  have:=h.post d cs hd
  simpa using this
 rw [ab (by rw [h.ro,h.copy,cu,dq,dn,di];rfl),h.run]
 simp only [ad]
 rw [ab (by rw [h.pure,dj];rfl)]
theorem lj(dp:Nat)(hp':HP):∀ (bx:List (Nat×List AV))(d:Nat),aE (bY dp hp' bx) d=(aE bx d).bind fun _=>hp' ⟨dp,d⟩
 | [],d=>rfl
 | (k,c)::r,d=>by
  simp only [bY,aE]
  by_cases h:k=d
  ·subst h
   simp only [az,ad]
   cases hk:hp' ⟨dp,k⟩ with
   | some cs=>simp [aE]
   | none=>
    simp only
    rw [lj dp hp' r k,hk]
    simp_all
  ·rw [aa h]
   split
   ·simp only [aE,aa h];exact lj dp hp' r d
   ·exact lj dp hp' r d
theorem Se.ev{s:St}(h:Se s s')(xs:List aY):xs.map s.ev=xs.map s'.ev:=by
 apply rU
 intro x _
 cases x with
 | c z=>rfl
 | t n=>exact h.fr n
theorem Se.EW{s:St}(h:Se s s')(dp:Nat)(y:AV)(lv:Bool):fi dp s y lv=fi dp s' y lv:=by
 unfold fi
 simp only [h.box]
theorem Se.hid{s:St}(h:Se s s')(dp:Nat)(sl dl ow:List Nat):jF dp s sl dl ow=jF dp s' sl dl ow:=by
 funext k
 unfold jF
 simp only [h.fr,h.EW]
theorem Se.Qc{s:St}(h:Se s s')(dp:Nat)(sl dl ow:List Nat)(hp':HP):eC dp s sl dl ow hp'=eC dp s' sl dl ow hp':=by
 funext k
 unfold eC
 rw [h.hid,h.box]
theorem Se.Y1{s:St}(h:Se s s')(dp:Nat)(sl dl ow:List Nat):Cq dp s sl dl ow=Cq dp s' sl dl ow:=by
 funext k
 unfold Cq
 rw [h.hid,h.box]
theorem Se.cF{s:St}(h:Se s s')(dp:Nat)(hp':HP):Se (s.cF dp hp') (s'.cF dp hp'):=
 ⟨h.fr,fun d=>by simp only [St.cF,lj,h.bx],rfl,h.mem⟩
theorem Se.put{s:St}(h:Se s s')(d:Option Nat)(x:AV):Se (put s d x) (A.put s' d x):=by
 cases d with
 | none=>exact h
 | some d=>exact ⟨fun n=>by simp only [A.put,St.dC,au];split<;>first | rfl | exact h.fr n,h.bx,h.hp,fun y=>by simp only [A.put,St.dC,eX,h.mem y]⟩
theorem vo.se{dp:Nat}{s:St}{sl dl ow:List Nat}(h:vo dp s sl dl ow)(hs:Se s s'):vo dp s' sl dl ow:=
 ⟨fun m hm=>by rw [←hs.fr,←hs.EW];exact h.sl m hm,fun m hm=>by rw [←hs.fr,←hs.EW];exact h.dl m hm⟩
theorem yj.se{s:St}{f:FuncId}{args:List AV}{sl dl ow:List Nat}{x:AV}{hp':HP}(h:yj R E s f args sl dl ow x hp')(hs:Se s s'):yj R E s' f args sl dl ow x hp':=
 ⟨h.ro,h.copy,fun d cs hd=>h.deep d cs (by rw [hs.bx];exact hd),fun y hy=>by rw [←hs.hid];exact h.nb y ((hs.mem y).2 hy),h.pt.se hs,by rw [←hs.Y1];exact h.run,h.pure,
  fun d cs hd=>h.post d cs (by rw [(hs.cF _ _).bx,hs.Qc];exact hd)⟩
theorem Sc{s:St}{xs:List aY}(h:∀ n∈TA xs,au s'.fr n=au s.fr n):xs.map s'.ev=xs.map s.ev:=by
 apply rU
 intro x hx
 cases x with
 | c z=>rfl
 | t n=>exact h n (BI.2 ⟨_,hx,by simp⟩)
section
variable {p q:br}{f:FuncId}{args:List aY}{sl dl ow:List Nat}{qq:bL}{s:St}
theorem lB.Ig(hq:lB q qq ow)(hb:iI p q f args sl dl ow){n:Nat}(hn:n∈TA args∨n∈sl∨n∈dl):au (qq.app s).fr n=au s.fr n:=by
 simp only [bL.app,mI]
 rw [aa]
 intro hm
 have:=hb.wr n (hq.fr n hm)
 grind
theorem lB.box(hq:lB q qq ow){dp:Nat}{k:Key}(hk:∀ d,k=⟨dp,d⟩→d∉ow):(qq.app s).box dp k=s.box dp k:=by
 unfold St.box
 split
 ·rename_i hd
  simp only [bL.app,hq.wb,sY]
  rcases hq.nb with e | ⟨d,zs,e,_,h2⟩
  ·rw [e];rfl
  ·rw [e]
   have:d≠k.d:=fun e'=>hk k.d (by rw [←hd]) (e'▸h2)
   simp [aE,this]
 ·simp only [bL.app,hq.hp,Option.getD_none]
theorem lB.EW(hq:lB q qq ow){dp:Nat}{y:AV}{lv:Bool}(h:lv=true→FD dp ow y=false):fi dp (qq.app s) y lv=fi dp s y lv:=by
 cases lv with
 | false=>cases y<;>rfl
 | true=>
  have h:=h rfl
  cases y<;>first | rfl | skip
  rename_i k off
  simp only [fi,az]
  rw [hq.box (by grind [FD])]
theorem lB.hid(hq:lB q qq ow)(hb:iI p q f args sl dl ow)(dp:Nat):jF dp (qq.app s) sl dl ow=jF dp s sl dl ow:=by
 funext k
 unfold jF
 have h1:(sl.any fun n=>fi dp (qq.app s) (au (qq.app s).fr n) false==some k)=(sl.any fun n=>fi dp s (au s.fr n) false==some k):=by
  rw [lN,jK,jK]
  constructor
  ·rintro ⟨n,hn,h⟩;exact ⟨n,hn,by rwa [hq.Ig hb (.inr (.inl hn)),hq.EW (fun h=>by cases h)] at h⟩
  ·rintro ⟨n,hn,h⟩;exact ⟨n,hn,by rwa [hq.Ig hb (.inr (.inl hn)),hq.EW (fun h=>by cases h)]⟩
 have h2:(dl.any fun n=>!FD dp ow (au (qq.app s).fr n)&&fi dp (qq.app s) (au (qq.app s).fr n) true==some k)=(dl.any fun n=>!FD dp ow (au s.fr n)&&fi dp s (au s.fr n) true==some k):=by
  rw [lN,jK,jK]
  simp only [aC,gO]
  constructor
  ·rintro ⟨n,hn,h0,h⟩
   rw [hq.Ig hb (.inr (.inr hn))] at h0 h
   exact ⟨n,hn,h0,by rwa [hq.EW (fun _=>h0)] at h⟩
  ·rintro ⟨n,hn,h0,h⟩
   rw [←hq.Ig (s:=s) hb (.inr (.inr hn))] at h0 h
   exact ⟨n,hn,h0,by rwa [hq.EW (fun _=>h0)]⟩
 rw [h1,h2]
theorem Hp{dp:Nat}(h:d∈ow):jF dp s sl dl ow ⟨dp,d⟩=true:=by
 simp [jF,h]
theorem lB.Y1(hq:lB q qq ow)(hb:iI p q f args sl dl ow)(dp:Nat):Cq dp (qq.app s) sl dl ow=Cq dp s sl dl ow:=by
 funext k
 unfold Cq
 rw [hq.hid hb]
 split
 ·rfl
 ·rename_i hn
  exact hq.box (by grind [Hp])
theorem lB.Qc(hq:lB q qq ow)(hb:iI p q f args sl dl ow){dp:Nat}{hp':HP}{k:Key}(hk:∀ d,k=⟨dp,d⟩→d∉ow):eC dp (qq.app s) sl dl ow hp' k=eC dp s sl dl ow hp' k:=by
 unfold eC
 rw [hq.hid hb,hq.box hk]
theorem agx{dp:Nat}{hp':HP}(h:d∈ow):eC dp s sl dl ow hp' ⟨dp,d⟩=aE s.bx d:=by
 grind [eC,Hp,St.box]
theorem DY(hq:lB q qq ow):(qq.app s).bx=qq.nb++s.bx:=by simp only [bL.app,hq.wb,sY]
theorem lB.bxO(hq:lB q qq ow)(h:d∉ow):aE (qq.app s).bx d=aE s.bx d:=by
 rw [DY hq]
 rcases hq.nb with e | ⟨d',zs,e,_,h2⟩
 ·rw [e];rfl
 grind [aE]
theorem lB.MV(hq:lB q qq ow){cs:List AV}(h:aE (qq.app s).bx d=some cs):aE s.bx d=some cs∨AV.aX cs=true:=by
 rw [DY hq] at h
 rcases hq.nb with e | ⟨d',zs,e,hz,_⟩
 ·grind
 grind [aE]
theorem vo.app(h:vo E.dp s sl dl ow)(hq:lB q qq ow)(hb:iI p q f args sl dl ow):vo E.dp (qq.app s) sl dl ow:=
 ⟨fun m hm=>by rw [hq.Ig hb (.inr (.inl hm)),hq.EW (fun h=>by cases h)];exact h.sl m hm,
  fun m hm=>by
   have h1:=h.dl m hm
   rw [hq.Ig hb (.inr (.inr hm)),hq.EW (fun _=>h1.1)];exact h1⟩
theorem vo.akI(h:vo E.dp (qq.app s) sl dl ow)(hq:lB q qq ow)(hb:iI p q f args sl dl ow):vo E.dp s sl dl ow:=
 ⟨fun m hm=>by
   have h1:=h.sl m hm
   rwa [hq.Ig hb (.inr (.inl hm)),hq.EW (fun h=>by cases h)] at h1,
  fun m hm=>by
   have h1:=h.dl m hm
   rw [hq.Ig hb (.inr (.inr hm))] at h1
   rwa [hq.EW (fun _=>h1.1)] at h1⟩
theorem lB.call(hq:lB q qq ow)(hb:iI p q f args sl dl ow)(bt:∀ y∈qq.fr,jN (jF E.dp s sl dl ow) y.2=false){vals:List AV}{x:AV}{hp':HP}(h:yj R E s f vals sl dl ow x hp'):yj R E (qq.app s) f vals sl dl ow x hp':=by
 refine ⟨h.ro,h.copy,fun d cs hd=>?_,fun y hy=>?_,h.pt.app hq hb,by rw [hq.Y1 hb];exact h.run,h.pure,fun d cs hd=>?_⟩
 ·rcases hq.MV hd with h1 | h1
  ·exact h.deep d cs h1
  ·exact uk _ h1
 ·rw [hq.hid hb]
  rcases dk.1 (show y∈qq.fr++s.fr from hy) with h1 | h1
  ·exact bt y h1
  ·exact h.nb y h1
 ·by_cases ho:d∈ow
  ·exact .inl ho
  ·refine h.post d cs ?_
   simp only [St.cF,lj,hq.bxO ho] at hd ⊢
   rwa [hq.Qc hb (by grind)] at hd
theorem lB.agy(hq:lB q qq ow)(hb:iI p q f args sl dl ow){vals:List AV}{x:AV}{hp':HP}(bK:∀ d∈eU qq.nb,aE s.bx d=none)(h:yj R E (qq.app s) f vals sl dl ow x hp'):yj R E s f vals sl dl ow x hp':=by
 refine ⟨h.ro,h.copy,fun d cs hd=>?_,fun y hy=>?_,h.pt.akI hq hb,by rw [←hq.Y1 hb];exact h.run,h.pure,fun d cs hd=>?_⟩
 ·refine h.deep d cs ?_
  grind [DY,qY]
 ·rw [←hq.hid hb]
  exact h.nb y (show y∈qq.fr++s.fr from pX _ hy)
 ·by_cases ho:d∈ow
  ·exact .inl ho
  ·refine h.post d cs ?_
   simp only [St.cF,lj,hq.bxO ho] at hd ⊢
   rwa [hq.Qc hb (by grind)]
theorem lB.comm(hq:lB q qq ow)(hb:iI p q f args sl dl ow){x:AV}{hp':HP} : Se (qq.app (put (s.cF E.dp (eC E.dp s sl dl ow hp')) p.p.d x)) (put ((qq.app s).cF E.dp (eC E.dp (qq.app s) sl dl ow hp')) p.p.d x):=by
 have aZ:∀ d,aE (qq.nb++sY (s.cF E.dp (eC E.dp s sl dl ow hp')).bx qq.wb) d=aE ((qq.app s).cF E.dp (eC E.dp (qq.app s) sl dl ow hp')).bx d:=by
  intro d
  simp only [St.cF,DY hq,hq.wb,sY,qY,lj]
  by_cases hd:d∈eU qq.nb
  ·rw [ab hd,ab hd]
   rcases hq.nb with e | ⟨d',zs,e,_,ho⟩
   ·grind [eU]
   grind [agx,DY,aE]
  ·rw [aa hd,aa hd]
   by_cases ho:d∈ow
   ·grind [agx,DY,qY]
   ·rw [hq.Qc hb (by grind)]
 have bw:(s.cF E.dp (eC E.dp s sl dl ow hp')).hp=((qq.app s).cF E.dp (eC E.dp (qq.app s) sl dl ow hp')).hp:=by
  simp only [St.cF]
  funext k
  split
  ·rename_i G
   rw [hq.Qc hb (by grind)]
  ·rfl
 cases hd:p.p.d with
 | none=>
  refine ⟨fun n=>rfl,aZ,?_,fun y=>Iff.rfl⟩
  show qq.hp.getD _=_
  rw [hq.hp];exact bw
 | some dd=>
  have I:dd∉eU qq.fr:=fun hm=>(hb.ds dd hd).1 (hq.fr dd hm)
  refine ⟨fun n=>?_,aZ,?_,fun y=>?_⟩
  ·show au (qq.fr++(dd,x)::s.fr) n=au ((dd,x)::(qq.fr++s.fr)) n
   grind [mI,au]
  ·show qq.hp.getD _=_
   rw [hq.hp];exact bw
  ·show y∈qq.fr++(dd,x)::s.fr↔y∈(dd,x)::(qq.fr++s.fr)
   grind
theorem iI.P9(hb:iI p q f args sl dl ow){x:AV}{hp':HP}(bN:∀ y∈s.fr,jN (jF E.dp s sl dl ow) y.2=false)(bJ:vo E.dp s sl dl ow) :
  dy R Ω E q (put (s.cF E.dp (eC E.dp s sl dl ow hp')) p.p.d x)=dy R Ω E q s:=by
 have co:eE (put (s.cF E.dp (eC E.dp s sl dl ow hp')) p.p.d x).fr q.vw=eE s.fr q.vw:=by
  apply Ie
  intro n hn
  cases hd:p.p.d with
  | none=>rfl
  | some dd=>
   have:dd≠n:=fun e=>(hb.ds dd hd).2 (e▸hn)
   simp only [put,St.dC,au,aa this]
   rfl
 have b4:(put (s.cF E.dp (eC E.dp s sl dl ow hp')) p.p.d x).bx=(s.cF E.dp (eC E.dp s sl dl ow hp')).bx:=by cases p.p.d<;>rfl
 have dB:(put (s.cF E.dp (eC E.dp s sl dl ow hp')) p.p.d x).hp=(s.cF E.dp (eC E.dp s sl dl ow hp')).hp:=by cases p.p.d<;>rfl
 have dJ:∀ d,jF E.dp s sl dl ow ⟨E.dp,d⟩=true→aE (put (s.cF E.dp (eC E.dp s sl dl ow hp')) p.p.d x).bx d=aE s.bx d:=by
  intro d hd
  rw [b4]
  simp only [St.cF,lj]
  have:eC E.dp s sl dl ow hp' ⟨E.dp,d⟩=aE s.bx d:=by
   grind [eC,St.box]
  rw [this]
  cases aE s.bx d<;>rfl
 have a7:(view q (put (s.cF E.dp (eC E.dp s sl dl ow hp')) p.p.d x)).fr=(view q s).fr:=co
 have a8:∀ k,jF E.dp s sl dl ow k=true→(view q (put (s.cF E.dp (eC E.dp s sl dl ow hp')) p.p.d x)).box E.dp k=(view q s).box E.dp k:=by
  intro k hk
  obtain ⟨kd,ke⟩:=k
  by_cases ag:kd=E.dp
  ·subst ag
   show (if E.dp=E.dp then aE (du _ q.vb) ke else _)=(if E.dp=E.dp then aE (du _ q.vb) ke else _)
   rw [ab rfl,ab rfl]
   have:∀ ks,aE (du (put (s.cF E.dp (eC E.dp s sl dl ow hp')) p.p.d x).bx ks) ke=aE (du s.bx ks) ke:=by
    intro ks
    by_cases hm:ke∈ks
    ·grind [FF]
    grind [sU,Cm]
   exact this q.vb
  ·have G:kd<E.dp:=by have:(⟨kd,ke⟩:Key).dp≤E.dp:=bJ.dp hk;grind
   show (if kd=E.dp then _ else (view q (put (s.cF E.dp (eC E.dp s sl dl ow hp')) p.p.d x)).hp ⟨kd,ke⟩)=(if kd=E.dp then _ else (view q s).hp ⟨kd,ke⟩)
   grind [view,St.cF,eC,St.box]
 have bS:(Me ow q=true∨(uj q.p.o=false∧q.vb=[]∧q.vh=false))∨∃ g:Option AV,(execOp R Ω E (view q s) q.p.d q.p.o=g.map fun y=>(y,view q s))∧(execOp R Ω E (view q (put (s.cF E.dp (eC E.dp s sl dl ow hp')) p.p.d x)) q.p.d q.p.o=g.map fun y=>(y,view q (put (s.cF E.dp (eC E.dp s sl dl ow hp')) p.p.d x)))∧uj q.p.o=false∧(∀ v,kR v q.p.o=true)∧∀ v,df E.dp q v=true:=by
  rcases hb.kd with h | h | h | h
  ·grind
  ·right
   obtain ⟨n,m,b,lv,ho,bp,b1⟩:=TC h
   have e1:∀ n,(view q (put (s.cF E.dp (eC E.dp s sl dl ow hp')) p.p.d x)).ev (.t n)=(view q s).ev (.t n):=fun n=>by show au _ n=au _ n;rw [a7]
   have e2:fi E.dp (view q (put (s.cF E.dp (eC E.dp s sl dl ow hp')) p.p.d x)) ((view q s).ev (.t b)) lv=fi E.dp (view q s) ((view q s).ev (.t b)) lv:=by
    cases lv with
    | false=>simp_all [fi]
    | true=>
     cases hy:(view q s).ev (.t b)<;>first | rfl | skip
     rename_i k' off'
     have aF:jF E.dp s sl dl ow k'=true:=Qb (q:=q) (lv:=false) bJ bp (fun h=>by cases h) (by
      show fi E.dp (view q s) ((view q s).ev (.t b)) false=some k'
      rw [hy];rfl)
     grind [fi]
   have e3:uj q.p.o=false∧(∀ v,kR v q.p.o=true)∧∀ v,df E.dp q v=true:=⟨by rw [ho];rfl,fun v=>by rw [ho];rfl,by grind [df]⟩
   by_cases hA:∃ k off,(view q s).ev (.t m)= .p k off∧fi E.dp (view q s) ((view q s).ev (.t b)) lv=some k
   ·obtain ⟨k,off,hA,aG⟩:=hA
    have hk:=Qb (q:=q) bJ bp b1 aG
    refine ⟨((view q s).box E.dp k).bind fun cs=>(pick n off cs).bind fun y=>match y with
     | .o _ _=>some (.r (.c k off))
     | y=>if y.copy then some y else none,?_,?_,e3⟩
    ·rw [ho]
     simp only [execOp,hA,ab aG]
     cases (view q s).box E.dp k with
     | none=>rfl
     | some cs=>
      simp only [ad]
      cases pick n off cs with
      | none=>rfl
      | some y=>
       grind
    ·rw [ho]
     simp only [execOp,e1,hA,e2,ab aG,a8 k hk]
     cases (view q s).box E.dp k with
     | none=>rfl
     | some cs=>
      simp only [ad]
      cases pick n off cs with
      | none=>rfl
      | some y=>
       grind
   ·refine ⟨none,?_,?_,e3⟩
    ·grind [execOp]
    grind [execOp]
  ·right
   obtain ⟨m,ho⟩:=Y0 h
   have e1:(view q (put (s.cF E.dp (eC E.dp s sl dl ow hp')) p.p.d x)).ev (.t m)=(view q s).ev (.t m):=by show au _ m=au _ m;rw [a7]
   have ak:∀ pl,jN (jF E.dp s sl dl ow) (.r pl)=false→(view q (put (s.cF E.dp (eC E.dp s sl dl ow hp')) p.p.d x)).rowAt E.dp pl=(view q s).rowAt E.dp pl:=by
    intro pl bt
    cases pl with
    | s d'=>grind [St.rowAt]
    | c k off=>
     grind [jN,St.rowAt]
   have bE:jN (jF E.dp s sl dl ow) ((view q s).ev (.t m))=false:=by
    show jN _ (au (view q s).fr m)=false
    rcases Sb q s m with e | e
    ·rw [e];rfl
    ·rw [e]
     by_cases hu:au s.fr m= .u
     ·rw [hu];rfl
     grind [Xd]
   have bA:(view q (put (s.cF E.dp (eC E.dp s sl dl ow hp')) p.p.d x)).elems E.dp ((view q s).ev (.t m))=(view q s).elems E.dp ((view q s).ev (.t m)):=by
    cases hy:(view q s).ev (.t m) with
    | r pl=>rw [hy] at bE;exact ak pl bE
    | v pl lo len=>
     rw [hy] at bE
     have:jN (jF E.dp s sl dl ow) (.r pl)=false:=by cases pl<;>exact bE
     grind [St.elems]
    | _=>rfl
   refine ⟨(match (view q s).ev (.t m) with
    | .s _=>none
    | .sp _ _ n _=>some (.i .i64 n)
    | y=>((view q s).elems E.dp y).bind fun r=>some (.i .i64 r.2.length)),?_,?_,by rw [ho];rfl,fun v=>by rw [ho];rfl,by grind [df]⟩
   ·rw [ho]
    simp only [execOp]
    cases (view q s).ev (.t m)<;>simp only []<;>first | rfl | (simp only [bU,bB];cases (view q s).elems E.dp _<;>rfl)
   ·rw [ho]
    simp only [execOp,e1]
    cases hy:(view q s).ev (.t m)<;>rw [hy] at bA<;>simp only []<;>first | rfl | (simp only [bU,bB,bA];cases (view q s).elems E.dp _<;>rfl)
  grind
 rcases bS with h | ⟨g,h1,h2,h3,h4,h5⟩
 ·refine P8.patch ⟨fun d hd=>?_,fun d hd=>?_,fun hv=>?_⟩
  ·have dH:d∈q.vw:=by
    have h2:=hd
    unfold YZ gsl at h2
    rw [hb.qg] at h2
    simpa using h2
   have:=an (fun l=>au l d) co
   grind [Mn]
  ·grind [KL,Hp]
  grind [KL]
 ·unfold dy jx
  rw [hb.qg]
  simp only [h1,h2,h4,h5]
  cases g with
  | none=>rfl
  | some y=>simp only [fE,ad,GL hb.nw h3]
end
def TD(gs:List br)(i j:Nat):Prop:=∃ p q,gs[i]? =some p∧gs[j]? =some q∧((p.lt=true∧q.lt=true∧Cl p q=true)∨Ax p q=true∨Ax q p=true)
theorem rm.swap{i j:Nat}{π:List Nat}{s t:St}(hf:TD gs i j)(h:rm R Ω E gs (i::j::π) s t):rm R Ω E gs (j::i::π) s t:=by
 obtain ⟨p,q,hp,hq,bn⟩:=hf
 obtain ⟨p',s1,s2,h1,h2,h3,q',s3,s4,h4,h5,h6,h7⟩:=h
 obtain rfl:p=p':=by grind
 obtain rfl:q=q':=by grind
 rcases bn with ⟨bt,cG,hc⟩ | hc | hc
 rotate_left
 ·
  obtain ⟨f,args,sl,vs,ow,hb⟩:=M7 hc
  simp only [dF,hb.pl,bU,bB,fS,hb.pg,hb.o,execOp] at h3
  obtain ⟨⟨x,s2'⟩,Z,he⟩:=ah.1 h3
  obtain rfl:=af he
  simp only [dF,ab hb.ql] at h6
  obtain ⟨qq,H,a2⟩:=ah.1 h6
  obtain rfl:=af a2
  have hP:=hb.patch H
  obtain ⟨hp',hC,e2⟩:=GM Z
  simp only at e2 hC
  subst e2
  have aA:dy R Ω E q s1=some qq:=by
   rw [←hb.P9 (x:=eV p.p.fz x) (hp':=hp') hC.nb hC.pt,(Se.P9 h5).patch];exact H
  have aG:=Sc (s:=s1) (s':=qq.app s1) (xs:=args) fun n hn=>hP.Ig hb (.inl hn)
  have W:=(hP.call hb (hb.plain hC.pt aA) hC).mk'
  rw [←aG] at W
  refine ⟨q,s1,qq.app s1,hq,h2,by simp only [dF,ab hb.ql,aA,ad],p,qq.app s1,_,hp,Se.refl _,by simp only [dF,hb.pl,bU,bB,fS,hb.pg,hb.o,execOp,W,ad];rfl,?_⟩
  exact h7.se (Se.trans (hP.comm hb).symm (h5.app qq))
 ·
  obtain ⟨f,args,sl,vs,ow,hb⟩:=M7 hc
  simp only [dF,ab hb.ql] at h3
  obtain ⟨qq,H,a2⟩:=ah.1 h3
  obtain rfl:=af a2
  simp only [dF,hb.pl,bU,bB,fS,hb.pg,hb.o,execOp] at h6
  obtain ⟨⟨x,s4'⟩,Z,he⟩:=ah.1 h6
  obtain rfl:=af he
  have hP:=hb.patch H
  obtain ⟨hp',hC,e2⟩:=GM Z
  simp only at e2 hC
  subst e2
  have aG:=Sc (s:=s1) (s':=qq.app s1) (xs:=args) fun n hn=>hP.Ig hb (.inl hn)
  have ct:=hC.se h5.symm
  rw [←h5.ev,aG] at ct
  have b7:=hP.agy hb (hb.akH H) ct
  have W:=b7.mk'
  have aA:dy R Ω E p (put (s1.cF E.dp (eC E.dp s1 sl vs ow hp')) q.p.d (eV q.p.fz x))=some qq:=by
   rw [hb.P9 b7.nb b7.pt];exact H
  refine ⟨q,s1,_,hq,h2,by simp only [dF,hb.pl,bU,bB,fS,hb.pg,hb.o,execOp,W,ad];rfl,p,_,_,hp,Se.refl _,by simp only [dF,ab hb.ql,aA,ad];rfl,?_⟩
  refine h7.se (Se.trans (hP.comm hb) ?_)
  refine Se.put ?_ _ _
  rw [←h5.Qc]
  exact h5.cF _ _
 simp only [dF,ab bt] at h3
 simp only [dF,ab cG] at h6
 obtain ⟨pp,ce,he⟩:=ah.1 h3
 obtain rfl:=af he
 obtain ⟨qq,H,a2⟩:=ah.1 h6
 obtain rfl:=af a2
 have a3:Cl q p=true:=by
  grind [Cl,CO]
 have sp:=yh ce
 have sq:=yh H
 have e1:dy R Ω E q s1=some qq:=by
  rw [←H]
  exact ((Qa sp hc).patch.symm.trans (Se.P9 h5).patch)
 have e2:dy R Ω E p (qq.app s1)=some pp:=by
  rw [←ce]
  exact (Qa sq a3).patch
 refine ⟨q,s1,qq.app s1,hq,h2,by grind [dF],p,qq.app s1,pp.app (qq.app s1),hp,Se.refl _,by grind [dF],?_⟩
 exact h7.se ((Xb (Xc sp sq hc) s1).trans (h5.app qq))
theorem rm.front{i:Nat}{B:List Nat}{t:St} : ∀ (A:List Nat)(s:St),(∀ a∈A,TD gs a i)→rm R Ω E gs (A++i::B) s t→rm R Ω E gs (i::(A++B)) s t
 | [],_,_,h=>h
 | a::A,s,hf,h=>by
  obtain ⟨p,s1,s2,h1,h2,h3,h4⟩:=h
  exact rm.swap (hf a (by simp)) ⟨p,s1,s2,h1,h2,h3,rm.front A s2 (fun b hb=>hf b (by simp [hb])) h4⟩
end
variable [bM]
def Qd:nY→Bool
 | .al _=>true
 | .ck _ _=>true
 | .bs _ _ _=>true
 | .ms _ _ _ _ _=>true
 | .ap _ _ _ _ _=>true
 | _=>false
def iT(p:br):Bool:=
 match p.p.o with
 | .bx _=>false
 | .c2 _ _=>false
 | .d2 _ _=>false
 | .cr _ _ _=>false
 | .cm _ _ _ _=>false
 | .ch _ _ _ _ _=>false
 | .st _ _ y=>p.p.d==none&&(p.cs==[]||match y with
  | .t m=>p.cs==[m]
  | .c _=>false)
 | .ap _ _ _ x _=>match x with
  | .t m=>p.cs==[m]||p.cs==[m,m]
  | .c _=>p.cs==[]
 | _=>p.cs==[]
structure mo(dp:Nat)(s:St)(h:Nat):Prop where
 fr:∀ d,(au s.fr d).cb ⟨dp,h⟩=true∧(au s.fr d).kq (.s h)=false
 cs:∀ d cs,aE s.bx d=some cs→∀ c∈cs,c.cb ⟨dp,h⟩=true
variable {dp h:Nat}
theorem mo.of{s:St}(hf:um dp s h=true):mo dp s h:=by
 simp only [um,aC] at hf
 refine ⟨fun d=>?_,fun d cs hb c hc=>mP (p9 _ hf.2 d cs hb) c hc⟩
 have:=p8 (p:=fun y=>y.cb ⟨dp,h⟩&&!y.kq (.s h)) rfl _ hf.1.2 d
 simpa using this
theorem mo.se{s:St}(hf:mo dp s h)(hs:Se s s'):mo dp s' h:=
 ⟨fun d=>by rw [←hs.fr];exact hf.fr d,fun d cs hb=>hf.cs d cs (by rw [hs.bx];exact hb)⟩
def tU(dp:Nat)(s:St)(h:Nat):Prop:=∀ d,ir ⟨dp,h⟩ (au s.fr d)=false
theorem tU.se{s:St}(hf:tU dp s h)(hs:Se s s'):tU dp s' h:=fun d=>by rw [←hs.fr];exact hf d
variable {k:Key}{x:AV}
theorem Xf{off:Nat}(h:x.kq (.c k off)=true):ir k x=true:=by
 cases x with
 | r pl=>grind [AV.kq,ir]
 | v pl lo len=>grind [AV.kq,ir]
 | q pl i sz off'=>grind [AV.kq,ir]
 | _=>cases h
section
variable {C:Cx}{s:St}{a:Act}{w:World}{σ:Sp}{o:Oper}{R:Rec}{Ω:ef}
theorem Mf(p:br)(s:St)(dp:Nat):Le dp (view p s) s:=by
 refine ⟨Ef s.fr p.vw,fun k cs hk=>?_⟩
 by_cases hd:k.dp=dp
 ·grind [St.box,view,dP]
 grind [St.box,view]
theorem KM{p:br}{r:AV×St}(h1:uj p.p.o=false)(h2:kz p=false):effect p r=⟨jO p.p.d (eV p.p.fz r.1)++p.cs.map (fun m=>(m,.u)),[],[],none⟩:=by
 unfold effect
 split
 ·rename_i ho;rw [ho] at h1;cases h1
 ·rename_i ho;rw [ho] at h1;cases h1
 ·grind [kz,wG]
 ·grind [kz,mO]
 ·rfl
theorem VL(d:Option Nat)(x:AV)(s:St)(d':Nat):au (jO d x++s.fr) d'=au (A.put s d x).fr d':=by cases d<;>rfl
theorem pR(cs:List Nat)(fr:List (Nat×AV))(d:Nat):au (cs.map (fun m=>(m,AV.u))++fr) d=if d∈cs then .u else au fr d:=by
 induction cs with
 | nil=>simp
 | cons c cs ih=>
  grind [au]
theorem finish{p:br}{q:bL}{K:Act→World→Prop}{Q:Exit→Act→World→Prop}(U:o.dst=p.p.d)(hd:∀ dd,p.p.d=some dd→dd<C.nt)(ac:eM C o p.p.d a w σ s' x)(bk:∀ d',au (q.app s).fr d'= .u∨au (q.app s).fr d'=au (A.put s' p.p.d (eV p.p.fz x)).fr d')(aZ:∀ k cs,(q.app s).box C.E.dp k=some cs→s'.box C.E.dp k=some cs)(bw:∀ k cs,k.dp≠C.E.dp→(q.app s).hp k=some cs→s'.hp k=some cs)(hK:∀ a' w' σ',cZ C w σ w' σ'→aq C (q.app s) a' w' σ'→K a' w'):o.wp C.P a w K Q:=by
 refine ac _ _ fun cv w' σ' cI=>?_
 obtain ⟨σ'',hs,hc⟩:=cI.afL hd p.p.fz
 rw [U]
 refine hK _ _ _ hs (hc.Ee bk (fun k cs hk=>?_) (fun k cs hk hc=>?_))
 ·have:=aZ k cs hk
  cases p.p.d<;>exact this
 ·have:=bw k cs hk hc
  cases p.p.d<;>exact this
theorem Jb{p:br}{s:St}{cs nw:List AV}(fr:List (Nat×AV))(hb:(view p s).box dp k=some cs):
  (∀ k' cs',((⟨fr,[],du ((view p s).aL dp k nw).bx p.vb,if p.vh=true then some ((view p s).aL dp k nw).hp else none⟩:bL).app s).box dp k'=some cs'→(s.aL dp k nw).box dp k'=some cs')∧
  (∀ k' cs',k'.dp≠dp→((⟨fr,[],du ((view p s).aL dp k nw).bx p.vb,if p.vh=true then some ((view p s).aL dp k nw).hp else none⟩:bL).app s).hp k'=some cs'→(s.aL dp k nw).hp k'=some cs'):=by
 have a5:=(Mf p s dp).bx k cs hb
 refine ⟨fun k' cs' aF=>?_,fun k' cs' ag aF=>?_⟩
 ·rw [jT a5]
  by_cases ao:k'.dp=dp
  ·simp only [St.box,ao,az,bL.app,dZ,tT] at aF
   by_cases ag:k.dp=dp
   ·simp only [St.aL,ag,az] at aF
    by_cases bi:k'=k
    ·subst bi
     rw [ab rfl]
     have a8:aE (view p s).bx k'.d=some cs:=by grind [St.box]
     have bu:k'.d∈p.vb:=by
      have:∀ ks,aE (du s.bx ks) k'.d=some cs→k'.d∈ks:=by
       grind [Cm,sU]
      exact this p.vb a8
     have cp:∀ (bx:List (Nat×List AV))(ks:List Nat)(d:Nat),d∈ks→aE (du bx ks) d=aE bx d:=by
      intro bx ks d
      induction ks with
      | nil=>intro h;cases h
      | cons c ks ih=>
       intro hm
       simp only [du]
       cases dc:aE bx c with
       | none=>
        simp only
        rcases eX.1 hm with rfl | hm
        ·cases bq:aE (du bx ks) d with
         | none=>exact dc.symm
         | some z=>grind [dP]
        ·exact ih hm
       | some z=>
        grind [aE]
     grind [yH,St.box]
    ·rw [aa bi]
     have cM:k'.d≠k.d:=fun e=>bi (by cases k;cases k';grind)
     simp only [St.box,ao,az]
     cases hq:aE (du (oU (view p s).bx k.d nw) p.vb) k'.d with
     | none=>grind
     | some z=>
      rw [hq] at aF
      have h1:=dP hq
      rw [yH,aa cM] at h1
      have h2:aE s.bx k'.d=some z:=dP h1
      grind
   grind [St.aL,St.box,view,dP]
  ·simp only [St.box,aa ao,bL.app] at aF ⊢
   by_cases ag:k.dp=dp
   ·have bi:k'≠k:=fun e=>ao (e▸ag)
    rw [aa bi]
    simp only [St.aL,ag,az] at aF
    by_cases hv:p.vh=true
    ·simp_all [view]
    simp_all
   ·by_cases hv:p.vh=true
    ·simp_all [St.aL,view,ar]
    grind [St.box,view]
 ·by_cases cP:k.dp=dp
  ·grind [St.aL,bL.app,view]
  grind [St.aL,bL.app,view,St.box]
theorem aq.aaa{p:br}{r:AV×St}{K:Act→World→Prop}{Q:Exit→Act→World→Prop}(hR:m8 C.P R)(hΩ:je C.P Ω)(h:aq C s a w σ)(N:bG C.P p.p.o o.op=true)(U:o.dst=p.p.d)(hd:∀ dd,p.p.d=some dd→dd<C.nt)
  (hk:iT p=true) (T:Qd p.p.o=true→∀ dd,p.p.d=some dd→mo C.E.dp s dd) (G:kR (view p s) p.p.o=true) (cN:df C.E.dp p (view p s)=true) (bz:wY p.p.o p.cs=true→∀ h∈p.vb,tU C.E.dp s h) (hr:execOp R Ω C.E (view p s) p.p.d p.p.o=some r)
  (hK:∀ a' w' σ',cZ C w σ w' σ'→aq C ((effect p r).app s) a' w' σ'→K a' w'):o.wp C.P a w K Q:=by
 have hle:=Mf p s C.E.dp
 have y0:uj p.p.o=false→kz p=false→∀ s',eM C o p.p.d a w σ s' r.1→(∀ d',d'∈p.cs∨p.p.d=some d'∨au s.fr d'=au s'.fr d')→(∀ k,s'.box C.E.dp k=s.box C.E.dp k)→s'.hp=s.hp→o.wp C.P a w K Q:=by
  intro h1 h2 s' he hf hb hh
  have aw:=KM (r:=r) h1 h2
  rw [aw] at hK
  refine finish U hd he (fun d'=>?_) (fun k cs hk=>?_) (fun k cs _ hk=>?_) hK
  ·simp only [bL.app,ox]
   rw [mI,Ja]
   cases I:p.p.d with
   | none=>
    rw [aa (by simp [wH]),pR]
    by_cases hm:d'∈p.cs
    ·grind
    ·rw [aa hm]
     rcases hf d' with h3 | h3 | h3
     ·grind
     ·grind
     ·exact .inr h3
   | some dd=>
    grind [wH,jO,au,A.put,St.dC,pR]
  ·rw [hb];exact hk
  ·rw [hh];exact hk
 have plain:uj p.p.o=false→kz p=false→∀ s',execOp R Ω C.E s p.p.d p.p.o=some (r.1,s')→(∀ d',d'∈p.cs∨p.p.d=some d'∨au s.fr d'=au s'.fr d')→(∀ k,s'.box C.E.dp k=s.box C.E.dp k)→s'.hp=s.hp→o.wp C.P a w K Q:=
  fun h1 h2 s' he hf hb hh=>y0 h1 h2 s' (F5 hR hΩ p.p.o h N he) hf hb hh
 have aI:∀ {dd},p.p.d=some dd→mo C.E.dp s dd→∀ d',d'∈p.cs∨p.p.d=some d'∨au s.fr d'=au (s.bc (.s dd)).fr d':=by
  intro dd _ hf d'
  refine .inr (.inr ?_)
  simp only [St.bc,pK,(hf.fr d').2,bU,bB]
 cases F:p.p.o with
 | bx x=>grind [iT]
 | c2 f args=>grind [iT]
 | d2 x args=>grind [iT]
 | ch f args sl dl ow=>grind [iT]
 | c3 f args=>
  rw [F] at hr N
  obtain ⟨_,h2⟩:=RA (d:=p.p.d) hR.h h (fun x hx=>hle.ev rfl hx) hle.bx N hr
  exact y0 (by rw [F];rfl) (by simp [kz,mO,F,wG]) s h2 (fun d'=>.inr (.inr rfl)) (fun _=>rfl) rfl
 | d3 x args=>
  rw [F] at hr N
  obtain ⟨_,h2⟩:=RB (d:=p.p.d) hR.h h (fun x hx=>hle.ev rfl hx) hle.bx N hr
  exact y0 (by rw [F];rfl) (by simp [kz,mO,F,wG]) s h2 (fun d'=>.inr (.inr rfl)) (fun _=>rfl) rfl
 | cr t f args=>grind [iT]
 | cm t f args x=>grind [iT]
 | as x=>
  rw [F] at hr G N
  refine plain (by rw [F];rfl) (by simp [kz,mO,F,wG]) s ?_ (fun d'=>.inr (.inr rfl)) (fun _=>rfl) rfl
  rw [F]
  have hc:((view p s).ev x).copy=true:=G
  have hx:=hle.ev rfl (yK hc)
  cases x with
  | c z=>
   grind [execOp]
  | t n=>
   have cA:au s.fr n=au (view p s).fr n:=hx
   simp only [execOp] at hr ⊢
   have a3:(au (view p s).fr n).copy=true:=hc
   grind [AV.copy]
 | bs t sz es=>
  rw [F] at hr G N
  simp only [execOp] at hr
  obtain ⟨dd,I,D⟩:=ah.1 hr
  have hf:=T (by rw [F];rfl) dd I
  split at D
  ·rename_i dh
   cases D
   refine plain (by rw [F];rfl) (by simp [kz,mO,F,wG]) (s.bc (.s dd)) ?_ (aI I hf) (fun _=>rfl) rfl
   rw [F]
   have hm:=hle.map (xs:=es) (by grind [List.mem_map_of_mem,UR])
   grind [execOp]
  ·cases D
 | ms t sz by_ z n=>
  rw [F] at hr G N
  simp only [execOp] at hr
  obtain ⟨dd,I,D⟩:=ah.1 hr
  obtain ⟨m,hm,O⟩:=ah.1 D
  have hf:=T (by rw [F];rfl) dd I
  split at O
  ·rename_i hc
   cases O
   refine plain (by rw [F];rfl) (by simp [kz,mO,F,wG]) (s.bc (.s dd)) ?_ (aI I hf) (fun _=>rfl) rfl
   rw [F]
   simp only [execOp,I,ad,hle.nat hm,ab hc]
  ·cases O
 | ap t sz by_ x y=>
  rw [F] at hr G N
  simp only [execOp] at hr
  obtain ⟨dd,I,D⟩:=ah.1 hr
  obtain ⟨ys,a6,O⟩:=ah.1 D
  obtain ⟨qq,H,aQ⟩:=ah.1 O
  have hf:=T (by rw [F];rfl) dd I
  split at aQ
  ·rename_i hc
   cases aQ
   have bo:(view p s).ev y≠.u:=by intro e;rw [e] at a6;cases a6
   by_cases cE:K0 ((view p s).ev x)=true
   ·
    have h2:(p.cs.length==2)=true:=by
     grind [df]
    cases x with
    | c z=>
     grind [A.consume,St.ev,K0]
    | t m=>
     have aJ:p.cs=[m,m]:=by
      grind [iT]
     have hx:∃ k off,au (view p s).fr m= .r (.c k off):=by
      have h3:K0 (au (view p s).fr m)=true:=cE
      generalize au (view p s).fr m=z at h3
      cases z<;>first | (cases h3;done) | skip
      rename_i pl
      cases pl with
      | s d=>cases h3
      | c k off=>grind
     obtain ⟨k,off,hx⟩:=hx
     unfold A.consume at H
     simp only [hx] at H
     split at H
     ·rename_i bf
      obtain ⟨rw1,ak,X⟩:=ah.1 H
      split at X
      ·rename_i bF
       obtain ⟨st',S,bq⟩:=ah.1 X
       cases bq
       simp only [St.putAt] at S
       split at S
       ·rename_i cs0 hb
        cases S
        have a5:=hle.bx k cs0 hb
        have ba:s.rowAt C.E.dp (.c k off)=some rw1:=by
         grind [St.rowAt]
        have aU:A.consume C.E s t (.t m)=some (rw1.2,s.aL C.E.dp k (cs0.set off .u)):=by
         simp only [A.consume,hle.slot hx (by simp),ab bf,ba,ad,ab bF,St.putAt,a5]
        have hex:execOp R Ω C.E s p.p.d p.p.o=some (.o t (rw1.2++ys.2),(s.aL C.E.dp k (cs0.set off .u)).bc (.s dd)):=by
         rw [F]
         simp only [execOp,I,ad,hle.ev (x:=y) rfl bo,hle.elems a6,aU,ab hc]
        have ac:=F5 hR hΩ p.p.o h (by rw [F];exact N) hex
        have he:∀ r:AV×St,effect p r=⟨jO p.p.d (eV p.p.fz r.1)++p.cs.map (fun m=>(m,.u)),[],du r.2.bx p.vb,if p.vh=true then some r.2.hp else none⟩:=by
         grind [effect]
        rw [he] at hK
        obtain ⟨sb1,sb2⟩:=Jb (nw:=cs0.set off .u) (jO p.p.d (eV p.p.fz (.o t (rw1.2++ys.2)))++p.cs.map (fun m=>(m,AV.u))) hb
        refine finish U hd ac (fun d'=>?_) sb1 sb2 hK
        grind [bL.app,jO,au,A.put,St.dC,pR,St.bc,pM]
       ·cases S
      ·cases X
     ·cases H
   have cg:kz p=false:=by
    grind [df,kz,mO,wG]
   have aU:∃ s1:St,A.consume C.E s t x=some (qq.1,s1)∧(∀ d',d'∈p.cs∨au s.fr d'=au s1.fr d')∧(∀ k,s1.box C.E.dp k=s.box C.E.dp k)∧s1.hp=s.hp∧(∀ d',(au s1.fr d').kq (.s dd)=false):=by
    unfold A.consume at H
    split at H
    ·cases H
     exact ⟨s,rfl,fun _=>.inr rfl,fun _=>rfl,rfl,fun d'=>(hf.fr d').2⟩
    ·cases H
    ·rename_i m
     have aJ:m∈p.cs:=by
      grind [iT]
     split at H
     ·rename_i hx
      cases H
      refine ⟨s,?_,fun _=>.inr rfl,fun _=>rfl,rfl,fun d'=>(hf.fr d').2⟩
      simp only [A.consume,hle.slot hx (by simp)]
     ·rename_i t' es hx
      split at H
      ·rename_i bF
       cases H
       refine ⟨s.dC m .u,?_,fun d'=>?_,fun _=>rfl,rfl,fun d'=>?_⟩
       ·simp only [A.consume,hle.slot hx (by simp),ab bF]
       ·grind [mw]
       ·rw [mw]
        split
        ·rfl
        ·exact (hf.fr d').2
      ·cases H
     ·grind [kR,St.ev,K0]
     ·grind [kR,St.ev]
     ·cases H
   obtain ⟨s1,h1,h2,h3,h4,h5⟩:=aU
   refine plain (by rw [F];rfl) cg (s1.bc (.s dd)) ?_ (fun d'=>?_) (fun k=>h3 k) h4
   ·rw [F]
    simp only [execOp,I,ad,hle.ev (x:=y) rfl bo,hle.elems a6,h1,ab hc]
   grind [St.bc,pK]
  ·cases aQ
 | al zs=>
  rw [F] at hr G N
  simp only [execOp] at hr
  obtain ⟨dd,I,D⟩:=ah.1 hr
  have hf:=T (by rw [F];rfl) dd I
  split at D
  ·rename_i dI
   have b2:dd<1000000:=by grind [ft]
   cases D
   have he:effect p (.p ⟨C.E.dp,dd⟩ 0,{(view p s) with bx:=(dd,zs)::(view p s).bx})=⟨[(dd,.p ⟨C.E.dp,dd⟩ 0)],[(dd,zs)],[],none⟩:=by
    grind [effect]
   rw [he] at hK
   refine finish (s:=s) U hd (Rx (d:=p.p.d) h b2 N I (fun d'=>(hf.fr d').1) (fun d' cs' hb c hc=>hf.cs d' cs' hb c hc)) (fun d'=>.inr ?_) (fun k cs hk=>?_) (fun k cs _ hk=>?_) hK
   ·rw [I]
    have:eV p.p.fz (.p ⟨C.E.dp,dd⟩ 0)= .p ⟨C.E.dp,dd⟩ 0:=by cases p.p.fz<;>rfl
    rw [this]
    rfl
   ·simp_all [St.box,bL.app,sY]
   ·exact hk
  ·cases D
 | ck f args=>
  rw [F] at hr G N
  simp only [execOp] at hr
  obtain ⟨dd,I,D⟩:=ah.1 hr
  have hf:=T (by rw [F];rfl) dd I
  unfold Am at D
  split at D
  ·rename_i hp
   obtain ⟨⟨q,hp'⟩,hq,O⟩:=ah.1 D
   cases q with
   | ret x=>cases O
   | row _ _=>cases O
   | o0 _ _ _ _ _ _=>cases O
   | new cs=>?_
   simp only at O
   split at O
   ·rename_i bK
    have hm:=hle.map (xs:=args) fun x hx=>UR ((by grind [fB]))
    have b2:dd<1000000:=by grind [NG,ft]
    cases O
    have he:effect p (.p ⟨C.E.dp,dd⟩ 0,{(view p s) with bx:=(dd,cs)::(view p s).bx})=⟨[(dd,.p ⟨C.E.dp,dd⟩ 0)],[(dd,cs)],[],none⟩:=by
     grind [effect,aE]
    rw [he] at hK
    refine finish (s:=s) U hd (RC (d:=p.p.d) hR.h h N (by rw [hm];exact hp) (by rw [hm];exact hq) b2 (fun d'=>(hf.fr d').1) (fun d' cs' hb c hc=>hf.cs d' cs' hb c hc)) (fun d'=>.inr ?_) (fun k cs hk=>?_) (fun k cs _ hk=>?_) hK
    ·rw [I]
     have:eV p.p.fz (.p ⟨C.E.dp,dd⟩ 0)= .p ⟨C.E.dp,dd⟩ 0:=by cases p.p.fz<;>rfl
     rw [this]
     rfl
    ·simp_all [St.box,bL.app,sY]
    ·exact hk
   ·cases O
  ·cases D
 | st n x y=>
  rw [F] at hr G N
  have db:p.p.d=none:=by
   grind [iT]
  simp only [kR,aC,u0] at G
  obtain ⟨aM,cy⟩:=G
  have bo:(view p s).ev y≠.u:=by
   intro e;rw [e] at aM;rcases aM with h | h<;>cases h
  have hy:=hle.ev rfl bo
  have bl:∀ r:AV×St,effect p r=⟨p.cs.map (fun m=>(m,.u)),[],du r.2.bx p.vb,if p.vh=true then some r.2.hp else none⟩:=by
   grind [effect]
  simp only [execOp] at hr
  split at hr
  ·rename_i k off hx
   split at hr
   ·rename_i hm
    obtain ⟨cs,hb,D⟩:=ah.1 hr
    have a5:=hle.bx k cs hb
    split at D
    ·rename_i t' es aK
     have ak:pJ ((view p s).ev y)=true:=by rw [aK];rfl
     have bh:=cN
     simp only [df,F,ak,hx,uS,pS,aC,eI,eh] at bh
     obtain ⟨⟨ag,a8⟩,aJ⟩:=bh
     cases y with
     | c z=>cases aJ
     | t m=>
      have b3:p.cs=[m]:=by simpa using aJ
      have bX:tU C.E.dp s k.d:=by grind [wY]
      simp only at D
      split at D
      ·rename_i hc
       cases D
       have hex:execOp R Ω C.E s p.p.d p.p.o=some (.u,((s.dC m .u).bc (.c k off)).aL C.E.dp k (cs.set off (.o t' es))):=by
        rw [F]
        simp only [execOp,hle.ev hx (by simp),ab hm,a5,ad,hy,aK]
        rw [ab hc]
       have ac:=F5 (r:=(.u,((s.dC m .u).bc (.c k off)).aL C.E.dp k (cs.set off (.o t' es)))) hR hΩ p.p.o h (by rw [F];exact N) hex
       rw [bl,b3] at hK
       have b5:∀ nw,(((view p s).dC m .u).bc (.c k off)).aL C.E.dp k nw=({((view p s).aL C.E.dp k nw) with fr:=(((view p s).dC m .u).bc (.c k off)).fr} : St):=by
        grind [St.aL,St.bc,St.dC]
       rw [b5] at hK
       obtain ⟨sb1,sb2⟩:=Jb (nw:=cs.set off (.o t' es)) [(m,.u)] hb
       have de:∀ nw k',((((s.dC m .u).bc (.c k off)).aL C.E.dp k nw).box C.E.dp k')=(s.aL C.E.dp k nw).box C.E.dp k':=by
        simp_all [St.aL,St.bc,St.dC,St.box]
       have cU:∀ nw,((((s.dC m .u).bc (.c k off)).aL C.E.dp k nw).hp)=(s.aL C.E.dp k nw).hp:=by
        grind [St.aL,St.bc,St.dC]
       refine finish U hd ac (fun d'=>?_) (fun k' cs' aF=>?_) (fun k' cs' ao aF=>?_) hK
       ·rw [db]
        simp only [bL.app,A.put,pM,fj,u5,eJ,dZ,au]
        by_cases cj:m=d'
        ·grind
        ·rw [aa cj]
         refine .inr ?_
         simp only [St.bc,St.dC,pK,au,aa cj]
         rw [aa]
         intro b6
         have:=bX d'
         rw [←ag] at this
         rw [Xf b6] at this;cases this
       ·grind
       grind
      ·cases D
    ·rename_i pl lo len aK
     rw [aK] at aM;rcases aM with h | h<;>cases h
    ·rename_i dv dr
     have cx:((view p s).ev y).copy=true:=by
      grind
     split at D
     ·rename_i hc
      cases D
      have hex:execOp R Ω C.E s p.p.d p.p.o=some (.u,s.aL C.E.dp k (putCells cs off ((view p s).ev y).cl)):=by
       rw [F]
       simp only [execOp,hle.ev hx (by simp),ab hm,a5,ad,hy]
       rw [ab hc]
      have ac:=F5 (r:=(.u,s.aL C.E.dp k (putCells cs off ((view p s).ev y).cl))) hR hΩ p.p.o h (by rw [F];exact N) hex
      rw [bl] at hK
      obtain ⟨sb1,sb2⟩:=Jb (nw:=putCells cs off ((view p s).ev y).cl) (p.cs.map fun m=>(m,AV.u)) hb
      refine finish U hd ac (fun d'=>?_) sb1 sb2 hK
      grind [bL.app,A.put,pM,pR]
     ·cases D
   ·cases hr
  ·grind
  ·cases hr
 | _=>
  have cH:qk p.p.o=true:=by rw [F];rfl
  obtain ⟨_,h2⟩:=N2 hle cH G hr
  exact plain (by rw [F];rfl) (by simp [kz,mO,F,wG]) s h2 (fun d'=>.inr (.inr rfl)) (fun _=>rfl) rfl
end
variable [bM]
section
variable {C:Cx}{s:St}{a:Act}{w:World}{σ:Sp}{o:Oper}{R:Rec}{Ω:ef}
theorem aq.akJ{nt i:Nat}{ops:Array Oper}{p:br}{q:bL}{K:Act→World→Prop}{Q:Exit→Act→World→Prop}(hR:m8 C.P R)(hΩ:je C.P Ω)(h:aq C s a w σ)(ho:ops[i]? =some o)(hl:F6 C.P nt ops o p.p=true)(aB:nt≤C.nt)
  (hk:iT p=true) (T:Qd p.p.o=true→∀ dd,p.p.d=some dd→mo C.E.dp s dd) (bz:wY p.p.o p.cs=true→∀ h∈p.vb,tU C.E.dp s h) (hq:dy R Ω C.E p s=some q) (hK:∀ a' w' σ',cZ C w σ w' σ'→aq C (q.app s) a' w' σ'→K a' w'):wpOp C.P ops Q i K a w:=by
 obtain ⟨N,U,hd,cY⟩:=Iy hl aB
 obtain ⟨dG,c0⟩:=h.guard cY
 have J:jx R Ω C.E p (view p s)=some q→o.wp C.P a w K Q:=by
  intro hc
  unfold jx at hc
  split at hc
  ·rename_i G
   obtain ⟨r,hr,h2⟩:=ah.1 hc
   split at h2
   ·cases h2
    simp only [aC] at G
    exact h.aaa hR hΩ N U hd hk T G.1 G.2 bz hr hK
   ·cases h2
  ·cases hc
 simp only [wpOp,ho]
 unfold dy at hq
 split at hq
 ·grind
 ·rename_i j want cW
  obtain ⟨y,hy,X⟩:=ah.1 hq
  have dx:=c0 j want y cW hy
  split at X
  ·grind
  ·rename_i dw
   rw [aa (by grind)]
   refine hK _ _ _ (.refl _ _ _) ?_
   rw [←af X,U]
   refine (h.YM hd).se ⟨fun d'=>?_,fun d'=>?_,?_,fun y=>?_⟩
   ·simp only [bL.app];rw [VL]
   ·cases p.p.d<;>rfl
   ·cases p.p.d<;>rfl
   ·cases p.p.d<;>exact Iff.rfl
theorem EH{s:St}{cs zs:List AV}(h:aE (s.aL dp k cs).bx d=some zs):aE s.bx d=some zs∨zs=cs:=by
 unfold St.aL at h
 split at h
 ·simp only [yH] at h
  split at h
  ·simp_all
  ·exact .inl h
 ·exact .inl h
theorem agz{y:AV}(h:y.cb k=true):∀ c∈y.cl,c.cb k=true:=by
 intro c hc
 cases y<;>simp only [AV.cl,jj] at hc<;>first | (subst hc;exact h) | skip
 grind [mP,AV.cb]
theorem mo.step{p:br}{q:bL}{op:Op}(hf:mo C.E.dp s h)(N:bG C.P p.p.o op=true)(hk:iT p=true)(hn:h∈p.nk)(hq:dy R Ω C.E p s=some q):mo C.E.dp (q.app s) h:=by
 have hle:=Mf p s C.E.dp
 have cB:∀ d,(au (view p s).fr d).cb ⟨C.E.dp,h⟩=true:=fun d=>by
  rcases hle.fr d with e | e
  ·rw [e];rfl
  ·rw [e];exact (hf.fr d).1
 have av:∀ (x:AV)(cs:List Nat),x.cb ⟨C.E.dp,h⟩=true→x.kq (.s h)=false→mo C.E.dp ((⟨jO p.p.d x++cs.map (fun m=>(m,.u)),[],[],none⟩:bL).app s) h:=by
  intro x cs hx hb
  refine ⟨fun d=>?_,hf.cs⟩
  simp only [bL.app,ox]
  rw [mI]
  split
  ·rename_i hm
   cases hd:p.p.d with
   | none=>grind [jO,eU]
   | some dd=>
    grind [jO,eU,au]
  ·rw [pR]
   split
   ·exact ⟨rfl,rfl⟩
   ·exact hf.fr d
 have J:jx R Ω C.E p (view p s)=some q→mo C.E.dp (q.app s) h:=by
  intro hc
  unfold jx at hc
  split at hc
  ·rename_i bO
   have G:=(u6.1 bO).1
   obtain ⟨r,hr,h2⟩:=ah.1 hc
   split at h2
   ·rename_i aR
    have bd:=(u6.1 aR).1
    cases h2
    have hx:r.1.cb ⟨C.E.dp,h⟩=true∧r.1.kq (.s h)=false:=by
     have:=cJ.1 bd h hn
     simpa using this
    have bV:(eV p.p.fz r.1).cb ⟨C.E.dp,h⟩=true∧(eV p.p.fz r.1).kq (.s h)=false:=by
     cases p.p.fz with
     | false=>simpa [eV] using hx
     | true=>cases D:r.1<;>rw [D] at hx<;>first | exact hx | exact ⟨rfl,rfl⟩
    by_cases ai:uj p.p.o=true
    ·cases F:p.p.o<;>rw [F] at ai<;>simp [uj] at ai
     case al zs=>
      rw [F] at hr N
      simp only [execOp] at hr
      obtain ⟨dd,I,D⟩:=ah.1 hr
      split at D
      ·cases D
       have he:effect p (.p ⟨C.E.dp,dd⟩ 0,{(view p s) with bx:=(dd,zs)::(view p s).bx})=⟨[(dd,.p ⟨C.E.dp,dd⟩ 0)],[(dd,zs)],[],none⟩:=by
        grind [effect]
       rw [he]
       refine ⟨fun d=>?_,fun d cs hb c hc=>?_⟩
       ·simp only [bL.app,eJ,dZ,au]
        split
        ·exact hx
        ·exact hf.fr d
       ·simp only [bL.app,eJ,dZ,aE,sY] at hb
        split at hb
        ·grind [kN,Zi]
        ·exact hf.cs d cs hb c hc
      ·cases D
     case ck f args=>
      rw [F] at hr N
      simp only [execOp] at hr
      obtain ⟨dd,I,D⟩:=ah.1 hr
      unfold Am at D
      split at D
      ·obtain ⟨⟨q,hp'⟩,hq,O⟩:=ah.1 D
       cases q with
       | ret x=>cases O
       | row _ _=>cases O
       | o0 _ _ _ _ _ _=>cases O
       | new cs=>?_
       simp only at O
       split at O
       ·rename_i bK
        cases O
        have he:effect p (.p ⟨C.E.dp,dd⟩ 0,{(view p s) with bx:=(dd,cs)::(view p s).bx})=⟨[(dd,.p ⟨C.E.dp,dd⟩ 0)],[(dd,cs)],[],none⟩:=by
         grind [effect,aE]
        rw [he]
        refine ⟨fun d=>?_,fun d cs' hb c hc=>?_⟩
        ·simp only [bL.app,eJ,dZ,au]
         split
         ·exact hx
         ·exact hf.fr d
        ·simp only [bL.app,eJ,dZ,aE,sY] at hb
         split at hb
         ·cases hb
          have:=cJ.1 (u6.1 bK).1 c hc
          cases c<;>first | rfl | exact kN _ this
         ·exact hf.cs d cs' hb c hc
       ·cases O
      ·cases D
    ·by_cases ca:wG p.p.o=true
     ·cases F:p.p.o<;>rw [F] at ca<;>simp [wG] at ca
      rename_i n x y
      rw [F] at hr N G
      simp only [kR,aC,u0] at G
      obtain ⟨aM,cy⟩:=G
      have cw:((view p s).ev y).cb ⟨C.E.dp,h⟩=true:=by
       cases y with
       | t m=>exact cB m
       | c z=>
        have hp:z.pure=true:=by
         simp only [bG] at N
         grind [vd]
        exact kN z hp
      have aJ:∀ d cs,aE r.2.bx d=some cs→∀ c∈cs,c.cb ⟨C.E.dp,h⟩=true:=by
       simp only [execOp] at hr
       split at hr
       ·rename_i k off cA
        split at hr
        ·rename_i hm
         obtain ⟨cs0,dg,D⟩:=ah.1 hr
         split at D
         ·rename_i t' es aK
          split at D
          ·rename_i m
           split at D
           ·cases D
            intro d cs hb c hc
            rcases EH hb with h3 | rfl
            ·exact hf.cs d cs (dP h3) c hc
            ·rcases mU hc with hc | rfl
             ·by_cases ag:k.dp=C.E.dp
              ·have h4:aE (view p s).bx k.d=some cs0:=by grind [St.box]
               exact hf.cs k.d cs0 (dP h4) c hc
              ·simp only [St.aL,aa ag] at hb
               exact hf.cs d _ (dP hb) c (by grind)
             ·rfl
           ·cases D
          ·cases D
         ·rename_i pl lo len aK
          rw [aK] at aM;rcases aM with h | h<;>cases h
         ·split at D
          ·cases D
           intro d cs hb c hc
           rcases EH hb with h3 | rfl
           ·exact hf.cs d cs (dP h3) c hc
           ·
            by_cases ag:k.dp=C.E.dp
            ·rcases AR hc with hc | hc
             ·have h4:aE (view p s).bx k.d=some cs0:=by grind [St.box]
              exact hf.cs k.d cs0 (dP h4) c hc
             ·exact agz cw c hc
            ·simp only [St.aL,aa ag] at hb
             exact hf.cs d _ (dP hb) c hc
          ·cases D
        ·cases hr
       ·grind
       ·cases hr
      have he:effect p r=⟨p.cs.map (fun m=>(m,.u)),[],du r.2.bx p.vb,if p.vh=true then some r.2.hp else none⟩:=by
       grind [effect]
      rw [he]
      refine ⟨fun d=>?_,fun d cs hb c hc=>?_⟩
      ·simp only [bL.app]
       rw [pR]
       split
       ·exact ⟨rfl,rfl⟩
       ·exact hf.fr d
      simp only [bL.app,dZ,tT] at hb
      split at hb
      ·rename_i zs hz
       cases a4:aE s.bx d with
       | none=>grind
       | some z=>
        rw [a4] at hb
        cases hb
        exact aJ d _ (dP hz) c hc
      ·exact hf.cs d cs hb c hc
     ·by_cases bI:mO p=true
      ·unfold mO at bI
       split at bI
       ·rename_i t sz by_ x y F
        rw [F] at hr G
        have he:effect p r=⟨jO p.p.d (eV p.p.fz r.1)++p.cs.map (fun m=>(m,.u)),[],du r.2.bx p.vb,if p.vh=true then some r.2.hp else none⟩:=by
         grind [effect]
        rw [he]
        simp only [execOp] at hr
        obtain ⟨dd,I,D⟩:=ah.1 hr
        obtain ⟨ys,a6,O⟩:=ah.1 D
        obtain ⟨qq,H,aQ⟩:=ah.1 O
        have aJ:∀ d cs,aE qq.2.bx d=some cs→∀ c∈cs,c.cb ⟨C.E.dp,h⟩=true:=by
         unfold A.consume at H
         split at H
         ·cases H
          exact fun d cs hb c hc=>hf.cs d cs (dP hb) c hc
         ·cases H
         ·rename_i m
          split at H
          ·cases H
           exact fun d cs hb c hc=>hf.cs d cs (dP hb) c hc
          ·split at H
           ·cases H
            exact fun d cs hb c hc=>hf.cs d cs (dP hb) c hc
           ·cases H
          ·rename_i pl hx
           split at H
           ·obtain ⟨rw1,ak,X⟩:=ah.1 H
            split at X
            ·obtain ⟨st',S,bq⟩:=ah.1 X
             cases bq
             cases pl with
             | s d'=>grind [kR,St.ev]
             | c k off=>
              simp only [St.putAt] at S
              split at S
              ·rename_i cs0 dg
               cases S
               intro d cs hb c hc
               rcases EH hb with h3 | rfl
               ·exact hf.cs d cs (dP h3) c hc
               ·rcases mU hc with hc | rfl
                ·by_cases ag:k.dp=C.E.dp
                 ·have h4:aE (view p s).bx k.d=some cs0:=by grind [St.box]
                  exact hf.cs k.d cs0 (dP h4) c hc
                 ·simp only [St.aL,aa ag] at hb
                  exact hf.cs d _ (dP hb) c (by grind)
                ·rfl
              ·cases S
            ·cases X
           ·cases H
          ·grind [kR,St.ev]
          ·cases H
        have aZ:r.2.bx=qq.2.bx:=by
         split at aQ
         ·cases aQ;rfl
         ·cases aQ
        refine ⟨fun d=>(av _ _ bV.1 bV.2).fr d,fun d cs hb c hc=>?_⟩
        simp only [bL.app,dZ,tT] at hb
        split at hb
        ·rename_i zs hz
         cases a4:aE s.bx d with
         | none=>grind
         | some z=>
          rw [a4] at hb
          cases hb
          rw [aZ] at hz
          exact aJ d _ (dP hz) c hc
        ·exact hf.cs d cs hb c hc
       ·cases bI
      grind [KM,kz]
   ·cases h2
  ·cases hc
 unfold dy at hq
 split at hq
 ·exact J hq
 ·obtain ⟨y,hy,X⟩:=ah.1 hq
  split at X
  ·exact J X
  ·cases X
   have:=av .sk [] rfl rfl
   simpa using this
end
theorem tU.step{ro:Bool}{s:St}{R:Rec}{Ω:ef}{p:br}{q:bL}(hf:tU dp s h)(hn:h∈p.nb)(hq:dy R Ω ⟨dp,ro⟩ p s=some q):tU dp (q.app s) h:=by
 have S:∀ (x:AV)(cs:List Nat)(nb wb:List (Nat×List AV))(hp:Option HP),ir ⟨dp,h⟩ x=false→tU dp ((⟨jO p.p.d x++cs.map (fun m=>(m,.u)),nb,wb,hp⟩:bL).app s) h:=by
  intro x cs nb wb hp hx d
  simp only [bL.app,ox]
  rw [mI]
  split
  ·rename_i hm
   cases hd:p.p.d with
   | none=>grind [jO,eU]
   | some dd=>
    grind [jO,eU,au]
  ·rw [pR]
   split
   ·rfl
   ·exact hf d
 have J:jx R Ω ⟨dp,ro⟩ p (view p s)=some q→tU dp (q.app s) h:=by
  intro hc
  unfold jx at hc
  split at hc
  ·obtain ⟨r,hr,h2⟩:=ah.1 hc
   split at h2
   ·rename_i aR
    have bd:=(u6.1 aR).2
    cases h2
    have hx:ir ⟨dp,h⟩ r.1=false:=by
     have:=cJ.1 (u6.1 bd).1 h hn
     simpa using this
    have bV:ir ⟨dp,h⟩ (eV p.p.fz r.1)=false:=by
     cases p.p.fz with
     | false=>simpa [eV] using hx
     | true=>cases D:r.1<;>rw [D] at hx<;>first | exact hx | rfl
    unfold effect
    split
    ·split
     ·rename_i dd hd
      intro d
      simp only [bL.app,eJ,dZ,au]
      split
      ·exact hx
      ·exact hf d
     ·intro d;exact hf d
    ·split
     ·rename_i dd hd
      intro d
      simp only [bL.app,eJ,dZ,au]
      split
      ·exact hx
      ·exact hf d
     ·intro d;exact hf d
    ·intro d
     simp only [bL.app]
     rw [pR]
     split
     ·rfl
     ·exact hf d
    ·grind
    grind
   ·cases h2
  ·cases hc
 unfold dy at hq
 split at hq
 ·exact J hq
 ·obtain ⟨y,hy,X⟩:=ah.1 hq
  split at X
  ·exact J X
  ·cases X
   have:=S .sk [] [] [] none rfl
   simpa using this
def kG(o:Oper):List Nat:=(o.after.toList.filter fun e=>Region.binds .any e).map (·.on)
def VM(acc:List Nat)(l:List Nat):Nat:=l.foldl (fun s e=>s|||(1 <<< e)|||acc.getD e 0) 0
def Co(acc:List Nat):List (List Nat)→List Nat
 | []=>acc
 | l::r=>Co (acc++[VM acc l]) r
theorem Qe(f:Nat→Nat)(i:Nat):∀ (l:List Nat)(s:Nat),(l.foldl (fun s e=>s|||(1 <<< e)|||f e) s).testBit i=true→s.testBit i=true∨∃ e∈l,e=i∨(f e).testBit i=true
 | [],s,h=>.inl h
 | e::l,s,h=>by
  simp only [ym] at h
  rcases Qe f i l _ h with h | ⟨e',a2,h⟩
  ·grind [Nat.one_shiftLeft]
  grind
theorem Qf:∀ (L:List (List Nat))(acc:List Nat)(A:List (List Nat)),acc.length=A.length→
  (∀ j i,j<acc.length→(acc.getD j 0).testBit i=true→i∈A.getD j []∨∃ e∈A.getD j [],e<j∧(acc.getD e 0).testBit i=true)→
  ∀ j i,((Co acc L).getD j 0).testBit i=true→i∈(A++L).getD j []∨∃ e∈(A++L).getD j [],e<j∧((Co acc L).getD e 0).testBit i=true
 | [],acc,A,hl,h,j,i,hb=>by
  grind [Co]
 | l::L,acc,A,hl,h,j,i,hb=>by
  have:=Qf L (acc++[VM acc l]) (A++[l]) (by simp [hl]) (fun j i hj hb=>?_) j i hb
  ·simpa [Co] using this
  ·simp only [eK,List.length_singleton] at hj
   simp only [lM] at hb ⊢
   by_cases G:j<acc.length
   ·rw [uZ G] at hb
    rw [uZ (by omega)]
    rcases h j i G (by grind) with h1 | ⟨e,he,h2,h3⟩
    ·grind
    grind
   ·have cS:j=acc.length:=by omega
    subst cS
    rw [vz (aV _)] at hb
    rw [vz (by omega),hl]
    simp only [Nat.sub_self,List.getElem?_cons_zero,vp] at hb ⊢
    rcases Qe (fun e=>acc.getD e 0) i l 0 hb with h1 | ⟨e,he,h1 | h1⟩
    ·simp at h1
    ·grind
    grind
def VN(gs:List br)(i j:Nat):Bool:=
 match gs[i]?,gs[j]? with
 | some p,some q=>(p.lt&&q.lt&&Cl p q)||Ax p q||Ax q p
 | _,_=>false
def EI(P:Program)(nt:Nat)(ops:Array Oper):List Oper→List br→Bool
 | [],[]=>true
 | o::os,g::gs=>F6 P nt ops o g.p&&(!g.lt||iT g)&&EI P nt ops os gs
 | _,_=>false
def Qg(q:br)(dd:Nat):Bool:=match q.p.o with
 | .ch _ _ _ _ ow=>!q.lt&&q.p.g.isNone&&ow.contains dd
 | _=>false
theorem mo.akK{R:Rec}{Ω:ef}{E:Env}{s s2:St}{p:br}(hf:mo E.dp s h)(hc:Qg p h=true)(he:dF R Ω E s p=some s2):mo E.dp s2 h:=by
 unfold Qg at hc
 split at hc
 ·rename_i f args sl dl ow ho
  simp only [aC,gO,Option.isNone_iff_eq_none] at hc
  obtain ⟨⟨h1,h2⟩,h3⟩:=hc
  have cu:h∈ow:=by simpa using h3
  simp only [dF,h1,bU,bB,fS,h2,ho,execOp] at he
  obtain ⟨⟨x,s'⟩,Z,he⟩:=ah.1 he
  cases he
  obtain ⟨hp',hC,e2⟩:=GM Z
  simp only at e2 hC
  subst e2
  have hx:eV p.p.fz x=x:=by
   have:=hC.pure
   cases p.p.fz with
   | false=>rfl
   | true=>cases x<;>first | rfl | cases this
  have cz:x.cb ⟨E.dp,h⟩=true∧x.kq (.s h)=false:=by
   have:=hC.pure
   refine ⟨kN x this,?_⟩
   cases x<;>first | rfl | cases this
  have cq:=hf.fr
  have a4:∀ d cs,aE (s.cF E.dp (eC E.dp s sl dl ow hp')).bx d=some cs→∀ c∈cs,c.cb ⟨E.dp,h⟩=true:=by
   intro d cs hd c hc
   rcases hC.post d cs hd with cK | cK
   ·refine hf.cs d cs ?_ c hc
    grind [St.cF,lj,eC,Hp,St.box,Option.bind_eq_some_iff]
   grind [mP]
  rw [hx]
  cases p.p.d with
  | none=>exact ⟨cq,a4⟩
  | some dd=>
   refine ⟨fun d=>?_,a4⟩
   simp only [put,St.dC,au]
   split
   ·exact cz
   ·exact cq d
 ·cases hc
def amQ(M:List Nat)(gs:List br)(n k dd:Nat):Bool:=
 (List.range n).all fun i=>i==k||(M.getD i 0).testBit k||(match gs[i]? with
  | some q=>(q.lt&&q.nk.contains dd)||Qg q dd
  | none=>true)
def Y2(M:List Nat)(gs:List br)(mks:List Nat)(n:Nat):Bool:=
 (List.range n).all fun k=>match gs[k]? with
  | some p=>!p.lt||!Qd p.p.o||(match p.p.d with
   | some dd=>mks.contains dd&&amQ M gs n k dd
   | none=>true)
  | none=>true
def Sd(M:List Nat)(gs:List br)(n:Nat):Bool:=(List.range n).all fun j=>(List.range j).all fun i=>(M.getD j 0).testBit i||VN gs i j
def agA(M:List Nat)(gs:List br)(n:Nat):Bool:=
 (List.range n).all fun k=>match gs[k]? with
  | some p=>!p.lt||!wY p.p.o p.cs||p.vb.all fun h=>(List.range n).all fun i=>i==k||(M.getD i 0).testBit k||(match gs[i]? with
   | some q=>q.lt&&q.nb.contains h
   | none=>true)
  | none=>true
def KN(P:Program)(nt:Nat)(ops:Array Oper)(mks:List Nat)(gs:List br):Bool:=
 P.follows .mixedOrders&&EI P nt ops ops.toList gs&&((List.range ops.size).all fun i=>match ops[i]? with
  | some o=>(kG o).all fun e=>decide (e<i)
  | none=>true)&&
 Sd (Co [] (ops.toList.map kG)) gs ops.size&&Y2 (Co [] (ops.toList.map kG)) gs mks ops.size&&agA (Co [] (ops.toList.map kG)) gs ops.size
theorem GN{P:Program}{nt:Nat}{ops:Array Oper} : ∀ {os:List Oper}{gs:List br},EI P nt ops os gs=true→os.length=gs.length∧∀ (i:Nat)(o:Oper)(p:br),os[i]? =some o→gs[i]? =some p→F6 P nt ops o p.p=true∧(p.lt=true→iT p=true)
 | [],[],_=>by grind
 | o::os,g::gs,h=>by
  simp only [EI,aC] at h
  obtain ⟨h1,h2⟩:=GN h.2
  grind
 | [],_::_,h=>by simp [EI] at h
 | _::_,[],h=>by simp [EI] at h
section
variable {C:Cx}{st:St}{a:Act}{w:World}{σ:Sp}{R:Rec}{Ω:ef}
def nH(n:Nat)(listed:Array Bool):List Nat:=(List.range n).filter fun i=>!listed.getD i true
theorem TE{ops:Array Oper}{listed:Array Bool}(ax:∀ i o,ops[i]? =some o→∀ e∈kG o,e<i)(bD:∀ j o,ops[j]? =some o→listed.getD j false=true→∀ e∈kG o,listed.getD e false=true) :
  ∀ (j:Nat)(o:Oper),ops[j]? =some o→(∀ e∈kG o,listed.getD e false=true)→∀ i,((Co [] (ops.toList.map kG)).getD j 0).testBit i=true→listed.getD i false=true:=by
 intro j
 induction j using Nat.strongRecOn with
 | _ j ih=>
  intro o ho aH i hb
  have aj:=Qf (ops.toList.map kG) [] [] rfl (fun j i hj=>by simp at hj) j i hb
  rw [dZ] at aj
  have aT:(ops.toList.map kG).getD j []=kG o:=by
   grind
  rw [aT] at aj
  rcases aj with h1 | ⟨e,he,da,h2⟩
  ·exact aH i h1
  ·have bA:=aH e he
   have c9:e<ops.size:=by grind
   have cf:ops[e]? =some ops[e]:=kP c9
   exact ih e da ops[e] cf (bD e _ cf bA) i h2
theorem M8{o:Oper}{listed:Array Bool} : (o.after.all fun e=>!Region.binds .any e||listed.getD e.on false)=true↔∀ e∈kG o,listed.getD e false=true:=by
 rw [FA]
 constructor
 ·intro h e he
  obtain ⟨x,hx,rfl⟩:=iJ.1 he
  grind
 ·intro h x hx
  by_cases hb:Region.binds .any x=true
  ·have:=h x.on (iJ.2 (by grind))
   simp [this]
  ·simp [hb]
theorem mem_ready{ops:Array Oper}{listed:Array Bool}{i:Nat} : i∈Region.ready .any ops listed↔∃ o,ops[i]? =some o∧listed.getD i true=false∧∀ e∈kG o,listed.getD e false=true:=by
 unfold Region.ready
 rw [List.mem_filter]
 constructor
 ·rintro ⟨h1,h2⟩
  have hi:i<ops.size:=by simpa using h1
  refine ⟨ops[i],kP hi,?_⟩
  simp only [kP hi,fE,vp,aC,gO] at h2
  exact ⟨h2.1,M8.1 h2.2⟩
 ·rintro ⟨o,ho,h1,h2⟩
  have hi:i<ops.size:=(u7.1 ho).1
  refine ⟨by simpa using hi,?_⟩
  simp only [ho,fE,vp,aC,gO]
  exact ⟨h1,M8.2 h2⟩
theorem aq.any{nt:Nat}{ops:Array Oper}{Q:Exit→Act→World→Prop}{gs:List br}{t:St}(hR:m8 C.P R)(hΩ:je C.P Ω)(aB:nt≤C.nt)
  (bC:EI C.P nt ops ops.toList gs=true) (ax:∀ i o,ops[i]? =some o→∀ e∈kG o,e<i) (ae:Sd (Co [] (ops.toList.map kG)) gs ops.size=true) {mks:List Nat} (aD:Y2 (Co [] (ops.toList.map kG)) gs mks ops.size=true) (aO:agA (Co [] (ops.toList.map kG)) gs ops.size=true) :
  ∀ (fuel:Nat)(listed:Array Bool)(s:St)(a:Act)(w:World)(σ:Sp),listed.size=ops.size→fuel=(nH ops.size listed).length→(∀ j o,ops[j]? =some o→listed.getD j false=true→∀ e∈kG o,listed.getD e false=true)→
   rm R Ω C.E gs (nH ops.size listed) s t→aq C s a w σ→(∀ k p dd,k∈nH ops.size listed→gs[k]? =some p→p.lt=true→Qd p.p.o=true→p.p.d=some dd→mo C.E.dp s dd)→(∀ k p,k∈nH ops.size listed→gs[k]? =some p→p.lt=true→wY p.p.o p.cs=true→∀ h∈p.vb,tU C.E.dp s h)→
   (∀ a' w' σ',cZ C w σ w' σ'→aq C t a' w' σ'→Q .normal a' w')→wpAny C.P .any ops Q fuel listed a w:=by
 have bb:∀ listed i,i∈nH ops.size listed↔i<ops.size∧listed.getD i true=false:=by
  grind [nH]
 have aP:∀ listed i,i∈Region.ready .any ops listed→i∈nH ops.size listed:=by
  grind [mem_ready]
 intro fuel
 induction fuel with
 | zero=>
  intro listed s a w σ b9 c8 bD hg h bk bZ hK
  have am:nH ops.size listed=[]:=by grind
  rw [am] at hg
  refine ⟨?_,hK a w σ (.refl _ _ _) (h.se hg)⟩
  apply List.eq_nil_iff_forall_not_mem.2
  grind
 | succ fuel ih=>
  intro listed s a w σ b9 c8 bD hg h bk bZ hK
  refine ⟨fun cL=>?_,fun i hi=>?_⟩
  ·exfalso
   cases am:nH ops.size listed with
   | nil=>grind
   | cons i0 rest=>
    have cT:i0∈nH ops.size listed:=by rw [am];simp
    obtain ⟨h1,h2⟩:=(bb _ _).1 cT
    have V:(nH ops.size listed).Pairwise (· < ·):=(List.pairwise_lt_range (n:=ops.size)).filter _
    have:i0∈Region.ready .any ops listed:=by
     refine mem_ready.2 ⟨ops[i0],kP h1,h2,fun e he=>?_⟩
     grind [List.pairwise_cons]
    grind
  ·obtain ⟨o,ho,dA,aH⟩:=mem_ready.1 hi
   have bu:i<ops.size:=(u7.1 ho).1
   have bT:=aP _ _ hi
   obtain ⟨A,B,b8⟩:=List.append_of_mem bT
   have V:(nH ops.size listed).Pairwise (· < ·):=(List.pairwise_lt_range (n:=ops.size)).filter _
   have bN:∀ k,k∈nH ops.size listed→((Co [] (ops.toList.map kG)).getD i 0).testBit k=false:=by
    intro k hk
    cases hb:((Co [] (ops.toList.map kG)).getD i 0).testBit k with
    | false=>rfl
    | true=>
     have:=TE ax bD i o ho aH k hb
     grind
   rw [b8] at V
   have cD:=List.pairwise_append.1 V
   have hA:∀ x∈A,TD gs x i:=by
    intro x hx
    have G:x<i:=cD.2.2 x hx i (by simp)
    have h1:=cJ.1 (cJ.1 ae i (by simpa using bu)) x (by simpa using G)
    rw [bN x (by grind),pS] at h1
    unfold VN at h1
    split at h1
    ·rename_i p q hp hq
     simp only [aC,u0] at h1
     refine ⟨p,q,hp,hq,?_⟩
     grind
    ·cases h1
   rw [b8] at hg
   obtain ⟨p,s1,s2,hp,a1,hex,cX⟩:=rm.front A s hA hg
   obtain ⟨hlen,bP⟩:=GN bC
   obtain ⟨bQ,cn⟩:=bP i o p (by simpa using ho) hp
   have dD:i∉A∧i∉B:=by
    grind [List.pairwise_cons]
   have Y:nH ops.size (listed.setIfInBounds i true)=A++B:=by
    have aT:∀ j,j<ops.size→(listed.setIfInBounds i true).getD j true=(if i=j then true else listed.getD j true):=by
     intro j hj
     have cR:j<listed.size:=by omega
     by_cases bv:i=j
     ·subst bv;simp [cR]
     ·simp [Fq,bv]
    have e1:nH ops.size (listed.setIfInBounds i true)=(nH ops.size listed).filter (fun j=>j !=i):=by
     unfold nH
     rw [List.filter_filter]
     apply List.filter_congr
     intro j hj
     rw [aT j (by simpa using hj)]
     by_cases bv:i=j
     ·subst bv;simp
     grind
    rw [e1,b8,List.filter_append,List.filter_cons]
    have f1:A.filter (fun j=>j !=i)=A:=by grind [List.filter_eq_self]
    have f2:B.filter (fun j=>j !=i)=B:=by grind [List.filter_eq_self]
    grind
   have be:∀ k p' dd,k∈A++B→gs[k]? =some p'→p'.lt=true→Qd p'.p.o=true→p'.p.d=some dd→mo C.E.dp s dd∧((p.lt=true∧dd∈p.nk)∨Qg p dd=true):=by
    intro k p' dd hk hp' G hm I
    have bR:k∈nH ops.size listed:=by
     grind
    refine ⟨bk k p' dd bR hp' G hm I,?_⟩
    have cO:k≠i:=by grind
    have h1:=cJ.1 aD k (by grind)
    simp only [hp',G,hm,I,uS,pS,aC] at h1
    have h2:=cJ.1 h1.2 i (by simpa using bu)
    grind
   have cc:∀ k p',k∈A++B→gs[k]? =some p'→p'.lt=true→wY p'.p.o p'.cs=true→∀ hh∈p'.vb,tU C.E.dp s hh∧(p.lt=true∧hh∈p.nb):=by
    intro k p' hk hp' G hm hh ay
    have bR:k∈nH ops.size listed:=by
     grind
    refine ⟨bZ k p' bR hp' G hm hh ay,?_⟩
    have cO:k≠i:=by grind
    have h1:=cJ.1 aO k (by grind)
    simp only [hp',G,hm,uS,pS] at h1
    have h2:=cJ.1 (cJ.1 h1 hh ay) i (by simpa using bu)
    grind
   have a9:(listed.setIfInBounds i true).size=ops.size:=by simpa using b9
   have bm:∀ j o',ops[j]? =some o'→(listed.setIfInBounds i true).getD j false=true→∀ e∈kG o',(listed.setIfInBounds i true).getD e false=true:=by
    have ci:∀ e,listed.getD e false=true→(listed.setIfInBounds i true).getD e false=true:=by
     grind
    grind
   have bj:fuel=(nH ops.size (listed.setIfInBounds i true)).length:=by
    grind
   have h1:=h.se a1
   by_cases G:p.lt=true
   ·simp only [dF,ab G] at hex
    obtain ⟨q,hq,aw⟩:=ah.1 hex
    cases aw
    refine h1.akJ hR hΩ ho bQ aB (cn G) (fun hm dd I=>(bk i p dd bT hp G hm I).se a1) (fun hm hh ay=>(bZ i p bT hp G hm hh ay).se a1) hq fun a' w' σ' bH a3=>?_
    refine ih _ _ a' w' σ' a9 bj bm (by grind) a3 (fun k p' dd hk hp' aS hm I=>?_) (fun k p' hk hp' aS hm hh ay=>?_) fun a'' w'' σ'' aN aW=>hK a'' w'' σ'' (bH.trans aN) aW
    ·rw [Y] at hk
     obtain ⟨h3,⟨_,h4⟩ | h4⟩:=be k p' dd hk hp' aS hm I
     ·exact (h3.se a1).step (Iy bQ aB).1 (cn G) h4 hq
     ·exfalso
      unfold Qg at h4
      split at h4
      ·grind
      ·cases h4
    ·rw [Y] at hk
     obtain ⟨h3,_,h4⟩:=cc k p' hk hp' aS hm hh ay
     exact (h3.se a1).step h4 hq
   ·have b0:=hex
    simp only [dF,aa G] at hex
    refine h1.YN hR hΩ ho bQ aB hex fun a' w' σ' bH a3=>?_
    refine ih _ _ a' w' σ' a9 bj bm (by rw [Y];exact cX) a3 (fun k p' dd hk hp' aS hm I=>?_) (fun k p' hk hp' aS hm hh ay=>?_) fun a'' w'' σ'' aN aW=>hK a'' w'' σ'' (bH.trans aN) aW
    ·rw [Y] at hk
     obtain ⟨h3,h4 | h4⟩:=be k p' dd hk hp' aS hm I
     ·exact absurd h4.1 G
     ·exact (h3.se a1).akK h4 b0
    ·rw [Y] at hk
     exact absurd (cc k p' hk hp' aS hm hh ay).2.1 G
theorem aq.Qh{nt:Nat}{ops:Array Oper}{Q:Exit→Act→World→Prop}{mks:List Nat}{gs:List br}{st':St}(hR:m8 C.P R)(hΩ:je C.P Ω)(aB:nt≤C.nt)(hl:KN C.P nt ops mks gs=true)(h:aq C st a w σ)
  (hm:(mks.all (um C.E.dp st)&&gs.all (fT C.E.dp st))=true) (he:lC R Ω C.E st gs=some st') (hK:∀ a' w' σ',cZ C w σ w' σ'→aq C st' a' w' σ'→Q .normal a' w'):C.P.follows .mixedOrders=true∧wpAny C.P .any ops Q ops.size (Array.replicate ops.size false) a {w with drawn:=w.drawn+1}:=by
 simp only [KN,aC] at hl
 obtain ⟨⟨⟨⟨⟨bW,bC⟩,ax⟩,ae⟩,aD⟩,aO⟩:=hl
 obtain ⟨hm,bz⟩:=u6.1 hm
 have a0:∀ i o,ops[i]? =some o→∀ e∈kG o,e<i:=by
  grind
 have am:nH ops.size (Array.replicate ops.size false)=List.range ops.size:=by
  simp_all [nH]
 obtain ⟨hlen,_⟩:=GN bC
 have hd:aq C st a {w with drawn:=w.drawn+1} σ:=h.drew
 refine ⟨bW,aq.any hR hΩ aB bC a0 ae aD aO ops.size _ st a _ σ (by simp) (by rw [am];simp) (fun j o ho hl=>?_) ?_ hd (fun k p dd hk hp G be I=>?_) (fun k p hk hp G be hh ay=>?_) fun a' w' σ' hs hc=>hK a' w' σ' (cZ.drew (w:=w) hs) hc⟩
 ·exfalso
  by_cases hj:j<ops.size<;>simp [hj] at hl
 ·grind [rm.text,List.range_eq_range']
 ·have h1:=cJ.1 aD k (by grind)
  grind [mo.of]
 ·have h1:=cJ.1 bz p (bg hp)
  simp only [fT,be,uS,pS] at h1
  intro d
  have h2:=cJ.1 h1 hh ay
  have:=p8 (p:=fun y=>!ir ⟨C.E.dp,hh⟩ y) rfl _ h2 d
  simpa using this
theorem aq.drawn{nt id:Nat}{ops:Array Oper}{Q:Exit→Act→World→Prop}{mks:List Nat}{gs:List br}{st':St}(hR:m8 C.P R)(hΩ:je C.P Ω)(aB:nt≤C.nt)(hl:KN C.P nt ops mks gs=true)(h:aq C st a w σ)
  (hm:(mks.all (um C.E.dp st)&&gs.all (fT C.E.dp st))=true) (he:lC R Ω C.E st gs=some st') (hK:∀ a' w' σ',cZ C w σ w' σ'→aq C st' a' w' σ'→Q .normal a' w'):(Code.region id ops true).wp C.P Q a w:=by
 obtain ⟨h1,h2⟩:=h.Qh hR hΩ aB hl hm he hK
 exact wp_region_any h1 h2
end
end Go.Proofs.YtkkkkondjclcnaaGreat.A
