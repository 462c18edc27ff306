/- Regions whose order is drawn: whatever the order, what the order of the text gives. -/
import Derived.Test.YtlmphbbhaeampaaGreatAbsH
import Derived.Orders
set_option linter.all false
namespace Go.Proofs.YtlmphbbhaeampaaGreat.A
open Go
variable [cN]
structure Se(s s':St):Prop where
 fr:∀ d,aQ s.fr d=aQ s'.fr d
 bx:∀ d,bH s.bx d=bH s'.bx d
 hp:s.hp=s'.hp
 mem:∀ y,y∈s.fr↔y∈s'.fr
theorem Se.refl(s:St):Se s s:=⟨fun _=>rfl,fun _=>rfl,rfl,fun _=>Iff.rfl⟩
variable {s':St}
theorem Se.symm{s:St}(h:Se s s'):Se s' s:=⟨fun d=>(h.fr d).symm,fun d=>(h.bx d).symm,h.hp.symm,fun y=>(h.mem y).symm⟩
theorem Se.trans{s s'':St}(h:Se s s')(h':Se s' s''):Se s s'':=⟨fun d=>(h.fr d).trans (h'.fr d),fun d=>(h.bx d).trans (h'.bx d),h.hp.trans h'.hp,fun y=>(h.mem y).trans (h'.mem y)⟩
theorem Se.box{s:St}(h:Se s s')(dp:Nat)(k:Key):s.box dp k=s'.box dp k:=by
 simp only [St.box,h.bx,h.hp]
theorem aE.se{C:Cx}{s:St}{a:Act}{w:World}{σ:Sp}(h:aE C s a w σ)(hs:Se s s'):aE C s' a w σ:=
 h.HQ (fun d=>.inr (hs.fr d).symm) (fun k cs hk=>by rw [hs.box];exact hk) (fun _ _ _ h=>by rw [hs.hp];exact h)
def fC{α:Type}(l:List (Nat×α)):List Nat:=l.map (·.1)
theorem qX(l r:List (Nat×AV))(d:Nat):aQ (l++r) d=if d∈fC l then aQ l d else aQ r d:=by
 induction l with
 | nil=>simp [fC]
 | cons x l ih=>
  grind [aQ,fC]
theorem C9(l r:List (Nat×List AV))(d:Nat):bH (l++r) d=if d∈fC l then bH l d else bH r d:=by
 induction l with
 | nil=>simp [fC]
 | cons x l ih=>
  grind [bH,fC]
theorem s6(bx wb:List (Nat×List AV))(d:Nat):bH (Ag bx wb) d=match bH wb d with
  | some cs=>(bH bx d).map fun _=>cs
  | none=>bH bx d:=by
 induction wb with
 | nil=>rfl
 | cons x wb ih=>
  obtain ⟨k,y⟩:=x
  simp only [Ag,zg,bH]
  by_cases h:k=d
  ·subst h
   simp only [aH,ih]
   cases bH wb k with
   | none=>rfl
   | some cs=>cases bH bx k<;>rfl
  grind
variable {d:Nat}
theorem vC{l:List (Nat×List AV)}(h:d∉fC l):bH l d=none:=by
 induction l with
 | nil=>rfl
 | cons x l ih=>
  grind [fC,bH]
theorem Se.app{s:St}(q:cR)(h:Se s s'):Se (q.app s) (q.app s'):=by
 refine ⟨fun d=>?_,fun d=>?_,?_,fun y=>by simp only [cR.app,iA,h.mem y]⟩
 ·simp only [cR.app,qX,h.fr]
 ·simp only [cR.app,C9,s6,h.bx]
 ·simp only [cR.app,h.hp]
structure Za(q q':cR):Prop where
 fr:∀ d,d∈fC q.fr→d∉fC q'.fr
 nn:∀ d,d∈fC q.nb→d∉fC q'.nb
 nw:∀ d,d∈fC q.nb→d∉fC q'.wb
 wn:∀ d,d∈fC q.wb→d∉fC q'.nb
 ww:∀ d,d∈fC q.wb→d∉fC q'.wb
 hp:q.hp=none∨q'.hp=none
variable {q':cR}
theorem W7{q:cR}(h:Za q q')(s:St):Se (q.app (q'.app s)) (q'.app (q.app s)):=by
 refine ⟨fun d=>?_,fun d=>?_,?_,by grind [cR.app]⟩
 ·simp only [cR.app,qX]
  by_cases h1:d∈fC q.fr
  ·simp [h1,h.fr d h1]
  ·simp [h1]
 ·simp only [cR.app,C9,s6]
  by_cases h1:d∈fC q.nb
  ·have h2:=vC (h.nw d h1)
   simp [h1,h.nn d h1,h2]
  ·by_cases h3:d∈fC q'.nb
   ·have h4:bH q.wb d=none:=vC fun h5=>h.wn d h5 h3
    simp [h1,h3,h4]
   ·simp only [ah h1,ah h3]
    by_cases h5:d∈fC q.wb
    ·have:=vC (h.ww d h5)
     rw [this]
    ·rw [vC h5]
 ·simp only [cR.app]
  rcases h.hp with e | e<;>rw [e]<;>cases q.hp<;>cases q'.hp<;>first | rfl | cases e
def zE:qI→Bool
 | .st _ _ _=>true
 | _=>false
def ph(p:cz):Bool:=match p.p.o with
 | .ap _ _ _ _ _=>p.cs.length==2
 | _=>false
def nP(p:cz):Bool:=zE p.p.o||ph p
def I6:qI→Bool
 | .al _=>true
 | .ck _ _=>true
 | _=>false
def Da(d:Option Nat):List Nat:=match d with
 | some d=>[d]
 | none=>[]
def gsl(p:cz):List Nat:=match p.p.g with
 | some (j,_)=>[j]
 | none=>[]
def NH(p:cz):List Nat:=Da p.p.d++p.cs
def rdS(p:cz):List Nat:=gsl p++p.vw
def Sf(p:cz):List Nat:=(if I6 p.p.o=true then Da p.p.d else [])++(if nP p=true then p.vb else [])
def Gy(l m:List Nat):Bool:=l.all fun x=>!m.contains x
def Co(p q:cz):Bool:=Gy (NH p) (rdS q)&&Gy (NH q) (rdS p)&&Gy (NH p) (NH q)&&Gy (Sf p) q.vb&&Gy (Sf q) p.vb&&Gy (Sf p) (Sf q)&&!((nP p||nP q)&&p.vh&&q.vh)
theorem sj{l m:List Nat}(h:Gy l m=true){x:Nat}(hx:x∈l):x∉m:=by
 have:=dz.1 h x hx
 simpa using this
theorem Gz(bx:List (Nat×List AV))(ks:List Nat)(h:d∈fC (ep bx ks)):d∈ks:=by
 induction ks with
 | nil=>simp [ep,fC] at h
 | cons k ks ih=>
  grind [ep,fC]
section
variable {R:Rec}{Ω:ej}{E:Env}
structure Small(p:cz)(q:cR):Prop where
 fr:∀ d,d∈fC q.fr→d∈NH p
 nb:∀ d,d∈fC q.nb→I6 p.p.o=true∧d∈Da p.p.d
 wb:∀ d,d∈fC q.wb→nP p=true∧d∈p.vb
 hp:q.hp≠none→nP p=true∧p.vh=true
theorem EG{p:cz}{fr:List (Nat×AV)}(h:∀ d,d∈fC fr→d∈NH p):Small p ⟨fr,[],[],none⟩:=
 ⟨h,fun d hd=>by simp [fC] at hd,fun d hd=>by simp [fC] at hd,fun h=>absurd rfl h⟩
theorem I7(d:Option Nat)(x:AV):fC (kM d x)=Da d:=by cases d<;>rfl
theorem Pk(p:cz)(r:AV×St):Small p (effect p r):=by
 have ai:Small p ⟨kM p.p.d (fM p.p.fz r.1)++p.cs.map (fun m=>(m,.u)),[],[],none⟩:=EG fun d hd=>by
  simp only [fC,cQ,List.map_map] at hd
  rcases iA.1 hd with hd | hd
  ·have:d∈fC (kM p.p.d (fM p.p.fz r.1)):=hd
   rw [I7] at this
   exact sa _ this
  ·obtain ⟨m,hm,rfl⟩:=oO.1 hd
   exact sb _ hm
 unfold effect
 split
 ·rename_i zs ho
  split
  ·rename_i dd hd
   refine ⟨fun d h=>?_,fun d h=>⟨by rw [ho];rfl,?_⟩,fun d h=>by simp [fC] at h,fun h=>absurd rfl h⟩
   ·grind [fC,NH,Da]
   grind [fC,Da]
  grind [EG,fC]
 ·rename_i ho
  split
  ·rename_i dd hd
   refine ⟨fun d h=>?_,fun d h=>⟨by rw [ho];rfl,?_⟩,fun d h=>by simp [fC] at h,fun h=>absurd rfl h⟩
   ·grind [fC,NH,Da]
   grind [fC,Da]
  grind [EG,fC]
 ·rename_i ho
  refine ⟨fun d h=>?_,fun d h=>by simp [fC] at h,fun d h=>⟨by simp [nP,ho,zE],Gz _ _ h⟩,fun h=>⟨by simp [nP,ho,zE],?_⟩⟩
  ·simp only [fC,List.map_map] at h
   obtain ⟨m,hm,rfl⟩:=oO.1 h
   exact sb _ hm
  by_cases hv:p.vh=true
  ·exact hv
  ·simp [hv] at h
 ·rename_i ho
  by_cases h2:(p.cs.length==2)=true
  ·have hw:nP p=true:=by grind [nP,ph]
   rw [af h2]
   refine ⟨ai.fr,fun d h=>by simp [fC] at h,by grind [Gz],fun h=>⟨hw,?_⟩⟩
   grind
  grind
 ·exact ai
theorem IE{p:cz}{s:St}{q:cR}(h:eZ R Ω E p s=some q):Small p q:=by
 have J:∀ v q,kr R Ω E p v=some q→Small p q:=by
  grind [kr,Option.bind_eq_some_iff,Pk]
 unfold eZ at h
 split at h
 ·exact J _ _ h
 ·obtain ⟨y,_,h2⟩:=au.1 h
  split at h2
  ·grind
  ·obtain rfl:=aq h2
   exact EG fun d hd=>by rw [I7] at hd;exact sa _ hd
theorem Rn{fr fr':List (Nat×AV)}{ks:List Nat}(h:∀ d∈ks,aQ fr d=aQ fr' d):eW fr ks=eW fr' ks:=
 xe fun d hd=>by rw [h d hd]
theorem Ro{bx bx':List (Nat×List AV)}{ks:List Nat}(h:∀ d∈ks,bH bx d=bH bx' d):ep bx ks=ep bx' ks:=by
 induction ks with
 | nil=>rfl
 | cons k ks ih=>
  grind [ep]
structure Tn(p:cz)(s s':St):Prop where
 fr:∀ d∈rdS p,aQ s.fr d=aQ s'.fr d
 bx:∀ d∈p.vb,bH s.bx d=bH s'.bx d
 hp:p.vh=true→s.hp=s'.hp
theorem Tn.patch{p:cz}{s:St}(h:Tn p s s'):eZ R Ω E p s=eZ R Ω E p s':=by
 have hv:view p s=view p s':=by
  unfold view
  rw [Rn fun d hd=>h.fr d (sb _ hd),Ro h.bx]
  by_cases hh:p.vh=true
  ·simp only [hh,aH,h.hp hh]
  grind
 unfold eZ
 rw [hv]
 split
 ·rfl
 ·rename_i j want hg
  rw [h.fr j (sa _ (by unfold gsl;rw [hg];simp))]
theorem Se.apd{p:cz}{s:St}(h:Se s s'):Tn p s s':=⟨fun d _=>h.fr d,fun d _=>h.bx d,fun _=>h.hp⟩
theorem Pm{p p':cz}{q:cR}{s:St}(hq:Small p q)(hc:Co p p'=true):Tn p' (q.app s) s:=by
 simp only [Co,aY,qa] at hc
 obtain ⟨⟨⟨⟨⟨⟨c1,c2⟩,c3⟩,c4⟩,c5⟩,c6⟩,c7⟩:=hc
 refine ⟨fun d hd=>?_,fun d hd=>?_,fun hh=>?_⟩
 ·simp only [cR.app,qX]
  rw [ah]
  intro hm
  exact sj c1 (hq.fr d hm) hd
 ·simp only [cR.app,C9,s6]
  have bN:d∉fC q.nb:=fun hm=>by
   obtain ⟨h1,h2⟩:=hq.nb d hm
   exact sj c4 (sa _ (by grind)) hd
  have cI:d∉fC q.wb:=fun hm=>by
   obtain ⟨h1,h2⟩:=hq.wb d hm
   exact sj c4 (sb _ (by grind)) hd
  grind [vC]
 ·simp only [cR.app]
  cases hp:q.hp with
  | none=>rfl
  | some x=>
   obtain ⟨h1,h2⟩:=hq.hp (by rw [hp];simp)
   grind
theorem W8{p p':cz}{q:cR}(hq:Small p q)(bJ:Small p' q')(hc:Co p p'=true):Za q q':=by
 simp only [Co,aY,qa] at hc
 obtain ⟨⟨⟨⟨⟨⟨c1,c2⟩,c3⟩,c4⟩,c5⟩,c6⟩,c7⟩:=hc
 have m1:∀ {p:cz}{q:cR}{d},Small p q→d∈fC q.nb→d∈Sf p:=fun hq h=>by
  obtain ⟨h1,h2⟩:=hq.nb _ h
  exact sa _ (by grind)
 have m2:∀ {p:cz}{q:cR}{d},Small p q→d∈fC q.wb→d∈Sf p:=fun hq h=>by
  obtain ⟨h1,h2⟩:=hq.wb _ h
  exact sb _ (by grind)
 refine ⟨fun d h h'=>sj c3 (hq.fr d h) (bJ.fr d h'),by grind [sj],by grind [sj],by grind [sj],by grind [sj],?_⟩
 cases h1:q.hp with
 | none=>exact .inl rfl
 | some x=>
  cases h2:q'.hp with
  | none=>exact .inr rfl
  | some y=>
   obtain ⟨h3,h4⟩:=hq.hp (by rw [h1];simp)
   obtain ⟨h5,h6⟩:=bJ.hp (by rw [h2];simp)
   grind
def q6(R:Rec)(Ω:ej)(E:Env)(gs:List cz):List Nat→St→St→Prop
 | [],s,t=>Se s t
 | i::π,s,t=>∃ p s1 s2,gs[i]? =some p∧Se s s1∧e7 R Ω E s1 p=some s2∧q6 R Ω E gs π s2 t
variable {gs:List cz}
theorem q6.se{π:List Nat}{s t:St}(h:q6 R Ω E gs π s' t)(hs:Se s s'):q6 R Ω E gs π s t:=by
 cases π with
 | nil=>exact Se.trans hs h
 | cons i π=>
  obtain ⟨p,s1,s2,h1,h2,h3,h4⟩:=h
  exact ⟨p,s1,s2,h1,hs.trans h2,h3,h4⟩
theorem q6.text:∀ (ps:List cz)(i:Nat)(s t:St),gs.drop i=ps→lB R Ω E s ps=some t→q6 R Ω E gs (List.range' i ps.length) s t
 | [],i,s,t,_,he=>by
  obtain rfl:=aq he
  exact Se.refl _
 | p::ps,i,s,t,hi,he=>by
  obtain ⟨s2,h1,h2⟩:=au.1 he
  rw [fj,F8]
  refine ⟨p,s,s2,?_,Se.refl _,h1,q6.text ps (i+1) s2 t ?_ h2⟩
  ·have:(gs.drop i)[0]? =some p:=by rw [hi];rfl
   simpa using this
  ·rw [←List.drop_drop,hi];rfl
def AI(p q:cz):Bool:=false
theorem Se.ev{s:St}(h:Se s s')(xs:List bY):xs.map s.ev=xs.map s'.ev:=by
 apply xe
 intro x _
 cases x with
 | c z=>rfl
 | t n=>exact h.fr n
theorem Se.put{s:St}(h:Se s s')(d:Option Nat)(x:AV):Se (put s d x) (A.put s' d x):=by
 cases d with
 | none=>exact h
 | some d=>exact ⟨fun n=>by simp only [A.put,St.dA,aQ];split<;>first | rfl | exact h.fr n,h.bx,h.hp,fun y=>by simp only [A.put,St.dA,eA,h.mem y]⟩
section
variable {p q:cz}{f:FuncId}{args:List bY}{sl dl ow:List Nat}{qq:cR}{s:St}
end
def Tp(gs:List cz)(i j:Nat):Prop:=∃ p q,gs[i]? =some p∧gs[j]? =some q∧((p.lt=true∧q.lt=true∧Co p q=true)∨AI p q=true∨AI q p=true)
theorem q6.swap{i j:Nat}{π:List Nat}{s t:St}(hf:Tp gs i j)(h:q6 R Ω E gs (i::j::π) s t):q6 R Ω E gs (j::i::π) s t:=by
 obtain ⟨p,q,hp,hq,a4⟩:=hf
 obtain ⟨p',s1,s2,h1,h2,h3,q',s3,s4,h4,h5,h6,h7⟩:=h
 obtain rfl:p=p':=by grind
 obtain rfl:q=q':=by grind
 rcases a4 with ⟨b4,b2,hc⟩ | hc | hc
 rotate_left
 ·exact absurd hc (by simp [AI])
 ·exact absurd hc (by simp [AI])
 simp only [e7,af b4] at h3
 simp only [e7,af b2] at h6
 obtain ⟨pp,bK,he⟩:=au.1 h3
 obtain rfl:=aq he
 obtain ⟨qq,H,bS⟩:=au.1 h6
 obtain rfl:=aq bS
 have aO:Co q p=true:=by
  grind [Co,Gy]
 have sp:=IE bK
 have sq:=IE H
 have e1:eZ R Ω E q s1=some qq:=by
  rw [←H]
  exact ((Pm sp hc).patch.symm.trans (Se.apd h5).patch)
 have e2:eZ R Ω E p (qq.app s1)=some pp:=by
  rw [←bK]
  exact (Pm sq aO).patch
 refine ⟨q,s1,qq.app s1,hq,h2,by grind [e7],p,qq.app s1,pp.app (qq.app s1),hp,Se.refl _,by grind [e7],?_⟩
 exact h7.se ((W7 (W8 sp sq hc) s1).trans (h5.app qq))
theorem q6.front{i:Nat}{B:List Nat}{t:St} : ∀ (A:List Nat)(s:St),(∀ a∈A,Tp gs a i)→q6 R Ω E gs (A++i::B) s t→q6 R Ω E gs (i::(A++B)) s t
 | [],_,_,h=>h
 | a::A,s,hf,h=>by
  obtain ⟨p,s1,s2,h1,h2,h3,h4⟩:=h
  exact q6.swap (hf a (by simp)) ⟨p,s1,s2,h1,h2,h3,q6.front A s2 (fun b hb=>hf b (by simp [hb])) h4⟩
end
variable [cN]
def Pn:qI→Bool
 | .al _=>true
 | .ck _ _=>true
 | .bs _ _ _=>true
 | .ms _ _ _ _ _=>true
 | .ap _ _ _ _ _=>true
 | _=>false
def iK(p:cz):Bool:=
 match p.p.o with
 | .bx _=>false
 | .c2 _ _=>false
 | .d2 _ _=>false
 | .cr _ _ _=>false
 | .bg _ _=>false
 | .bxg _=>false
 | .st _ _ y=>p.p.d==none&&(p.cs==[]||match y with
  | .t m=>p.cs==[m]
  | .c _=>false)
 | .ap _ _ _ x _=>match x with
  | .t m=>p.cs==[m]||p.cs==[m,m]
  | .c _=>p.cs==[]
 | _=>p.cs==[]
structure mr(dp:Nat)(s:St)(h:Nat):Prop where
 fr:∀ d,(aQ s.fr d).dD ⟨dp,h⟩=true∧(aQ s.fr d).fX (.s h)=false
 cs:∀ d cs,bH s.bx d=some cs→∀ c∈cs,c.dD ⟨dp,h⟩=true
variable {dp h:Nat}
theorem mr.of{s:St}(hf:ee dp s h=true):mr dp s h:=by
 simp only [ee,aY] at hf
 refine ⟨fun d=>?_,fun d cs hb c hc=>lV (oR _ hf.2 d cs hb) c hc⟩
 have:=nh (p:=fun y=>y.dD ⟨dp,h⟩&&!y.fX (.s h)) rfl _ hf.1.2 d
 simpa using this
theorem mr.se{s:St}(hf:mr dp s h)(hs:Se s s'):mr dp s' h:=
 ⟨fun d=>by rw [←hs.fr];exact hf.fr d,fun d cs hb=>hf.cs d cs (by rw [hs.bx];exact hb)⟩
def s7(dp:Nat)(s:St)(h:Nat):Prop:=∀ d,kL ⟨dp,h⟩ (aQ s.fr d)=false
theorem s7.se{s:St}(hf:s7 dp s h)(hs:Se s s'):s7 dp s' h:=fun d=>by rw [←hs.fr];exact hf d
variable {k:Key}{x:AV}
theorem W9{off:Nat}(h:x.fX (.c k off)=true):kL k x=true:=by
 cases x with
 | r pl=>grind [AV.fX,kL]
 | v pl lo len=>grind [AV.fX,kL]
 | q pl i sz off'=>grind [AV.fX,kL]
 | _=>cases h
section
variable {C:Cx}{s:St}{a:Act}{w:World}{σ:Sp}{o:Oper}{R:Rec}{Ω:ej}
theorem L9(p:cz)(s:St)(dp:Nat):Le dp (view p s) s:=by
 refine ⟨Kn s.fr p.vw,fun k cs hk=>?_⟩
 by_cases hd:k.dp=dp
 ·grind [St.box,view,ef]
 grind [St.box,view]
theorem Kq{p:cz}{r:AV×St}(h1:I6 p.p.o=false)(h2:nP p=false):effect p r=⟨kM p.p.d (fM p.p.fz r.1)++p.cs.map (fun m=>(m,.u)),[],[],none⟩:=by
 unfold effect
 split
 ·rename_i ho;rw [ho] at h1;cases h1
 ·rename_i ho;rw [ho] at h1;cases h1
 ·grind [nP,zE]
 ·grind [nP,ph]
 ·rfl
theorem VA(d:Option Nat)(x:AV)(s:St)(d':Nat):aQ (kM d x++s.fr) d'=aQ (A.put s d x).fr d':=by cases d<;>rfl
theorem pX(cs:List Nat)(fr:List (Nat×AV))(d:Nat):aQ (cs.map (fun m=>(m,AV.u))++fr) d=if d∈cs then .u else aQ fr d:=by
 induction cs with
 | nil=>simp
 | cons c cs ih=>
  grind [aQ]
theorem finish{p:cz}{q:cR}{K:Act→World→Prop}{Q:Exit→Act→World→Prop}(T:o.dst=p.p.d)(hd:∀ dd,p.p.d=some dd→dd<C.nt)(Y:e9 C o p.p.d a w σ s' x)(a1:∀ d',aQ (q.app s).fr d'= .u∨aQ (q.app s).fr d'=aQ (A.put s' p.p.d (fM p.p.fz x)).fr d')(bw:∀ k cs,(q.app s).box C.E.dp k=some cs→s'.box C.E.dp k=some cs)(cg:∀ k cs,k.dp≠C.E.dp→(q.app s).hp k=some cs→s'.hp k=some cs)(hK:∀ a' w' σ',dJ C w σ w' σ'→aE C (q.app s) a' w' σ'→K a' w'):o.wp C.P a w K Q:=by
 refine Y _ _ fun cv w' σ' b5=>?_
 obtain ⟨σ'',hs,hc⟩:=b5.ahy hd p.p.fz
 rw [T]
 refine hK _ _ _ hs (hc.HQ a1 (fun k cs hk=>?_) (fun k cs hk hc=>?_))
 ·have:=bw k cs hk
  cases p.p.d<;>exact this
 ·have:=cg k cs hk hc
  cases p.p.d<;>exact this
theorem I8{p:cz}{s:St}{cs nw:List AV}(fr:List (Nat×AV))(hb:(view p s).box dp k=some cs):
  (∀ k' cs',((⟨fr,[],ep ((view p s).bI dp k nw).bx p.vb,if p.vh=true then some ((view p s).bI dp k nw).hp else none⟩:cR).app s).box dp k'=some cs'→(s.bI dp k nw).box dp k'=some cs')∧
  (∀ k' cs',k'.dp≠dp→((⟨fr,[],ep ((view p s).bI dp k nw).bx p.vb,if p.vh=true then some ((view p s).bI dp k nw).hp else none⟩:cR).app s).hp k'=some cs'→(s.bI dp k nw).hp k'=some cs'):=by
 have aP:=(L9 p s dp).bx k cs hb
 refine ⟨fun k' cs' av=>?_,fun k' cs' ac av=>?_⟩
 ·rw [kX aP]
  by_cases ag:k'.dp=dp
  ·simp only [St.box,ag,aH,cR.app,gw,s6] at av
   by_cases ac:k.dp=dp
   ·simp only [St.bI,ac,aH] at av
    by_cases aZ:k'=k
    ·subst aZ
     rw [af rfl]
     have bC:bH (view p s).bx k'.d=some cs:=by grind [St.box]
     have a7:k'.d∈p.vb:=by
      have:∀ ks,bH (ep s.bx ks) k'.d=some cs→k'.d∈ks:=by
       grind [Gz,vC]
      exact this p.vb bC
     have bR:∀ (bx:List (Nat×List AV))(ks:List Nat)(d:Nat),d∈ks→bH (ep bx ks) d=bH bx d:=by
      intro bx ks d
      induction ks with
      | nil=>intro h;cases h
      | cons c ks ih=>
       intro hm
       simp only [ep]
       cases cx:bH bx c with
       | none=>
        simp only
        rcases eA.1 hm with rfl | hm
        ·cases a6:bH (ep bx ks) d with
         | none=>exact cx.symm
         | some z=>grind [ef]
        ·exact ih hm
       | some z=>
        grind [bH]
     grind [zg,St.box]
    ·rw [ah aZ]
     have b8:k'.d≠k.d:=fun e=>aZ (by cases k;cases k';grind)
     simp only [St.box,ag,aH]
     cases hq:bH (ep (nO (view p s).bx k.d nw) p.vb) k'.d with
     | none=>grind
     | some z=>
      rw [hq] at av
      have h1:=ef hq
      rw [zg,ah b8] at h1
      have h2:bH s.bx k'.d=some z:=ef h1
      grind
   grind [St.bI,St.box,view,ef]
  ·simp only [St.box,ah ag,cR.app] at av ⊢
   by_cases ac:k.dp=dp
   ·have aZ:k'≠k:=fun e=>ag (e▸ac)
    rw [ah aZ]
    simp only [St.bI,ac,aH] at av
    by_cases hv:p.vh=true
    ·simp_all [view]
    simp_all
   ·by_cases hv:p.vh=true
    ·simp_all [St.bI,view,ar]
    grind [St.box,view]
 ·by_cases cb:k.dp=dp
  ·grind [St.bI,cR.app,view]
  grind [St.bI,cR.app,view,St.box]
theorem aE.ZQ{p:cz}{r:AV×St}{K:Act→World→Prop}{Q:Exit→Act→World→Prop}(hR:nm C.P R)(hΩ:jw C.P Ω)(h:aE C s a w σ)(U:cE C.P p.p.o o.op=true)(T:o.dst=p.p.d)(hd:∀ dd,p.p.d=some dd→dd<C.nt)
  (hk:iK p=true) (S:Pn p.p.o=true→∀ dd,p.p.d=some dd→mr C.E.dp s dd) (G:mY (view p s) p.p.o=true) (b9:jq C.E.dp p (view p s)=true) (a9:xJ p.p.o p.cs=true→∀ h∈p.vb,s7 C.E.dp s h) (hr:execOp R Ω C.E (view p s) p.p.d p.p.o=some r)
  (hK:∀ a' w' σ',dJ C w σ w' σ'→aE C ((effect p r).app s) a' w' σ'→K a' w'):o.wp C.P a w K Q:=by
 have hle:=L9 p s C.E.dp
 have BM:I6 p.p.o=false→nP p=false→∀ s',e9 C o p.p.d a w σ s' r.1→(∀ d',d'∈p.cs∨p.p.d=some d'∨aQ s.fr d'=aQ s'.fr d')→(∀ k,s'.box C.E.dp k=s.box C.E.dp k)→s'.hp=s.hp→o.wp C.P a w K Q:=by
  intro h1 h2 s' he hf hb hh
  have br:=Kq (r:=r) h1 h2
  rw [br] at hK
  refine finish T hd he (fun d'=>?_) (fun k cs hk=>?_) (fun k cs _ hk=>?_) hK
  ·simp only [cR.app,rY]
   rw [qX,I7]
   cases I:p.p.d with
   | none=>
    rw [ah (by simp [Da]),pX]
    by_cases hm:d'∈p.cs
    ·grind
    ·rw [ah hm]
     rcases hf d' with h3 | h3 | h3
     ·grind
     ·grind
     ·exact .inr h3
   | some dd=>
    grind [Da,kM,aQ,A.put,St.dA,pX]
  ·rw [hb];exact hk
  ·rw [hh];exact hk
 have plain:I6 p.p.o=false→nP p=false→∀ s',execOp R Ω C.E s p.p.d p.p.o=some (r.1,s')→(∀ d',d'∈p.cs∨p.p.d=some d'∨aQ s.fr d'=aQ s'.fr d')→(∀ k,s'.box C.E.dp k=s.box C.E.dp k)→s'.hp=s.hp→o.wp C.P a w K Q:=
  fun h1 h2 s' he hf hb hh=>BM h1 h2 s' (Gv hR hΩ p.p.o h U he) hf hb hh
 have aw:∀ {dd},p.p.d=some dd→mr C.E.dp s dd→∀ d',d'∈p.cs∨p.p.d=some d'∨aQ s.fr d'=aQ (s.ct (.s dd)).fr d':=by
  intro dd _ hf d'
  refine .inr (.inr ?_)
  simp only [St.ct,pV,(hf.fr d').2,dy,cH]
 cases F:p.p.o with
 | bx x=>grind [iK]
 | c2 f args=>grind [iK]
 | d2 x args=>grind [iK]
 | bg zs fs=>grind [iK]
 | bxg x=>grind [iK]
 | c3 f args=>
  rw [F] at hr U
  obtain ⟨_,h2⟩:=Sb (d:=p.p.d) hR.h h (fun x hx=>hle.ev rfl hx) hle.bx U hr
  exact BM (by rw [F];rfl) (by simp [nP,ph,F,zE]) s h2 (fun d'=>.inr (.inr rfl)) (fun _=>rfl) rfl
 | cr t f args=>grind [iK]
 | as x=>
  rw [F] at hr G U
  refine plain (by rw [F];rfl) (by simp [nP,ph,F,zE]) s ?_ (fun d'=>.inr (.inr rfl)) (fun _=>rfl) rfl
  rw [F]
  have hc:((view p s).ev x).copy=true:=G
  have hx:=hle.ev rfl (zi hc)
  cases x with
  | c z=>
   grind [execOp]
  | t n=>
   have bX:aQ s.fr n=aQ (view p s).fr n:=hx
   simp only [execOp] at hr ⊢
   have aO:(aQ (view p s).fr n).copy=true:=hc
   grind [AV.copy]
 | bs t sz es=>
  rw [F] at hr G U
  simp only [execOp] at hr
  obtain ⟨dd,I,D⟩:=au.1 hr
  have hf:=S (by rw [F];rfl) dd I
  split at D
  ·rename_i cB
   cases D
   refine plain (by rw [F];rfl) (by simp [nP,ph,F,zE]) (s.ct (.s dd)) ?_ (aw I hf) (fun _=>rfl) rfl
   rw [F]
   have hm:=hle.map (xs:=es) (by grind [List.mem_map_of_mem,Vz])
   grind [execOp]
  ·cases D
 | ms t sz by_ z n=>
  rw [F] at hr G U
  simp only [execOp] at hr
  obtain ⟨dd,I,D⟩:=au.1 hr
  obtain ⟨m,hm,N⟩:=au.1 D
  have hf:=S (by rw [F];rfl) dd I
  split at N
  ·rename_i hc
   cases N
   refine plain (by rw [F];rfl) (by simp [nP,ph,F,zE]) (s.ct (.s dd)) ?_ (aw I hf) (fun _=>rfl) rfl
   rw [F]
   simp only [execOp,I,ab,hle.nat hm,af hc]
  ·cases N
 | ap t sz by_ x y=>
  rw [F] at hr G U
  simp only [execOp] at hr
  obtain ⟨dd,I,D⟩:=au.1 hr
  obtain ⟨ys,aR,N⟩:=au.1 D
  obtain ⟨qq,H,aF⟩:=au.1 N
  have hf:=S (by rw [F];rfl) dd I
  split at aF
  ·rename_i hc
   cases aF
   have a5:(view p s).ev y≠.u:=by intro e;rw [e] at aR;cases aR
   by_cases b1:LV ((view p s).ev x)=true
   ·
    have h2:(p.cs.length==2)=true:=by
     grind [jq]
    cases x with
    | c z=>
     grind [A.consume,St.ev,LV]
    | t m=>
     have ax:p.cs=[m,m]:=by
      grind [iK]
     have hx:∃ k off,aQ (view p s).fr m= .r (.c k off):=by
      have h3:LV (aQ (view p s).fr m)=true:=b1
      generalize aQ (view p s).fr m=z at h3
      cases z<;>first | (cases h3;done) | skip
      rename_i pl
      cases pl with
      | s d=>cases h3
      | c k off=>grind
     obtain ⟨k,off,hx⟩:=hx
     unfold A.consume at H
     simp only [hx] at H
     split at H
     ·rename_i aW
      obtain ⟨rw1,aC,W⟩:=au.1 H
      split at W
      ·rename_i bc
       obtain ⟨st',O,a6⟩:=au.1 W
       cases a6
       simp only [St.putAt] at O
       split at O
       ·rename_i cs0 hb
        cases O
        have aP:=hle.bx k cs0 hb
        have aT:s.rowAt C.E.dp (.c k off)=some rw1:=by
         grind [St.rowAt]
        have aK:A.consume C.E s t (.t m)=some (rw1.2,s.bI C.E.dp k (cs0.set off .u)):=by
         simp only [A.consume,hle.slot hx (by simp),af aW,aT,ab,af bc,St.putAt,aP]
        have hex:execOp R Ω C.E s p.p.d p.p.o=some (.o t (rw1.2++ys.2),(s.bI C.E.dp k (cs0.set off .u)).ct (.s dd)):=by
         rw [F]
         simp only [execOp,I,ab,hle.ev (x:=y) rfl a5,hle.elems aR,aK,af hc]
        have Y:=Gv hR hΩ p.p.o h (by rw [F];exact U) hex
        have he:∀ r:AV×St,effect p r=⟨kM p.p.d (fM p.p.fz r.1)++p.cs.map (fun m=>(m,.u)),[],ep r.2.bx p.vb,if p.vh=true then some r.2.hp else none⟩:=by
         grind [effect]
        rw [he] at hK
        obtain ⟨sb1,sb2⟩:=I8 (nw:=cs0.set off .u) (kM p.p.d (fM p.p.fz (.o t (rw1.2++ys.2)))++p.cs.map (fun m=>(m,AV.u))) hb
        refine finish T hd Y (fun d'=>?_) sb1 sb2 hK
        grind [cR.app,kM,aQ,A.put,St.dA,pX,St.ct,pW]
       ·cases O
      ·cases W
     ·cases H
   have b6:nP p=false:=by
    grind [jq,nP,ph,zE]
   have aK:∃ s1:St,A.consume C.E s t x=some (qq.1,s1)∧(∀ d',d'∈p.cs∨aQ s.fr d'=aQ s1.fr d')∧(∀ k,s1.box C.E.dp k=s.box C.E.dp k)∧s1.hp=s.hp∧(∀ d',(aQ s1.fr d').fX (.s dd)=false):=by
    unfold A.consume at H
    split at H
    ·cases H
     exact ⟨s,rfl,fun _=>.inr rfl,fun _=>rfl,rfl,fun d'=>(hf.fr d').2⟩
    ·cases H
    ·rename_i m
     have ax:m∈p.cs:=by
      grind [iK]
     split at H
     ·rename_i hx
      cases H
      refine ⟨s,?_,fun _=>.inr rfl,fun _=>rfl,rfl,fun d'=>(hf.fr d').2⟩
      simp only [A.consume,hle.slot hx (by simp)]
     ·rename_i t' es hx
      split at H
      ·rename_i bc
       cases H
       refine ⟨s.dA m .u,?_,fun d'=>?_,fun _=>rfl,rfl,fun d'=>?_⟩
       ·simp only [A.consume,hle.slot hx (by simp),af bc]
       ·grind [mS]
       ·rw [mS]
        split
        ·rfl
        ·exact (hf.fr d').2
      ·cases H
     ·grind [mY,St.ev,LV]
     ·grind [mY,St.ev]
     ·cases H
   obtain ⟨s1,h1,h2,h3,h4,h5⟩:=aK
   refine plain (by rw [F];rfl) b6 (s1.ct (.s dd)) ?_ (fun d'=>?_) (fun k=>h3 k) h4
   ·rw [F]
    simp only [execOp,I,ab,hle.ev (x:=y) rfl a5,hle.elems aR,h1,af hc]
   grind [St.ct,pV]
  ·cases aF
 | al zs=>
  rw [F] at hr G U
  simp only [execOp] at hr
  obtain ⟨dd,I,D⟩:=au.1 hr
  have hf:=S (by rw [F];rfl) dd I
  split at D
  ·rename_i cM
   have bt:dd<1000000:=by grind [mq]
   cases D
   have he:effect p (.p ⟨C.E.dp,dd⟩ 0,{(view p s) with bx:=(dd,zs)::(view p s).bx})=⟨[(dd,.p ⟨C.E.dp,dd⟩ 0)],[(dd,zs)],[],none⟩:=by
    grind [effect]
   rw [he] at hK
   refine finish (s:=s) T hd (R8 (d:=p.p.d) h bt U I (fun d'=>(hf.fr d').1) (fun d' cs' hb c hc=>hf.cs d' cs' hb c hc)) (fun d'=>.inr ?_) (fun k cs hk=>?_) (fun k cs _ hk=>?_) hK
   ·rw [I]
    have:fM p.p.fz (.p ⟨C.E.dp,dd⟩ 0)= .p ⟨C.E.dp,dd⟩ 0:=by cases p.p.fz<;>rfl
    rw [this]
    rfl
   ·simp_all [St.box,cR.app,Ag]
   ·exact hk
  ·cases D
 | ck f args=>
  rw [F] at hr G U
  simp only [execOp] at hr
  obtain ⟨dd,I,D⟩:=au.1 hr
  have hf:=S (by rw [F];rfl) dd I
  unfold Dx at D
  split at D
  ·rename_i hp
   obtain ⟨⟨q,aa⟩,hq,N⟩:=au.1 D
   cases q with
   | ret x=>cases N
   | row _ _=>cases N
   | Kp _ _ _ _ _ _=>cases N
   | new cs=>?_
   simp only at N
   split at N
   ·rename_i bM
    have hm:=hle.map (xs:=args) fun x hx=>Vz ((by grind [jm]))
    have bt:dd<1000000:=by grind [Ep,mq]
    cases N
    have he:effect p (.p ⟨C.E.dp,dd⟩ 0,{(view p s) with bx:=(dd,cs)::(view p s).bx})=⟨[(dd,.p ⟨C.E.dp,dd⟩ 0)],[(dd,cs)],[],none⟩:=by
     grind [effect,bH]
    rw [he] at hK
    refine finish (s:=s) T hd (Sc (d:=p.p.d) hR.h h U (by rw [hm];exact hp) (by rw [hm];exact hq) bt (fun d'=>(hf.fr d').1) (fun d' cs' hb c hc=>hf.cs d' cs' hb c hc)) (fun d'=>.inr ?_) (fun k cs hk=>?_) (fun k cs _ hk=>?_) hK
    ·rw [I]
     have:fM p.p.fz (.p ⟨C.E.dp,dd⟩ 0)= .p ⟨C.E.dp,dd⟩ 0:=by cases p.p.fz<;>rfl
     rw [this]
     rfl
    ·simp_all [St.box,cR.app,Ag]
    ·exact hk
   ·cases N
  ·cases D
 | st n x y=>
  rw [F] at hr G U
  have cw:p.p.d=none:=by
   grind [iK]
  simp only [mY,aY,B7] at G
  obtain ⟨az,bW⟩:=G
  have a5:(view p s).ev y≠.u:=by
   intro e;rw [e] at az;rcases az with h | h<;>cases h
  have hy:=hle.ev rfl a5
  have a2:∀ r:AV×St,effect p r=⟨p.cs.map (fun m=>(m,.u)),[],ep r.2.bx p.vb,if p.vh=true then some r.2.hp else none⟩:=by
   grind [effect]
  simp only [execOp] at hr
  split at hr
  ·rename_i k off hx
   split at hr
   ·rename_i hm
    obtain ⟨cs,hb,D⟩:=au.1 hr
    have aP:=hle.bx k cs hb
    split at D
    ·rename_i t' es ay
     have aC:Dy ((view p s).ev y)=true:=by rw [ay];rfl
     have aX:=b9
     simp only [jq,F,aC,hx,xq,uZ,aY,eS,eB] at aX
     obtain ⟨⟨ac,bC⟩,ax⟩:=aX
     cases y with
     | c z=>cases ax
     | t m=>
      have bu:p.cs=[m]:=by simpa using ax
      have bo:s7 C.E.dp s k.d:=by grind [xJ]
      simp only at D
      split at D
      ·rename_i hc
       cases D
       have hex:execOp R Ω C.E s p.p.d p.p.o=some (.u,((s.dA m .u).ct (.c k off)).bI C.E.dp k (cs.set off (.o t' es))):=by
        rw [F]
        simp only [execOp,hle.ev hx (by simp),af hm,aP,ab,hy,ay]
        rw [af hc]
       have Y:=Gv (r:=(.u,((s.dA m .u).ct (.c k off)).bI C.E.dp k (cs.set off (.o t' es)))) hR hΩ p.p.o h (by rw [F];exact U) hex
       rw [a2,bu] at hK
       have bv:∀ nw,(((view p s).dA m .u).ct (.c k off)).bI C.E.dp k nw=({((view p s).bI C.E.dp k nw) with fr:=(((view p s).dA m .u).ct (.c k off)).fr} : St):=by
        grind [St.bI,St.ct,St.dA]
       rw [bv] at hK
       obtain ⟨sb1,sb2⟩:=I8 (nw:=cs.set off (.o t' es)) [(m,.u)] hb
       have cy:∀ nw k',((((s.dA m .u).ct (.c k off)).bI C.E.dp k nw).box C.E.dp k')=(s.bI C.E.dp k nw).box C.E.dp k':=by
        simp_all [St.bI,St.ct,St.dA,St.box]
       have cf:∀ nw,((((s.dA m .u).ct (.c k off)).bI C.E.dp k nw).hp)=(s.bI C.E.dp k nw).hp:=by
        grind [St.bI,St.ct,St.dA]
       refine finish T hd Y (fun d'=>?_) (fun k' cs' av=>?_) (fun k' cs' ag av=>?_) hK
       ·rw [cw]
        simp only [cR.app,A.put,pW,je,List.map_nil,fk,gw,aQ]
        by_cases bP:m=d'
        ·grind
        ·rw [ah bP]
         refine .inr ?_
         simp only [St.ct,St.dA,pV,aQ,ah bP]
         rw [ah]
         intro bz
         have:=bo d'
         rw [←ac] at this
         rw [W9 bz] at this;cases this
       ·grind
       grind
      ·cases D
    ·rename_i pl lo len ay
     rw [ay] at az;rcases az with h | h<;>cases h
    ·rename_i cD cC
     have bV:((view p s).ev y).copy=true:=by
      grind
     split at D
     ·rename_i hc
      cases D
      have hex:execOp R Ω C.E s p.p.d p.p.o=some (.u,s.bI C.E.dp k (putCells cs off ((view p s).ev y).cl)):=by
       rw [F]
       simp only [execOp,hle.ev hx (by simp),af hm,aP,ab,hy]
       rw [af hc]
      have Y:=Gv (r:=(.u,s.bI C.E.dp k (putCells cs off ((view p s).ev y).cl))) hR hΩ p.p.o h (by rw [F];exact U) hex
      rw [a2] at hK
      obtain ⟨sb1,sb2⟩:=I8 (nw:=putCells cs off ((view p s).ev y).cl) (p.cs.map fun m=>(m,AV.u)) hb
      refine finish T hd Y (fun d'=>?_) sb1 sb2 hK
      grind [cR.app,A.put,pW,pX]
     ·cases D
   ·cases hr
  ·grind
  ·cases hr
 | _=>
  have b3:qk p.p.o=true:=by rw [F];rfl
  obtain ⟨_,h2⟩:=OR hle b3 G hr
  exact plain (by rw [F];rfl) (by simp [nP,ph,F,zE]) s h2 (fun d'=>.inr (.inr rfl)) (fun _=>rfl) rfl
end
variable [cN]
section
variable {C:Cx}{s:St}{a:Act}{w:World}{σ:Sp}{o:Oper}{R:Rec}{Ω:ej}
theorem aE.amh{nt i:Nat}{ops:Array Oper}{p:cz}{q:cR}{K:Act→World→Prop}{Q:Exit→Act→World→Prop}(hR:nm C.P R)(hΩ:jw C.P Ω)(h:aE C s a w σ)(ho:ops[i]? =some o)(hl:Gw C.P nt ops o p.p=true)(am:nt≤C.nt)
  (hk:iK p=true) (S:Pn p.p.o=true→∀ dd,p.p.d=some dd→mr C.E.dp s dd) (a9:xJ p.p.o p.cs=true→∀ h∈p.vb,s7 C.E.dp s h) (hq:eZ R Ω C.E p s=some q) (hK:∀ a' w' σ',dJ C w σ w' σ'→aE C (q.app s) a' w' σ'→K a' w'):wpOp C.P ops Q i K a w:=by
 obtain ⟨U,T,hd,cj⟩:=I5 hl am
 obtain ⟨cL,cn⟩:=h.guard cj
 have J:kr R Ω C.E p (view p s)=some q→o.wp C.P a w K Q:=by
  intro hc
  unfold kr at hc
  split at hc
  ·rename_i G
   obtain ⟨r,hr,h2⟩:=au.1 hc
   split at h2
   ·cases h2
    simp only [aY] at G
    exact h.ZQ hR hΩ U T hd hk S G.1 G.2 a9 hr hK
   ·cases h2
  ·cases hc
 simp only [wpOp,ho]
 unfold eZ at hq
 split at hq
 ·grind
 ·rename_i j want ch
  obtain ⟨y,hy,W⟩:=au.1 hq
  have cG:=cn j want y ch hy
  split at W
  ·grind
  ·rename_i cF
   rw [ah (by grind)]
   refine hK _ _ _ (.refl _ _ _) ?_
   rw [←aq W,T]
   refine (h.Y7 hd).se ⟨fun d'=>?_,fun d'=>?_,?_,fun y=>?_⟩
   ·simp only [cR.app];rw [VA]
   ·cases p.p.d<;>rfl
   ·cases p.p.d<;>rfl
   ·cases p.p.d<;>exact Iff.rfl
theorem EH{s:St}{cs zs:List AV}(h:bH (s.bI dp k cs).bx d=some zs):bH s.bx d=some zs∨zs=cs:=by
 unfold St.bI at h
 split at h
 ·simp only [zg] at h
  split at h
  ·simp_all
  ·exact .inl h
 ·exact .inl h
theorem ahA{y:AV}(h:y.dD k=true):∀ c∈y.cl,c.dD k=true:=by
 intro c hc
 cases y<;>simp only [AV.cl,oM] at hc<;>first | (subst hc;exact h) | skip
 grind [lV,AV.dD]
theorem mr.step{p:cz}{q:cR}{op:Op}(hf:mr C.E.dp s h)(U:cE C.P p.p.o op=true)(hk:iK p=true)(hn:h∈p.nk)(hq:eZ R Ω C.E p s=some q):mr C.E.dp (q.app s) h:=by
 have hle:=L9 p s C.E.dp
 have bZ:∀ d,(aQ (view p s).fr d).dD ⟨C.E.dp,h⟩=true:=fun d=>by
  rcases hle.fr d with e | e
  ·rw [e];rfl
  ·rw [e];exact (hf.fr d).1
 have ai:∀ (x:AV)(cs:List Nat),x.dD ⟨C.E.dp,h⟩=true→x.fX (.s h)=false→mr C.E.dp ((⟨kM p.p.d x++cs.map (fun m=>(m,.u)),[],[],none⟩:cR).app s) h:=by
  intro x cs hx hb
  refine ⟨fun d=>?_,hf.cs⟩
  simp only [cR.app,rY]
  rw [qX]
  split
  ·rename_i hm
   cases hd:p.p.d with
   | none=>grind [kM,fC]
   | some dd=>
    grind [kM,fC,aQ]
  ·rw [pX]
   split
   ·exact ⟨rfl,rfl⟩
   ·exact hf.fr d
 have J:kr R Ω C.E p (view p s)=some q→mr C.E.dp (q.app s) h:=by
  intro hc
  unfold kr at hc
  split at hc
  ·rename_i bh
   have G:=(xy.1 bh).1
   obtain ⟨r,hr,h2⟩:=au.1 hc
   split at h2
   ·rename_i aG
    have bf:=(xy.1 aG).1
    cases h2
    have hx:r.1.dD ⟨C.E.dp,h⟩=true∧r.1.fX (.s h)=false:=by
     have:=dz.1 bf h hn
     simpa using this
    have bm:(fM p.p.fz r.1).dD ⟨C.E.dp,h⟩=true∧(fM p.p.fz r.1).fX (.s h)=false:=by
     cases p.p.fz with
     | false=>simpa [fM] using hx
     | true=>cases D:r.1<;>rw [D] at hx<;>first | exact hx | exact ⟨rfl,rfl⟩
    by_cases bT:I6 p.p.o=true
    ·cases F:p.p.o<;>rw [F] at bT<;>simp [I6] at bT
     case al zs=>
      rw [F] at hr U
      simp only [execOp] at hr
      obtain ⟨dd,I,D⟩:=au.1 hr
      split at D
      ·cases D
       have he:effect p (.p ⟨C.E.dp,dd⟩ 0,{(view p s) with bx:=(dd,zs)::(view p s).bx})=⟨[(dd,.p ⟨C.E.dp,dd⟩ 0)],[(dd,zs)],[],none⟩:=by
        grind [effect]
       rw [he]
       refine ⟨fun d=>?_,fun d cs hb c hc=>?_⟩
       ·simp only [cR.app,fk,gw,aQ]
        split
        ·exact hx
        ·exact hf.fr d
       ·simp only [cR.app,fk,gw,bH,Ag] at hb
        split at hb
        ·grind [lW,ZJ]
        ·exact hf.cs d cs hb c hc
      ·cases D
     case ck f args=>
      rw [F] at hr U
      simp only [execOp] at hr
      obtain ⟨dd,I,D⟩:=au.1 hr
      unfold Dx at D
      split at D
      ·obtain ⟨⟨q,aa⟩,hq,N⟩:=au.1 D
       cases q with
       | ret x=>cases N
       | row _ _=>cases N
       | Kp _ _ _ _ _ _=>cases N
       | new cs=>?_
       simp only at N
       split at N
       ·rename_i bM
        cases N
        have he:effect p (.p ⟨C.E.dp,dd⟩ 0,{(view p s) with bx:=(dd,cs)::(view p s).bx})=⟨[(dd,.p ⟨C.E.dp,dd⟩ 0)],[(dd,cs)],[],none⟩:=by
         grind [effect,bH]
        rw [he]
        refine ⟨fun d=>?_,fun d cs' hb c hc=>?_⟩
        ·simp only [cR.app,fk,gw,aQ]
         split
         ·exact hx
         ·exact hf.fr d
        ·simp only [cR.app,fk,gw,bH,Ag] at hb
         split at hb
         ·cases hb
          have:=dz.1 (xy.1 bM).1 c hc
          cases c<;>first | rfl | exact lW _ this
         ·exact hf.cs d cs' hb c hc
       ·cases N
      ·cases D
    ·by_cases bE:zE p.p.o=true
     ·cases F:p.p.o<;>rw [F] at bE<;>simp [zE] at bE
      rename_i n x y
      rw [F] at hr U G
      simp only [mY,aY,B7] at G
      obtain ⟨az,bW⟩:=G
      have bU:((view p s).ev y).dD ⟨C.E.dp,h⟩=true:=by
       cases y with
       | t m=>exact bZ m
       | c z=>
        have hp:z.pure=true:=by
         simp only [cE] at U
         grind [si]
        exact lW z hp
      have ax:∀ d cs,bH r.2.bx d=some cs→∀ c∈cs,c.dD ⟨C.E.dp,h⟩=true:=by
       simp only [execOp] at hr
       split at hr
       ·rename_i k off bX
        split at hr
        ·rename_i hm
         obtain ⟨cs0,cA,D⟩:=au.1 hr
         split at D
         ·rename_i t' es ay
          split at D
          ·rename_i m
           split at D
           ·cases D
            intro d cs hb c hc
            rcases EH hb with h3 | rfl
            ·exact hf.cs d cs (ef h3) c hc
            ·rcases lX hc with hc | rfl
             ·by_cases ac:k.dp=C.E.dp
              ·have h4:bH (view p s).bx k.d=some cs0:=by grind [St.box]
               exact hf.cs k.d cs0 (ef h4) c hc
              ·simp only [St.bI,ah ac] at hb
               exact hf.cs d _ (ef hb) c (by grind)
             ·rfl
           ·cases D
          ·cases D
         ·rename_i pl lo len ay
          rw [ay] at az;rcases az with h | h<;>cases h
         ·split at D
          ·cases D
           intro d cs hb c hc
           rcases EH hb with h3 | rfl
           ·exact hf.cs d cs (ef h3) c hc
           ·
            by_cases ac:k.dp=C.E.dp
            ·rcases AZ hc with hc | hc
             ·have h4:bH (view p s).bx k.d=some cs0:=by grind [St.box]
              exact hf.cs k.d cs0 (ef h4) c hc
             ·exact ahA bU c hc
            ·simp only [St.bI,ah ac] at hb
             exact hf.cs d _ (ef hb) c hc
          ·cases D
        ·cases hr
       ·grind
       ·cases hr
      have he:effect p r=⟨p.cs.map (fun m=>(m,.u)),[],ep r.2.bx p.vb,if p.vh=true then some r.2.hp else none⟩:=by
       grind [effect]
      rw [he]
      refine ⟨fun d=>?_,fun d cs hb c hc=>?_⟩
      ·simp only [cR.app]
       rw [pX]
       split
       ·exact ⟨rfl,rfl⟩
       ·exact hf.fr d
      simp only [cR.app,gw,s6] at hb
      split at hb
      ·rename_i zs hz
       cases bA:bH s.bx d with
       | none=>grind
       | some z=>
        rw [bA] at hb
        cases hb
        exact ax d _ (ef hz) c hc
      ·exact hf.cs d cs hb c hc
     ·by_cases be:ph p=true
      ·unfold ph at be
       split at be
       ·rename_i t sz by_ x y F
        rw [F] at hr G
        have he:effect p r=⟨kM p.p.d (fM p.p.fz r.1)++p.cs.map (fun m=>(m,.u)),[],ep r.2.bx p.vb,if p.vh=true then some r.2.hp else none⟩:=by
         grind [effect]
        rw [he]
        simp only [execOp] at hr
        obtain ⟨dd,I,D⟩:=au.1 hr
        obtain ⟨ys,aR,N⟩:=au.1 D
        obtain ⟨qq,H,aF⟩:=au.1 N
        have ax:∀ d cs,bH qq.2.bx d=some cs→∀ c∈cs,c.dD ⟨C.E.dp,h⟩=true:=by
         unfold A.consume at H
         split at H
         ·cases H
          exact fun d cs hb c hc=>hf.cs d cs (ef hb) c hc
         ·cases H
         ·rename_i m
          split at H
          ·cases H
           exact fun d cs hb c hc=>hf.cs d cs (ef hb) c hc
          ·split at H
           ·cases H
            exact fun d cs hb c hc=>hf.cs d cs (ef hb) c hc
           ·cases H
          ·rename_i pl hx
           split at H
           ·obtain ⟨rw1,aC,W⟩:=au.1 H
            split at W
            ·obtain ⟨st',O,a6⟩:=au.1 W
             cases a6
             cases pl with
             | s d'=>grind [mY,St.ev]
             | c k off=>
              simp only [St.putAt] at O
              split at O
              ·rename_i cs0 cA
               cases O
               intro d cs hb c hc
               rcases EH hb with h3 | rfl
               ·exact hf.cs d cs (ef h3) c hc
               ·rcases lX hc with hc | rfl
                ·by_cases ac:k.dp=C.E.dp
                 ·have h4:bH (view p s).bx k.d=some cs0:=by grind [St.box]
                  exact hf.cs k.d cs0 (ef h4) c hc
                 ·simp only [St.bI,ah ac] at hb
                  exact hf.cs d _ (ef hb) c (by grind)
                ·rfl
              ·cases O
            ·cases W
           ·cases H
          ·grind [mY,St.ev]
          ·cases H
        have bw:r.2.bx=qq.2.bx:=by
         split at aF
         ·cases aF;rfl
         ·cases aF
        refine ⟨fun d=>(ai _ _ bm.1 bm.2).fr d,fun d cs hb c hc=>?_⟩
        simp only [cR.app,gw,s6] at hb
        split at hb
        ·rename_i zs hz
         cases bA:bH s.bx d with
         | none=>grind
         | some z=>
          rw [bA] at hb
          cases hb
          rw [bw] at hz
          exact ax d _ (ef hz) c hc
        ·exact hf.cs d cs hb c hc
       ·cases be
      grind [Kq,nP]
   ·cases h2
  ·cases hc
 unfold eZ at hq
 split at hq
 ·exact J hq
 ·obtain ⟨y,hy,W⟩:=au.1 hq
  split at W
  ·exact J W
  ·cases W
   have:=ai .sk [] rfl rfl
   simpa using this
end
theorem s7.step{ro:Bool}{s:St}{R:Rec}{Ω:ej}{p:cz}{q:cR}(hf:s7 dp s h)(hn:h∈p.nb)(hq:eZ R Ω ⟨dp,ro⟩ p s=some q):s7 dp (q.app s) h:=by
 have O:∀ (x:AV)(cs:List Nat)(nb wb:List (Nat×List AV))(hp:Option HP),kL ⟨dp,h⟩ x=false→s7 dp ((⟨kM p.p.d x++cs.map (fun m=>(m,.u)),nb,wb,hp⟩:cR).app s) h:=by
  intro x cs nb wb hp hx d
  simp only [cR.app,rY]
  rw [qX]
  split
  ·rename_i hm
   cases hd:p.p.d with
   | none=>grind [kM,fC]
   | some dd=>
    grind [kM,fC,aQ]
  ·rw [pX]
   split
   ·rfl
   ·exact hf d
 have J:kr R Ω ⟨dp,ro⟩ p (view p s)=some q→s7 dp (q.app s) h:=by
  intro hc
  unfold kr at hc
  split at hc
  ·obtain ⟨r,hr,h2⟩:=au.1 hc
   split at h2
   ·rename_i aG
    have bf:=(xy.1 aG).2
    cases h2
    have hx:kL ⟨dp,h⟩ r.1=false:=by
     have:=dz.1 (xy.1 bf).1 h hn
     simpa using this
    have bm:kL ⟨dp,h⟩ (fM p.p.fz r.1)=false:=by
     cases p.p.fz with
     | false=>simpa [fM] using hx
     | true=>cases D:r.1<;>rw [D] at hx<;>first | exact hx | rfl
    unfold effect
    split
    ·split
     ·rename_i dd hd
      intro d
      simp only [cR.app,fk,gw,aQ]
      split
      ·exact hx
      ·exact hf d
     ·intro d;exact hf d
    ·split
     ·rename_i dd hd
      intro d
      simp only [cR.app,fk,gw,aQ]
      split
      ·exact hx
      ·exact hf d
     ·intro d;exact hf d
    ·intro d
     simp only [cR.app]
     rw [pX]
     split
     ·rfl
     ·exact hf d
    ·grind
    grind
   ·cases h2
  ·cases hc
 unfold eZ at hq
 split at hq
 ·exact J hq
 ·obtain ⟨y,hy,W⟩:=au.1 hq
  split at W
  ·exact J W
  ·cases W
   have:=O .sk [] [] [] none rfl
   simpa using this
def ku(o:Oper):List Nat:=(o.after.toList.filter fun e=>Region.binds .any e).map (·.on)
def VB(acc:List Nat)(l:List Nat):Nat:=l.foldl (fun s e=>s|||(1 <<< e)|||acc.getD e 0) 0
def Cp(acc:List Nat):List (List Nat)→List Nat
 | []=>acc
 | l::r=>Cp (acc++[VB acc l]) r
theorem Po(f:Nat→Nat)(i:Nat):∀ (l:List Nat)(s:Nat),(l.foldl (fun s e=>s|||(1 <<< e)|||f e) s).testBit i=true→s.testBit i=true∨∃ e∈l,e=i∨(f e).testBit i=true
 | [],s,h=>.inl h
 | e::l,s,h=>by
  simp only [AO] at h
  rcases Po f i l _ h with h | ⟨e',bS,h⟩
  ·grind [Nat.one_shiftLeft]
  grind
theorem Pp:∀ (L:List (List Nat))(acc:List Nat)(A:List (List Nat)),acc.length=A.length→
  (∀ j i,j<acc.length→(acc.getD j 0).testBit i=true→i∈A.getD j []∨∃ e∈A.getD j [],e<j∧(acc.getD e 0).testBit i=true)→
  ∀ j i,((Cp acc L).getD j 0).testBit i=true→i∈(A++L).getD j []∨∃ e∈(A++L).getD j [],e<j∧((Cp acc L).getD e 0).testBit i=true
 | [],acc,A,hl,h,j,i,hb=>by
  grind [Cp]
 | l::L,acc,A,hl,h,j,i,hb=>by
  have:=Pp L (acc++[VB acc l]) (A++[l]) (by simp [hl]) (fun j i hj hb=>?_) j i hb
  ·simpa [Cp] using this
  ·simp only [oQ,xz] at hj
   simp only [xA] at hb ⊢
   by_cases G:j<acc.length
   ·rw [xx G] at hb
    rw [xx (by omega)]
    rcases h j i G (by grind) with h1 | ⟨e,he,h2,h3⟩
    ·grind
    grind
   ·have cd:j=acc.length:=by omega
    subst cd
    rw [yU (bG _)] at hb
    rw [yU (by omega),hl]
    simp only [Nat.sub_self,List.getElem?_cons_zero,xn] at hb ⊢
    rcases Po (fun e=>acc.getD e 0) i l 0 hb with h1 | ⟨e,he,h1 | h1⟩
    ·simp at h1
    ·grind
    grind
def VC(gs:List cz)(i j:Nat):Bool:=
 match gs[i]?,gs[j]? with
 | some p,some q=>(p.lt&&q.lt&&Co p q)||AI p q||AI q p
 | _,_=>false
def EI(P:Program)(nt:Nat)(ops:Array Oper):List Oper→List cz→Bool
 | [],[]=>true
 | o::os,g::gs=>Gw P nt ops o g.p&&(!g.lt||iK g)&&EI P nt ops os gs
 | _,_=>false
def Xa(q:cz)(dd:Nat):Bool:=false
theorem mr.ami{R:Rec}{Ω:ej}{E:Env}{s s2:St}{p:cz}(hf:mr E.dp s h)(hc:Xa p h=true)(he:e7 R Ω E s p=some s2):mr E.dp s2 h:=by cases hc
def ape(M:List Nat)(gs:List cz)(n k dd:Nat):Bool:=
 (List.range n).all fun i=>i==k||(M.getD i 0).testBit k||(match gs[i]? with
  | some q=>(q.lt&&q.nk.contains dd)||Xa q dd
  | none=>true)
def Zb(M:List Nat)(gs:List cz)(mks:List Nat)(n:Nat):Bool:=
 (List.range n).all fun k=>match gs[k]? with
  | some p=>!p.lt||!Pn p.p.o||(match p.p.d with
   | some dd=>mks.contains dd&&ape M gs n k dd
   | none=>true)
  | none=>true
def Sg(M:List Nat)(gs:List cz)(n:Nat):Bool:=(List.range n).all fun j=>(List.range j).all fun i=>(M.getD j 0).testBit i||VC gs i j
def ahB(M:List Nat)(gs:List cz)(n:Nat):Bool:=
 (List.range n).all fun k=>match gs[k]? with
  | some p=>!p.lt||!xJ p.p.o p.cs||p.vb.all fun h=>(List.range n).all fun i=>i==k||(M.getD i 0).testBit k||(match gs[i]? with
   | some q=>q.lt&&q.nb.contains h
   | none=>true)
  | none=>true
def Kr(P:Program)(nt:Nat)(ops:Array Oper)(mks:List Nat)(gs:List cz):Bool:=
 P.follows .mixedOrders&&EI P nt ops ops.toList gs&&((List.range ops.size).all fun i=>match ops[i]? with
  | some o=>(ku o).all fun e=>decide (e<i)
  | none=>true)&&
 Sg (Cp [] (ops.toList.map ku)) gs ops.size&&Zb (Cp [] (ops.toList.map ku)) gs mks ops.size&&ahB (Cp [] (ops.toList.map ku)) gs ops.size
theorem GA{P:Program}{nt:Nat}{ops:Array Oper} : ∀ {os:List Oper}{gs:List cz},EI P nt ops os gs=true→os.length=gs.length∧∀ (i:Nat)(o:Oper)(p:cz),os[i]? =some o→gs[i]? =some p→Gw P nt ops o p.p=true∧(p.lt=true→iK p=true)
 | [],[],_=>by grind
 | o::os,g::gs,h=>by
  simp only [EI,aY] at h
  obtain ⟨h1,h2⟩:=GA h.2
  grind
 | [],_::_,h=>by simp [EI] at h
 | _::_,[],h=>by simp [EI] at h
section
variable {C:Cx}{st:St}{a:Act}{w:World}{σ:Sp}{R:Rec}{Ω:ej}
def nQ(n:Nat)(listed:Array Bool):List Nat:=(List.range n).filter fun i=>!listed.getD i true
theorem Tq{ops:Array Oper}{listed:Array Bool}(aj:∀ i o,ops[i]? =some o→∀ e∈ku o,e<i)(bb:∀ j o,ops[j]? =some o→listed.getD j false=true→∀ e∈ku o,listed.getD e false=true) :
  ∀ (j:Nat)(o:Oper),ops[j]? =some o→(∀ e∈ku o,listed.getD e false=true)→∀ i,((Cp [] (ops.toList.map ku)).getD j 0).testBit i=true→listed.getD i false=true:=by
 intro j
 induction j using Nat.strongRecOn with
 | _ j ih=>
  intro o ho ao i hb
  have ad:=Pp (ops.toList.map ku) [] [] rfl (fun j i hj=>by simp at hj) j i hb
  rw [gw] at ad
  have aJ:(ops.toList.map ku).getD j []=ku o:=by
   grind
  rw [aJ] at ad
  rcases ad with h1 | ⟨e,he,cu,h2⟩
  ·exact ao i h1
  ·have cq:=ao e he
   have cp:e<ops.size:=by grind
   have bL:ops[e]? =some ops[e]:=p9 cp
   exact ih e cu ops[e] bL (bb e _ bL cq) i h2
theorem NI{o:Oper}{listed:Array Bool} : (o.after.all fun e=>!Region.binds .any e||listed.getD e.on false)=true↔∀ e∈ku o,listed.getD e false=true:=by
 rw [Gc]
 constructor
 ·intro h e he
  obtain ⟨x,hx,rfl⟩:=oO.1 he
  grind
 ·intro h x hx
  by_cases hb:Region.binds .any x=true
  ·have:=h x.on (oO.2 (by grind))
   simp [this]
  ·simp [hb]
theorem mem_ready{ops:Array Oper}{listed:Array Bool}{i:Nat} : i∈Region.ready .any ops listed↔∃ o,ops[i]? =some o∧listed.getD i true=false∧∀ e∈ku o,listed.getD e false=true:=by
 unfold Region.ready
 rw [List.mem_filter]
 constructor
 ·rintro ⟨h1,h2⟩
  have hi:i<ops.size:=by simpa using h1
  refine ⟨ops[i],p9 hi,?_⟩
  simp only [p9 hi,kJ,xn,aY,qa] at h2
  exact ⟨h2.1,NI.1 h2.2⟩
 ·rintro ⟨o,ho,h1,h2⟩
  have hi:i<ops.size:=(xD.1 ho).1
  refine ⟨by simpa using hi,?_⟩
  simp only [ho,kJ,xn,aY,qa]
  exact ⟨h1,NI.2 h2⟩
theorem aE.any{nt:Nat}{ops:Array Oper}{Q:Exit→Act→World→Prop}{gs:List cz}{t:St}(hR:nm C.P R)(hΩ:jw C.P Ω)(am:nt≤C.nt)
  (ba:EI C.P nt ops ops.toList gs=true) (aj:∀ i o,ops[i]? =some o→∀ e∈ku o,e<i) (Z:Sg (Cp [] (ops.toList.map ku)) gs ops.size=true) {mks:List Nat} (an:Zb (Cp [] (ops.toList.map ku)) gs mks ops.size=true) (aB:ahB (Cp [] (ops.toList.map ku)) gs ops.size=true) :
  ∀ (fuel:Nat)(listed:Array Bool)(s:St)(a:Act)(w:World)(σ:Sp),listed.size=ops.size→fuel=(nQ ops.size listed).length→(∀ j o,ops[j]? =some o→listed.getD j false=true→∀ e∈ku o,listed.getD e false=true)→
   q6 R Ω C.E gs (nQ ops.size listed) s t→aE C s a w σ→(∀ k p dd,k∈nQ ops.size listed→gs[k]? =some p→p.lt=true→Pn p.p.o=true→p.p.d=some dd→mr C.E.dp s dd)→(∀ k p,k∈nQ ops.size listed→gs[k]? =some p→p.lt=true→xJ p.p.o p.cs=true→∀ h∈p.vb,s7 C.E.dp s h)→
   (∀ a' w' σ',dJ C w σ w' σ'→aE C t a' w' σ'→Q .normal a' w')→wpAny C.P .any ops Q fuel listed a w:=by
 have aU:∀ listed i,i∈nQ ops.size listed↔i<ops.size∧listed.getD i true=false:=by
  grind [nQ]
 have aD:∀ listed i,i∈Region.ready .any ops listed→i∈nQ ops.size listed:=by
  grind [mem_ready]
 intro fuel
 induction fuel with
 | zero=>
  intro listed s a w σ bD co bb hg h a1 bp hK
  have ae:nQ ops.size listed=[]:=by grind
  rw [ae] at hg
  refine ⟨?_,hK a w σ (.refl _ _ _) (h.se hg)⟩
  apply List.eq_nil_iff_forall_not_mem.2
  grind
 | succ fuel ih=>
  intro listed s a w σ bD co bb hg h a1 bp hK
  refine ⟨fun b7=>?_,fun i hi=>?_⟩
  ·exfalso
   cases ae:nQ ops.size listed with
   | nil=>grind
   | cons i0 rest=>
    have ce:i0∈nQ ops.size listed:=by rw [ae];simp
    obtain ⟨h1,h2⟩:=(aU _ _).1 ce
    have V:(nQ ops.size listed).Pairwise (· < ·):=(List.pairwise_lt_range (n:=ops.size)).filter _
    have:i0∈Region.ready .any ops listed:=by
     refine mem_ready.2 ⟨ops[i0],p9 h1,h2,fun e he=>?_⟩
     grind [List.pairwise_cons]
    grind
  ·obtain ⟨o,ho,cJ,ao⟩:=mem_ready.1 hi
   have a7:i<ops.size:=(xD.1 ho).1
   have bl:=aD _ _ hi
   obtain ⟨A,B,bB⟩:=List.append_of_mem bl
   have V:(nQ ops.size listed).Pairwise (· < ·):=(List.pairwise_lt_range (n:=ops.size)).filter _
   have bN:∀ k,k∈nQ ops.size listed→((Cp [] (ops.toList.map ku)).getD i 0).testBit k=false:=by
    intro k hk
    cases hb:((Cp [] (ops.toList.map ku)).getD i 0).testBit k with
    | false=>rfl
    | true=>
     have:=Tq aj bb i o ho ao k hb
     grind
   rw [bB] at V
   have b0:=List.pairwise_append.1 V
   have hA:∀ x∈A,Tp gs x i:=by
    intro x hx
    have G:x<i:=b0.2.2 x hx i (by simp)
    have h1:=dz.1 (dz.1 Z i (by simpa using a7)) x (by simpa using G)
    rw [bN x (by grind),uZ] at h1
    unfold VC at h1
    split at h1
    ·rename_i p q hp hq
     simp only [aY,B7] at h1
     refine ⟨p,q,hp,hq,?_⟩
     grind
    ·cases h1
   rw [bB] at hg
   obtain ⟨p,s1,s2,hp,aN,hex,ci⟩:=q6.front A s hA hg
   obtain ⟨hlen,bi⟩:=GA ba
   obtain ⟨bj,bQ⟩:=bi i o p (by simpa using ho) hp
   have cK:i∉A∧i∉B:=by
    grind [List.pairwise_cons]
   have X:nQ ops.size (listed.setIfInBounds i true)=A++B:=by
    have aJ:∀ j,j<ops.size→(listed.setIfInBounds i true).getD j true=(if i=j then true else listed.getD j true):=by
     intro j hj
     have cc:j<listed.size:=by omega
     by_cases a8:i=j
     ·subst a8;simp [cc]
     ·simp [F4,a8]
    have e1:nQ ops.size (listed.setIfInBounds i true)=(nQ ops.size listed).filter (fun j=>j !=i):=by
     unfold nQ
     rw [List.filter_filter]
     apply List.filter_congr
     intro j hj
     rw [aJ j (by simpa using hj)]
     by_cases a8:i=j
     ·subst a8;simp
     grind
    rw [e1,bB,List.filter_append,List.filter_cons]
    have f1:A.filter (fun j=>j !=i)=A:=by grind [List.filter_eq_self]
    have f2:B.filter (fun j=>j !=i)=B:=by grind [List.filter_eq_self]
    grind
   have aV:∀ k p' dd,k∈A++B→gs[k]? =some p'→p'.lt=true→Pn p'.p.o=true→p'.p.d=some dd→mr C.E.dp s dd∧((p.lt=true∧dd∈p.nk)∨Xa p dd=true):=by
    intro k p' dd hk aa G hm I
    have bk:k∈nQ ops.size listed:=by
     grind
    refine ⟨a1 k p' dd bk aa G hm I,?_⟩
    have ca:k≠i:=by grind
    have h1:=dz.1 an k (by grind)
    simp only [aa,G,hm,I,xq,uZ,aY] at h1
    have h2:=dz.1 h1.2 i (by simpa using a7)
    grind
   have bF:∀ k p',k∈A++B→gs[k]? =some p'→p'.lt=true→xJ p'.p.o p'.cs=true→∀ hh∈p'.vb,s7 C.E.dp s hh∧(p.lt=true∧hh∈p.nb):=by
    intro k p' hk aa G hm hh ak
    have bk:k∈nQ ops.size listed:=by
     grind
    refine ⟨bp k p' bk aa G hm hh ak,?_⟩
    have ca:k≠i:=by grind
    have h1:=dz.1 aB k (by grind)
    simp only [aa,G,hm,xq,uZ] at h1
    have h2:=dz.1 (dz.1 h1 hh ak) i (by simpa using a7)
    grind
   have aS:(listed.setIfInBounds i true).size=ops.size:=by simpa using bD
   have a3:∀ j o',ops[j]? =some o'→(listed.setIfInBounds i true).getD j false=true→∀ e∈ku o',(listed.setIfInBounds i true).getD e false=true:=by
    have bO:∀ e,listed.getD e false=true→(listed.setIfInBounds i true).getD e false=true:=by
     grind
    grind
   have a0:fuel=(nQ ops.size (listed.setIfInBounds i true)).length:=by
    grind
   have h1:=h.se aN
   by_cases G:p.lt=true
   ·simp only [e7,af G] at hex
    obtain ⟨q,hq,br⟩:=au.1 hex
    cases br
    refine h1.amh hR hΩ ho bj am (bQ G) (fun hm dd I=>(a1 i p dd bl hp G hm I).se aN) (fun hm hh ak=>(bp i p bl hp G hm hh ak).se aN) hq fun a' w' σ' bd aO=>?_
    refine ih _ _ a' w' σ' aS a0 a3 (by grind) aO (fun k p' dd hk aa aI hm I=>?_) (fun k p' hk aa aI hm hh ak=>?_) fun a'' w'' σ'' aA aL=>hK a'' w'' σ'' (bd.trans aA) aL
    ·rw [X] at hk
     obtain ⟨h3,⟨_,h4⟩ | h4⟩:=aV k p' dd hk aa aI hm I
     ·exact (h3.se aN).step (I5 bj am).1 (bQ G) h4 hq
     ·exfalso
      cases h4
    ·rw [X] at hk
     obtain ⟨h3,_,h4⟩:=bF k p' hk aa aI hm hh ak
     exact (h3.se aN).step h4 hq
   ·have bq:=hex
    simp only [e7,ah G] at hex
    refine h1.Y8 hR hΩ ho bj am hex fun a' w' σ' bd aO=>?_
    refine ih _ _ a' w' σ' aS a0 a3 (by rw [X];exact ci) aO (fun k p' dd hk aa aI hm I=>?_) (fun k p' hk aa aI hm hh ak=>?_) fun a'' w'' σ'' aA aL=>hK a'' w'' σ'' (bd.trans aA) aL
    ·rw [X] at hk
     obtain ⟨h3,h4 | h4⟩:=aV k p' dd hk aa aI hm I
     ·exact absurd h4.1 G
     ·exact (h3.se aN).ami h4 bq
    ·rw [X] at hk
     exact absurd (bF k p' hk aa aI hm hh ak).2.1 G
theorem aE.Pq{nt:Nat}{ops:Array Oper}{Q:Exit→Act→World→Prop}{mks:List Nat}{gs:List cz}{st':St}(hR:nm C.P R)(hΩ:jw C.P Ω)(am:nt≤C.nt)(hl:Kr C.P nt ops mks gs=true)(h:aE C st a w σ)
  (hm:(mks.all (ee C.E.dp st)&&gs.all (n9 C.E.dp st))=true) (he:lB R Ω C.E st gs=some st') (hK:∀ a' w' σ',dJ C w σ w' σ'→aE C st' a' w' σ'→Q .normal a' w'):C.P.follows .mixedOrders=true∧wpAny C.P .any ops Q ops.size (Array.replicate ops.size false) a {w with drawn:=w.drawn+1}:=by
 simp only [Kr,aY] at hl
 obtain ⟨⟨⟨⟨⟨bn,ba⟩,aj⟩,Z⟩,an⟩,aB⟩:=hl
 obtain ⟨hm,a9⟩:=xy.1 hm
 have aM:∀ i o,ops[i]? =some o→∀ e∈ku o,e<i:=by
  grind
 have ae:nQ ops.size (Array.replicate ops.size false)=List.range ops.size:=by
  simp_all [nQ]
 obtain ⟨hlen,_⟩:=GA ba
 have hd:aE C st a {w with drawn:=w.drawn+1} σ:=h.drew
 refine ⟨bn,aE.any hR hΩ am ba aM Z an aB ops.size _ st a _ σ (by simp) (by rw [ae];simp) (fun j o ho hl=>?_) ?_ hd (fun k p dd hk hp G aV I=>?_) (fun k p hk hp G aV hh ak=>?_) fun a' w' σ' hs hc=>hK a' w' σ' (dJ.drew (w:=w) hs) hc⟩
 ·exfalso
  by_cases hj:j<ops.size<;>simp [hj] at hl
 ·grind [q6.text,List.range_eq_range']
 ·have h1:=dz.1 an k (by grind)
  grind [mr.of]
 ·have h1:=dz.1 a9 p (cm hp)
  simp only [n9,aV,xq,uZ] at h1
  intro d
  have h2:=dz.1 h1 hh ak
  have:=nh (p:=fun y=>!kL ⟨C.E.dp,hh⟩ y) rfl _ h2 d
  simpa using this
theorem aE.drawn{nt id:Nat}{ops:Array Oper}{Q:Exit→Act→World→Prop}{mks:List Nat}{gs:List cz}{st':St}(hR:nm C.P R)(hΩ:jw C.P Ω)(am:nt≤C.nt)(hl:Kr C.P nt ops mks gs=true)(h:aE C st a w σ)
  (hm:(mks.all (ee C.E.dp st)&&gs.all (n9 C.E.dp st))=true) (he:lB R Ω C.E st gs=some st') (hK:∀ a' w' σ',dJ C w σ w' σ'→aE C st' a' w' σ'→Q .normal a' w'):(Code.region id ops true).wp C.P Q a w:=by
 obtain ⟨h1,h2⟩:=h.Pq hR hΩ am hl hm he hK
 exact wp_region_any h1 h2
end
end Go.Proofs.YtlmphbbhaeampaaGreat.A
