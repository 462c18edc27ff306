/- Regions whose order is drawn: whatever the order, what the order of the text gives. -/
import Derived.Test.YtlmphbbhaeampaaGreatAbsH
import Derived.Orders
set_option linter.all false
namespace Go.Proofs.YtlmphbbhaeampaaGreat.A
open Go
variable [cj]
structure Se(s s':St):Prop where
 fr:∀ d,az s.fr d=az s'.fr d
 bx:∀ d,aZ s.bx d=aZ s'.bx d
 hp:s.hp=s'.hp
 mem:∀ y,y∈s.fr↔y∈s'.fr
theorem Se.refl(s:St):Se s s:=⟨fun _=>rfl,fun _=>rfl,rfl,fun _=>Iff.rfl⟩
variable {s':St}
theorem Se.symm{s:St}(h:Se s s'):Se s' s:=⟨fun d=>(h.fr d).symm,fun d=>(h.bx d).symm,h.hp.symm,fun y=>(h.mem y).symm⟩
theorem Se.trans{s s'':St}(h:Se s s')(h':Se s' s''):Se s s'':=⟨fun d=>(h.fr d).trans (h'.fr d),fun d=>(h.bx d).trans (h'.bx d),h.hp.trans h'.hp,fun y=>(h.mem y).trans (h'.mem y)⟩
theorem Se.box{s:St}(h:Se s s')(dp:Nat)(k:Key):s.box dp k=s'.box dp k:=by
 simp only [St.box,h.bx,h.hp]
theorem aw.se{C:Cx}{s:St}{a:Act}{w:World}{σ:Sp}(h:aw C s a w σ)(hs:Se s s'):aw C s' a w σ:=
 h.B9 (fun d=>.inr (hs.fr d).symm) (fun k cs hk=>by rw [hs.box];exact hk) (fun _ _ _ h=>by rw [hs.hp];exact h)
def eV{α:Type}(l:List (Nat×α)):List Nat:=l.map (·.1)
theorem pQ(l r:List (Nat×AV))(d:Nat):az (l++r) d=if d∈eV l then az l d else az r d:=by
 induction l with
 | nil=>simp [eV]
 | cons x l ih=>
  grind [az,eV]
theorem AD(l r:List (Nat×List AV))(d:Nat):aZ (l++r) d=if d∈eV l then aZ l d else aZ r d:=by
 induction l with
 | nil=>simp [eV]
 | cons x l ih=>
  grind [aZ,eV]
theorem rn(bx wb:List (Nat×List AV))(d:Nat):aZ (xx bx wb) d=match aZ wb d with
  | some cs=>(aZ bx d).map fun _=>cs
  | none=>aZ bx d:=by
 induction wb with
 | nil=>rfl
 | cons x wb ih=>
  obtain ⟨k,y⟩:=x
  simp only [xx,wD,aZ]
  by_cases h:k=d
  ·subst h
   simp only [aA,ih]
   cases aZ wb k with
   | none=>rfl
   | some cs=>cases aZ bx k<;>rfl
  grind
variable {d:Nat}
theorem tj{l:List (Nat×List AV)}(h:d∉eV l):aZ l d=none:=by
 induction l with
 | nil=>rfl
 | cons x l ih=>
  grind [eV,aZ]
theorem Se.app{s:St}(q:cq)(h:Se s s'):Se (q.app s) (q.app s'):=by
 refine ⟨fun d=>?_,fun d=>?_,?_,fun y=>by simp only [cq.app,eh,h.mem y]⟩
 ·simp only [cq.app,pQ,h.fr]
 ·simp only [cq.app,AD,rn,h.bx]
 ·simp only [cq.app,h.hp]
structure Vf(q q':cq):Prop where
 fr:∀ d,d∈eV q.fr→d∉eV q'.fr
 nn:∀ d,d∈eV q.nb→d∉eV q'.nb
 nw:∀ d,d∈eV q.nb→d∉eV q'.wb
 wn:∀ d,d∈eV q.wb→d∉eV q'.nb
 ww:∀ d,d∈eV q.wb→d∉eV q'.wb
 hp:q.hp=none∨q'.hp=none
variable {q':cq}
theorem TD{q:cq}(h:Vf q q')(s:St):Se (q.app (q'.app s)) (q'.app (q.app s)):=by
 refine ⟨fun d=>?_,fun d=>?_,?_,by grind [cq.app]⟩
 ·simp only [cq.app,pQ]
  by_cases h1:d∈eV q.fr
  ·simp [h1,h.fr d h1]
  ·simp [h1]
 ·simp only [cq.app,AD,rn]
  by_cases h1:d∈eV q.nb
  ·have h2:=tj (h.nw d h1)
   simp [h1,h.nn d h1,h2]
  ·by_cases h3:d∈eV q'.nb
   ·have h4:aZ q.wb d=none:=tj fun h5=>h.wn d h5 h3
    simp [h1,h3,h4]
   ·simp only [ab h1,ab h3]
    by_cases h5:d∈eV q.wb
    ·have:=tj (h.ww d h5)
     rw [this]
    ·rw [tj h5]
 ·simp only [cq.app]
  rcases h.hp with e | e<;>rw [e]<;>cases q.hp<;>cases q'.hp<;>first | rfl | cases e
def u7:pC→Bool
 | .st _ _ _=>true
 | _=>false
def mY(p:bR):Bool:=match p.p.o with
 | .ap _ _ _ _ _=>p.cs.length==2
 | _=>false
def mz(p:bR):Bool:=u7 p.p.o||mY p
def FZ:pC→Bool
 | .al _=>true
 | .ck _ _=>true
 | _=>false
def AE(d:Option Nat):List Nat:=match d with
 | some d=>[d]
 | none=>[]
def gsl(p:bR):List Nat:=match p.p.g with
 | some (j,_)=>[j]
 | none=>[]
def J2(p:bR):List Nat:=AE p.p.d++p.cs
def rdS(p:bR):List Nat:=gsl p++p.vw
def OF(p:bR):List Nat:=(if FZ p.p.o=true then AE p.p.d else [])++(if mz p=true then p.vb else [])
def DW(l m:List Nat):Bool:=l.all fun x=>!m.contains x
def zW(p q:bR):Bool:=DW (J2 p) (rdS q)&&DW (J2 q) (rdS p)&&DW (J2 p) (J2 q)&&DW (OF p) q.vb&&DW (OF q) p.vb&&DW (OF p) (OF q)&&!((mz p||mz q)&&p.vh&&q.vh)
theorem qN{l m:List Nat}(h:DW l m=true){x:Nat}(hx:x∈l):x∉m:=by
 have:=cI.1 h x hx
 simpa using this
theorem DX(bx:List (Nat×List AV))(ks:List Nat)(h:d∈eV (dF bx ks)):d∈ks:=by
 induction ks with
 | nil=>simp [dF,eV] at h
 | cons k ks ih=>
  grind [dF,eV]
section
variable {R:Rec}{Ω:dK}{E:Env}
structure Small(p:bR)(q:cq):Prop where
 fr:∀ d,d∈eV q.fr→d∈J2 p
 nb:∀ d,d∈eV q.nb→FZ p.p.o=true∧d∈AE p.p.d
 wb:∀ d,d∈eV q.wb→mz p=true∧d∈p.vb
 hp:q.hp≠none→mz p=true∧p.vh=true
theorem Cf{p:bR}{fr:List (Nat×AV)}(h:∀ d,d∈eV fr→d∈J2 p):Small p ⟨fr,[],[],none⟩:=
 ⟨h,fun d hd=>by simp [eV] at hd,fun d hd=>by simp [eV] at hd,fun h=>absurd rfl h⟩
theorem F0(d:Option Nat)(x:AV):eV (ke d x)=AE d:=by cases d<;>rfl
theorem LR(p:bR)(r:AV×St):Small p (effect p r):=by
 have ak:Small p ⟨ke p.p.d (fg p.p.fz r.1)++p.cs.map (fun m=>(m,.u)),[],[],none⟩:=Cf fun d hd=>by
  simp only [eV,dI,List.map_map] at hd
  rcases eh.1 hd with hd | hd
  ·have:d∈eV (ke p.p.d (fg p.p.fz r.1)):=hd
   rw [F0] at this
   exact o9 _ this
  ·obtain ⟨m,hm,rfl⟩:=iG.1 hd
   exact qF _ hm
 unfold effect
 split
 ·rename_i zs ho
  split
  ·rename_i dd hd
   refine ⟨fun d h=>?_,fun d h=>⟨by rw [ho];rfl,?_⟩,fun d h=>by simp [eV] at h,fun h=>absurd rfl h⟩
   ·grind [eV,J2,AE]
   grind [eV,AE]
  grind [Cf,eV]
 ·rename_i ho
  split
  ·rename_i dd hd
   refine ⟨fun d h=>?_,fun d h=>⟨by rw [ho];rfl,?_⟩,fun d h=>by simp [eV] at h,fun h=>absurd rfl h⟩
   ·grind [eV,J2,AE]
   grind [eV,AE]
  grind [Cf,eV]
 ·rename_i ho
  refine ⟨fun d h=>?_,fun d h=>by simp [eV] at h,fun d h=>⟨by simp [mz,ho,u7],DX _ _ h⟩,fun h=>⟨by simp [mz,ho,u7],?_⟩⟩
  ·simp only [eV,List.map_map] at h
   obtain ⟨m,hm,rfl⟩:=iG.1 h
   exact qF _ hm
  by_cases hv:p.vh=true
  ·exact hv
  ·simp [hv] at h
 ·rename_i ho
  by_cases h2:(p.cs.length==2)=true
  ·have hw:mz p=true:=by grind [mz,mY]
   rw [af h2]
   refine ⟨ak.fr,fun d h=>by simp [eV] at h,by grind [DX],fun h=>⟨hw,?_⟩⟩
   grind
  grind
 ·exact ak
theorem FD{p:bR}{s:St}{q:cq}(h:eG R Ω E p s=some q):Small p q:=by
 have J:∀ v q,jL R Ω E p v=some q→Small p q:=by
  grind [jL,Option.bind_eq_some_iff,LR]
 unfold eG at h
 split at h
 ·exact J _ _ h
 ·obtain ⟨y,_,h2⟩:=aj.1 h
  split at h2
  ·grind
  ·obtain rfl:=ah h2
   exact Cf fun d hd=>by rw [F0] at hd;exact o9 _ hd
theorem NM{fr fr':List (Nat×AV)}{ks:List Nat}(h:∀ d∈ks,az fr d=az fr' d):eD fr ks=eD fr' ks:=
 sK fun d hd=>by rw [h d hd]
theorem NN{bx bx':List (Nat×List AV)}{ks:List Nat}(h:∀ d∈ks,aZ bx d=aZ bx' d):dF bx ks=dF bx' ks:=by
 induction ks with
 | nil=>rfl
 | cons k ks ih=>
  grind [dF]
structure PQ(p:bR)(s s':St):Prop where
 fr:∀ d∈rdS p,az s.fr d=az s'.fr d
 bx:∀ d∈p.vb,aZ s.bx d=aZ s'.bx d
 hp:p.vh=true→s.hp=s'.hp
theorem PQ.patch{p:bR}{s:St}(h:PQ p s s'):eG R Ω E p s=eG R Ω E p s':=by
 have hv:view p s=view p s':=by
  unfold view
  rw [NM fun d hd=>h.fr d (qF _ hd),NN h.bx]
  by_cases hh:p.vh=true
  ·simp only [hh,aA,h.hp hh]
  grind
 unfold eG
 rw [hv]
 split
 ·rfl
 ·rename_i j want hg
  rw [h.fr j (o9 _ (by unfold gsl;rw [hg];simp))]
theorem Se.ah0{p:bR}{s:St}(h:Se s s'):PQ p s s':=⟨fun d _=>h.fr d,fun d _=>h.bx d,fun _=>h.hp⟩
theorem LS{p p':bR}{q:cq}{s:St}(hq:Small p q)(hc:zW p p'=true):PQ p' (q.app s) s:=by
 simp only [zW,aL,pa] at hc
 obtain ⟨⟨⟨⟨⟨⟨c1,c2⟩,c3⟩,c4⟩,c5⟩,c6⟩,c7⟩:=hc
 refine ⟨fun d hd=>?_,fun d hd=>?_,fun hh=>?_⟩
 ·simp only [cq.app,pQ]
  rw [ab]
  intro hm
  exact qN c1 (hq.fr d hm) hd
 ·simp only [cq.app,AD,rn]
  have bS:d∉eV q.nb:=fun hm=>by
   obtain ⟨h1,h2⟩:=hq.nb d hm
   exact qN c4 (o9 _ (by grind)) hd
  have cM:d∉eV q.wb:=fun hm=>by
   obtain ⟨h1,h2⟩:=hq.wb d hm
   exact qN c4 (qF _ (by grind)) hd
  grind [tj]
 ·simp only [cq.app]
  cases hp:q.hp with
  | none=>rfl
  | some x=>
   obtain ⟨h1,h2⟩:=hq.hp (by rw [hp];simp)
   grind
theorem TE{p p':bR}{q:cq}(hq:Small p q)(bM:Small p' q')(hc:zW p p'=true):Vf q q':=by
 simp only [zW,aL,pa] at hc
 obtain ⟨⟨⟨⟨⟨⟨c1,c2⟩,c3⟩,c4⟩,c5⟩,c6⟩,c7⟩:=hc
 have m1:∀ {p:bR}{q:cq}{d},Small p q→d∈eV q.nb→d∈OF p:=fun hq h=>by
  obtain ⟨h1,h2⟩:=hq.nb _ h
  exact o9 _ (by grind)
 have m2:∀ {p:bR}{q:cq}{d},Small p q→d∈eV q.wb→d∈OF p:=fun hq h=>by
  obtain ⟨h1,h2⟩:=hq.wb _ h
  exact qF _ (by grind)
 refine ⟨fun d h h'=>qN c3 (hq.fr d h) (bM.fr d h'),by grind [qN],by grind [qN],by grind [qN],by grind [qN],?_⟩
 cases h1:q.hp with
 | none=>exact .inl rfl
 | some x=>
  cases h2:q'.hp with
  | none=>exact .inr rfl
  | some y=>
   obtain ⟨h3,h4⟩:=hq.hp (by rw [h1];simp)
   obtain ⟨h5,h6⟩:=bM.hp (by rw [h2];simp)
   grind
def pV(R:Rec)(Ω:dK)(E:Env)(gs:List bR):List Nat→St→St→Prop
 | [],s,t=>Se s t
 | i::π,s,t=>∃ p s1 s2,gs[i]? =some p∧Se s s1∧eH R Ω E s1 p=some s2∧pV R Ω E gs π s2 t
variable {gs:List bR}
theorem pV.se{π:List Nat}{s t:St}(h:pV R Ω E gs π s' t)(hs:Se s s'):pV R Ω E gs π s t:=by
 cases π with
 | nil=>exact Se.trans hs h
 | cons i π=>
  obtain ⟨p,s1,s2,h1,h2,h3,h4⟩:=h
  exact ⟨p,s1,s2,h1,hs.trans h2,h3,h4⟩
theorem pV.text:∀ (ps:List bR)(i:Nat)(s t:St),gs.drop i=ps→kM R Ω E s ps=some t→pV R Ω E gs (List.range' i ps.length) s t
 | [],i,s,t,_,he=>by
  obtain rfl:=ah he
  exact Se.refl _
 | p::ps,i,s,t,hi,he=>by
  obtain ⟨s2,h1,h2⟩:=aj.1 he
  rw [eM,Dt]
  refine ⟨p,s,s2,?_,Se.refl _,h1,pV.text ps (i+1) s2 t ?_ h2⟩
  ·have:(gs.drop i)[0]? =some p:=by rw [hi];rfl
   simpa using this
  ·rw [←List.drop_drop,hi];rfl
def yc(p q:bR):Bool:=false
theorem Se.ev{s:St}(h:Se s s')(xs:List bz):xs.map s.ev=xs.map s'.ev:=by
 apply sK
 intro x _
 cases x with
 | c z=>rfl
 | t n=>exact h.fr n
theorem Se.put{s:St}(h:Se s s')(d:Option Nat)(x:AV):Se (put s d x) (A.put s' d x):=by
 cases d with
 | none=>exact h
 | some d=>exact ⟨fun n=>by simp only [A.put,St.cS,az];split<;>first | rfl | exact h.fr n,h.bx,h.hp,fun y=>by simp only [A.put,St.cS,dh,h.mem y]⟩
section
variable {p q:bR}{f:FuncId}{args:List bz}{sl dl ow:List Nat}{qq:cq}{s:St}
end
def PR(gs:List bR)(i j:Nat):Prop:=∃ p q,gs[i]? =some p∧gs[j]? =some q∧((p.lt=true∧q.lt=true∧zW p q=true)∨yc p q=true∨yc q p=true)
theorem pV.swap{i j:Nat}{π:List Nat}{s t:St}(hf:PR gs i j)(h:pV R Ω E gs (i::j::π) s t):pV R Ω E gs (j::i::π) s t:=by
 obtain ⟨p,q,hp,hq,a7⟩:=hf
 obtain ⟨p',s1,s2,h1,h2,h3,q',s3,s4,h4,h5,h6,h7⟩:=h
 obtain rfl:p=p':=by grind
 obtain rfl:q=q':=by grind
 rcases a7 with ⟨b8,b6,hc⟩ | hc | hc
 rotate_left
 ·exact absurd hc (by simp [yc])
 ·exact absurd hc (by simp [yc])
 simp only [eH,af b8] at h3
 simp only [eH,af b6] at h6
 obtain ⟨pp,bO,he⟩:=aj.1 h3
 obtain rfl:=ah he
 obtain ⟨qq,H,bX⟩:=aj.1 h6
 obtain rfl:=ah bX
 have aQ:zW q p=true:=by
  grind [zW,DW]
 have sp:=FD bO
 have sq:=FD H
 have e1:eG R Ω E q s1=some qq:=by
  rw [←H]
  exact ((LS sp hc).patch.symm.trans (Se.ah0 h5).patch)
 have e2:eG R Ω E p (qq.app s1)=some pp:=by
  rw [←bO]
  exact (LS sq aQ).patch
 refine ⟨q,s1,qq.app s1,hq,h2,by grind [eH],p,qq.app s1,pp.app (qq.app s1),hp,Se.refl _,by grind [eH],?_⟩
 exact h7.se ((TD (TE sp sq hc) s1).trans (h5.app qq))
theorem pV.front{i:Nat}{B:List Nat}{t:St} : ∀ (A:List Nat)(s:St),(∀ a∈A,PR gs a i)→pV R Ω E gs (A++i::B) s t→pV R Ω E gs (i::(A++B)) s t
 | [],_,_,h=>h
 | a::A,s,hf,h=>by
  obtain ⟨p,s1,s2,h1,h2,h3,h4⟩:=h
  exact pV.swap (hf a (by simp)) ⟨p,s1,s2,h1,h2,h3,pV.front A s2 (fun b hb=>hf b (by simp [hb])) h4⟩
end
variable [cj]
def LU:pC→Bool
 | .al _=>true
 | .ck _ _=>true
 | .bs _ _ _=>true
 | .ms _ _ _ _ _=>true
 | .ap _ _ _ _ _=>true
 | _=>false
def fQ(p:bR):Bool:=
 match p.p.o with
 | .bx _=>false
 | .c2 _ _=>false
 | .d2 _ _=>false
 | .cn _ _=>false
 | .cr _ _ _=>false
 | .bg _ _=>false
 | .bxg _=>false
 | .st _ _ y=>p.p.d==none&&(p.cs==[]||match y with
  | .t m=>p.cs==[m]
  | .c _=>false)
 | .ap _ _ _ x _=>match x with
  | .t m=>p.cs==[m]||p.cs==[m,m]
  | .c _=>p.cs==[]
 | _=>p.cs==[]
structure lO(dp:Nat)(s:St)(h:Nat):Prop where
 fr:∀ d,(az s.fr d).cU ⟨dp,h⟩=true∧(az s.fr d).fG (.s h)=false
 cs:∀ d cs,aZ s.bx d=some cs→∀ c∈cs,c.cU ⟨dp,h⟩=true
variable {dp h:Nat}
theorem lO.of{s:St}(hf:jg dp s h=true):lO dp s h:=by
 simp only [jg,aL] at hf
 refine ⟨fun d=>?_,fun d cs hb c hc=>jZ (lx _ hf.2 d cs hb) c hc⟩
 have:=lu (p:=fun y=>y.cU ⟨dp,h⟩&&!y.fG (.s h)) rfl _ hf.1.2 d
 simpa using this
theorem lO.se{s:St}(hf:lO dp s h)(hs:Se s s'):lO dp s' h:=
 ⟨fun d=>by rw [←hs.fr];exact hf.fr d,fun d cs hb=>hf.cs d cs (by rw [hs.bx];exact hb)⟩
def rp(dp:Nat)(s:St)(h:Nat):Prop:=∀ d,jF ⟨dp,h⟩ (az s.fr d)=false
theorem rp.se{s:St}(hf:rp dp s h)(hs:Se s s'):rp dp s' h:=fun d=>by rw [←hs.fr];exact hf d
variable {k:Key}{x:AV}
theorem TF{off:Nat}(h:x.fG (.c k off)=true):jF k x=true:=by
 cases x with
 | r pl=>grind [AV.fG,jF]
 | v pl lo len=>grind [AV.fG,jF]
 | q pl i sz off'=>grind [AV.fG,jF]
 | _=>cases h
section
variable {C:Cx}{s:St}{a:Act}{w:World}{σ:Sp}{o:Oper}{R:Rec}{Ω:dK}
theorem IJ(p:bR)(s:St)(dp:Nat):Le dp (view p s) s:=by
 refine ⟨Hl s.fr p.vw,fun k cs hk=>?_⟩
 by_cases hd:k.dp=dp
 ·grind [St.box,view,dG]
 grind [St.box,view]
theorem Hn{p:bR}{r:AV×St}(h1:FZ p.p.o=false)(h2:mz p=false):effect p r=⟨ke p.p.d (fg p.p.fz r.1)++p.cs.map (fun m=>(m,.u)),[],[],none⟩:=by
 unfold effect
 split
 ·rename_i ho;rw [ho] at h1;cases h1
 ·rename_i ho;rw [ho] at h1;cases h1
 ·grind [mz,u7]
 ·grind [mz,mY]
 ·rfl
theorem RP(d:Option Nat)(x:AV)(s:St)(d':Nat):az (ke d x++s.fr) d'=az (A.put s d x).fr d':=by cases d<;>rfl
theorem oV(cs:List Nat)(fr:List (Nat×AV))(d:Nat):az (cs.map (fun m=>(m,AV.u))++fr) d=if d∈cs then .u else az fr d:=by
 induction cs with
 | nil=>simp
 | cons c cs ih=>
  grind [az]
theorem finish{p:bR}{q:cq}{K:Act→World→Prop}{Q:Exit→Act→World→Prop}(U:o.dst=p.p.d)(hd:∀ dd,p.p.d=some dd→dd<C.nt)(Y:ei C o p.p.d a w σ s' x)(a4:∀ d',az (q.app s).fr d'= .u∨az (q.app s).fr d'=az (A.put s' p.p.d (fg p.p.fz x)).fr d')(bE:∀ k cs,(q.app s).box C.E.dp k=some cs→s'.box C.E.dp k=some cs)(co:∀ k cs,k.dp≠C.E.dp→(q.app s).hp k=some cs→s'.hp k=some cs)(hK:∀ a' w' σ',cX C w σ w' σ'→aw C (q.app s) a' w' σ'→K a' w'):o.wp C.P a w K Q:=by
 refine Y _ _ fun cv w' σ' b9=>?_
 obtain ⟨σ'',hs,hc⟩:=b9.acR hd p.p.fz
 rw [U]
 refine hK _ _ _ hs (hc.B9 a4 (fun k cs hk=>?_) (fun k cs hk hc=>?_))
 ·have:=bE k cs hk
  cases p.p.d<;>exact this
 ·have:=co k cs hk hc
  cases p.p.d<;>exact this
theorem F1{p:bR}{s:St}{cs nw:List AV}(fr:List (Nat×AV))(hb:(view p s).box dp k=some cs):
  (∀ k' cs',((⟨fr,[],dF ((view p s).aW dp k nw).bx p.vb,if p.vh=true then some ((view p s).aW dp k nw).hp else none⟩:cq).app s).box dp k'=some cs'→(s.aW dp k nw).box dp k'=some cs')∧
  (∀ k' cs',k'.dp≠dp→((⟨fr,[],dF ((view p s).aW dp k nw).bx p.vb,if p.vh=true then some ((view p s).aW dp k nw).hp else none⟩:cq).app s).hp k'=some cs'→(s.aW dp k nw).hp k'=some cs'):=by
 have aR:=(IJ p s dp).bx k cs hb
 refine ⟨fun k' cs' av=>?_,fun k' cs' ac av=>?_⟩
 ·rw [jj aR]
  by_cases ai:k'.dp=dp
  ·simp only [St.box,ai,aA,cq.app,eN,rn] at av
   by_cases ac:k.dp=dp
   ·simp only [St.aW,ac,aA] at av
    by_cases a2:k'=k
    ·subst a2
     rw [af rfl]
     have bI:aZ (view p s).bx k'.d=some cs:=by grind [St.box]
     have ba:k'.d∈p.vb:=by
      have:∀ ks,aZ (dF s.bx ks) k'.d=some cs→k'.d∈ks:=by
       grind [DX,tj]
      exact this p.vb bI
     have bW:∀ (bx:List (Nat×List AV))(ks:List Nat)(d:Nat),d∈ks→aZ (dF bx ks) d=aZ bx d:=by
      intro bx ks d
      induction ks with
      | nil=>intro h;cases h
      | cons c ks ih=>
       intro hm
       simp only [dF]
       cases cC:aZ bx c with
       | none=>
        simp only
        rcases dh.1 hm with rfl | hm
        ·cases a9:aZ (dF bx ks) d with
         | none=>exact cC.symm
         | some z=>grind [dG]
        ·exact ih hm
       | some z=>
        grind [aZ]
     grind [wD,St.box]
    ·rw [ab a2]
     have cc:k'.d≠k.d:=fun e=>a2 (by cases k;cases k';grind)
     simp only [St.box,ai,aA]
     cases hq:aZ (dF (mS (view p s).bx k.d nw) p.vb) k'.d with
     | none=>grind
     | some z=>
      rw [hq] at av
      have h1:=dG hq
      rw [wD,ab cc] at h1
      have h2:aZ s.bx k'.d=some z:=dG h1
      grind
   grind [St.aW,St.box,view,dG]
  ·simp only [St.box,ab ai,cq.app] at av ⊢
   by_cases ac:k.dp=dp
   ·have a2:k'≠k:=fun e=>ai (e▸ac)
    rw [ab a2]
    simp only [St.aW,ac,aA] at av
    by_cases hv:p.vh=true
    ·simp_all [view]
    simp_all
   ·by_cases hv:p.vh=true
    ·simp_all [St.aW,view,aq]
    grind [St.box,view]
 ·by_cases cf:k.dp=dp
  ·grind [St.aW,cq.app,view]
  grind [St.aW,cq.app,view,St.box]
theorem aw.VU{p:bR}{r:AV×St}{K:Act→World→Prop}{Q:Exit→Act→World→Prop}(hR:my C.P R)(hΩ:iT C.P Ω)(h:aw C s a w σ)(N:bN C.P p.p.o o.op=true)(U:o.dst=p.p.d)(hd:∀ dd,p.p.d=some dd→dd<C.nt)
  (hk:fQ p=true) (T:LU p.p.o=true→∀ dd,p.p.d=some dd→lO C.E.dp s dd) (G:me (view p s) p.p.o=true) (cd:gj C.E.dp p (view p s)=true) (bc:uW p.p.o p.cs=true→∀ h∈p.vb,rp C.E.dp s h) (hr:execOp R Ω C.E (view p s) p.p.d p.p.o=some r)
  (hK:∀ a' w' σ',cX C w σ w' σ'→aw C ((effect p r).app s) a' w' σ'→K a' w'):o.wp C.P a w K Q:=by
 have hle:=IJ p s C.E.dp
 have wQ:FZ p.p.o=false→mz p=false→∀ s',ei C o p.p.d a w σ s' r.1→(∀ d',d'∈p.cs∨p.p.d=some d'∨az s.fr d'=az s'.fr d')→(∀ k,s'.box C.E.dp k=s.box C.E.dp k)→s'.hp=s.hp→o.wp C.P a w K Q:=by
  intro h1 h2 s' he hf hb hh
  have bw:=Hn (r:=r) h1 h2
  rw [bw] at hK
  refine finish U hd he (fun d'=>?_) (fun k cs hk=>?_) (fun k cs _ hk=>?_) hK
  ·simp only [cq.app,o7]
   rw [pQ,F0]
   cases I:p.p.d with
   | none=>
    rw [ab (by simp [AE]),oV]
    by_cases hm:d'∈p.cs
    ·grind
    ·rw [ab hm]
     rcases hf d' with h3 | h3 | h3
     ·grind
     ·grind
     ·exact .inr h3
   | some dd=>
    grind [AE,ke,az,A.put,St.cS,oV]
  ·rw [hb];exact hk
  ·rw [hh];exact hk
 have plain:FZ p.p.o=false→mz p=false→∀ s',execOp R Ω C.E s p.p.d p.p.o=some (r.1,s')→(∀ d',d'∈p.cs∨p.p.d=some d'∨az s.fr d'=az s'.fr d')→(∀ k,s'.box C.E.dp k=s.box C.E.dp k)→s'.hp=s.hp→o.wp C.P a w K Q:=
  fun h1 h2 s' he hf hb hh=>wQ h1 h2 s' (DT hR hΩ p.p.o h N he) hf hb hh
 have ax:∀ {dd},p.p.d=some dd→lO C.E.dp s dd→∀ d',d'∈p.cs∨p.p.d=some d'∨az s.fr d'=az (s.bC (.s dd)).fr d':=by
  intro dd _ hf d'
  refine .inr (.inr ?_)
  simp only [St.bC,oT,(hf.fr d').2,dq,cF]
 cases F:p.p.o with
 | bx x=>grind [fQ]
 | c2 f args=>grind [fQ]
 | d2 x args=>grind [fQ]
 | cn f args=>grind [fQ]
 | bg zs fs=>grind [fQ]
 | bxg x=>grind [fQ]
 | c3 f args=>
  rw [F] at hr N
  obtain ⟨_,h2⟩:=OB (d:=p.p.d) hR.h h (fun x hx=>hle.ev rfl hx) hle.bx N hr
  exact wQ (by rw [F];rfl) (by simp [mz,mY,F,u7]) s h2 (fun d'=>.inr (.inr rfl)) (fun _=>rfl) rfl
 | d3 x args=>
  rw [F] at hr N
  obtain ⟨_,h2⟩:=OC (d:=p.p.d) hR.h h (fun x hx=>hle.ev rfl hx) hle.bx N hr
  exact wQ (by rw [F];rfl) (by simp [mz,mY,F,u7]) s h2 (fun d'=>.inr (.inr rfl)) (fun _=>rfl) rfl
 | cr t f args=>grind [fQ]
 | as x=>
  rw [F] at hr G N
  refine plain (by rw [F];rfl) (by simp [mz,mY,F,u7]) s ?_ (fun d'=>.inr (.inr rfl)) (fun _=>rfl) rfl
  rw [F]
  have hc:((view p s).ev x).copy=true:=G
  have hx:=hle.ev rfl (wF hc)
  cases x with
  | c z=>
   grind [execOp]
  | t n=>
   have b2:az s.fr n=az (view p s).fr n:=hx
   simp only [execOp] at hr ⊢
   have aQ:(az (view p s).fr n).copy=true:=hc
   grind [AV.copy]
 | bs t sz es=>
  rw [F] at hr G N
  simp only [execOp] at hr
  obtain ⟨dd,I,D⟩:=aj.1 hr
  have hf:=T (by rw [F];rfl) dd I
  split at D
  ·rename_i cG
   cases D
   refine plain (by rw [F];rfl) (by simp [mz,mY,F,u7]) (s.bC (.s dd)) ?_ (ax I hf) (fun _=>rfl) rfl
   rw [F]
   have hm:=hle.map (xs:=es) (by grind [List.mem_map_of_mem,RO])
   grind [execOp]
  ·cases D
 | ms t sz by_ z n=>
  rw [F] at hr G N
  simp only [execOp] at hr
  obtain ⟨dd,I,D⟩:=aj.1 hr
  obtain ⟨m,hm,O⟩:=aj.1 D
  have hf:=T (by rw [F];rfl) dd I
  split at O
  ·rename_i hc
   cases O
   refine plain (by rw [F];rfl) (by simp [mz,mY,F,u7]) (s.bC (.s dd)) ?_ (ax I hf) (fun _=>rfl) rfl
   rw [F]
   simp only [execOp,I,ad,hle.nat hm,af hc]
  ·cases O
 | ap t sz by_ x y=>
  rw [F] at hr G N
  simp only [execOp] at hr
  obtain ⟨dd,I,D⟩:=aj.1 hr
  obtain ⟨ys,aS,O⟩:=aj.1 D
  obtain ⟨qq,H,aH⟩:=aj.1 O
  have hf:=T (by rw [F];rfl) dd I
  split at aH
  ·rename_i hc
   cases aH
   have a8:(view p s).ev y≠.u:=by intro e;rw [e] at aS;cases aS
   by_cases b5:Iw ((view p s).ev x)=true
   ·
    have h2:(p.cs.length==2)=true:=by
     grind [gj]
    cases x with
    | c z=>
     grind [A.consume,St.ev,Iw]
    | t m=>
     have ay:p.cs=[m,m]:=by
      grind [fQ]
     have hx:∃ k off,az (view p s).fr m= .r (.c k off):=by
      have h3:Iw (az (view p s).fr m)=true:=b5
      generalize az (view p s).fr m=z at h3
      cases z<;>first | (cases h3;done) | skip
      rename_i pl
      cases pl with
      | s d=>cases h3
      | c k off=>grind
     obtain ⟨k,off,hx⟩:=hx
     unfold A.consume at H
     simp only [hx] at H
     split at H
     ·rename_i a0
      obtain ⟨rw1,aF,W⟩:=aj.1 H
      split at W
      ·rename_i bf
       obtain ⟨st',S,a9⟩:=aj.1 W
       cases a9
       simp only [St.putAt] at S
       split at S
       ·rename_i cs0 hb
        cases S
        have aR:=hle.bx k cs0 hb
        have aU:s.rowAt C.E.dp (.c k off)=some rw1:=by
         grind [St.rowAt]
        have aM:A.consume C.E s t (.t m)=some (rw1.2,s.aW C.E.dp k (cs0.set off .u)):=by
         simp only [A.consume,hle.slot hx (by simp),af a0,aU,ad,af bf,St.putAt,aR]
        have hex:execOp R Ω C.E s p.p.d p.p.o=some (.o t (rw1.2++ys.2),(s.aW C.E.dp k (cs0.set off .u)).bC (.s dd)):=by
         rw [F]
         simp only [execOp,I,ad,hle.ev (x:=y) rfl a8,hle.elems aS,aM,af hc]
        have Y:=DT hR hΩ p.p.o h (by rw [F];exact N) hex
        have he:∀ r:AV×St,effect p r=⟨ke p.p.d (fg p.p.fz r.1)++p.cs.map (fun m=>(m,.u)),[],dF r.2.bx p.vb,if p.vh=true then some r.2.hp else none⟩:=by
         grind [effect]
        rw [he] at hK
        obtain ⟨sb1,sb2⟩:=F1 (nw:=cs0.set off .u) (ke p.p.d (fg p.p.fz (.o t (rw1.2++ys.2)))++p.cs.map (fun m=>(m,AV.u))) hb
        refine finish U hd Y (fun d'=>?_) sb1 sb2 hK
        grind [cq.app,ke,az,A.put,St.cS,oV,St.bC,oU]
       ·cases S
      ·cases W
     ·cases H
   have ca:mz p=false:=by
    grind [gj,mz,mY,u7]
   have aM:∃ s1:St,A.consume C.E s t x=some (qq.1,s1)∧(∀ d',d'∈p.cs∨az s.fr d'=az s1.fr d')∧(∀ k,s1.box C.E.dp k=s.box C.E.dp k)∧s1.hp=s.hp∧(∀ d',(az s1.fr d').fG (.s dd)=false):=by
    unfold A.consume at H
    split at H
    ·cases H
     exact ⟨s,rfl,fun _=>.inr rfl,fun _=>rfl,rfl,fun d'=>(hf.fr d').2⟩
    ·cases H
    ·rename_i m
     have ay:m∈p.cs:=by
      grind [fQ]
     split at H
     ·rename_i hx
      cases H
      refine ⟨s,?_,fun _=>.inr rfl,fun _=>rfl,rfl,fun d'=>(hf.fr d').2⟩
      simp only [A.consume,hle.slot hx (by simp)]
     ·rename_i t' es hx
      split at H
      ·rename_i bf
       cases H
       refine ⟨s.cS m .u,?_,fun d'=>?_,fun _=>rfl,rfl,fun d'=>?_⟩
       ·simp only [A.consume,hle.slot hx (by simp),af bf]
       ·grind [ma]
       ·rw [ma]
        split
        ·rfl
        ·exact (hf.fr d').2
      ·cases H
     ·grind [me,St.ev,Iw]
     ·grind [me,St.ev]
     ·cases H
   obtain ⟨s1,h1,h2,h3,h4,h5⟩:=aM
   refine plain (by rw [F];rfl) ca (s1.bC (.s dd)) ?_ (fun d'=>?_) (fun k=>h3 k) h4
   ·rw [F]
    simp only [execOp,I,ad,hle.ev (x:=y) rfl a8,hle.elems aS,h1,af hc]
   grind [St.bC,oT]
  ·cases aH
 | al zs=>
  rw [F] at hr G N
  simp only [execOp] at hr
  obtain ⟨dd,I,D⟩:=aj.1 hr
  have hf:=T (by rw [F];rfl) dd I
  split at D
  ·rename_i cQ
   have bA:dd<1000000:=by grind [jK]
   cases D
   have he:effect p (.p ⟨C.E.dp,dd⟩ 0,{(view p s) with bx:=(dd,zs)::(view p s).bx})=⟨[(dd,.p ⟨C.E.dp,dd⟩ 0)],[(dd,zs)],[],none⟩:=by
    grind [effect]
   rw [he] at hK
   refine finish (s:=s) U hd (Oy (d:=p.p.d) h bA N I (fun d'=>(hf.fr d').1) (fun d' cs' hb c hc=>hf.cs d' cs' hb c hc)) (fun d'=>.inr ?_) (fun k cs hk=>?_) (fun k cs _ hk=>?_) hK
   ·rw [I]
    have:fg p.p.fz (.p ⟨C.E.dp,dd⟩ 0)= .p ⟨C.E.dp,dd⟩ 0:=by cases p.p.fz<;>rfl
    rw [this]
    rfl
   ·simp_all [St.box,cq.app,xx]
   ·exact hk
  ·cases D
 | ck f args=>
  rw [F] at hr G N
  simp only [execOp] at hr
  obtain ⟨dd,I,D⟩:=aj.1 hr
  have hf:=T (by rw [F];rfl) dd I
  unfold AZ at D
  split at D
  ·rename_i hp
   obtain ⟨⟨q,aa⟩,hq,O⟩:=aj.1 D
   cases q with
   | ret x=>cases O
   | row _ _=>cases O
   | sg _ _ _ _ _ _=>cases O
   | new cs=>?_
   simp only at O
   split at O
   ·rename_i bQ
    have hm:=hle.map (xs:=args) fun x hx=>RO ((by grind [fp]))
    have bA:dd<1000000:=by grind [su,jK]
    cases O
    have he:effect p (.p ⟨C.E.dp,dd⟩ 0,{(view p s) with bx:=(dd,cs)::(view p s).bx})=⟨[(dd,.p ⟨C.E.dp,dd⟩ 0)],[(dd,cs)],[],none⟩:=by
     grind [effect,aZ]
    rw [he] at hK
    refine finish (s:=s) U hd (OD (d:=p.p.d) hR.h h N (by rw [hm];exact hp) (by rw [hm];exact hq) bA (fun d'=>(hf.fr d').1) (fun d' cs' hb c hc=>hf.cs d' cs' hb c hc)) (fun d'=>.inr ?_) (fun k cs hk=>?_) (fun k cs _ hk=>?_) hK
    ·rw [I]
     have:fg p.p.fz (.p ⟨C.E.dp,dd⟩ 0)= .p ⟨C.E.dp,dd⟩ 0:=by cases p.p.fz<;>rfl
     rw [this]
     rfl
    ·simp_all [St.box,cq.app,xx]
    ·exact hk
   ·cases O
  ·cases D
 | st n x y=>
  rw [F] at hr G N
  have cB:p.p.d=none:=by
   grind [fQ]
  simp only [me,aL,zF] at G
  obtain ⟨aC,b1⟩:=G
  have a8:(view p s).ev y≠.u:=by
   intro e;rw [e] at aC;rcases aC with h | h<;>cases h
  have hy:=hle.ev rfl a8
  have a5:∀ r:AV×St,effect p r=⟨p.cs.map (fun m=>(m,.u)),[],dF r.2.bx p.vb,if p.vh=true then some r.2.hp else none⟩:=by
   grind [effect]
  simp only [execOp] at hr
  split at hr
  ·rename_i k off hx
   split at hr
   ·rename_i hm
    obtain ⟨cs,hb,D⟩:=aj.1 hr
    have aR:=hle.bx k cs hb
    split at D
    ·rename_i t' es aB
     have aF:yg ((view p s).ev y)=true:=by rw [aB];rfl
     have a1:=cd
     simp only [gj,F,aF,hx,wg,uK,aL,eg,dH] at a1
     obtain ⟨⟨ac,bI⟩,ay⟩:=a1
     cases y with
     | c z=>cases ay
     | t m=>
      have bB:p.cs=[m]:=by simpa using ay
      have br:rp C.E.dp s k.d:=by grind [uW]
      simp only at D
      split at D
      ·rename_i hc
       cases D
       have hex:execOp R Ω C.E s p.p.d p.p.o=some (.u,((s.cS m .u).bC (.c k off)).aW C.E.dp k (cs.set off (.o t' es))):=by
        rw [F]
        simp only [execOp,hle.ev hx (by simp),af hm,aR,ad,hy,aB]
        rw [af hc]
       have Y:=DT (r:=(.u,((s.cS m .u).bC (.c k off)).aW C.E.dp k (cs.set off (.o t' es)))) hR hΩ p.p.o h (by rw [F];exact N) hex
       rw [a5,bB] at hK
       have bD:∀ nw,(((view p s).cS m .u).bC (.c k off)).aW C.E.dp k nw=({((view p s).aW C.E.dp k nw) with fr:=(((view p s).cS m .u).bC (.c k off)).fr} : St):=by
        grind [St.aW,St.bC,St.cS]
       rw [bD] at hK
       obtain ⟨sb1,sb2⟩:=F1 (nw:=cs.set off (.o t' es)) [(m,.u)] hb
       have cD:∀ nw k',((((s.cS m .u).bC (.c k off)).aW C.E.dp k nw).box C.E.dp k')=(s.aW C.E.dp k nw).box C.E.dp k':=by
        simp_all [St.aW,St.bC,St.cS,St.box]
       have cm:∀ nw,((((s.cS m .u).bC (.c k off)).aW C.E.dp k nw).hp)=(s.aW C.E.dp k nw).hp:=by
        grind [St.aW,St.bC,St.cS]
       refine finish U hd Y (fun d'=>?_) (fun k' cs' av=>?_) (fun k' cs' ai av=>?_) hK
       ·rw [cB]
        simp only [cq.app,A.put,oU,eu,List.map_nil,eZ,eN,az]
        by_cases bU:m=d'
        ·grind
        ·rw [ab bU]
         refine .inr ?_
         simp only [St.bC,St.cS,oT,az,ab bU]
         rw [ab]
         intro bF
         have:=br d'
         rw [←ac] at this
         rw [TF bF] at this;cases this
       ·grind
       grind
      ·cases D
    ·rename_i pl lo len aB
     rw [aB] at aC;rcases aC with h | h<;>cases h
    ·rename_i cJ cH
     have b0:((view p s).ev y).copy=true:=by
      grind
     split at D
     ·rename_i hc
      cases D
      have hex:execOp R Ω C.E s p.p.d p.p.o=some (.u,s.aW C.E.dp k (putCells cs off ((view p s).ev y).cl)):=by
       rw [F]
       simp only [execOp,hle.ev hx (by simp),af hm,aR,ad,hy]
       rw [af hc]
      have Y:=DT (r:=(.u,s.aW C.E.dp k (putCells cs off ((view p s).ev y).cl))) hR hΩ p.p.o h (by rw [F];exact N) hex
      rw [a5] at hK
      obtain ⟨sb1,sb2⟩:=F1 (nw:=putCells cs off ((view p s).ev y).cl) (p.cs.map fun m=>(m,AV.u)) hb
      refine finish U hd Y (fun d'=>?_) sb1 sb2 hK
      grind [cq.app,A.put,oU,oV]
     ·cases D
   ·cases hr
  ·grind
  ·cases hr
 | _=>
  have b7:qk p.p.o=true:=by rw [F];rfl
  obtain ⟨_,h2⟩:=Lg hle b7 G hr
  exact plain (by rw [F];rfl) (by simp [mz,mY,F,u7]) s h2 (fun d'=>.inr (.inr rfl)) (fun _=>rfl) rfl
end
variable [cj]
section
variable {C:Cx}{s:St}{a:Act}{w:World}{σ:Sp}{o:Oper}{R:Rec}{Ω:dK}
theorem aw.aft{nt i:Nat}{ops:Array Oper}{p:bR}{q:cq}{K:Act→World→Prop}{Q:Exit→Act→World→Prop}(hR:my C.P R)(hΩ:iT C.P Ω)(h:aw C s a w σ)(ho:ops[i]? =some o)(hl:DU C.P nt ops o p.p=true)(ao:nt≤C.nt)
  (hk:fQ p=true) (T:LU p.p.o=true→∀ dd,p.p.d=some dd→lO C.E.dp s dd) (bc:uW p.p.o p.cs=true→∀ h∈p.vb,rp C.E.dp s h) (hq:eG R Ω C.E p s=some q) (hK:∀ a' w' σ',cX C w σ w' σ'→aw C (q.app s) a' w' σ'→K a' w'):wpOp C.P ops Q i K a w:=by
 obtain ⟨N,U,hd,cu⟩:=FY hl ao
 obtain ⟨cP,cw⟩:=h.guard cu
 have J:jL R Ω C.E p (view p s)=some q→o.wp C.P a w K Q:=by
  intro hc
  unfold jL at hc
  split at hc
  ·rename_i G
   obtain ⟨r,hr,h2⟩:=aj.1 hc
   split at h2
   ·cases h2
    simp only [aL] at G
    exact h.VU hR hΩ N U hd hk T G.1 G.2 bc hr hK
   ·cases h2
  ·cases hc
 simp only [wpOp,ho]
 unfold eG at hq
 split at hq
 ·grind
 ·rename_i j want cp
  obtain ⟨y,hy,W⟩:=aj.1 hq
  have cL:=cw j want y cp hy
  split at W
  ·grind
  ·rename_i cK
   rw [ab (by grind)]
   refine hK _ _ _ (.refl _ _ _) ?_
   rw [←ah W,U]
   refine (h.Vc hd).se ⟨fun d'=>?_,fun d'=>?_,?_,fun y=>?_⟩
   ·simp only [cq.app];rw [RP]
   ·cases p.p.d<;>rfl
   ·cases p.p.d<;>rfl
   ·cases p.p.d<;>exact Iff.rfl
theorem Cg{s:St}{cs zs:List AV}(h:aZ (s.aW dp k cs).bx d=some zs):aZ s.bx d=some zs∨zs=cs:=by
 unfold St.aW at h
 split at h
 ·simp only [wD] at h
  split at h
  ·simp_all
  ·exact .inl h
 ·exact .inl h
theorem acT{y:AV}(h:y.cU k=true):∀ c∈y.cl,c.cU k=true:=by
 intro c hc
 cases y<;>simp only [AV.cl,dS] at hc<;>first | (subst hc;exact h) | skip
 grind [jZ,AV.cU]
theorem lO.step{p:bR}{q:cq}{op:Op}(hf:lO C.E.dp s h)(N:bN C.P p.p.o op=true)(hk:fQ p=true)(hn:h∈p.nk)(hq:eG R Ω C.E p s=some q):lO C.E.dp (q.app s) h:=by
 have hle:=IJ p s C.E.dp
 have b3:∀ d,(az (view p s).fr d).cU ⟨C.E.dp,h⟩=true:=fun d=>by
  rcases hle.fr d with e | e
  ·rw [e];rfl
  ·rw [e];exact (hf.fr d).1
 have ak:∀ (x:AV)(cs:List Nat),x.cU ⟨C.E.dp,h⟩=true→x.fG (.s h)=false→lO C.E.dp ((⟨ke p.p.d x++cs.map (fun m=>(m,.u)),[],[],none⟩:cq).app s) h:=by
  intro x cs hx hb
  refine ⟨fun d=>?_,hf.cs⟩
  simp only [cq.app,o7]
  rw [pQ]
  split
  ·rename_i hm
   cases hd:p.p.d with
   | none=>grind [ke,eV]
   | some dd=>
    grind [ke,eV,az]
  ·rw [oV]
   split
   ·exact ⟨rfl,rfl⟩
   ·exact hf.fr d
 have J:jL R Ω C.E p (view p s)=some q→lO C.E.dp (q.app s) h:=by
  intro hc
  unfold jL at hc
  split at hc
  ·rename_i bk
   have G:=(uO.1 bk).1
   obtain ⟨r,hr,h2⟩:=aj.1 hc
   split at h2
   ·rename_i aI
    have bj:=(uO.1 aI).1
    cases h2
    have hx:r.1.cU ⟨C.E.dp,h⟩=true∧r.1.fG (.s h)=false:=by
     have:=cI.1 bj h hn
     simpa using this
    have bp:(fg p.p.fz r.1).cU ⟨C.E.dp,h⟩=true∧(fg p.p.fz r.1).fG (.s h)=false:=by
     cases p.p.fz with
     | false=>simpa [fg] using hx
     | true=>cases D:r.1<;>rw [D] at hx<;>first | exact hx | exact ⟨rfl,rfl⟩
    by_cases bY:FZ p.p.o=true
    ·cases F:p.p.o<;>rw [F] at bY<;>simp [FZ] at bY
     case al zs=>
      rw [F] at hr N
      simp only [execOp] at hr
      obtain ⟨dd,I,D⟩:=aj.1 hr
      split at D
      ·cases D
       have he:effect p (.p ⟨C.E.dp,dd⟩ 0,{(view p s) with bx:=(dd,zs)::(view p s).bx})=⟨[(dd,.p ⟨C.E.dp,dd⟩ 0)],[(dd,zs)],[],none⟩:=by
        grind [effect]
       rw [he]
       refine ⟨fun d=>?_,fun d cs hb c hc=>?_⟩
       ·simp only [cq.app,eZ,eN,az]
        split
        ·exact hx
        ·exact hf.fr d
       ·simp only [cq.app,eZ,eN,aZ,xx] at hb
        split at hb
        ·grind [lq,VM]
        ·exact hf.cs d cs hb c hc
      ·cases D
     case ck f args=>
      rw [F] at hr N
      simp only [execOp] at hr
      obtain ⟨dd,I,D⟩:=aj.1 hr
      unfold AZ at D
      split at D
      ·obtain ⟨⟨q,aa⟩,hq,O⟩:=aj.1 D
       cases q with
       | ret x=>cases O
       | row _ _=>cases O
       | sg _ _ _ _ _ _=>cases O
       | new cs=>?_
       simp only at O
       split at O
       ·rename_i bQ
        cases O
        have he:effect p (.p ⟨C.E.dp,dd⟩ 0,{(view p s) with bx:=(dd,cs)::(view p s).bx})=⟨[(dd,.p ⟨C.E.dp,dd⟩ 0)],[(dd,cs)],[],none⟩:=by
         grind [effect,aZ]
        rw [he]
        refine ⟨fun d=>?_,fun d cs' hb c hc=>?_⟩
        ·simp only [cq.app,eZ,eN,az]
         split
         ·exact hx
         ·exact hf.fr d
        ·simp only [cq.app,eZ,eN,aZ,xx] at hb
         split at hb
         ·cases hb
          have:=cI.1 (uO.1 bQ).1 c hc
          cases c<;>first | rfl | exact lq _ this
         ·exact hf.cs d cs' hb c hc
       ·cases O
      ·cases D
    ·by_cases bK:u7 p.p.o=true
     ·cases F:p.p.o<;>rw [F] at bK<;>simp [u7] at bK
      rename_i n x y
      rw [F] at hr N G
      simp only [me,aL,zF] at G
      obtain ⟨aC,b1⟩:=G
      have bZ:((view p s).ev y).cU ⟨C.E.dp,h⟩=true:=by
       cases y with
       | t m=>exact b3 m
       | c z=>
        have hp:z.pure=true:=by
         simp only [bN] at N
         grind [qL]
        exact lq z hp
      have ay:∀ d cs,aZ r.2.bx d=some cs→∀ c∈cs,c.cU ⟨C.E.dp,h⟩=true:=by
       simp only [execOp] at hr
       split at hr
       ·rename_i k off b2
        split at hr
        ·rename_i hm
         obtain ⟨cs0,cE,D⟩:=aj.1 hr
         split at D
         ·rename_i t' es aB
          split at D
          ·rename_i m
           split at D
           ·cases D
            intro d cs hb c hc
            rcases Cg hb with h3 | rfl
            ·exact hf.cs d cs (dG h3) c hc
            ·rcases ka hc with hc | rfl
             ·by_cases ac:k.dp=C.E.dp
              ·have h4:aZ (view p s).bx k.d=some cs0:=by grind [St.box]
               exact hf.cs k.d cs0 (dG h4) c hc
              ·simp only [St.aW,ab ac] at hb
               exact hf.cs d _ (dG hb) c (by grind)
             ·rfl
           ·cases D
          ·cases D
         ·rename_i pl lo len aB
          rw [aB] at aC;rcases aC with h | h<;>cases h
         ·split at D
          ·cases D
           intro d cs hb c hc
           rcases Cg hb with h3 | rfl
           ·exact hf.cs d cs (dG h3) c hc
           ·
            by_cases ac:k.dp=C.E.dp
            ·rcases yt hc with hc | hc
             ·have h4:aZ (view p s).bx k.d=some cs0:=by grind [St.box]
              exact hf.cs k.d cs0 (dG h4) c hc
             ·exact acT bZ c hc
            ·simp only [St.aW,ab ac] at hb
             exact hf.cs d _ (dG hb) c hc
          ·cases D
        ·cases hr
       ·grind
       ·cases hr
      have he:effect p r=⟨p.cs.map (fun m=>(m,.u)),[],dF r.2.bx p.vb,if p.vh=true then some r.2.hp else none⟩:=by
       grind [effect]
      rw [he]
      refine ⟨fun d=>?_,fun d cs hb c hc=>?_⟩
      ·simp only [cq.app]
       rw [oV]
       split
       ·exact ⟨rfl,rfl⟩
       ·exact hf.fr d
      simp only [cq.app,eN,rn] at hb
      split at hb
      ·rename_i zs hz
       cases bG:aZ s.bx d with
       | none=>grind
       | some z=>
        rw [bG] at hb
        cases hb
        exact ay d _ (dG hz) c hc
      ·exact hf.cs d cs hb c hc
     ·by_cases bi:mY p=true
      ·unfold mY at bi
       split at bi
       ·rename_i t sz by_ x y F
        rw [F] at hr G
        have he:effect p r=⟨ke p.p.d (fg p.p.fz r.1)++p.cs.map (fun m=>(m,.u)),[],dF r.2.bx p.vb,if p.vh=true then some r.2.hp else none⟩:=by
         grind [effect]
        rw [he]
        simp only [execOp] at hr
        obtain ⟨dd,I,D⟩:=aj.1 hr
        obtain ⟨ys,aS,O⟩:=aj.1 D
        obtain ⟨qq,H,aH⟩:=aj.1 O
        have ay:∀ d cs,aZ qq.2.bx d=some cs→∀ c∈cs,c.cU ⟨C.E.dp,h⟩=true:=by
         unfold A.consume at H
         split at H
         ·cases H
          exact fun d cs hb c hc=>hf.cs d cs (dG hb) c hc
         ·cases H
         ·rename_i m
          split at H
          ·cases H
           exact fun d cs hb c hc=>hf.cs d cs (dG hb) c hc
          ·split at H
           ·cases H
            exact fun d cs hb c hc=>hf.cs d cs (dG hb) c hc
           ·cases H
          ·rename_i pl hx
           split at H
           ·obtain ⟨rw1,aF,W⟩:=aj.1 H
            split at W
            ·obtain ⟨st',S,a9⟩:=aj.1 W
             cases a9
             cases pl with
             | s d'=>grind [me,St.ev]
             | c k off=>
              simp only [St.putAt] at S
              split at S
              ·rename_i cs0 cE
               cases S
               intro d cs hb c hc
               rcases Cg hb with h3 | rfl
               ·exact hf.cs d cs (dG h3) c hc
               ·rcases ka hc with hc | rfl
                ·by_cases ac:k.dp=C.E.dp
                 ·have h4:aZ (view p s).bx k.d=some cs0:=by grind [St.box]
                  exact hf.cs k.d cs0 (dG h4) c hc
                 ·simp only [St.aW,ab ac] at hb
                  exact hf.cs d _ (dG hb) c (by grind)
                ·rfl
              ·cases S
            ·cases W
           ·cases H
          ·grind [me,St.ev]
          ·cases H
        have bE:r.2.bx=qq.2.bx:=by
         split at aH
         ·cases aH;rfl
         ·cases aH
        refine ⟨fun d=>(ak _ _ bp.1 bp.2).fr d,fun d cs hb c hc=>?_⟩
        simp only [cq.app,eN,rn] at hb
        split at hb
        ·rename_i zs hz
         cases bG:aZ s.bx d with
         | none=>grind
         | some z=>
          rw [bG] at hb
          cases hb
          rw [bE] at hz
          exact ay d _ (dG hz) c hc
        ·exact hf.cs d cs hb c hc
       ·cases bi
      grind [Hn,mz]
   ·cases h2
  ·cases hc
 unfold eG at hq
 split at hq
 ·exact J hq
 ·obtain ⟨y,hy,W⟩:=aj.1 hq
  split at W
  ·exact J W
  ·cases W
   have:=ak .sk [] rfl rfl
   simpa using this
end
theorem rp.step{ro:Bool}{s:St}{R:Rec}{Ω:dK}{p:bR}{q:cq}(hf:rp dp s h)(hn:h∈p.nb)(hq:eG R Ω ⟨dp,ro⟩ p s=some q):rp dp (q.app s) h:=by
 have S:∀ (x:AV)(cs:List Nat)(nb wb:List (Nat×List AV))(hp:Option HP),jF ⟨dp,h⟩ x=false→rp dp ((⟨ke p.p.d x++cs.map (fun m=>(m,.u)),nb,wb,hp⟩:cq).app s) h:=by
  intro x cs nb wb hp hx d
  simp only [cq.app,o7]
  rw [pQ]
  split
  ·rename_i hm
   cases hd:p.p.d with
   | none=>grind [ke,eV]
   | some dd=>
    grind [ke,eV,az]
  ·rw [oV]
   split
   ·rfl
   ·exact hf d
 have J:jL R Ω ⟨dp,ro⟩ p (view p s)=some q→rp dp (q.app s) h:=by
  intro hc
  unfold jL at hc
  split at hc
  ·obtain ⟨r,hr,h2⟩:=aj.1 hc
   split at h2
   ·rename_i aI
    have bj:=(uO.1 aI).2
    cases h2
    have hx:jF ⟨dp,h⟩ r.1=false:=by
     have:=cI.1 (uO.1 bj).1 h hn
     simpa using this
    have bp:jF ⟨dp,h⟩ (fg p.p.fz r.1)=false:=by
     cases p.p.fz with
     | false=>simpa [fg] using hx
     | true=>cases D:r.1<;>rw [D] at hx<;>first | exact hx | rfl
    unfold effect
    split
    ·split
     ·rename_i dd hd
      intro d
      simp only [cq.app,eZ,eN,az]
      split
      ·exact hx
      ·exact hf d
     ·intro d;exact hf d
    ·split
     ·rename_i dd hd
      intro d
      simp only [cq.app,eZ,eN,az]
      split
      ·exact hx
      ·exact hf d
     ·intro d;exact hf d
    ·intro d
     simp only [cq.app]
     rw [oV]
     split
     ·rfl
     ·exact hf d
    ·grind
    grind
   ·cases h2
  ·cases hc
 unfold eG at hq
 split at hq
 ·exact J hq
 ·obtain ⟨y,hy,W⟩:=aj.1 hq
  split at W
  ·exact J W
  ·cases W
   have:=S .sk [] [] [] none rfl
   simpa using this
def jN(o:Oper):List Nat:=(o.after.toList.filter fun e=>Region.binds .any e).map (·.on)
def RQ(acc:List Nat)(l:List Nat):Nat:=l.foldl (fun s e=>s|||(1 <<< e)|||acc.getD e 0) 0
def zX(acc:List Nat):List (List Nat)→List Nat
 | []=>acc
 | l::r=>zX (acc++[RQ acc l]) r
theorem LV(f:Nat→Nat)(i:Nat):∀ (l:List Nat)(s:Nat),(l.foldl (fun s e=>s|||(1 <<< e)|||f e) s).testBit i=true→s.testBit i=true∨∃ e∈l,e=i∨(f e).testBit i=true
 | [],s,h=>.inl h
 | e::l,s,h=>by
  simp only [wh] at h
  rcases LV f i l _ h with h | ⟨e',bX,h⟩
  ·grind [Nat.one_shiftLeft]
  grind
theorem LX:∀ (L:List (List Nat))(acc:List Nat)(A:List (List Nat)),acc.length=A.length→
  (∀ j i,j<acc.length→(acc.getD j 0).testBit i=true→i∈A.getD j []∨∃ e∈A.getD j [],e<j∧(acc.getD e 0).testBit i=true)→
  ∀ j i,((zX acc L).getD j 0).testBit i=true→i∈(A++L).getD j []∨∃ e∈(A++L).getD j [],e<j∧((zX acc L).getD e 0).testBit i=true
 | [],acc,A,hl,h,j,i,hb=>by
  grind [zX]
 | l::L,acc,A,hl,h,j,i,hb=>by
  have:=LX L (acc++[RQ acc l]) (A++[l]) (by simp [hl]) (fun j i hj hb=>?_) j i hb
  ·simpa [zX] using this
  ·simp only [nU,wq] at hj
   simp only [fM] at hb ⊢
   by_cases G:j<acc.length
   ·rw [nW G] at hb
    rw [nW (by omega)]
    rcases h j i G (by grind) with h1 | ⟨e,he,h2,h3⟩
    ·grind
    grind
   ·have ch:j=acc.length:=by omega
    subst ch
    rw [wo (aY _)] at hb
    rw [wo (by omega),hl]
    simp only [Nat.sub_self,List.getElem?_cons_zero,lr] at hb ⊢
    rcases LV (fun e=>acc.getD e 0) i l 0 hb with h1 | ⟨e,he,h1 | h1⟩
    ·simp at h1
    ·grind
    grind
def RR(gs:List bR)(i j:Nat):Bool:=
 match gs[i]?,gs[j]? with
 | some p,some q=>(p.lt&&q.lt&&zW p q)||yc p q||yc q p
 | _,_=>false
def Ch(P:Program)(nt:Nat)(ops:Array Oper):List Oper→List bR→Bool
 | [],[]=>true
 | o::os,g::gs=>DU P nt ops o g.p&&(!g.lt||fQ g)&&Ch P nt ops os gs
 | _,_=>false
def TG(q:bR)(dd:Nat):Bool:=false
theorem lO.afu{R:Rec}{Ω:dK}{E:Env}{s s2:St}{p:bR}(hf:lO E.dp s h)(hc:TG p h=true)(he:eH R Ω E s p=some s2):lO E.dp s2 h:=by cases hc
def ah1(M:List Nat)(gs:List bR)(n k dd:Nat):Bool:=
 (List.range n).all fun i=>i==k||(M.getD i 0).testBit k||(match gs[i]? with
  | some q=>(q.lt&&q.nk.contains dd)||TG q dd
  | none=>true)
def Vg(M:List Nat)(gs:List bR)(mks:List Nat)(n:Nat):Bool:=
 (List.range n).all fun k=>match gs[k]? with
  | some p=>!p.lt||!LU p.p.o||(match p.p.d with
   | some dd=>mks.contains dd&&ah1 M gs n k dd
   | none=>true)
  | none=>true
def OG(M:List Nat)(gs:List bR)(n:Nat):Bool:=(List.range n).all fun j=>(List.range j).all fun i=>(M.getD j 0).testBit i||RR gs i j
def acU(M:List Nat)(gs:List bR)(n:Nat):Bool:=
 (List.range n).all fun k=>match gs[k]? with
  | some p=>!p.lt||!uW p.p.o p.cs||p.vb.all fun h=>(List.range n).all fun i=>i==k||(M.getD i 0).testBit k||(match gs[i]? with
   | some q=>q.lt&&q.nb.contains h
   | none=>true)
  | none=>true
def Ho(P:Program)(nt:Nat)(ops:Array Oper)(mks:List Nat)(gs:List bR):Bool:=
 P.follows .mixedOrders&&Ch P nt ops ops.toList gs&&((List.range ops.size).all fun i=>match ops[i]? with
  | some o=>(jN o).all fun e=>decide (e<i)
  | none=>true)&&
 OG (zX [] (ops.toList.map jN)) gs ops.size&&Vg (zX [] (ops.toList.map jN)) gs mks ops.size&&acU (zX [] (ops.toList.map jN)) gs ops.size
theorem DY{P:Program}{nt:Nat}{ops:Array Oper} : ∀ {os:List Oper}{gs:List bR},Ch P nt ops os gs=true→os.length=gs.length∧∀ (i:Nat)(o:Oper)(p:bR),os[i]? =some o→gs[i]? =some p→DU P nt ops o p.p=true∧(p.lt=true→fQ p=true)
 | [],[],_=>by grind
 | o::os,g::gs,h=>by
  simp only [Ch,aL] at h
  obtain ⟨h1,h2⟩:=DY h.2
  grind
 | [],_::_,h=>by simp [Ch] at h
 | _::_,[],h=>by simp [Ch] at h
section
variable {C:Cx}{st:St}{a:Act}{w:World}{σ:Sp}{R:Rec}{Ω:dK}
def mT(n:Nat)(listed:Array Bool):List Nat:=(List.range n).filter fun i=>!listed.getD i true
theorem PS{ops:Array Oper}{listed:Array Bool}(am:∀ i o,ops[i]? =some o→∀ e∈jN o,e<i)(be:∀ j o,ops[j]? =some o→listed.getD j false=true→∀ e∈jN o,listed.getD e false=true) :
  ∀ (j:Nat)(o:Oper),ops[j]? =some o→(∀ e∈jN o,listed.getD e false=true)→∀ i,((zX [] (ops.toList.map jN)).getD j 0).testBit i=true→listed.getD i false=true:=by
 intro j
 induction j using Nat.strongRecOn with
 | _ j ih=>
  intro o ho au i hb
  have ae:=LX (ops.toList.map jN) [] [] rfl (fun j i hj=>by simp at hj) j i hb
  rw [eN] at ae
  have aK:(ops.toList.map jN).getD j []=jN o:=by
   grind
  rw [aK] at ae
  rcases ae with h1 | ⟨e,he,cA,h2⟩
  ·exact au i h1
  ·have cz:=au e he
   have cy:e<ops.size:=by grind
   have bP:ops[e]? =some ops[e]:=mq cy
   exact ih e cA ops[e] bP (be e _ bP cz) i h2
theorem J3{o:Oper}{listed:Array Bool} : (o.after.all fun e=>!Region.binds .any e||listed.getD e.on false)=true↔∀ e∈jN o,listed.getD e false=true:=by
 rw [Dx]
 constructor
 ·intro h e he
  obtain ⟨x,hx,rfl⟩:=iG.1 he
  grind
 ·intro h x hx
  by_cases hb:Region.binds .any x=true
  ·have:=h x.on (iG.2 (by grind))
   simp [this]
  ·simp [hb]
theorem mem_ready{ops:Array Oper}{listed:Array Bool}{i:Nat} : i∈Region.ready .any ops listed↔∃ o,ops[i]? =some o∧listed.getD i true=false∧∀ e∈jN o,listed.getD e false=true:=by
 unfold Region.ready
 rw [List.mem_filter]
 constructor
 ·rintro ⟨h1,h2⟩
  have hi:i<ops.size:=by simpa using h1
  refine ⟨ops[i],mq hi,?_⟩
  simp only [mq hi,jf,lr,aL,pa] at h2
  exact ⟨h2.1,J3.1 h2.2⟩
 ·rintro ⟨o,ho,h1,h2⟩
  have hi:i<ops.size:=(sP.1 ho).1
  refine ⟨by simpa using hi,?_⟩
  simp only [ho,jf,lr,aL,pa]
  exact ⟨h1,J3.2 h2⟩
theorem aw.any{nt:Nat}{ops:Array Oper}{Q:Exit→Act→World→Prop}{gs:List bR}{t:St}(hR:my C.P R)(hΩ:iT C.P Ω)(ao:nt≤C.nt)
  (bd:Ch C.P nt ops ops.toList gs=true) (am:∀ i o,ops[i]? =some o→∀ e∈jN o,e<i) (Z:OG (zX [] (ops.toList.map jN)) gs ops.size=true) {mks:List Nat} (ar:Vg (zX [] (ops.toList.map jN)) gs mks ops.size=true) (aE:acU (zX [] (ops.toList.map jN)) gs ops.size=true) :
  ∀ (fuel:Nat)(listed:Array Bool)(s:St)(a:Act)(w:World)(σ:Sp),listed.size=ops.size→fuel=(mT ops.size listed).length→(∀ j o,ops[j]? =some o→listed.getD j false=true→∀ e∈jN o,listed.getD e false=true)→
   pV R Ω C.E gs (mT ops.size listed) s t→aw C s a w σ→(∀ k p dd,k∈mT ops.size listed→gs[k]? =some p→p.lt=true→LU p.p.o=true→p.p.d=some dd→lO C.E.dp s dd)→(∀ k p,k∈mT ops.size listed→gs[k]? =some p→p.lt=true→uW p.p.o p.cs=true→∀ h∈p.vb,rp C.E.dp s h)→
   (∀ a' w' σ',cX C w σ w' σ'→aw C t a' w' σ'→Q .normal a' w')→wpAny C.P .any ops Q fuel listed a w:=by
 have aV:∀ listed i,i∈mT ops.size listed↔i<ops.size∧listed.getD i true=false:=by
  grind [mT]
 have aG:∀ listed i,i∈Region.ready .any ops listed→i∈mT ops.size listed:=by
  grind [mem_ready]
 intro fuel
 induction fuel with
 | zero=>
  intro listed s a w σ bJ cx be hg h a4 bt hK
  have ag:mT ops.size listed=[]:=by grind
  rw [ag] at hg
  refine ⟨?_,hK a w σ (.refl _ _ _) (h.se hg)⟩
  apply List.eq_nil_iff_forall_not_mem.2
  grind
 | succ fuel ih=>
  intro listed s a w σ bJ cx be hg h a4 bt hK
  refine ⟨fun cb=>?_,fun i hi=>?_⟩
  ·exfalso
   cases ag:mT ops.size listed with
   | nil=>grind
   | cons i0 rest=>
    have ci:i0∈mT ops.size listed:=by rw [ag];simp
    obtain ⟨h1,h2⟩:=(aV _ _).1 ci
    have V:(mT ops.size listed).Pairwise (· < ·):=(List.pairwise_lt_range (n:=ops.size)).filter _
    have:i0∈Region.ready .any ops listed:=by
     refine mem_ready.2 ⟨ops[i0],mq h1,h2,fun e he=>?_⟩
     grind [List.pairwise_cons]
    grind
  ·obtain ⟨o,ho,cN,au⟩:=mem_ready.1 hi
   have ba:i<ops.size:=(sP.1 ho).1
   have bo:=aG _ _ hi
   obtain ⟨A,B,bH⟩:=List.append_of_mem bo
   have V:(mT ops.size listed).Pairwise (· < ·):=(List.pairwise_lt_range (n:=ops.size)).filter _
   have bS:∀ k,k∈mT ops.size listed→((zX [] (ops.toList.map jN)).getD i 0).testBit k=false:=by
    intro k hk
    cases hb:((zX [] (ops.toList.map jN)).getD i 0).testBit k with
    | false=>rfl
    | true=>
     have:=PS am be i o ho au k hb
     grind
   rw [bH] at V
   have b4:=List.pairwise_append.1 V
   have hA:∀ x∈A,PR gs x i:=by
    intro x hx
    have G:x<i:=b4.2.2 x hx i (by simp)
    have h1:=cI.1 (cI.1 Z i (by simpa using ba)) x (by simpa using G)
    rw [bS x (by grind),uK] at h1
    unfold RR at h1
    split at h1
    ·rename_i p q hp hq
     simp only [aL,zF] at h1
     refine ⟨p,q,hp,hq,?_⟩
     grind
    ·cases h1
   rw [bH] at hg
   obtain ⟨p,s1,s2,hp,aP,hex,ct⟩:=pV.front A s hA hg
   obtain ⟨hlen,bl⟩:=DY bd
   obtain ⟨bm,bV⟩:=bl i o p (by simpa using ho) hp
   have cO:i∉A∧i∉B:=by
    grind [List.pairwise_cons]
   have X:mT ops.size (listed.setIfInBounds i true)=A++B:=by
    have aK:∀ j,j<ops.size→(listed.setIfInBounds i true).getD j true=(if i=j then true else listed.getD j true):=by
     intro j hj
     have cg:j<listed.size:=by omega
     by_cases bb:i=j
     ·subst bb;simp [cg]
     ·simp [Dn,bb]
    have e1:mT ops.size (listed.setIfInBounds i true)=(mT ops.size listed).filter (fun j=>j !=i):=by
     unfold mT
     rw [List.filter_filter]
     apply List.filter_congr
     intro j hj
     rw [aK j (by simpa using hj)]
     by_cases bb:i=j
     ·subst bb;simp
     grind
    rw [e1,bH,nX,List.filter_cons]
    have f1:A.filter (fun j=>j !=i)=A:=by grind [List.filter_eq_self]
    have f2:B.filter (fun j=>j !=i)=B:=by grind [List.filter_eq_self]
    grind
   have aX:∀ k p' dd,k∈A++B→gs[k]? =some p'→p'.lt=true→LU p'.p.o=true→p'.p.d=some dd→lO C.E.dp s dd∧((p.lt=true∧dd∈p.nk)∨TG p dd=true):=by
    intro k p' dd hk aa G hm I
    have bn:k∈mT ops.size listed:=by
     grind
    refine ⟨a4 k p' dd bn aa G hm I,?_⟩
    have ce:k≠i:=by grind
    have h1:=cI.1 ar k (by grind)
    simp only [aa,G,hm,I,wg,uK,aL] at h1
    have h2:=cI.1 h1.2 i (by simpa using ba)
    grind
   have bL:∀ k p',k∈A++B→gs[k]? =some p'→p'.lt=true→uW p'.p.o p'.cs=true→∀ hh∈p'.vb,rp C.E.dp s hh∧(p.lt=true∧hh∈p.nb):=by
    intro k p' hk aa G hm hh an
    have bn:k∈mT ops.size listed:=by
     grind
    refine ⟨bt k p' bn aa G hm hh an,?_⟩
    have ce:k≠i:=by grind
    have h1:=cI.1 aE k (by grind)
    simp only [aa,G,hm,wg,uK] at h1
    have h2:=cI.1 (cI.1 h1 hh an) i (by simpa using ba)
    grind
   have aT:(listed.setIfInBounds i true).size=ops.size:=by simpa using bJ
   have a6:∀ j o',ops[j]? =some o'→(listed.setIfInBounds i true).getD j false=true→∀ e∈jN o',(listed.setIfInBounds i true).getD e false=true:=by
    have bT:∀ e,listed.getD e false=true→(listed.setIfInBounds i true).getD e false=true:=by
     grind
    grind
   have a3:fuel=(mT ops.size (listed.setIfInBounds i true)).length:=by
    grind
   have h1:=h.se aP
   by_cases G:p.lt=true
   ·simp only [eH,af G] at hex
    obtain ⟨q,hq,bw⟩:=aj.1 hex
    cases bw
    refine h1.aft hR hΩ ho bm ao (bV G) (fun hm dd I=>(a4 i p dd bo hp G hm I).se aP) (fun hm hh an=>(bt i p bo hp G hm hh an).se aP) hq fun a' w' σ' bh aQ=>?_
    refine ih _ _ a' w' σ' aT a3 a6 (by grind) aQ (fun k p' dd hk aa aJ hm I=>?_) (fun k p' hk aa aJ hm hh an=>?_) fun a'' w'' σ'' aD aN=>hK a'' w'' σ'' (bh.trans aD) aN
    ·rw [X] at hk
     obtain ⟨h3,⟨_,h4⟩ | h4⟩:=aX k p' dd hk aa aJ hm I
     ·exact (h3.se aP).step (FY bm ao).1 (bV G) h4 hq
     ·exfalso
      cases h4
    ·rw [X] at hk
     obtain ⟨h3,_,h4⟩:=bL k p' hk aa aJ hm hh an
     exact (h3.se aP).step h4 hq
   ·have bv:=hex
    simp only [eH,ab G] at hex
    refine h1.Vd hR hΩ ho bm ao hex fun a' w' σ' bh aQ=>?_
    refine ih _ _ a' w' σ' aT a3 a6 (by rw [X];exact ct) aQ (fun k p' dd hk aa aJ hm I=>?_) (fun k p' hk aa aJ hm hh an=>?_) fun a'' w'' σ'' aD aN=>hK a'' w'' σ'' (bh.trans aD) aN
    ·rw [X] at hk
     obtain ⟨h3,h4 | h4⟩:=aX k p' dd hk aa aJ hm I
     ·exact absurd h4.1 G
     ·exact (h3.se aP).afu h4 bv
    ·rw [X] at hk
     exact absurd (bL k p' hk aa aJ hm hh an).2.1 G
theorem aw.LY{nt:Nat}{ops:Array Oper}{Q:Exit→Act→World→Prop}{mks:List Nat}{gs:List bR}{st':St}(hR:my C.P R)(hΩ:iT C.P Ω)(ao:nt≤C.nt)(hl:Ho C.P nt ops mks gs=true)(h:aw C st a w σ)
  (hm:(mks.all (jg C.E.dp st)&&gs.all (lM C.E.dp st))=true) (he:kM R Ω C.E st gs=some st') (hK:∀ a' w' σ',cX C w σ w' σ'→aw C st' a' w' σ'→Q .normal a' w'):C.P.follows .mixedOrders=true∧wpAny C.P .any ops Q ops.size (Array.replicate ops.size false) a {w with drawn:=w.drawn+1}:=by
 simp only [Ho,aL] at hl
 obtain ⟨⟨⟨⟨⟨bq,bd⟩,am⟩,Z⟩,ar⟩,aE⟩:=hl
 obtain ⟨hm,bc⟩:=uO.1 hm
 have aO:∀ i o,ops[i]? =some o→∀ e∈jN o,e<i:=by
  grind
 have ag:mT ops.size (Array.replicate ops.size false)=List.range ops.size:=by
  simp_all [mT]
 obtain ⟨hlen,_⟩:=DY bd
 have hd:aw C st a {w with drawn:=w.drawn+1} σ:=h.drew
 refine ⟨bq,aw.any hR hΩ ao bd aO Z ar aE ops.size _ st a _ σ (by simp) (by rw [ag];simp) (fun j o ho hl=>?_) ?_ hd (fun k p dd hk hp G aX I=>?_) (fun k p hk hp G aX hh an=>?_) fun a' w' σ' hs hc=>hK a' w' σ' (cX.drew (w:=w) hs) hc⟩
 ·exfalso
  by_cases hj:j<ops.size<;>simp [hj] at hl
 ·grind [pV.text,List.range_eq_range']
 ·have h1:=cI.1 ar k (by grind)
  grind [lO.of]
 ·have h1:=cI.1 bc p (bu hp)
  simp only [lM,aX,wg,uK] at h1
  intro d
  have h2:=cI.1 h1 hh an
  have:=lu (p:=fun y=>!jF ⟨C.E.dp,hh⟩ y) rfl _ h2 d
  simpa using this
theorem aw.drawn{nt id:Nat}{ops:Array Oper}{Q:Exit→Act→World→Prop}{mks:List Nat}{gs:List bR}{st':St}(hR:my C.P R)(hΩ:iT C.P Ω)(ao:nt≤C.nt)(hl:Ho C.P nt ops mks gs=true)(h:aw C st a w σ)
  (hm:(mks.all (jg C.E.dp st)&&gs.all (lM C.E.dp st))=true) (he:kM R Ω C.E st gs=some st') (hK:∀ a' w' σ',cX C w σ w' σ'→aw C st' a' w' σ'→Q .normal a' w'):(Code.region id ops true).wp C.P Q a w:=by
 obtain ⟨h1,h2⟩:=h.LY hR hΩ ao hl hm he hK
 exact wp_region_any h1 h2
end
end Go.Proofs.YtlmphbbhaeampaaGreat.A
