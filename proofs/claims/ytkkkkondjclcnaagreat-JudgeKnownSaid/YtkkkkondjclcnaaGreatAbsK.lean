/- Regions whose order is drawn: whatever the order, what the order of the text gives. -/
import Derived.Test.YtkkkkondjclcnaaGreatAbsH
import Derived.Orders
set_option linter.unusedSectionVars false
set_option linter.unusedVariables false
set_option linter.unusedSimpArgs false
set_option linter.constructorNameAsVariable false
namespace Go.Proofs.YtkkkkondjclcnaaGreat.A
open Go
variable [aY]
structure Se(s s':St):Prop where
 fr:∀ d,aj s.fr d=aj s'.fr d
 bx:∀ d,aq s.bx d=aq s'.bx d
 hp:s.hp=s'.hp
 mem:∀ y,y∈s.fr↔y∈s'.fr
theorem Se.refl(s:St):Se s s:=⟨fun _=>rfl,fun _=>rfl,rfl,fun _=>Iff.rfl⟩
theorem Se.symm{s s':St}(h:Se s s'):Se s' s:=⟨fun d=>(h.fr d).symm,fun d=>(h.bx d).symm,h.hp.symm,fun y=>(h.mem y).symm⟩
theorem Se.trans{s s' s'':St}(h:Se s s')(h':Se s' s''):Se s s'':=⟨fun d=>(h.fr d).trans (h'.fr d),fun d=>(h.bx d).trans (h'.bx d),h.hp.trans h'.hp,fun y=>(h.mem y).trans (h'.mem y)⟩
theorem Se.box{s s':St}(h:Se s s')(dp:Nat)(k:Key):s.box dp k=s'.box dp k:=by
 simp only [St.box,h.bx,h.hp]
theorem ad.se{C:Cx}{s s':St}{a:Act}{w:World}{σ:Sp}(h:ad C s a w σ)(hs:Se s s'):ad C s' a w σ:=
 h.zg (fun d=>.inr (hs.fr d).symm) (fun k cs hk=>by rw [hs.box];exact hk) (fun _ _ _ h=>by rw [hs.hp];exact h)
def cK{α:Type}(l:List (Nat×α)):List Nat:=l.map (·.1)
theorem iz(l r:List (Nat×AV))(d:Nat):aj (l++r) d=if d∈cK l then aj l d else aj r d:=by
 induction l with
 | nil=>simp [cK]
 | cons x l ih=>
  obtain ⟨k,y⟩:=x
  simp only [List.cons_append,aj,cK,List.map_cons,List.mem_cons]
  by_cases h:k=d
  ·subst h;simp
  ·have h':¬d=k:=fun e=>h e.symm
   simp only [if_neg h,h',false_or]
   exact ih
theorem nr(l r:List (Nat×List AV))(d:Nat):aq (l++r) d=if d∈cK l then aq l d else aq r d:=by
 induction l with
 | nil=>simp [cK]
 | cons x l ih=>
  obtain ⟨k,y⟩:=x
  simp only [List.cons_append,aq,cK,List.map_cons,List.mem_cons]
  by_cases h:k=d
  ·subst h;simp
  ·have h':¬d=k:=fun e=>h e.symm
   simp only [if_neg h,h',false_or]
   exact ih
theorem pH(bx wb:List (Nat×List AV))(d:Nat):aq (oV bx wb) d=match aq wb d with
  | some cs=>(aq bx d).map fun _=>cs
  | none=>aq bx d:=by
 induction wb with
 | nil=>rfl
 | cons x wb ih=>
  obtain ⟨k,y⟩:=x
  simp only [oV,tV,aq]
  by_cases h:k=d
  ·subst h
   simp only [if_true,ih]
   cases aq wb k with
   | none=>rfl
   | some cs=>cases aq bx k<;>rfl
  ·rw [if_neg h,if_neg (fun e=>h e.symm),ih]
theorem oR{l:List (Nat×List AV)}{d:Nat}(h:d∉cK l):aq l d=none:=by
 induction l with
 | nil=>rfl
 | cons x l ih=>
  obtain ⟨k,y⟩:=x
  simp only [cK,List.map_cons,List.mem_cons,not_or] at h
  simp only [aq,if_neg (fun e=>h.1 (Eq.symm e))]
  exact ih h.2
theorem Se.app{s s':St}(q:aX)(h:Se s s'):Se (q.app s) (q.app s'):=by
 refine ⟨fun d=>?_,fun d=>?_,?_,fun y=>by simp only [aX.app,List.mem_append,h.mem y]⟩
 ·simp only [aX.app,iz,h.fr]
 ·simp only [aX.app,nr,pH,h.bx]
 ·simp only [aX.app,h.hp]
structure Q1(q q':aX):Prop where
 fr:∀ d,d∈cK q.fr→d∉cK q'.fr
 nn:∀ d,d∈cK q.nb→d∉cK q'.nb
 nw:∀ d,d∈cK q.nb→d∉cK q'.wb
 wn:∀ d,d∈cK q.wb→d∉cK q'.nb
 ww:∀ d,d∈cK q.wb→d∉cK q'.wb
 hp:q.hp=none∨q'.hp=none
theorem P2{q q':aX}(h:Q1 q q')(s:St):Se (q.app (q'.app s)) (q'.app (q.app s)):=by
 refine ⟨fun d=>?_,fun d=>?_,?_,fun y=>by simp only [aX.app,List.mem_append];constructor<;>rintro (h | h | h)<;>simp [h]⟩
 ·simp only [aX.app,iz]
  by_cases h1:d∈cK q.fr
  ·simp [h1,h.fr d h1]
  ·simp [h1]
 ·simp only [aX.app,nr,pH]
  by_cases h1:d∈cK q.nb
  ·have h2:=oR (h.nw d h1)
   simp [h1,h.nn d h1,h2]
  ·by_cases h3:d∈cK q'.nb
   ·have h4:aq q.wb d=none:=oR fun h5=>h.wn d h5 h3
    simp [h1,h3,h4]
   ·simp only [if_neg h1,if_neg h3]
    by_cases h5:d∈cK q.wb
    ·have:=oR (h.ww d h5)
     rw [this]
    ·rw [oR h5]
 ·simp only [aX.app]
  rcases h.hp with e | e<;>rw [e]<;>cases q.hp<;>cases q'.hp<;>first | rfl | cases e
def qw:nH→Bool
 | .st _ _ _=>true
 | _=>false
def jW(p:bw):Bool:=match p.p.o with
 | .ap _ _ _ _ _=>p.cs.length==2
 | _=>false
def fH(p:bw):Bool:=qw p.p.o||jW p
def qx:nH→Bool
 | .al _=>true
 | .ck _ _=>true
 | _=>false
def oS(d:Option Nat):List Nat:=match d with
 | some d=>[d]
 | none=>[]
def Wd(p:bw):List Nat:=match p.p.g with
 | some (j,_)=>[j]
 | none=>[]
def yv(p:bw):List Nat:=oS p.p.d++p.cs
def Q2(p:bw):List Nat:=Wd p++p.vw
def Kx(p:bw):List Nat:=(if qx p.p.o=true then oS p.p.d else [])++(if fH p=true then p.vb else [])
def ux(l m:List Nat):Bool:=l.all fun x=>!m.contains x
def xb(p q:bw):Bool:=ux (yv p) (Q2 q)&&ux (yv q) (Q2 p)&&ux (yv p) (yv q)&&ux (Kx p) q.vb&&ux (Kx q) p.vb&&ux (Kx p) (Kx q)&&!((fH p||fH q)&&p.vh&&q.vh)
theorem kA{l m:List Nat}(h:ux l m=true){x:Nat}(hx:x∈l):x∉m:=by
 have:=List.all_eq_true.1 h x hx
 simpa using this
theorem xc(bx:List (Nat×List AV))(ks:List Nat){d:Nat}(h:d∈cK (bT bx ks)):d∈ks:=by
 induction ks with
 | nil=>simp [bT,cK] at h
 | cons k ks ih=>
  simp only [bT] at h
  split at h
  ·simp only [cK,List.map_cons,List.mem_cons] at h
   rcases h with rfl | h
   ·simp
   ·exact List.mem_cons_of_mem _ (ih h)
  ·exact List.mem_cons_of_mem _ (ih h)
section
variable {R:Rec}{Ω:cm}{E:Env}
structure Small(p:bw)(q:aX):Prop where
 fr:∀ d,d∈cK q.fr→d∈yv p
 nb:∀ d,d∈cK q.nb→qx p.p.o=true∧d∈oS p.p.d
 wb:∀ d,d∈cK q.wb→fH p=true∧d∈p.vb
 hp:q.hp≠none→fH p=true∧p.vh=true
theorem zm{p:bw}{fr:List (Nat×AV)}(h:∀ d,d∈cK fr→d∈yv p):Small p ⟨fr,[],[],none⟩:=
 ⟨h,fun d hd=>by simp [cK] at hd,fun d hd=>by simp [cK] at hd,fun h=>absurd rfl h⟩
theorem zn(d:Option Nat)(x:AV):cK (iB d x)=oS d:=by cases d<;>rfl
theorem IF(p:bw)(r:AV×St):Small p (effect p r):=by
 have hgen:Small p ⟨iB p.p.d (ea p.p.fz r.1)++p.cs.map (fun m=>(m,.u)),[],[],none⟩:=zm fun d hd=>by
  simp only [cK,List.map_append,List.map_map] at hd
  rcases List.mem_append.1 hd with hd | hd
  ·have:d∈cK (iB p.p.d (ea p.p.fz r.1)):=hd
   rw [zn] at this
   exact List.mem_append_left _ this
  ·obtain ⟨m,hm,rfl⟩:=List.mem_map.1 hd
   exact List.mem_append_right _ hm
 unfold effect
 split
 ·rename_i zs ho
  split
  ·rename_i dd hd
   refine ⟨fun d h=>?_,fun d h=>⟨by rw [ho];rfl,?_⟩,fun d h=>by simp [cK] at h,fun h=>absurd rfl h⟩
   ·simp only [cK,List.map_cons,List.map_nil,List.mem_singleton] at h
    subst h;unfold yv;rw [hd];simp [oS]
   ·simp only [cK,List.map_cons,List.map_nil,List.mem_singleton] at h
    subst h;rw [hd];simp [oS]
  ·exact zm fun d h=>by simp [cK] at h
 ·rename_i ho
  split
  ·rename_i dd hd
   refine ⟨fun d h=>?_,fun d h=>⟨by rw [ho];rfl,?_⟩,fun d h=>by simp [cK] at h,fun h=>absurd rfl h⟩
   ·simp only [cK,List.map_cons,List.map_nil,List.mem_singleton] at h
    subst h;unfold yv;rw [hd];simp [oS]
   ·split at h
    ·simp only [cK,List.map_cons,List.map_nil,List.mem_singleton] at h
     subst h;rw [hd];simp [oS]
    ·simp [cK] at h
  ·exact zm fun d h=>by simp [cK] at h
 ·rename_i ho
  refine ⟨fun d h=>?_,fun d h=>by simp [cK] at h,fun d h=>⟨by simp [fH,ho,qw],xc _ _ h⟩,fun h=>⟨by simp [fH,ho,qw],?_⟩⟩
  ·simp only [cK,List.map_map] at h
   obtain ⟨m,hm,rfl⟩:=List.mem_map.1 h
   exact List.mem_append_right _ hm
  by_cases hv:p.vh=true
  ·exact hv
  ·simp [hv] at h
 ·rename_i ho
  by_cases h2:(p.cs.length==2)=true
  ·have hw:fH p=true:=by simp only [fH,jW,ho,h2,Bool.or_true]
   rw [if_pos h2]
   refine ⟨hgen.fr,fun d h=>by simp [cK] at h,fun d h=>⟨hw,xc _ _ h⟩,fun h=>⟨hw,?_⟩⟩
   by_cases hv:p.vh=true
   ·exact hv
   ·simp [hv] at h
  ·simp only [h2,Bool.false_and,Bool.false_eq_true,if_false]
   exact hgen
 ·exact hgen
theorem tB{p:bw}{s:St}{q:aX}(h:cB R Ω E p s=some q):Small p q:=by
 have hcore:∀ v q,jt R Ω E p v=some q→Small p q:=by
  intro v q hq
  unfold jt at hq
  split at hq
  ·obtain ⟨r,_,h2⟩:=Option.bind_eq_some_iff.1 hq
   split at h2
   ·obtain rfl:=Option.some.inj h2
    exact IF p r
   ·cases h2
  ·cases hq
 unfold cB at h
 split at h
 ·exact hcore _ _ h
 ·obtain ⟨y,_,h2⟩:=Option.bind_eq_some_iff.1 h
  split at h2
  ·exact hcore _ _ h2
  ·obtain rfl:=Option.some.inj h2
   exact zm fun d hd=>by rw [zn] at hd;exact List.mem_append_left _ hd
theorem BO{fr fr':List (Nat×AV)}{ks:List Nat}(h:∀ d∈ks,aj fr d=aj fr' d):js fr ks=js fr' ks:=
 List.map_congr_left fun d hd=>by rw [h d hd]
theorem JD{bx bx':List (Nat×List AV)}{ks:List Nat}(h:∀ d∈ks,aq bx d=aq bx' d):bT bx ks=bT bx' ks:=by
 induction ks with
 | nil=>rfl
 | cons k ks ih=>
  simp only [bT,h k (by simp),ih fun d hd=>h d (by simp [hd])]
structure IG(p:bw)(s s':St):Prop where
 fr:∀ d∈Q2 p,aj s.fr d=aj s'.fr d
 bx:∀ d∈p.vb,aq s.bx d=aq s'.bx d
 hp:p.vh=true→s.hp=s'.hp
theorem IG.patch{p:bw}{s s':St}(h:IG p s s'):cB R Ω E p s=cB R Ω E p s':=by
 have hv:view p s=view p s':=by
  unfold view
  rw [BO fun d hd=>h.fr d (List.mem_append_right _ hd),JD h.bx]
  by_cases hh:p.vh=true
  ·simp only [hh,if_true,h.hp hh]
  ·simp only [if_neg hh]
 unfold cB
 rw [hv]
 split
 ·rfl
 ·rename_i j want hg
  rw [h.fr j (List.mem_append_left _ (by unfold Wd;rw [hg];simp))]
theorem Se.IH{p:bw}{s s':St}(h:Se s s'):IG p s s':=⟨fun d _=>h.fr d,fun d _=>h.bx d,fun _=>h.hp⟩
theorem II{p p':bw}{q:aX}{s:St}(hq:Small p q)(hc:xb p p'=true):IG p' (q.app s) s:=by
 simp only [xb,Bool.and_eq_true,Bool.not_eq_true'] at hc
 obtain ⟨⟨⟨⟨⟨⟨c1,c2⟩,c3⟩,c4⟩,c5⟩,c6⟩,c7⟩:=hc
 refine ⟨fun d hd=>?_,fun d hd=>?_,fun hh=>?_⟩
 ·simp only [aX.app,iz]
  rw [if_neg]
  intro hm
  exact kA c1 (hq.fr d hm) hd
 ·simp only [aX.app,nr,pH]
  have hnb:d∉cK q.nb:=fun hm=>by
   obtain ⟨h1,h2⟩:=hq.nb d hm
   exact kA c4 (List.mem_append_left _ (by rw [if_pos h1];exact h2)) hd
  have hwb:d∉cK q.wb:=fun hm=>by
   obtain ⟨h1,h2⟩:=hq.wb d hm
   exact kA c4 (List.mem_append_right _ (by rw [if_pos h1];exact h2)) hd
  rw [if_neg hnb,oR hwb]
 ·simp only [aX.app]
  cases hp:q.hp with
  | none=>rfl
  | some x=>
   obtain ⟨h1,h2⟩:=hq.hp (by rw [hp];simp)
   rw [h1,h2,hh] at c7
   simp at c7
theorem P3{p p':bw}{q q':aX}(hq:Small p q)(hq':Small p' q')(hc:xb p p'=true):Q1 q q':=by
 simp only [xb,Bool.and_eq_true,Bool.not_eq_true'] at hc
 obtain ⟨⟨⟨⟨⟨⟨c1,c2⟩,c3⟩,c4⟩,c5⟩,c6⟩,c7⟩:=hc
 have m1:∀ {p:bw}{q:aX}{d},Small p q→d∈cK q.nb→d∈Kx p:=fun hq h=>by
  obtain ⟨h1,h2⟩:=hq.nb _ h
  exact List.mem_append_left _ (by rw [if_pos h1];exact h2)
 have m2:∀ {p:bw}{q:aX}{d},Small p q→d∈cK q.wb→d∈Kx p:=fun hq h=>by
  obtain ⟨h1,h2⟩:=hq.wb _ h
  exact List.mem_append_right _ (by rw [if_pos h1];exact h2)
 refine ⟨fun d h h'=>kA c3 (hq.fr d h) (hq'.fr d h'),fun d h h'=>kA c6 (m1 hq h) (m1 hq' h'),fun d h h'=>kA c6 (m1 hq h) (m2 hq' h'),fun d h h'=>kA c6 (m2 hq h) (m1 hq' h'),fun d h h'=>kA c6 (m2 hq h) (m2 hq' h'),?_⟩
 cases h1:q.hp with
 | none=>exact .inl rfl
 | some x=>
  cases h2:q'.hp with
  | none=>exact .inr rfl
  | some y=>
   obtain ⟨h3,h4⟩:=hq.hp (by rw [h1];simp)
   obtain ⟨h5,h6⟩:=hq'.hp (by rw [h2];simp)
   rw [h3,h4,h6] at c7
   simp at c7
def nG(R:Rec)(Ω:cm)(E:Env)(gs:List bw):List Nat→St→St→Prop
 | [],s,t=>Se s t
 | i::π,s,t=>∃ p s1 s2,gs[i]? =some p∧Se s s1∧cC R Ω E s1 p=some s2∧nG R Ω E gs π s2 t
variable {gs:List bw}
theorem nG.se{π:List Nat}{s s' t:St}(h:nG R Ω E gs π s' t)(hs:Se s s'):nG R Ω E gs π s t:=by
 cases π with
 | nil=>exact Se.trans hs h
 | cons i π=>
  obtain ⟨p,s1,s2,h1,h2,h3,h4⟩:=h
  exact ⟨p,s1,s2,h1,hs.trans h2,h3,h4⟩
theorem nG.text:∀ (ps:List bw)(i:Nat)(s t:St),gs.drop i=ps→kD R Ω E s ps=some t→nG R Ω E gs (List.range' i ps.length) s t
 | [],i,s,t,_,he=>by
  obtain rfl:=Option.some.inj he
  exact Se.refl _
 | p::ps,i,s,t,hi,he=>by
  obtain ⟨s2,h1,h2⟩:=Option.bind_eq_some_iff.1 he
  rw [List.length_cons,List.range'_succ]
  refine ⟨p,s,s2,?_,Se.refl _,h1,nG.text ps (i+1) s2 t ?_ h2⟩
  ·have:(gs.drop i)[0]? =some p:=by rw [hi];rfl
   simpa using this
  ·rw [←List.drop_drop,hi];rfl
def LR(xs:List aO):List Nat:=xs.flatMap fun x=>match x with
 | .t n=>[n]
 | .c _=>[]
def E6(sl dl:List Nat):nH→Bool
 | .lk _ (.t _) (.t b) lv=>sl.contains b&&(!lv||dl.contains b)
 | _=>false
def LS:nH→Bool
 | .ln false (.t _)=>true
 | _=>false
def E7(ow:List Nat)(q:bw):Bool:=match q.p.o with
 | .al zs=>AV.aK zs&&!q.vh&&(match q.p.d with
  | some d=>ow.contains d&&q.vb==[d]
  | none=>false)
 | _=>false
def vj(p q:bw):Bool:=match p.p.o with
 | .ch _ args sl dl ow=>!p.lt&&q.lt&&p.p.g.isNone&&q.p.g.isNone&&!fH q&&ux (yv q) (LR args++(sl++dl))&&ux (oS p.p.d) (yv q++q.vw)&&(q.nb.contains 1000000||E6 sl dl q.p.o)&&(E7 ow q||E6 sl dl q.p.o||LS q.p.o||(!qx q.p.o&&q.vb.isEmpty&&!q.vh))
 | _=>false
structure eP(p q:bw)(f:FuncId)(args:List aO)(sl dl ow:List Nat):Prop where
 o:p.p.o= .ch f args sl dl ow
 pl:p.lt=false
 ql:q.lt=true
 pg:p.p.g=none
 qg:q.p.g=none
 nw:fH q=false
 wr:∀ d,d∈yv q→d∉LR args∧d∉sl∧d∉dl
 ds:∀ d,p.p.d=some d→d∉yv q∧d∉q.vw
 nb:(1000000:Nat)∈q.nb∨E6 sl dl q.p.o=true
 kd:E7 ow q=true∨E6 sl dl q.p.o=true∨LS q.p.o=true∨(qx q.p.o=false∧q.vb=[]∧q.vh=false)
theorem FX{p q:bw}(h:vj p q=true):∃ f args sl dl ow,eP p q f args sl dl ow:=by
 unfold vj at h
 split at h
 ·rename_i f args sl dl ow ho
  simp only [Bool.and_eq_true,Bool.not_eq_true',Option.isNone_iff_eq_none,Bool.or_eq_true] at h
  obtain ⟨⟨⟨⟨⟨⟨⟨⟨h1,h2⟩,h3⟩,h4⟩,h5⟩,h6⟩,h7⟩,h8⟩,h9⟩:=h
  refine ⟨f,args,sl,dl,ow,ho,h1,h2,h3,h4,h5,fun d hd=>?_,fun d hd=>?_,h8.imp (fun h=>by simpa using h) id,?_⟩
  ·have:=kA h6 hd
   exact ⟨fun hm=>this (List.mem_append_left _ hm),fun hm=>this (List.mem_append_right _ (List.mem_append_left _ hm)),fun hm=>this (List.mem_append_right _ (List.mem_append_right _ hm))⟩
  ·have:d∈oS p.p.d:=by rw [hd];simp [oS]
   have:=kA h7 this
   exact ⟨fun hm=>this (List.mem_append_left _ hm),fun hm=>this (List.mem_append_right _ hm)⟩
  ·rcases h9 with ((h9 | h9) | h9) | h9
   ·exact .inl h9
   ·exact .inr (.inl h9)
   ·exact .inr (.inr (.inl h9))
   ·exact .inr (.inr (.inr ⟨h9.1.1,by simpa using h9.1.2,h9.2⟩))
 ·cases h
theorem DX{ow:List Nat}{q:bw}(h:E7 ow q=true):∃ zs d,q.p.o= .al zs∧q.p.d=some d∧AV.aK zs=true∧d∈ow∧q.vb=[d]∧q.vh=false:=by
 unfold E7 at h
 split at h
 ·rename_i zs ho
  simp only [Bool.and_eq_true,Bool.not_eq_true'] at h
  obtain ⟨⟨h1,h2⟩,h3⟩:=h
  split at h3
  ·rename_i d hd
   simp only [Bool.and_eq_true,beq_iff_eq] at h3
   exact ⟨zs,d,ho,hd,h1,by simpa using h3.1,h3.2,h2⟩
  ·cases h3
 ·cases h
theorem LU{sl dl:List Nat}{o:nH}(h:E6 sl dl o=true):∃ n m b lv,o= .lk n (.t m) (.t b) lv∧b∈sl∧(lv=true→b∈dl):=by
 unfold E6 at h
 split at h
 ·rename_i n m b lv
  simp only [Bool.and_eq_true,Bool.or_eq_true,Bool.not_eq_true'] at h
  refine ⟨n,m,b,lv,rfl,by simpa using h.1,fun hl=>?_⟩
  rcases h.2 with h' | h'
  ·rw [hl] at h';cases h'
  ·simpa using h'
 ·cases h
theorem Q3{o:nH}(h:LS o=true):∃ m,o= .ln false (.t m):=by
 unfold LS at h
 split at h
 ·exact ⟨_,rfl⟩
 ·cases h
theorem eP.We{p q:bw}{f:FuncId}{args:List aO}{sl dl ow:List Nat}(hb:eP p q f args sl dl ow)(ha:qx q.p.o=true):E7 ow q=true:=by
 rcases hb.kd with h | h | h | h
 ·exact h
 ·obtain ⟨n,m,b,lv,e,_⟩:=LU h
  rw [e] at ha;cases ha
 ·obtain ⟨m,e⟩:=Q3 h
  rw [e] at ha;cases ha
 ·rw [h.1] at ha;cases ha
theorem RX{z:Bool}{x:AV}{hid:Key→Bool}(h:fN hid x=false):fN hid (ea z x)=false:=by
 cases z with
 | false=>exact h
 | true=>cases x<;>first | exact h | rfl
theorem NP{hid:Key→Bool}{x:AV}(h:jr x=false):fN hid x=false:=by
 cases x with
 | r pl=>cases pl<;>first | rfl | cases h
 | v pl lo len=>cases pl<;>first | rfl | cases h
 | q pl i sz off=>cases pl<;>first | rfl | cases h
 | _=>rfl
theorem NQ{hid:Key→Bool}{x:AV}(h:x.copy=true):fN hid x=false:=by
 cases x<;>first | rfl | cases h
theorem P4{fr:List (Nat×AV)}{d:Nat}(h:aj fr d≠.u):∃ y∈fr,y.2=aj fr d:=by
 induction fr with
 | nil=>exact absurd rfl h
 | cons y fr ih=>
  obtain ⟨k,x⟩:=y
  simp only [aj] at h ⊢
  split
  ·exact ⟨(k,x),by simp,rfl⟩
  ·rename_i hne
   rw [if_neg hne] at h
   obtain ⟨z,hz,e⟩:=ih h
   exact ⟨z,List.mem_cons_of_mem _ hz,e⟩
structure rz(dp:Nat)(s:St)(sl dl ow:List Nat):Prop where
 sl:∀ m∈sl,∃ k,de dp s (aj s.fr m) false=some k∧k.dp≤dp
 dl:∀ m∈dl,zJ dp ow (aj s.fr m)=false∧∃ k,de dp s (aj s.fr m) true=some k∧k.dp≤dp
theorem rz.dp{dp:Nat}{s:St}{sl dl ow:List Nat}(h:rz dp s sl dl ow){k:Key}(hk:fh dp s sl dl ow k=true):k.dp≤dp:=by
 unfold fh at hk
 simp only [Bool.or_eq_true,List.any_eq_true,Bool.and_eq_true,beq_iff_eq,decide_eq_true_eq] at hk
 rcases hk with (⟨n,hn,e⟩ | ⟨n,hn,_,e⟩) | ⟨e,_⟩
 ·obtain ⟨k',e',h'⟩:=h.sl n hn
  rw [e] at e';injection e' with e';subst e';exact h'
 ·obtain ⟨_,k',e',h'⟩:=h.dl n hn
  rw [e] at e';injection e' with e';subst e';exact h'
 ·omega
theorem P5{dp:Nat}{v s:St}(hbx:∀ k cs,v.box dp k=some cs→s.box dp k=some cs){y:AV}{lv:Bool}{k:Key}(h:de dp v y lv=some k):de dp s y lv=some k:=by
 cases y<;>first | (simp [de] at h;done) | skip
 rename_i k' off
 cases lv with
 | false=>exact h
 | true=>
  simp only [de,if_true] at h ⊢
  split at h
  ·rename_i k2 o2 hc
   obtain ⟨cs,hb,hcs⟩:=Option.bind_eq_some_iff.1 hc
   simp only [hbx _ cs hb,Option.bind_some,hcs]
   exact h
  ·cases h
theorem Ky(q:bw)(s:St)(n:Nat):aj (view q s).fr n= .u∨aj (view q s).fr n=aj s.fr n:=zh s.fr q.vw n
theorem RY(q:bw)(s:St)(dp:Nat)(k:Key)(cs:List AV)(h:(view q s).box dp k=some cs):s.box dp k=some cs:=by
 by_cases hk:k.dp=dp
 ·simp only [St.box,hk,if_true] at h ⊢
  exact bY h
 ·simp only [St.box,if_neg hk,view] at h ⊢
  split at h
  ·exact h
  ·cases h
theorem IJ{dp:Nat}{q:bw}{s:St}{sl dl ow:List Nat}{b:Nat}{lv:Bool}{k:Key}(hs:rz dp s sl dl ow)(hb:b∈sl)(hl:lv=true→b∈dl)(h:de dp (view q s) (aj (view q s).fr b) lv=some k):fh dp s sl dl ow k=true:=by
 have h1:=P5 (RY q s dp) h
 have h2:aj (view q s).fr b=aj s.fr b:=by
  rcases Ky q s b with e | e
  ·rw [e] at h1;cases h1
  ·exact e
 rw [h2] at h1
 unfold fh
 simp only [Bool.or_eq_true,List.any_eq_true,Bool.and_eq_true,beq_iff_eq,Bool.not_eq_true']
 cases lv with
 | false=>exact .inl (.inl ⟨b,hb,h1⟩)
 | true=>exact .inl (.inr ⟨b,hl rfl,(hs.dl b (hl rfl)).1,h1⟩)
structure iP(q:bw)(qq:aX)(ow:List Nat):Prop where
 fr:∀ d,d∈cK qq.fr→d∈yv q
 nb:qq.nb=[]∨∃ d zs,qq.nb=[(d,zs)]∧AV.aK zs=true∧d∈ow
 wb:qq.wb=[]
 hp:qq.hp=none
theorem AX{q:bw}{r:AV×St}(hnw:fH q=false)(hal:qx q.p.o=false):effect q r=⟨iB q.p.d (ea q.p.fz r.1)++q.cs.map (fun m=>(m,.u)),[],[],none⟩:=by
 unfold effect
 split
 ·rename_i zs ho;rw [ho] at hal;cases hal
 ·rename_i ho;rw [ho] at hal;cases hal
 ·rename_i ho;simp [fH,qw,ho] at hnw
 ·rename_i ho
  have h2:(q.cs.length==2)=false:=by
   simp only [fH,jW,ho,qw,Bool.false_or] at hnw
   exact hnw
  simp only [h2,Bool.false_and,Bool.false_eq_true,if_false]
 ·rfl
theorem eP.inv{p q:bw}{f:FuncId}{args:List aO}{sl dl ow:List Nat}(hb:eP p q f args sl dl ow){s:St}{qq:aX}(h:cB R Ω E q s=some qq):∃ r,execOp R Ω E (view q s) q.p.d q.p.o=some r∧okB E.dp q.nb r.1=true∧qq=effect q r:=by
 unfold cB at h
 rw [hb.qg] at h
 simp only at h
 unfold jt at h
 split at h
 ·obtain ⟨r,hr,h2⟩:=Option.bind_eq_some_iff.1 h
  split at h2
  ·rename_i hok
   exact ⟨r,hr,(Bool.and_eq_true_iff.1 hok).2,(Option.some.inj h2).symm⟩
  ·cases h2
 ·cases h
theorem eP.patch{p q:bw}{f:FuncId}{args:List aO}{sl dl ow:List Nat}(hb:eP p q f args sl dl ow){s:St}{qq:aX}(h:cB R Ω E q s=some qq):iP q qq ow:=by
 have hs:=tB h
 obtain ⟨r,hr,hok,rfl⟩:=hb.inv h
 by_cases hal:qx q.p.o=true
 ·obtain ⟨zs,dd,ho,hd,h1,h2,_⟩:=DX (hb.We hal)
  have he:effect q r=⟨[(dd,r.1)],[(dd,zs)],[],none⟩:=by
   unfold effect
   rw [ho,hd]
  rw [he] at hs ⊢
  exact ⟨hs.fr,.inr ⟨dd,zs,rfl,h1,h2⟩,rfl,rfl⟩
 ·rw [AX hb.nw (by simpa using hal)] at hs ⊢
  exact ⟨hs.fr,.inl rfl,rfl,rfl⟩
theorem eP.plain{p q:bw}{f:FuncId}{args:List aO}{sl dl ow:List Nat}(hb:eP p q f args sl dl ow){s:St}{qq:aX}(hi:rz E.dp s sl dl ow)(h:cB R Ω E q s=some qq):∀ y∈qq.fr,fN (fh E.dp s sl dl ow) y.2=false:=by
 obtain ⟨r,hr,hok,rfl⟩:=hb.inv h
 have hx:fN (fh E.dp s sl dl ow) r.1=false:=by
  rcases hb.nb with hn | hl
  ·unfold okB at hok
   have h4:=(Bool.and_eq_true_iff.1 hok).2
   have h5:q.nb.contains 1000000=true:=by simpa using hn
   rw [h5] at h4
   exact NP (by simpa using h4)
  ·obtain ⟨n,m,b,lv,e,hsl,hdl⟩:=LU hl
   rw [e] at hr
   simp only [execOp] at hr
   split at hr
   ·rename_i k off hk
    split at hr
    ·rename_i hev
     have hhid:=IJ hi hsl hdl hev
     obtain ⟨cs,_,hr1⟩:=Option.bind_eq_some_iff.1 hr
     obtain ⟨y,_,hr2⟩:=Option.bind_eq_some_iff.1 hr1
     split at hr2
     ·obtain rfl:=Option.some.inj hr2
      simp [fN,hhid]
     ·split at hr2
      ·rename_i hc
       obtain rfl:=Option.some.inj hr2
       exact NQ hc
      ·cases hr2
    ·cases hr
   ·cases hr
 by_cases hal:qx q.p.o=true
 ·obtain ⟨zs,dd,ho,hd,h1,h2,_⟩:=DX (hb.We hal)
  have he:effect q r=⟨[(dd,r.1)],[(dd,zs)],[],none⟩:=by
   unfold effect
   rw [ho,hd]
  rw [he]
  intro y hy
  obtain rfl:y=(dd,r.1):=by simpa using hy
  exact hx
 ·rw [AX hb.nw (by simpa using hal)]
  intro y hy
  rcases List.mem_append.1 hy with hy | hy
  ·cases hd:q.p.d with
   | none=>rw [hd] at hy;cases hy
   | some dd=>
    rw [hd] at hy
    obtain rfl:y=(dd,ea q.p.fz r.1):=by simpa [iB] using hy
    exact RX hx
  ·obtain ⟨m,_,rfl⟩:=List.mem_map.1 hy
   rfl
theorem eP.ZX{p q:bw}{f:FuncId}{args:List aO}{sl dl ow:List Nat}(hb:eP p q f args sl dl ow){s:St}{qq:aX}(h:cB R Ω E q s=some qq):∀ d∈cK qq.nb,aq s.bx d=none:=by
 have hs:=tB h
 intro d hd
 obtain ⟨h1,h2⟩:=hs.nb d hd
 obtain ⟨r,hr,_,_⟩:=hb.inv h
 obtain ⟨zs,dd,ho,hdd,_,_,hvb,_⟩:=DX (hb.We h1)
 rw [hdd] at h2
 obtain rfl:d=dd:=by simpa [oS] using h2
 rw [ho] at hr
 simp only [execOp,hdd,Option.bind_some] at hr
 split at hr
 ·rename_i hc
  simp only [Bool.and_eq_true] at hc
  have h4:aq (bT s.bx q.vb) d=none:=by have:=hc.1.1;simp only [fM,Bool.and_eq_true] at this;simpa [view] using this.1
  rwa [wF _ _ _ (by rw [hvb];simp)] at h4
 ·cases hr
structure tC(R:Rec)(E:Env)(s:St)(f:FuncId)(args:List AV)(sl dl ow:List Nat)(x:AV)(hp':HP):Prop where
 ro:E.ro=false
 copy:args.all AV.copy=true
 deep:∀ d cs,aq s.bx d=some cs→AV.bP E.dp cs=true
 nb:∀ y∈s.fr,fN (fh E.dp s sl dl ow) y.2=false
 pt:rz E.dp s sl dl ow
 run:R ⟨E.dp+1,false⟩ f args (xg E.dp s sl dl ow)=some (.ret x,hp')
 pure:x.pure=true
 post:∀ d cs,aq (s.bu E.dp (cA E.dp s sl dl ow hp')).bx d=some cs→d∈ow∨∀ h∈ow,AV.bM ⟨E.dp,h⟩ cs=true
theorem xd{dp:Nat}{o:Option Key} : yA dp o=true↔∃ k,o=some k∧k.dp≤dp:=by
 cases o with
 | none=>simp [yA]
 | some k=>simp [yA]
theorem AY{s:St}{f:FuncId}{args:List AV}{sl dl ow:List Nat}{r:AV×St}(h:kP R E s f args sl dl ow=some r):∃ hp',tC R E s f args sl dl ow r.1 hp'∧r.2=s.bu E.dp (cA E.dp s sl dl ow hp'):=by
 unfold kP at h
 split at h
 ·rename_i hc
  simp only [Bool.and_eq_true,Bool.not_eq_true'] at hc
  obtain ⟨⟨⟨⟨⟨h1,h2⟩,h3⟩,h4⟩,h5⟩,h6⟩:=hc
  obtain ⟨⟨q,hp'⟩,hq,he2⟩:=Option.bind_eq_some_iff.1 h
  cases q with
  | new cs=>cases he2
  | row _ _=>cases he2
  | iq _ _ _ _ _ _=>cases he2
  | ret x=>?_
  simp only at he2
  split at he2
  ·rename_i hk
   obtain rfl:=Option.some.inj he2
   obtain ⟨hk1,hk2⟩:=Bool.and_eq_true_iff.1 hk
   refine ⟨hp',⟨h1,h2,tX.1 h3,fun n hn=>?_,⟨fun m hm=>xd.1 (List.all_eq_true.1 h5 m hm),fun m hm=>?_⟩,hq,hk1,fun d cs hd=>?_⟩,rfl⟩
   ·simpa using List.all_eq_true.1 h4 n hn
   ·have:=List.all_eq_true.1 h6 m hm
    simp only [Bool.and_eq_true,Bool.not_eq_true'] at this
    exact ⟨this.1,xd.1 this.2⟩
   ·have:=tX.1 hk2 d cs hd
    simpa using this
  ·cases he2
 ·cases h
theorem tC.mk'{s:St}{f:FuncId}{args:List AV}{sl dl ow:List Nat}{x:AV}{hp':HP}(h:tC R E s f args sl dl ow x hp') :
  kP R E s f args sl dl ow=some (x,s.bu E.dp (cA E.dp s sl dl ow hp')):=by
 unfold kP
 have h4':(s.fr.all fun y=>!fN (fh E.dp s sl dl ow) y.2)=true:=by
  rw [List.all_eq_true];intro n hn;rw [h.nb n hn];rfl
 have h5':sl.all (fun n=>yA E.dp (de E.dp s (aj s.fr n) false))=true:=by
  rw [List.all_eq_true];intro m hm
  exact xd.2 (h.pt.sl m hm)
 have h7':dl.all (fun n=>!zJ E.dp ow (aj s.fr n)&&yA E.dp (de E.dp s (aj s.fr n) true))=true:=by
  rw [List.all_eq_true];intro m hm
  rw [(h.pt.dl m hm).1,xd.2 (h.pt.dl m hm).2];rfl
 have h3':qN s.bx (fun _ cs=>AV.bP E.dp cs)=true:=tX.2 h.deep
 have h6':qN (s.bu E.dp (cA E.dp s sl dl ow hp')).bx (fun d cs=>ow.contains d||ow.all fun h=>AV.bM ⟨E.dp,h⟩ cs)=true:=tX.2 fun d cs hd=>by
  have:=h.post d cs hd
  simpa using this
 rw [if_pos (by rw [h.ro,h.copy,h3',h4',h5',h7'];rfl),h.run]
 simp only [Option.bind_some]
 rw [if_pos (by rw [h.pure,h6'];rfl)]
theorem iA(dp:Nat)(hp':HP):∀ (bx:List (Nat×List AV))(d:Nat),aq (bC dp hp' bx) d=(aq bx d).bind fun _=>hp' ⟨dp,d⟩
 | [],d=>rfl
 | (k,c)::r,d=>by
  simp only [bC,aq]
  by_cases h:k=d
  ·subst h
   simp only [if_true,Option.bind_some]
   cases hk:hp' ⟨dp,k⟩ with
   | some cs=>simp [aq]
   | none=>
    simp only
    rw [iA dp hp' r k,hk]
    cases aq r k<;>rfl
  ·rw [if_neg h]
   split
   ·simp only [aq,if_neg h];exact iA dp hp' r d
   ·exact iA dp hp' r d
theorem Se.ev{s s':St}(h:Se s s')(xs:List aO):xs.map s.ev=xs.map s'.ev:=by
 apply List.map_congr_left
 intro x _
 cases x with
 | c z=>rfl
 | t n=>exact h.fr n
theorem Se.zD{s s':St}(h:Se s s')(dp:Nat)(y:AV)(lv:Bool):de dp s y lv=de dp s' y lv:=by
 unfold de
 simp only [h.box]
theorem Se.hid{s s':St}(h:Se s s')(dp:Nat)(sl dl ow:List Nat):fh dp s sl dl ow=fh dp s' sl dl ow:=by
 funext k
 unfold fh
 simp only [h.fr,h.zD]
theorem Se.IK{s s':St}(h:Se s s')(dp:Nat)(sl dl ow:List Nat)(hp':HP):cA dp s sl dl ow hp'=cA dp s' sl dl ow hp':=by
 funext k
 unfold cA
 rw [h.hid,h.box]
theorem Se.Q4{s s':St}(h:Se s s')(dp:Nat)(sl dl ow:List Nat):xg dp s sl dl ow=xg dp s' sl dl ow:=by
 funext k
 unfold xg
 rw [h.hid,h.box]
theorem Se.bu{s s':St}(h:Se s s')(dp:Nat)(hp':HP):Se (s.bu dp hp') (s'.bu dp hp'):=
 ⟨h.fr,fun d=>by simp only [St.bu,iA,h.bx],rfl,h.mem⟩
theorem Se.put{s s':St}(h:Se s s')(d:Option Nat)(x:AV):Se (put s d x) (A.put s' d x):=by
 cases d with
 | none=>exact h
 | some d=>exact ⟨fun n=>by simp only [A.put,St.bR,aj];split<;>first | rfl | exact h.fr n,h.bx,h.hp,fun y=>by simp only [A.put,St.bR,List.mem_cons,h.mem y]⟩
theorem rz.se{dp:Nat}{s s':St}{sl dl ow:List Nat}(h:rz dp s sl dl ow)(hs:Se s s'):rz dp s' sl dl ow:=
 ⟨fun m hm=>by rw [←hs.fr,←hs.zD];exact h.sl m hm,fun m hm=>by rw [←hs.fr,←hs.zD];exact h.dl m hm⟩
theorem tC.se{s s':St}{f:FuncId}{args:List AV}{sl dl ow:List Nat}{x:AV}{hp':HP}(h:tC R E s f args sl dl ow x hp')(hs:Se s s'):tC R E s' f args sl dl ow x hp':=
 ⟨h.ro,h.copy,fun d cs hd=>h.deep d cs (by rw [hs.bx];exact hd),fun y hy=>by rw [←hs.hid];exact h.nb y ((hs.mem y).2 hy),h.pt.se hs,by rw [←hs.Q4];exact h.run,h.pure,
  fun d cs hd=>h.post d cs (by rw [(hs.bu _ _).bx,hs.IK];exact hd)⟩
theorem Kz{s s':St}{xs:List aO}(h:∀ n∈LR xs,aj s'.fr n=aj s.fr n):xs.map s'.ev=xs.map s.ev:=by
 apply List.map_congr_left
 intro x hx
 cases x with
 | c z=>rfl
 | t n=>exact h n (List.mem_flatMap.2 ⟨_,hx,by simp⟩)
section
variable {p q:bw}{f:FuncId}{args:List aO}{sl dl ow:List Nat}{qq:aX}{s:St}
theorem iP.BP(hq:iP q qq ow)(hb:eP p q f args sl dl ow){n:Nat}(hn:n∈LR args∨n∈sl∨n∈dl):aj (qq.app s).fr n=aj s.fr n:=by
 simp only [aX.app,iz]
 rw [if_neg]
 intro hm
 have:=hb.wr n (hq.fr n hm)
 rcases hn with h | h | h
 ·exact this.1 h
 ·exact this.2.1 h
 ·exact this.2.2 h
theorem iP.box(hq:iP q qq ow){dp:Nat}{k:Key}(hk:∀ d,k=⟨dp,d⟩→d∉ow):(qq.app s).box dp k=s.box dp k:=by
 unfold St.box
 split
 ·rename_i hd
  simp only [aX.app,hq.wb,oV]
  rcases hq.nb with e | ⟨d,zs,e,_,h2⟩
  ·rw [e];rfl
  ·rw [e]
   have:d≠k.d:=fun e'=>hk k.d (by rw [←hd]) (e'▸h2)
   simp [aq,this]
 ·simp only [aX.app,hq.hp,Option.getD_none]
theorem iP.zD(hq:iP q qq ow){dp:Nat}{y:AV}{lv:Bool}(h:lv=true→zJ dp ow y=false):de dp (qq.app s) y lv=de dp s y lv:=by
 cases lv with
 | false=>cases y<;>rfl
 | true=>
  have h:=h rfl
  cases y<;>first | rfl | skip
  rename_i k off
  simp only [de,if_true]
  rw [hq.box fun d e hd=>by subst e;simp [zJ,hd] at h]
theorem iP.hid(hq:iP q qq ow)(hb:eP p q f args sl dl ow)(dp:Nat):fh dp (qq.app s) sl dl ow=fh dp s sl dl ow:=by
 funext k
 unfold fh
 have h1:(sl.any fun n=>de dp (qq.app s) (aj (qq.app s).fr n) false==some k)=(sl.any fun n=>de dp s (aj s.fr n) false==some k):=by
  rw [Bool.eq_iff_iff,List.any_eq_true,List.any_eq_true]
  constructor
  ·rintro ⟨n,hn,h⟩;exact ⟨n,hn,by rwa [hq.BP hb (.inr (.inl hn)),hq.zD (fun h=>by cases h)] at h⟩
  ·rintro ⟨n,hn,h⟩;exact ⟨n,hn,by rwa [hq.BP hb (.inr (.inl hn)),hq.zD (fun h=>by cases h)]⟩
 have h2:(dl.any fun n=>!zJ dp ow (aj (qq.app s).fr n)&&de dp (qq.app s) (aj (qq.app s).fr n) true==some k)=(dl.any fun n=>!zJ dp ow (aj s.fr n)&&de dp s (aj s.fr n) true==some k):=by
  rw [Bool.eq_iff_iff,List.any_eq_true,List.any_eq_true]
  simp only [Bool.and_eq_true,Bool.not_eq_true']
  constructor
  ·rintro ⟨n,hn,h0,h⟩
   rw [hq.BP hb (.inr (.inr hn))] at h0 h
   exact ⟨n,hn,h0,by rwa [hq.zD (fun _=>h0)] at h⟩
  ·rintro ⟨n,hn,h0,h⟩
   rw [←hq.BP (s:=s) hb (.inr (.inr hn))] at h0 h
   exact ⟨n,hn,h0,by rwa [hq.zD (fun _=>h0)]⟩
 rw [h1,h2]
theorem Bt{dp:Nat}{d:Nat}(h:d∈ow):fh dp s sl dl ow ⟨dp,d⟩=true:=by
 simp [fh,h]
theorem iP.Q4(hq:iP q qq ow)(hb:eP p q f args sl dl ow)(dp:Nat):xg dp (qq.app s) sl dl ow=xg dp s sl dl ow:=by
 funext k
 unfold xg
 rw [hq.hid hb]
 split
 ·rfl
 ·rename_i hn
  exact hq.box fun d e hd=>hn (by rw [e];exact Bt hd)
theorem iP.IK(hq:iP q qq ow)(hb:eP p q f args sl dl ow){dp:Nat}{hp':HP}{k:Key}(hk:∀ d,k=⟨dp,d⟩→d∉ow):cA dp (qq.app s) sl dl ow hp' k=cA dp s sl dl ow hp' k:=by
 unfold cA
 rw [hq.hid hb,hq.box hk]
theorem P6{dp:Nat}{hp':HP}{d:Nat}(h:d∈ow):cA dp s sl dl ow hp' ⟨dp,d⟩=aq s.bx d:=by
 unfold cA
 rw [if_pos (Bt h)]
 simp [St.box]
theorem yw(hq:iP q qq ow):(qq.app s).bx=qq.nb++s.bx:=by simp only [aX.app,hq.wb,oV]
theorem iP.bxO(hq:iP q qq ow){d:Nat}(h:d∉ow):aq (qq.app s).bx d=aq s.bx d:=by
 rw [yw hq]
 rcases hq.nb with e | ⟨d',zs,e,_,h2⟩
 ·rw [e];rfl
 ·rw [e]
  have:d'≠d:=fun e'=>h (e'▸h2)
  simp [aq,this]
theorem iP.bxI(hq:iP q qq ow){d:Nat}{cs:List AV}(h:aq (qq.app s).bx d=some cs):aq s.bx d=some cs∨AV.aK cs=true:=by
 rw [yw hq] at h
 rcases hq.nb with e | ⟨d',zs,e,hz,_⟩
 ·rw [e] at h;exact .inl h
 ·rw [e] at h
  simp only [List.cons_append,List.nil_append,aq] at h
  split at h
  ·obtain rfl:=Option.some.inj h;exact .inr hz
  ·exact .inl h
theorem rz.app(h:rz E.dp s sl dl ow)(hq:iP q qq ow)(hb:eP p q f args sl dl ow):rz E.dp (qq.app s) sl dl ow:=
 ⟨fun m hm=>by rw [hq.BP hb (.inr (.inl hm)),hq.zD (fun h=>by cases h)];exact h.sl m hm,
  fun m hm=>by
   have h1:=h.dl m hm
   rw [hq.BP hb (.inr (.inr hm)),hq.zD (fun _=>h1.1)];exact h1⟩
theorem rz.ZY(h:rz E.dp (qq.app s) sl dl ow)(hq:iP q qq ow)(hb:eP p q f args sl dl ow):rz E.dp s sl dl ow:=
 ⟨fun m hm=>by
   have h1:=h.sl m hm
   rwa [hq.BP hb (.inr (.inl hm)),hq.zD (fun h=>by cases h)] at h1,
  fun m hm=>by
   have h1:=h.dl m hm
   rw [hq.BP hb (.inr (.inr hm))] at h1
   rwa [hq.zD (fun _=>h1.1)] at h1⟩
theorem iP.call(hq:iP q qq ow)(hb:eP p q f args sl dl ow)(hpl:∀ y∈qq.fr,fN (fh E.dp s sl dl ow) y.2=false){vals:List AV}{x:AV}{hp':HP}(h:tC R E s f vals sl dl ow x hp'):tC R E (qq.app s) f vals sl dl ow x hp':=by
 refine ⟨h.ro,h.copy,fun d cs hd=>?_,fun y hy=>?_,h.pt.app hq hb,by rw [hq.Q4 hb];exact h.run,h.pure,fun d cs hd=>?_⟩
 ·rcases hq.bxI hd with h1 | h1
  ·exact h.deep d cs h1
  ·exact qy _ h1
 ·rw [hq.hid hb]
  rcases List.mem_append.1 (show y∈qq.fr++s.fr from hy) with h1 | h1
  ·exact hpl y h1
  ·exact h.nb y h1
 ·by_cases ho:d∈ow
  ·exact .inl ho
  ·refine h.post d cs ?_
   simp only [St.bu,iA,hq.bxO ho] at hd ⊢
   rwa [hq.IK hb fun d' e=>by injection e with _ e;subst e;exact ho] at hd
theorem iP.Wf(hq:iP q qq ow)(hb:eP p q f args sl dl ow){vals:List AV}{x:AV}{hp':HP}(hno:∀ d∈cK qq.nb,aq s.bx d=none)(h:tC R E (qq.app s) f vals sl dl ow x hp'):tC R E s f vals sl dl ow x hp':=by
 refine ⟨h.ro,h.copy,fun d cs hd=>?_,fun y hy=>?_,h.pt.ZY hq hb,by rw [←hq.Q4 hb];exact h.run,h.pure,fun d cs hd=>?_⟩
 ·refine h.deep d cs ?_
  rw [yw hq,nr,if_neg fun hm=>?_]
  ·exact hd
  ·rw [hno d hm] at hd;cases hd
 ·rw [←hq.hid hb]
  exact h.nb y (show y∈qq.fr++s.fr from List.mem_append_right _ hy)
 ·by_cases ho:d∈ow
  ·exact .inl ho
  ·refine h.post d cs ?_
   simp only [St.bu,iA,hq.bxO ho] at hd ⊢
   rwa [hq.IK hb fun d' e=>by injection e with _ e;subst e;exact ho]
theorem iP.comm(hq:iP q qq ow)(hb:eP p q f args sl dl ow){x:AV}{hp':HP} : Se (qq.app (put (s.bu E.dp (cA E.dp s sl dl ow hp')) p.p.d x)) (put ((qq.app s).bu E.dp (cA E.dp (qq.app s) sl dl ow hp')) p.p.d x):=by
 have hbx:∀ d,aq (qq.nb++oV (s.bu E.dp (cA E.dp s sl dl ow hp')).bx qq.wb) d=aq ((qq.app s).bu E.dp (cA E.dp (qq.app s) sl dl ow hp')).bx d:=by
  intro d
  simp only [St.bu,yw hq,hq.wb,oV,nr,iA]
  by_cases hd:d∈cK qq.nb
  ·rw [if_pos hd,if_pos hd]
   rcases hq.nb with e | ⟨d',zs,e,_,ho⟩
   ·rw [e] at hd;simp [cK] at hd
   ·rw [e] at hd ⊢
    simp only [cK,List.map_cons,List.map_nil,List.mem_singleton] at hd
    subst hd
    rw [P6 (s:=qq.app s) ho,yw hq,e]
    simp [aq]
  ·rw [if_neg hd,if_neg hd]
   by_cases ho:d∈ow
   ·rw [P6 (s:=qq.app s) ho,P6 (s:=s) ho,yw hq,nr,if_neg hd]
   ·rw [hq.IK hb fun d' e=>by injection e with _ e;subst e;exact ho]
 have hhp:(s.bu E.dp (cA E.dp s sl dl ow hp')).hp=((qq.app s).bu E.dp (cA E.dp (qq.app s) sl dl ow hp')).hp:=by
  simp only [St.bu]
  funext k
  split
  ·rename_i hlt
   rw [hq.IK hb fun d e=>by subst e;exact absurd hlt (Nat.lt_irrefl _)]
  ·rfl
 cases hd:p.p.d with
 | none=>
  refine ⟨fun n=>rfl,hbx,?_,fun y=>Iff.rfl⟩
  show qq.hp.getD _=_
  rw [hq.hp];exact hhp
 | some dd=>
  have hdd:dd∉cK qq.fr:=fun hm=>(hb.ds dd hd).1 (hq.fr dd hm)
  refine ⟨fun n=>?_,hbx,?_,fun y=>?_⟩
  ·show aj (qq.fr++(dd,x)::s.fr) n=aj ((dd,x)::(qq.fr++s.fr)) n
   simp only [iz,aj]
   by_cases hn:dd=n
   ·subst hn;simp [hdd]
   ·simp only [if_neg hn]
  ·show qq.hp.getD _=_
   rw [hq.hp];exact hhp
  ·show y∈qq.fr++(dd,x)::s.fr↔y∈(dd,x)::(qq.fr++s.fr)
   simp only [List.mem_append,List.mem_cons]
   constructor
   ·rintro (h | h | h)
    ·exact .inr (.inl h)
    ·exact .inl h
    ·exact .inr (.inr h)
   ·rintro (h | h | h)
    ·exact .inr (.inl h)
    ·exact .inl h
    ·exact .inr (.inr h)
theorem eP.IH(hb:eP p q f args sl dl ow){x:AV}{hp':HP}(hnb:∀ y∈s.fr,fN (fh E.dp s sl dl ow) y.2=false)(hpt:rz E.dp s sl dl ow) :
  cB R Ω E q (put (s.bu E.dp (cA E.dp s sl dl ow hp')) p.p.d x)=cB R Ω E q s:=by
 have hkf:js (put (s.bu E.dp (cA E.dp s sl dl ow hp')) p.p.d x).fr q.vw=js s.fr q.vw:=by
  apply BO
  intro n hn
  cases hd:p.p.d with
  | none=>rfl
  | some dd=>
   have:dd≠n:=fun e=>(hb.ds dd hd).2 (e▸hn)
   simp only [put,St.bR,aj,if_neg this]
   rfl
 have hbx2:(put (s.bu E.dp (cA E.dp s sl dl ow hp')) p.p.d x).bx=(s.bu E.dp (cA E.dp s sl dl ow hp')).bx:=by cases p.p.d<;>rfl
 have hp2:(put (s.bu E.dp (cA E.dp s sl dl ow hp')) p.p.d x).hp=(s.bu E.dp (cA E.dp s sl dl ow hp')).hp:=by cases p.p.d<;>rfl
 have hbo:∀ d,fh E.dp s sl dl ow ⟨E.dp,d⟩=true→aq (put (s.bu E.dp (cA E.dp s sl dl ow hp')) p.p.d x).bx d=aq s.bx d:=by
  intro d hd
  rw [hbx2]
  simp only [St.bu,iA]
  have:cA E.dp s sl dl ow hp' ⟨E.dp,d⟩=aq s.bx d:=by
   unfold cA
   rw [if_pos hd]
   simp [St.box]
  rw [this]
  cases aq s.bx d<;>rfl
 have hvfr:(view q (put (s.bu E.dp (cA E.dp s sl dl ow hp')) p.p.d x)).fr=(view q s).fr:=hkf
 have hvb:∀ k,fh E.dp s sl dl ow k=true→(view q (put (s.bu E.dp (cA E.dp s sl dl ow hp')) p.p.d x)).box E.dp k=(view q s).box E.dp k:=by
  intro k hk
  obtain ⟨kd,ke⟩:=k
  by_cases hkd:kd=E.dp
  ·subst hkd
   show (if E.dp=E.dp then aq (bT _ q.vb) ke else _)=(if E.dp=E.dp then aq (bT _ q.vb) ke else _)
   rw [if_pos rfl,if_pos rfl]
   have:∀ ks,aq (bT (put (s.bu E.dp (cA E.dp s sl dl ow hp')) p.p.d x).bx ks) ke=aq (bT s.bx ks) ke:=by
    intro ks
    by_cases hm:ke∈ks
    ·rw [wF _ _ _ hm,wF _ _ _ hm,hbo ke hk]
    ·have h1:∀ bx:List (Nat×List AV),aq (bT bx ks) ke=none:=fun bx=>oR fun h=>hm (xc bx ks h)
     rw [h1,h1]
   exact this q.vb
  ·have hlt:kd<E.dp:=by have:(⟨kd,ke⟩:Key).dp≤E.dp:=hpt.dp hk;simp only at this;omega
   show (if kd=E.dp then _ else (view q (put (s.bu E.dp (cA E.dp s sl dl ow hp')) p.p.d x)).hp ⟨kd,ke⟩)=(if kd=E.dp then _ else (view q s).hp ⟨kd,ke⟩)
   rw [if_neg hkd,if_neg hkd]
   simp only [view]
   split
   ·rw [hp2]
    simp only [St.bu]
    rw [if_pos hlt]
    unfold cA
    rw [if_pos hk]
    simp [St.box,hkd]
   ·rfl
 have hkey:(E7 ow q=true∨(qx q.p.o=false∧q.vb=[]∧q.vh=false))∨∃ g:Option AV,(execOp R Ω E (view q s) q.p.d q.p.o=g.map fun y=>(y,view q s))∧(execOp R Ω E (view q (put (s.bu E.dp (cA E.dp s sl dl ow hp')) p.p.d x)) q.p.d q.p.o=g.map fun y=>(y,view q (put (s.bu E.dp (cA E.dp s sl dl ow hp')) p.p.d x)))∧qx q.p.o=false∧(∀ v,iR v q.p.o=true)∧∀ v,cY E.dp q v=true:=by
  rcases hb.kd with h | h | h | h
  ·exact .inl (.inl h)
  ·right
   obtain ⟨n,m,b,lv,ho,hsl,hdl⟩:=LU h
   have e1:∀ n,(view q (put (s.bu E.dp (cA E.dp s sl dl ow hp')) p.p.d x)).ev (.t n)=(view q s).ev (.t n):=fun n=>by show aj _ n=aj _ n;rw [hvfr]
   have e2:de E.dp (view q (put (s.bu E.dp (cA E.dp s sl dl ow hp')) p.p.d x)) ((view q s).ev (.t b)) lv=de E.dp (view q s) ((view q s).ev (.t b)) lv:=by
    cases lv with
    | false=>unfold de;cases (view q s).ev (.t b)<;>rfl
    | true=>
     cases hy:(view q s).ev (.t b)<;>first | rfl | skip
     rename_i k' off'
     have hk':fh E.dp s sl dl ow k'=true:=IJ (q:=q) (lv:=false) hpt hsl (fun h=>by cases h) (by
      show de E.dp (view q s) ((view q s).ev (.t b)) false=some k'
      rw [hy];rfl)
     simp only [de,if_true,hvb k' hk']
   have e3:qx q.p.o=false∧(∀ v,iR v q.p.o=true)∧∀ v,cY E.dp q v=true:=⟨by rw [ho];rfl,fun v=>by rw [ho];rfl,fun v=>by unfold cY;rw [ho]⟩
   by_cases hA:∃ k off,(view q s).ev (.t m)= .p k off∧de E.dp (view q s) ((view q s).ev (.t b)) lv=some k
   ·obtain ⟨k,off,hA,hev⟩:=hA
    have hk:=IJ (q:=q) hpt hsl hdl hev
    refine ⟨((view q s).box E.dp k).bind fun cs=>(pick n off cs).bind fun y=>match y with
     | .o _ _=>some (.r (.c k off))
     | y=>if y.copy then some y else none,?_,?_,e3⟩
    ·rw [ho]
     simp only [execOp,hA,if_pos hev]
     cases (view q s).box E.dp k with
     | none=>rfl
     | some cs=>
      simp only [Option.bind_some]
      cases pick n off cs with
      | none=>rfl
      | some y=>
       simp only [Option.bind_some]
       cases y<;>simp only []<;>first | rfl | (split<;>rfl)
    ·rw [ho]
     simp only [execOp,e1,hA,e2,if_pos hev,hvb k hk]
     cases (view q s).box E.dp k with
     | none=>rfl
     | some cs=>
      simp only [Option.bind_some]
      cases pick n off cs with
      | none=>rfl
      | some y=>
       simp only [Option.bind_some]
       cases y<;>simp only []<;>first | rfl | (split<;>rfl)
   ·refine ⟨none,?_,?_,e3⟩
    ·rw [ho]
     simp only [execOp]
     split
     ·rename_i k off hx
      rw [if_neg fun hev=>hA ⟨k,off,hx,hev⟩];rfl
     ·rfl
    ·rw [ho]
     simp only [execOp,e1,e2]
     split
     ·rename_i k off hx
      rw [if_neg fun hev=>hA ⟨k,off,hx,hev⟩];rfl
     ·rfl
  ·right
   obtain ⟨m,ho⟩:=Q3 h
   have e1:(view q (put (s.bu E.dp (cA E.dp s sl dl ow hp')) p.p.d x)).ev (.t m)=(view q s).ev (.t m):=by show aj _ m=aj _ m;rw [hvfr]
   have hrow:∀ pl,fN (fh E.dp s sl dl ow) (.r pl)=false→(view q (put (s.bu E.dp (cA E.dp s sl dl ow hp')) p.p.d x)).rowAt E.dp pl=(view q s).rowAt E.dp pl:=by
    intro pl hpl
    cases pl with
    | s d'=>simp only [St.rowAt,hvfr]
    | c k off=>
     have hk:fh E.dp s sl dl ow k=true:=by simpa [fN] using hpl
     simp only [St.rowAt,hvb k hk]
   have hbv:fN (fh E.dp s sl dl ow) ((view q s).ev (.t m))=false:=by
    show fN _ (aj (view q s).fr m)=false
    rcases Ky q s m with e | e
    ·rw [e];rfl
    ·rw [e]
     by_cases hu:aj s.fr m= .u
     ·rw [hu];rfl
     ·obtain ⟨y,hy,e'⟩:=P4 hu
      rw [←e'];exact hnb y hy
   have hel:(view q (put (s.bu E.dp (cA E.dp s sl dl ow hp')) p.p.d x)).elems E.dp ((view q s).ev (.t m))=(view q s).elems E.dp ((view q s).ev (.t m)):=by
    cases hy:(view q s).ev (.t m) with
    | r pl=>rw [hy] at hbv;exact hrow pl hbv
    | v pl lo len=>
     rw [hy] at hbv
     have:fN (fh E.dp s sl dl ow) (.r pl)=false:=by cases pl<;>exact hbv
     simp only [St.elems,hrow pl this]
    | _=>rfl
   refine ⟨(match (view q s).ev (.t m) with
    | .s _=>none
    | .sp _ _ n _=>some (.i .i64 n)
    | y=>((view q s).elems E.dp y).bind fun r=>some (.i .i64 r.2.length)),?_,?_,by rw [ho];rfl,fun v=>by rw [ho];rfl,fun v=>by unfold cY;rw [ho]⟩
   ·rw [ho]
    simp only [execOp]
    cases (view q s).ev (.t m)<;>simp only []<;>first | rfl | (simp only [Bool.false_eq_true,if_false];cases (view q s).elems E.dp _<;>rfl)
   ·rw [ho]
    simp only [execOp,e1]
    cases hy:(view q s).ev (.t m)<;>rw [hy] at hel<;>simp only []<;>first | rfl | (simp only [Bool.false_eq_true,if_false,hel];cases (view q s).elems E.dp _<;>rfl)
  ·exact .inl (.inr h)
 rcases hkey with h | ⟨g,h1,h2,h3,h4,h5⟩
 ·refine IG.patch ⟨fun d hd=>?_,fun d hd=>?_,fun hv=>?_⟩
  ·have hd':d∈q.vw:=by
    have h2:=hd
    unfold Q2 Wd at h2
    rw [hb.qg] at h2
    simpa using h2
   have:=congrArg (fun l=>aj l d) hkf
   simpa only [Fg _ _ _ hd'] using this
  ·rcases h with h | h
   ·obtain ⟨zs,dd,_,_,_,hdo,hvb',_⟩:=DX h
    rw [hvb'] at hd
    obtain rfl:d=dd:=by simpa using hd
    exact hbo d (Bt hdo)
   ·rw [h.2.1] at hd;cases hd
  ·rcases h with h | h
   ·obtain ⟨_,_,_,_,_,_,_,hvh⟩:=DX h
    rw [hvh] at hv;cases hv
   ·rw [h.2.2] at hv;cases hv
 ·unfold cB jt
  rw [hb.qg]
  simp only [h1,h2,h4,h5]
  cases g with
  | none=>rfl
  | some y=>simp only [Option.map_some,Option.bind_some,AX hb.nw h3]
end
def LV(gs:List bw)(i j:Nat):Prop:=∃ p q,gs[i]? =some p∧gs[j]? =some q∧((p.lt=true∧q.lt=true∧xb p q=true)∨vj p q=true∨vj q p=true)
theorem nG.swap{i j:Nat}{π:List Nat}{s t:St}(hf:LV gs i j)(h:nG R Ω E gs (i::j::π) s t):nG R Ω E gs (j::i::π) s t:=by
 obtain ⟨p,q,hp,hq,hcase⟩:=hf
 obtain ⟨p',s1,s2,h1,h2,h3,q',s3,s4,h4,h5,h6,h7⟩:=h
 obtain rfl:p=p':=by rw [hp] at h1;exact Option.some.inj h1
 obtain rfl:q=q':=by rw [hq] at h4;exact Option.some.inj h4
 rcases hcase with ⟨hpl,hql,hc⟩ | hc | hc
 rotate_left
 ·
  obtain ⟨f,args,sl,vs,ow,hb⟩:=FX hc
  simp only [cC,hb.pl,Bool.false_eq_true,if_false,gw,hb.pg,hb.o,execOp] at h3
  obtain ⟨⟨x,s2'⟩,hcall,he⟩:=Option.bind_eq_some_iff.1 h3
  obtain rfl:=Option.some.inj he
  simp only [cC,if_pos hb.ql] at h6
  obtain ⟨qq,hqq,he'⟩:=Option.bind_eq_some_iff.1 h6
  obtain rfl:=Option.some.inj he'
  have hP:=hb.patch hqq
  obtain ⟨hp',hC,e2⟩:=AY hcall
  simp only at e2 hC
  subst e2
  have hqq1:cB R Ω E q s1=some qq:=by
   rw [←hb.IH (x:=ea p.p.fz x) (hp':=hp') hC.nb hC.pt,(Se.IH h5).patch];exact hqq
  have hev:=Kz (s:=s1) (s':=qq.app s1) (xs:=args) fun n hn=>hP.BP hb (.inl hn)
  have hcall':=(hP.call hb (hb.plain hC.pt hqq1) hC).mk'
  rw [←hev] at hcall'
  refine ⟨q,s1,qq.app s1,hq,h2,by simp only [cC,if_pos hb.ql,hqq1,Option.bind_some],p,qq.app s1,_,hp,Se.refl _,by simp only [cC,hb.pl,Bool.false_eq_true,if_false,gw,hb.pg,hb.o,execOp,hcall',Option.bind_some];rfl,?_⟩
  exact h7.se (Se.trans (hP.comm hb).symm (h5.app qq))
 ·
  obtain ⟨f,args,sl,vs,ow,hb⟩:=FX hc
  simp only [cC,if_pos hb.ql] at h3
  obtain ⟨qq,hqq,he'⟩:=Option.bind_eq_some_iff.1 h3
  obtain rfl:=Option.some.inj he'
  simp only [cC,hb.pl,Bool.false_eq_true,if_false,gw,hb.pg,hb.o,execOp] at h6
  obtain ⟨⟨x,s4'⟩,hcall,he⟩:=Option.bind_eq_some_iff.1 h6
  obtain rfl:=Option.some.inj he
  have hP:=hb.patch hqq
  obtain ⟨hp',hC,e2⟩:=AY hcall
  simp only at e2 hC
  subst e2
  have hev:=Kz (s:=s1) (s':=qq.app s1) (xs:=args) fun n hn=>hP.BP hb (.inl hn)
  have hC1:=hC.se h5.symm
  rw [←h5.ev,hev] at hC1
  have hC2:=hP.Wf hb (hb.ZX hqq) hC1
  have hcall':=hC2.mk'
  have hqq1:cB R Ω E p (put (s1.bu E.dp (cA E.dp s1 sl vs ow hp')) q.p.d (ea q.p.fz x))=some qq:=by
   rw [hb.IH hC2.nb hC2.pt];exact hqq
  refine ⟨q,s1,_,hq,h2,by simp only [cC,hb.pl,Bool.false_eq_true,if_false,gw,hb.pg,hb.o,execOp,hcall',Option.bind_some];rfl,p,_,_,hp,Se.refl _,by simp only [cC,if_pos hb.ql,hqq1,Option.bind_some];rfl,?_⟩
  refine h7.se (Se.trans (hP.comm hb) ?_)
  refine Se.put ?_ _ _
  rw [←h5.IK]
  exact h5.bu _ _
 simp only [cC,if_pos hpl] at h3
 simp only [cC,if_pos hql] at h6
 obtain ⟨pp,hpp,he⟩:=Option.bind_eq_some_iff.1 h3
 obtain rfl:=Option.some.inj he
 obtain ⟨qq,hqq,he'⟩:=Option.bind_eq_some_iff.1 h6
 obtain rfl:=Option.some.inj he'
 have hc':xb q p=true:=by
  simp only [xb,Bool.and_eq_true,Bool.not_eq_true'] at hc ⊢
  obtain ⟨⟨⟨⟨⟨⟨c1,c2⟩,c3⟩,c4⟩,c5⟩,c6⟩,c7⟩:=hc
  have hsym:∀ l m,ux l m=true→ux m l=true:=fun l m h=>by
   unfold ux
   rw [List.all_eq_true]
   intro x hx
   have:x∉l:=fun hl=>kA h hl hx
   simpa using this
  refine ⟨⟨⟨⟨⟨⟨c2,c1⟩,hsym _ _ c3⟩,c5⟩,c4⟩,hsym _ _ c6⟩,?_⟩
  revert c7
  cases fH p<;>cases fH q<;>cases p.vh<;>cases q.vh<;>simp
 have sp:=tB hpp
 have sq:=tB hqq
 have e1:cB R Ω E q s1=some qq:=by
  rw [←hqq]
  exact ((II sp hc).patch.symm.trans (Se.IH h5).patch)
 have e2:cB R Ω E p (qq.app s1)=some pp:=by
  rw [←hpp]
  exact (II sq hc').patch
 refine ⟨q,s1,qq.app s1,hq,h2,by simp only [cC,if_pos hql,e1,Option.bind_some],p,qq.app s1,pp.app (qq.app s1),hp,Se.refl _,by simp only [cC,if_pos hpl,e2,Option.bind_some],?_⟩
 exact h7.se ((P2 (P3 sp sq hc) s1).trans (h5.app qq))
theorem nG.front{i:Nat}{B:List Nat}{t:St} : ∀ (A:List Nat)(s:St),(∀ a∈A,LV gs a i)→nG R Ω E gs (A++i::B) s t→nG R Ω E gs (i::(A++B)) s t
 | [],_,_,h=>h
 | a::A,s,hf,h=>by
  obtain ⟨p,s1,s2,h1,h2,h3,h4⟩:=h
  exact nG.swap (hf a (by simp)) ⟨p,s1,s2,h1,h2,h3,nG.front A s2 (fun b hb=>hf b (by simp [hb])) h4⟩
end
variable [aY]
def IL:nH→Bool
 | .al _=>true
 | .ck _ _=>true
 | .bs _ _ _=>true
 | .ms _ _ _ _ _=>true
 | .ap _ _ _ _ _=>true
 | _=>false
def eY(p:bw):Bool:=
 match p.p.o with
 | .bx _=>false
 | .c2 _ _=>false
 | .d2 _ _=>false
 | .cr _ _ _=>false
 | .co _ _ _=>false
 | .ch _ _ _ _ _=>false
 | .st _ _ y=>p.p.d==none&&(p.cs==[]||match y with
  | .t m=>p.cs==[m]
  | .c _=>false)
 | .ap _ _ _ x _=>match x with
  | .t m=>p.cs==[m]||p.cs==[m,m]
  | .c _=>p.cs==[]
 | _=>p.cs==[]
structure jH(dp:Nat)(s:St)(h:Nat):Prop where
 fr:∀ d,(aj s.fr d).bb ⟨dp,h⟩=true∧(aj s.fr d).fe (.s h)=false
 cs:∀ d cs,aq s.bx d=some cs→∀ c∈cs,c.bb ⟨dp,h⟩=true
theorem jH.of{dp:Nat}{s:St}{h:Nat}(hf:rL dp s h=true):jH dp s h:=by
 simp only [rL,Bool.and_eq_true] at hf
 refine ⟨fun d=>?_,fun d cs hb c hc=>ja (lS _ hf.2 d cs hb) c hc⟩
 have:=lR (p:=fun y=>y.bb ⟨dp,h⟩&&!y.fe (.s h)) rfl _ hf.1.2 d
 simpa using this
theorem jH.se{dp:Nat}{s s':St}{h:Nat}(hf:jH dp s h)(hs:Se s s'):jH dp s' h:=
 ⟨fun d=>by rw [←hs.fr];exact hf.fr d,fun d cs hb=>hf.cs d cs (by rw [hs.bx];exact hb)⟩
def pI(dp:Nat)(s:St)(h:Nat):Prop:=∀ d,jc ⟨dp,h⟩ (aj s.fr d)=false
theorem pI.se{dp:Nat}{s s':St}{h:Nat}(hf:pI dp s h)(hs:Se s s'):pI dp s' h:=fun d=>by rw [←hs.fr];exact hf d
theorem P7{k:Key}{off:Nat}{x:AV}(h:x.fe (.c k off)=true):jc k x=true:=by
 cases x with
 | r pl=>
   have:pl= .c k off:=by simpa [AV.fe] using h
   subst this;simp [jc]
 | v pl lo len=>
   have:pl= .c k off:=by simpa [AV.fe] using h
   subst this;simp [jc]
 | q pl i sz off'=>
   have:pl= .c k off:=by simpa [AV.fe] using h
   subst this;simp [jc]
 | _=>cases h
section
variable {C:Cx}{s:St}{a:Act}{w:World}{σ:Sp}{o:Oper}{R:Rec}{Ω:cm}
theorem E8(p:bw)(s:St)(dp:Nat):Le dp (view p s) s:=by
 refine ⟨zh s.fr p.vw,fun k cs hk=>?_⟩
 by_cases hd:k.dp=dp
 ·simp only [St.box,view,hd,if_true] at hk ⊢
  exact bY hk
 ·simp only [St.box,view,if_neg hd] at hk ⊢
  split at hk
  ·exact hk
  ·cases hk
theorem DY{p:bw}{r:AV×St}(h1:qx p.p.o=false)(h2:fH p=false):effect p r=⟨iB p.p.d (ea p.p.fz r.1)++p.cs.map (fun m=>(m,.u)),[],[],none⟩:=by
 unfold effect
 split
 ·rename_i ho;rw [ho] at h1;cases h1
 ·rename_i ho;rw [ho] at h1;cases h1
 ·rename_i ho;simp [fH,ho,qw] at h2
 ·rename_i ho
  have:(p.cs.length==2)=false:=by simpa [fH,jW,ho,qw] using h2
  simp [this]
 ·rfl
theorem NR(d:Option Nat)(x:AV)(s:St)(d':Nat):aj (iB d x++s.fr) d'=aj (A.put s d x).fr d':=by cases d<;>rfl
theorem mL(cs:List Nat)(fr:List (Nat×AV))(d:Nat):aj (cs.map (fun m=>(m,AV.u))++fr) d=if d∈cs then .u else aj fr d:=by
 induction cs with
 | nil=>simp
 | cons c cs ih=>
  simp only [List.map_cons,List.cons_append,aj,List.mem_cons,ih]
  by_cases h:c=d
  ·subst h;simp
  ·have h':¬d=c:=fun e=>h e.symm
   simp [h,h']
theorem finish{p:bw}{q:aX}{x:AV}{s':St}{K:Act→World→Prop}{Q:Exit→Act→World→Prop}(hdst:o.dst=p.p.d)(hd:∀ dd,p.p.d=some dd→dd<C.nt)(hsim:cX C o p.p.d a w σ s' x)
  (hfr:∀ d',aj (q.app s).fr d'= .u∨aj (q.app s).fr d'=aj (A.put s' p.p.d (ea p.p.fz x)).fr d') (hbx:∀ k cs,(q.app s).box C.E.dp k=some cs→s'.box C.E.dp k=some cs)
  (hhp:∀ k cs,k.dp≠C.E.dp→(q.app s).hp k=some cs→s'.hp k=some cs) (hK:∀ a' w' σ',bN C w σ w' σ'→ad C (q.app s) a' w' σ'→K a' w'):o.wp C.P a w K Q:=by
 refine hsim _ _ fun cv w' σ' hop=>?_
 obtain ⟨σ'',hs,hc⟩:=hop.Wb hd p.p.fz
 rw [hdst]
 refine hK _ _ _ hs (hc.zg hfr (fun k cs hk=>?_) (fun k cs hk hc=>?_))
 ·have:=hbx k cs hk
  cases p.p.d<;>exact this
 ·have:=hhp k cs hk hc
  cases p.p.d<;>exact this
theorem CE{dp:Nat}{p:bw}{s:St}{k:Key}{cs nw:List AV}(fr:List (Nat×AV))(hb:(view p s).box dp k=some cs) :
  (∀ k' cs',((⟨fr,[],bT ((view p s).aC dp k nw).bx p.vb,if p.vh=true then some ((view p s).aC dp k nw).hp else none⟩:aX).app s).box dp k'=some cs'→(s.aC dp k nw).box dp k'=some cs')∧
  (∀ k' cs',k'.dp≠dp→((⟨fr,[],bT ((view p s).aC dp k nw).bx p.vb,if p.vh=true then some ((view p s).aC dp k nw).hp else none⟩:aX).app s).hp k'=some cs'→(s.aC dp k nw).hp k'=some cs'):=by
 have hb':=(E8 p s dp).bx k cs hb
 refine ⟨fun k' cs' hk'=>?_,fun k' cs' hkd hk'=>?_⟩
 ·rw [fX hb']
  by_cases hkd':k'.dp=dp
  ·simp only [St.box,hkd',if_true,aX.app,List.nil_append,pH] at hk'
   by_cases hkd:k.dp=dp
   ·simp only [St.aC,hkd,if_true] at hk'
    by_cases hkk:k'=k
    ·subst hkk
     rw [if_pos rfl]
     have hvb:aq (view p s).bx k'.d=some cs:=by simpa [St.box,hkd] using hb
     have hin:k'.d∈p.vb:=by
      have:∀ ks,aq (bT s.bx ks) k'.d=some cs→k'.d∈ks:=by
       intro ks hks
       refine xc s.bx ks ?_
       apply Classical.byContradiction
       intro hno
       rw [oR hno] at hks;cases hks
      exact this p.vb hvb
     have hkeep:∀ (bx:List (Nat×List AV))(ks:List Nat)(d:Nat),d∈ks→aq (bT bx ks) d=aq bx d:=by
      intro bx ks d
      induction ks with
      | nil=>intro h;cases h
      | cons c ks ih=>
       intro hm
       simp only [bT]
       cases hc2:aq bx c with
       | none=>
        simp only
        rcases List.mem_cons.1 hm with rfl | hm
        ·cases hq2:aq (bT bx ks) d with
         | none=>exact hc2.symm
         | some z=>have:=bY hq2;rw [hc2] at this;cases this
        ·exact ih hm
       | some z=>
        simp only [aq]
        by_cases hcd:c=d
        ·subst hcd;rw [if_pos rfl,hc2]
        ·rw [if_neg hcd]
         rcases List.mem_cons.1 hm with rfl | hm
         ·exact absurd rfl hcd
         ·exact ih hm
     rw [hkeep _ _ _ hin,tV,if_pos rfl,hvb] at hk'
     have hsb:aq s.bx k'.d=some cs:=by simpa [St.box,hkd] using hb'
     rw [hsb] at hk'
     exact hk'
    ·rw [if_neg hkk]
     have hne:k'.d≠k.d:=fun e=>hkk (by cases k;cases k';simp at hkd hkd' e;rw [hkd,hkd',e])
     simp only [St.box,hkd',if_true]
     cases hq:aq (bT (kK (view p s).bx k.d nw) p.vb) k'.d with
     | none=>rw [hq] at hk';exact hk'
     | some z=>
      rw [hq] at hk'
      have h1:=bY hq
      rw [tV,if_neg hne] at h1
      have h2:aq s.bx k'.d=some z:=bY h1
      rw [h2] at hk' ⊢
      exact hk'
   ·simp only [St.aC,if_neg hkd] at hk'
    have hkk:k'≠k:=fun e=>hkd (e▸hkd')
    rw [if_neg hkk]
    simp only [St.box,hkd',if_true]
    cases hq:aq (bT (view p s).bx p.vb) k'.d with
    | none=>rw [hq] at hk';exact hk'
    | some z=>
     rw [hq] at hk'
     have h1:=bY hq
     have h2:aq s.bx k'.d=some z:=bY h1
     rw [h2] at hk' ⊢
     exact hk'
  ·simp only [St.box,if_neg hkd',aX.app] at hk' ⊢
   by_cases hkd:k.dp=dp
   ·have hkk:k'≠k:=fun e=>hkd' (e▸hkd)
    rw [if_neg hkk]
    simp only [St.aC,hkd,if_true] at hk'
    by_cases hv:p.vh=true
    ·simp only [hv,if_true,Option.getD_some,view] at hk';exact hk'
    ·simp only [if_neg hv,Option.getD_none] at hk';exact hk'
   ·by_cases hv:p.vh=true
    ·simp only [St.aC,if_neg hkd,hv,if_true,Option.getD_some,view,ab] at hk'
     exact hk'
    ·exfalso
     simp only [St.box,if_neg hkd,view,if_neg hv] at hb
     cases hb
 ·by_cases hkd2:k.dp=dp
  ·simp only [St.aC,hkd2,if_true] at hk' ⊢
   by_cases hv:p.vh=true
   ·simp only [aX.app,hv,if_true,Option.getD_some,view] at hk';exact hk'
   ·simp only [aX.app,if_neg hv,Option.getD_none] at hk';exact hk'
  ·simp only [St.aC,if_neg hkd2] at hk' ⊢
   by_cases hv:p.vh=true
   ·simp only [aX.app,hv,if_true,Option.getD_some,view] at hk';exact hk'
   ·exfalso
    simp only [St.box,if_neg hkd2,view,if_neg hv] at hb
    cases hb
theorem ad.RZ{p:bw}{r:AV×St}{K:Act→World→Prop}{Q:Exit→Act→World→Prop}(hR:kz C.P R)(hΩ:eX C.P Ω)(h:ad C s a w σ)(hlo:aV C.P p.p.o o.op=true)(hdst:o.dst=p.p.d)(hd:∀ dd,p.p.d=some dd→dd<C.nt)
  (hk:eY p=true) (hfree:IL p.p.o=true→∀ dd,p.p.d=some dd→jH C.E.dp s dd) (hlt:iR (view p s) p.p.o=true) (hls:cY C.E.dp p (view p s)=true) (hfb:sx p.p.o p.cs=true→∀ h∈p.vb,pI C.E.dp s h) (hr:execOp R Ω C.E (view p s) p.p.d p.p.o=some r)
  (hK:∀ a' w' σ',bN C w σ w' σ'→ad C ((effect p r).app s) a' w' σ'→K a' w'):o.wp C.P a w K Q:=by
 have hle:=E8 p s C.E.dp
 have tY:qx p.p.o=false→fH p=false→∀ s',cX C o p.p.d a w σ s' r.1→(∀ d',d'∈p.cs∨p.p.d=some d'∨aj s.fr d'=aj s'.fr d')→(∀ k,s'.box C.E.dp k=s.box C.E.dp k)→s'.hp=s.hp→o.wp C.P a w K Q:=by
  intro h1 h2 s' he hf hb hh
  have he2:=DY (r:=r) h1 h2
  rw [he2] at hK
  refine finish hdst hd he (fun d'=>?_) (fun k cs hk=>?_) (fun k cs _ hk=>?_) hK
  ·simp only [aX.app,List.append_assoc]
   rw [iz,zn]
   cases hdd:p.p.d with
   | none=>
    rw [if_neg (by simp [oS]),mL]
    by_cases hm:d'∈p.cs
    ·rw [if_pos hm];exact .inl rfl
    ·rw [if_neg hm]
     rcases hf d' with h3 | h3 | h3
     ·exact absurd h3 hm
     ·rw [hdd] at h3;cases h3
     ·exact .inr h3
   | some dd=>
    by_cases hm:d'=dd
    ·subst hm
     rw [if_pos (by simp [oS])]
     exact .inr (by simp [iB,aj,A.put,St.bR])
    ·rw [if_neg (by simp [oS,hm]),mL]
     by_cases hm2:d'∈p.cs
     ·rw [if_pos hm2];exact .inl rfl
     ·rw [if_neg hm2]
      rcases hf d' with h3 | h3 | h3
      ·exact absurd h3 hm2
      ·rw [hdd] at h3;exact absurd (Option.some.inj h3).symm hm
      ·refine .inr ?_
       simp only [A.put,St.bR,aj,if_neg (fun e=>hm (Eq.symm e))]
       exact h3
  ·rw [hb];exact hk
  ·rw [hh];exact hk
 have plain:qx p.p.o=false→fH p=false→∀ s',execOp R Ω C.E s p.p.d p.p.o=some (r.1,s')→(∀ d',d'∈p.cs∨p.p.d=some d'∨aj s.fr d'=aj s'.fr d')→(∀ k,s'.box C.E.dp k=s.box C.E.dp k)→s'.hp=s.hp→o.wp C.P a w K Q:=
  fun h1 h2 s' he hf hb hh=>tY h1 h2 s' (AR hR hΩ p.p.o h hlo he) hf hb hh
 have hdrop:∀ {dd},p.p.d=some dd→jH C.E.dp s dd→∀ d',d'∈p.cs∨p.p.d=some d'∨aj s.fr d'=aj (s.aL (.s dd)).fr d':=by
  intro dd _ hf d'
  refine .inr (.inr ?_)
  simp only [St.aL,lF,(hf.fr d').2,Bool.false_eq_true,if_false]
 cases hao:p.p.o with
 | bx x=>simp [eY,hao] at hk
 | c2 f args=>simp [eY,hao] at hk
 | d2 x args=>simp [eY,hao] at hk
 | ch f args sl dl ow=>simp [eY,hao] at hk
 | c3 f args=>
  rw [hao] at hr hlo
  obtain ⟨_,h2⟩:=Kt (d:=p.p.d) hR.h h (fun x hx=>hle.ev rfl hx) hle.bx hlo hr
  exact tY (by rw [hao];rfl) (by simp [fH,jW,hao,qw]) s h2 (fun d'=>.inr (.inr rfl)) (fun _=>rfl) rfl
 | d3 x args=>
  rw [hao] at hr hlo
  obtain ⟨_,h2⟩:=Ku (d:=p.p.d) hR.h h (fun x hx=>hle.ev rfl hx) hle.bx hlo hr
  exact tY (by rw [hao];rfl) (by simp [fH,jW,hao,qw]) s h2 (fun d'=>.inr (.inr rfl)) (fun _=>rfl) rfl
 | cr t f args=>simp [eY,hao] at hk
 | co nd f args=>simp [eY,hao] at hk
 | as x=>
  rw [hao] at hr hlt hlo
  refine plain (by rw [hao];rfl) (by simp [fH,jW,hao,qw]) s ?_ (fun d'=>.inr (.inr rfl)) (fun _=>rfl) rfl
  rw [hao]
  have hc:((view p s).ev x).copy=true:=hlt
  have hx:=hle.ev rfl (AU hc)
  cases x with
  | c z=>
   simp only [execOp] at hr ⊢
   split at hr
   ·rename_i hp
    obtain rfl:=Option.some.inj hr
    rw [if_pos hp]
   ·cases hr
  | t n=>
   have hx':aj s.fr n=aj (view p s).fr n:=hx
   simp only [execOp] at hr ⊢
   have hc':(aj (view p s).fr n).copy=true:=hc
   rw [hx']
   generalize aj (view p s).fr n=y at hr hc'
   cases y<;>first | (simp [AV.copy] at hc';done) | skip
   all_goals
    simp only [hc',Bool.true_or,if_true] at hr ⊢
    obtain rfl:=Option.some.inj hr
    rfl
 | bs t sz es=>
  rw [hao] at hr hlt hlo
  simp only [execOp] at hr
  obtain ⟨dd,hdd,hr1⟩:=Option.bind_eq_some_iff.1 hr
  have hf:=hfree (by rw [hao];rfl) dd hdd
  split at hr1
  ·rename_i hall
   obtain rfl:=Option.some.inj hr1
   refine plain (by rw [hao];rfl) (by simp [fH,jW,hao,qw]) (s.aL (.s dd)) ?_ (hdrop hdd hf) (fun _=>rfl) rfl
   rw [hao]
   have hm:=hle.map (xs:=es) fun x hx=>by
    have:=List.all_eq_true.1 hall _ (List.mem_map_of_mem hx)
    simp only [Bool.and_eq_true] at this
    exact NO this.1.1
   simp only [execOp,hdd,Option.bind_some,hm,if_pos hall]
  ·cases hr1
 | ms t sz by_ z n=>
  rw [hao] at hr hlt hlo
  simp only [execOp] at hr
  obtain ⟨dd,hdd,hr1⟩:=Option.bind_eq_some_iff.1 hr
  obtain ⟨m,hm,hr2⟩:=Option.bind_eq_some_iff.1 hr1
  have hf:=hfree (by rw [hao];rfl) dd hdd
  split at hr2
  ·rename_i hc
   obtain rfl:=Option.some.inj hr2
   refine plain (by rw [hao];rfl) (by simp [fH,jW,hao,qw]) (s.aL (.s dd)) ?_ (hdrop hdd hf) (fun _=>rfl) rfl
   rw [hao]
   simp only [execOp,hdd,Option.bind_some,hle.nat hm,if_pos hc]
  ·cases hr2
 | ap t sz by_ x y=>
  rw [hao] at hr hlt hlo
  simp only [execOp] at hr
  obtain ⟨dd,hdd,hr1⟩:=Option.bind_eq_some_iff.1 hr
  obtain ⟨ys,hys,hr2⟩:=Option.bind_eq_some_iff.1 hr1
  obtain ⟨qq,hqq,hr3⟩:=Option.bind_eq_some_iff.1 hr2
  have hf:=hfree (by rw [hao];rfl) dd hdd
  split at hr3
  ·rename_i hc
   obtain rfl:=Option.some.inj hr3
   have hyu:(view p s).ev y≠.u:=by intro e;rw [e] at hys;cases hys
   by_cases hrc:zL ((view p s).ev x)=true
   ·
    have h2:(p.cs.length==2)=true:=by
     have:=hls
     simp only [cY,hao,hrc] at this
     simpa using this
    cases x with
    | c z=>
     exfalso
     unfold A.consume at hqq
     cases z<;>first | (simp [St.ev,zL] at hrc;done) | cases hqq
    | t m=>
     have hcs:p.cs=[m,m]:=by
      have:=hk
      simp only [eY,hao,Bool.or_eq_true,beq_iff_eq] at this
      rcases this with e | e
      ·rw [e] at h2;cases h2
      ·exact e
     have hx:∃ k off,aj (view p s).fr m= .r (.c k off):=by
      have h3:zL (aj (view p s).fr m)=true:=hrc
      generalize aj (view p s).fr m=z at h3
      cases z<;>first | (cases h3;done) | skip
      rename_i pl
      cases pl with
      | s d=>cases h3
      | c k off=>exact ⟨k,off,rfl⟩
     obtain ⟨k,off,hx⟩:=hx
     unfold A.consume at hqq
     simp only [hx] at hqq
     split at hqq
     ·rename_i hmine
      obtain ⟨rw1,hrow,hq1⟩:=Option.bind_eq_some_iff.1 hqq
      split at hq1
      ·rename_i htt
       obtain ⟨st',hput,hq2⟩:=Option.bind_eq_some_iff.1 hq1
       obtain rfl:=Option.some.inj hq2
       simp only [St.putAt] at hput
       split at hput
       ·rename_i cs0 hb
        obtain rfl:=Option.some.inj hput
        have hb':=hle.bx k cs0 hb
        have hrow':s.rowAt C.E.dp (.c k off)=some rw1:=by
         simp only [St.rowAt,hb] at hrow
         simp only [St.rowAt,hb']
         exact hrow
        have hcon:A.consume C.E s t (.t m)=some (rw1.2,s.aC C.E.dp k (cs0.set off .u)):=by
         simp only [A.consume,hle.slot hx (by simp),if_pos hmine,hrow',Option.bind_some,if_pos htt,St.putAt,hb']
        have hex:execOp R Ω C.E s p.p.d p.p.o=some (.o t (rw1.2++ys.2),(s.aC C.E.dp k (cs0.set off .u)).aL (.s dd)):=by
         rw [hao]
         simp only [execOp,hdd,Option.bind_some,hle.ev (x:=y) rfl hyu,hle.elems hys,hcon,if_pos hc]
        have hsim:=AR hR hΩ p.p.o h (by rw [hao];exact hlo) hex
        have he:∀ r:AV×St,effect p r=⟨iB p.p.d (ea p.p.fz r.1)++p.cs.map (fun m=>(m,.u)),[],bT r.2.bx p.vb,if p.vh=true then some r.2.hp else none⟩:=by
         intro r
         unfold effect
         simp only [hao,h2,if_true,Bool.true_and]
        rw [he] at hK
        obtain ⟨sb1,sb2⟩:=CE (nw:=cs0.set off .u) (iB p.p.d (ea p.p.fz (.o t (rw1.2++ys.2)))++p.cs.map (fun m=>(m,AV.u))) hb
        refine finish hdst hd hsim (fun d'=>?_) sb1 sb2 hK
        simp only [aX.app,List.append_assoc]
        rw [iz,zn,hdd]
        by_cases hm:d'=dd
        ·subst hm
         rw [if_pos (by simp [oS])]
         exact .inr (by simp [iB,aj,A.put,St.bR])
        ·rw [if_neg (by simp [oS,hm]),mL]
         split
         ·exact .inl rfl
         ·refine .inr ?_
          simp only [A.put,St.bR,aj,if_neg (fun e=>hm (Eq.symm e)),St.aL,lF,mK,(hf.fr d').2,Bool.false_eq_true,if_false]
       ·cases hput
      ·cases hq1
     ·cases hqq
   have hnw:fH p=false:=by
    have:=hls
    simp only [cY,hao,beq_iff_eq] at this
    simp only [fH,jW,hao,qw,Bool.false_or,←this]
    simpa using hrc
   have hcon:∃ s1:St,A.consume C.E s t x=some (qq.1,s1)∧(∀ d',d'∈p.cs∨aj s.fr d'=aj s1.fr d')∧(∀ k,s1.box C.E.dp k=s.box C.E.dp k)∧s1.hp=s.hp∧(∀ d',(aj s1.fr d').fe (.s dd)=false):=by
    unfold A.consume at hqq
    split at hqq
    ·obtain rfl:=Option.some.inj hqq
     exact ⟨s,rfl,fun _=>.inr rfl,fun _=>rfl,rfl,fun d'=>(hf.fr d').2⟩
    ·cases hqq
    ·rename_i m
     have hcs:m∈p.cs:=by
      have:=hk
      simp only [eY,hao,Bool.or_eq_true,beq_iff_eq] at this
      rcases this with e | e<;>rw [e]<;>simp
     split at hqq
     ·rename_i hx
      obtain rfl:=Option.some.inj hqq
      refine ⟨s,?_,fun _=>.inr rfl,fun _=>rfl,rfl,fun d'=>(hf.fr d').2⟩
      simp only [A.consume,hle.slot hx (by simp)]
     ·rename_i t' es hx
      split at hqq
      ·rename_i htt
       obtain rfl:=Option.some.inj hqq
       refine ⟨s.bR m .u,?_,fun d'=>?_,fun _=>rfl,rfl,fun d'=>?_⟩
       ·simp only [A.consume,hle.slot hx (by simp),if_pos htt]
       ·rw [jO]
        by_cases hm:m=d'
        ·exact .inl (hm▸hcs)
        ·exact .inr (by rw [if_neg hm])
       ·rw [jO]
        split
        ·rfl
        ·exact (hf.fr d').2
      ·cases hqq
     ·rename_i pl hx
      simp only [iR,St.ev,hx] at hlt
      simp only [zL,St.ev,hx] at hrc
      cases pl with
      | s d=>cases hlt
      | c k off=>exact absurd rfl hrc
     ·rename_i pl lo len hx
      simp only [iR,St.ev,hx] at hlt
      cases hlt
     ·cases hqq
   obtain ⟨s1,h1,h2,h3,h4,h5⟩:=hcon
   refine plain (by rw [hao];rfl) hnw (s1.aL (.s dd)) ?_ (fun d'=>?_) (fun k=>h3 k) h4
   ·rw [hao]
    simp only [execOp,hdd,Option.bind_some,hle.ev (x:=y) rfl hyu,hle.elems hys,h1,if_pos hc]
   ·rcases h2 d' with h6 | h6
    ·exact .inl h6
    ·refine .inr (.inr ?_)
     simp only [St.aL,lF,h5 d',Bool.false_eq_true,if_false]
     exact h6
  ·cases hr3
 | al zs=>
  rw [hao] at hr hlt hlo
  simp only [execOp] at hr
  obtain ⟨dd,hdd,hr1⟩:=Option.bind_eq_some_iff.1 hr
  have hf:=hfree (by rw [hao];rfl) dd hdd
  split at hr1
  ·rename_i hcd
   have hd6:dd<1000000:=by simp only [fM,Bool.and_eq_true,decide_eq_true_eq] at hcd;exact hcd.1.1.2
   obtain rfl:=Option.some.inj hr1
   have he:effect p (.p ⟨C.E.dp,dd⟩ 0,{(view p s) with bx:=(dd,zs)::(view p s).bx})=⟨[(dd,.p ⟨C.E.dp,dd⟩ 0)],[(dd,zs)],[],none⟩:=by
    unfold effect
    rw [hao,hdd]
   rw [he] at hK
   refine finish (s:=s) hdst hd (Kq (d:=p.p.d) h hd6 hlo hdd (fun d'=>(hf.fr d').1) (fun d' cs' hb c hc=>hf.cs d' cs' hb c hc)) (fun d'=>.inr ?_) (fun k cs hk=>?_) (fun k cs _ hk=>?_) hK
   ·rw [hdd]
    have:ea p.p.fz (.p ⟨C.E.dp,dd⟩ 0)= .p ⟨C.E.dp,dd⟩ 0:=by cases p.p.fz<;>rfl
    rw [this]
    rfl
   ·by_cases hkd:k.dp=C.E.dp
    ·simp only [St.box,aX.app,hkd,if_true,oV,List.cons_append,List.nil_append] at hk ⊢
     exact hk
    ·simp only [St.box,aX.app,if_neg hkd] at hk ⊢
     exact hk
   ·exact hk
  ·cases hr1
 | ck f args=>
  rw [hao] at hr hlt hlo
  simp only [execOp] at hr
  obtain ⟨dd,hdd,hr1⟩:=Option.bind_eq_some_iff.1 hr
  have hf:=hfree (by rw [hao];rfl) dd hdd
  unfold u7 at hr1
  split at hr1
  ·rename_i hp
   obtain ⟨⟨q,hp'⟩,hq,hr2⟩:=Option.bind_eq_some_iff.1 hr1
   cases q with
   | ret x=>cases hr2
   | row _ _=>cases hr2
   | iq _ _ _ _ _ _=>cases hr2
   | new cs=>?_
   simp only at hr2
   split at hr2
   ·rename_i hno
    have hm:=hle.map (xs:=args) fun x hx=>NO (cT hp _ (List.mem_map_of_mem hx))
    have hd6:dd<1000000:=by simp only [Gs,fM,Bool.and_eq_true,decide_eq_true_eq] at hno;exact hno.2.1.1.2
    obtain rfl:=Option.some.inj hr2
    have he:effect p (.p ⟨C.E.dp,dd⟩ 0,{(view p s) with bx:=(dd,cs)::(view p s).bx})=⟨[(dd,.p ⟨C.E.dp,dd⟩ 0)],[(dd,cs)],[],none⟩:=by
     unfold effect
     rw [hao,hdd]
     simp [aq]
    rw [he] at hK
    refine finish (s:=s) hdst hd (Kv (d:=p.p.d) hR.h h hlo (by rw [hm];exact hp) (by rw [hm];exact hq) hd6 (fun d'=>(hf.fr d').1) (fun d' cs' hb c hc=>hf.cs d' cs' hb c hc)) (fun d'=>.inr ?_) (fun k cs hk=>?_) (fun k cs _ hk=>?_) hK
    ·rw [hdd]
     have:ea p.p.fz (.p ⟨C.E.dp,dd⟩ 0)= .p ⟨C.E.dp,dd⟩ 0:=by cases p.p.fz<;>rfl
     rw [this]
     rfl
    ·by_cases hkd:k.dp=C.E.dp
     ·simp only [St.box,aX.app,hkd,if_true,oV,List.cons_append,List.nil_append] at hk ⊢
      exact hk
     ·simp only [St.box,aX.app,if_neg hkd] at hk ⊢
      exact hk
    ·exact hk
   ·cases hr2
  ·cases hr1
 | st n x y=>
  rw [hao] at hr hlt hlo
  have hdn:p.p.d=none:=by
   have:=hk
   simp only [eY,hao,Bool.and_eq_true,beq_iff_eq] at this
   exact this.1
  simp only [iR,Bool.and_eq_true,Bool.or_eq_true] at hlt
  obtain ⟨hyc,hxp⟩:=hlt
  have hyu:(view p s).ev y≠.u:=by
   intro e;rw [e] at hyc;rcases hyc with h | h<;>cases h
  have hy:=hle.ev rfl hyu
  have heff:∀ r:AV×St,effect p r=⟨p.cs.map (fun m=>(m,.u)),[],bT r.2.bx p.vb,if p.vh=true then some r.2.hp else none⟩:=by
   intro r
   unfold effect
   rw [hao]
  simp only [execOp] at hr
  split at hr
  ·rename_i k off hx
   split at hr
   ·rename_i hm
    obtain ⟨cs,hb,hr1⟩:=Option.bind_eq_some_iff.1 hr
    have hb':=hle.bx k cs hb
    split at hr1
    ·rename_i t' es hyy
     have hrow:tE ((view p s).ev y)=true:=by rw [hyy];rfl
     have hls2:=hls
     simp only [cY,hao,hrow,hx,Bool.not_true,Bool.false_or,Bool.and_eq_true,decide_eq_true_eq,beq_iff_eq] at hls2
     obtain ⟨⟨hkd,hvb⟩,hcs⟩:=hls2
     cases y with
     | c z=>cases hcs
     | t m=>
      have hcs':p.cs=[m]:=by simpa using hcs
      have hfb':pI C.E.dp s k.d:=hfb (by rw [hao];simp [sx,hcs']) k.d (by rw [hvb];simp)
      simp only at hr1
      split at hr1
      ·rename_i hc
       obtain rfl:=Option.some.inj hr1
       have hex:execOp R Ω C.E s p.p.d p.p.o=some (.u,((s.bR m .u).aL (.c k off)).aC C.E.dp k (cs.set off (.o t' es))):=by
        rw [hao]
        simp only [execOp,hle.ev hx (by simp),if_pos hm,hb',Option.bind_some,hy,hyy]
        rw [if_pos hc]
       have hsim:=AR (r:=(.u,((s.bR m .u).aL (.c k off)).aC C.E.dp k (cs.set off (.o t' es)))) hR hΩ p.p.o h (by rw [hao];exact hlo) hex
       rw [heff,hcs'] at hK
       have hbx0:∀ nw,(((view p s).bR m .u).aL (.c k off)).aC C.E.dp k nw=({((view p s).aC C.E.dp k nw) with fr:=(((view p s).bR m .u).aL (.c k off)).fr} : St):=by
        intro nw
        simp only [St.aC,hkd,if_true,St.aL,St.bR]
       rw [hbx0] at hK
       obtain ⟨sb1,sb2⟩:=CE (nw:=cs.set off (.o t' es)) [(m,.u)] hb
       have hbx1:∀ nw k',((((s.bR m .u).aL (.c k off)).aC C.E.dp k nw).box C.E.dp k')=(s.aC C.E.dp k nw).box C.E.dp k':=by
        intro nw k'
        simp only [St.aC,hkd,if_true,St.aL,St.bR,St.box]
       have hhp1:∀ nw,((((s.bR m .u).aL (.c k off)).aC C.E.dp k nw).hp)=(s.aC C.E.dp k nw).hp:=by
        intro nw
        simp only [St.aC,hkd,if_true,St.aL,St.bR]
       refine finish hdst hd hsim (fun d'=>?_) (fun k' cs' hk'=>?_) (fun k' cs' hkd' hk'=>?_) hK
       ·rw [hdn]
        simp only [aX.app,A.put,mK,List.map_cons,List.map_nil,List.cons_append,List.nil_append,aj]
        by_cases hmd:m=d'
        ·rw [if_pos hmd];exact .inl rfl
        ·rw [if_neg hmd]
         refine .inr ?_
         simp only [St.aL,St.bR,lF,aj,if_neg hmd]
         rw [if_neg]
         intro hbor
         have:=hfb' d'
         rw [←hkd] at this
         rw [P7 hbor] at this;cases this
       ·rw [hbx1];exact sb1 k' cs' hk'
       ·rw [hhp1];exact sb2 k' cs' hkd' hk'
      ·cases hr1
    ·rename_i pl lo len hyy
     rw [hyy] at hyc;rcases hyc with h | h<;>cases h
    ·rename_i hyo hyv
     have hyc':((view p s).ev y).copy=true:=by
      rcases hyc with h | h
      ·exact h
      ·exfalso
       generalize (view p s).ev y=z at h hyo
       cases z<;>first | (exact hyo _ _ rfl) | (exact absurd rfl (hyo _ _)) | (cases h;done)
     split at hr1
     ·rename_i hc
      obtain rfl:=Option.some.inj hr1
      have hex:execOp R Ω C.E s p.p.d p.p.o=some (.u,s.aC C.E.dp k (putCells cs off ((view p s).ev y).cl)):=by
       rw [hao]
       simp only [execOp,hle.ev hx (by simp),if_pos hm,hb',Option.bind_some,hy]
       rw [if_pos hc]
      have hsim:=AR (r:=(.u,s.aC C.E.dp k (putCells cs off ((view p s).ev y).cl))) hR hΩ p.p.o h (by rw [hao];exact hlo) hex
      rw [heff] at hK
      obtain ⟨sb1,sb2⟩:=CE (nw:=putCells cs off ((view p s).ev y).cl) (p.cs.map fun m=>(m,AV.u)) hb
      refine finish hdst hd hsim (fun d'=>?_) sb1 sb2 hK
      rw [hdn]
      simp only [aX.app,A.put,mK]
      rw [mL]
      split
      ·exact .inl rfl
      ·exact .inr rfl
     ·cases hr1
   ·cases hr
  ·rename_i hx
   rw [hx] at hxp;cases hxp
  ·cases hr
 | _=>
  have hqk:qk p.p.o=true:=by rw [hao];rfl
  obtain ⟨_,h2⟩:=ZW hle hqk hlt hr
  exact plain (by rw [hao];rfl) (by simp [fH,jW,hao,qw]) s h2 (fun d'=>.inr (.inr rfl)) (fun _=>rfl) rfl
end
variable [aY]
section
variable {C:Cx}{s:St}{a:Act}{w:World}{σ:Sp}{o:Oper}{R:Rec}{Ω:cm}
theorem ad.ZZ{nt i:Nat}{ops:Array Oper}{p:bw}{q:aX}{K:Act→World→Prop}{Q:Exit→Act→World→Prop}(hR:kz C.P R)(hΩ:eX C.P Ω)(h:ad C s a w σ)(ho:ops[i]? =some o)(hl:AS C.P nt ops o p.p=true)(hnt:nt≤C.nt)
  (hk:eY p=true) (hfree:IL p.p.o=true→∀ dd,p.p.d=some dd→jH C.E.dp s dd) (hfb:sx p.p.o p.cs=true→∀ h∈p.vb,pI C.E.dp s h) (hq:cB R Ω C.E p s=some q) (hK:∀ a' w' σ',bN C w σ w' σ'→ad C (q.app s) a' w' σ'→K a' w'):wpOp C.P ops Q i K a w:=by
 obtain ⟨hlo,hdst,hd,hgd⟩:=CD hl hnt
 obtain ⟨hg1,hg2⟩:=h.guard hgd
 have hcore:jt R Ω C.E p (view p s)=some q→o.wp C.P a w K Q:=by
  intro hc
  unfold jt at hc
  split at hc
  ·rename_i hlt
   obtain ⟨r,hr,h2⟩:=Option.bind_eq_some_iff.1 hc
   split at h2
   ·obtain rfl:=Option.some.inj h2
    simp only [Bool.and_eq_true] at hlt
    exact h.RZ hR hΩ hlo hdst hd hk hfree hlt.1 hlt.2 hfb hr hK
   ·cases h2
  ·cases hc
 simp only [wpOp,ho]
 unfold cB at hq
 split at hq
 ·rename_i hgn
  rw [if_pos (hg1 hgn)]
  exact .inl (hcore hq)
 ·rename_i j want hgs
  obtain ⟨y,hy,hq1⟩:=Option.bind_eq_some_iff.1 hq
  have hwt:=hg2 j want y hgs hy
  split at hq1
  ·rename_i hyt
   rw [if_pos (by rw [hwt,hyt])]
   exact .inl (hcore hq1)
  ·rename_i hyf
   rw [if_neg (by rw [hwt];exact hyf)]
   refine hK _ _ _ (.refl _ _ _) ?_
   rw [←Option.some.inj hq1,hdst]
   refine (h.QY hd).se ⟨fun d'=>?_,fun d'=>?_,?_,fun y=>?_⟩
   ·simp only [aX.app];rw [NR]
   ·cases p.p.d<;>rfl
   ·cases p.p.d<;>rfl
   ·cases p.p.d<;>exact Iff.rfl
theorem zo{s:St}{dp:Nat}{k:Key}{cs zs:List AV}{d:Nat}(h:aq (s.aC dp k cs).bx d=some zs):aq s.bx d=some zs∨zs=cs:=by
 unfold St.aC at h
 split at h
 ·simp only [tV] at h
  split at h
  ·rename_i e
   cases hb:aq s.bx k.d with
   | none=>rw [hb] at h;cases h
   | some z=>
    rw [hb] at h
    exact .inr (Option.some.inj h).symm
  ·exact .inl h
 ·exact .inl h
theorem Wg{k:Key}{y:AV}(h:y.bb k=true):∀ c∈y.cl,c.bb k=true:=by
 intro c hc
 cases y<;>simp only [AV.cl,List.mem_singleton] at hc<;>first | (subst hc;exact h) | skip
 exact ja (by simpa [AV.bb] using h) c hc
theorem jH.step{p:bw}{q:aX}{h:Nat}{op:Op}(hf:jH C.E.dp s h)(hlo:aV C.P p.p.o op=true)(hk:eY p=true)(hn:h∈p.nk)(hq:cB R Ω C.E p s=some q):jH C.E.dp (q.app s) h:=by
 have hle:=E8 p s C.E.dp
 have hvf:∀ d,(aj (view p s).fr d).bb ⟨C.E.dp,h⟩=true:=fun d=>by
  rcases hle.fr d with e | e
  ·rw [e];rfl
  ·rw [e];exact (hf.fr d).1
 have hgen:∀ (x:AV)(cs:List Nat),x.bb ⟨C.E.dp,h⟩=true→x.fe (.s h)=false→jH C.E.dp ((⟨iB p.p.d x++cs.map (fun m=>(m,.u)),[],[],none⟩:aX).app s) h:=by
  intro x cs hx hb
  refine ⟨fun d=>?_,hf.cs⟩
  simp only [aX.app,List.append_assoc]
  rw [iz]
  split
  ·rename_i hm
   cases hd:p.p.d with
   | none=>rw [hd] at hm;simp [iB,cK] at hm
   | some dd=>
    rw [hd] at hm
    simp only [iB,cK,List.map_cons,List.map_nil,List.mem_singleton] at hm
    subst hm
    simp [iB,aj,hx,hb]
  ·rw [mL]
   split
   ·exact ⟨rfl,rfl⟩
   ·exact hf.fr d
 have hcore:jt R Ω C.E p (view p s)=some q→jH C.E.dp (q.app s) h:=by
  intro hc
  unfold jt at hc
  split at hc
  ·rename_i hlt2
   have hlt:=(Bool.and_eq_true_iff.1 hlt2).1
   obtain ⟨r,hr,h2⟩:=Option.bind_eq_some_iff.1 hc
   split at h2
   ·rename_i hok2
    have hok:=(Bool.and_eq_true_iff.1 hok2).1
    obtain rfl:=Option.some.inj h2
    have hx:r.1.bb ⟨C.E.dp,h⟩=true∧r.1.fe (.s h)=false:=by
     have:=List.all_eq_true.1 hok h hn
     simpa using this
    have hfz:(ea p.p.fz r.1).bb ⟨C.E.dp,h⟩=true∧(ea p.p.fz r.1).fe (.s h)=false:=by
     cases p.p.fz with
     | false=>simpa [ea] using hx
     | true=>cases hr1:r.1<;>rw [hr1] at hx<;>first | exact hx | exact ⟨rfl,rfl⟩
    by_cases hal:qx p.p.o=true
    ·cases hao:p.p.o<;>rw [hao] at hal<;>simp [qx] at hal
     case al zs=>
      rw [hao] at hr hlo
      simp only [execOp] at hr
      obtain ⟨dd,hdd,hr1⟩:=Option.bind_eq_some_iff.1 hr
      split at hr1
      ·obtain rfl:=Option.some.inj hr1
       have he:effect p (.p ⟨C.E.dp,dd⟩ 0,{(view p s) with bx:=(dd,zs)::(view p s).bx})=⟨[(dd,.p ⟨C.E.dp,dd⟩ 0)],[(dd,zs)],[],none⟩:=by
        unfold effect
        rw [hao,hdd]
       rw [he]
       refine ⟨fun d=>?_,fun d cs hb c hc=>?_⟩
       ·simp only [aX.app,List.cons_append,List.nil_append,aj]
        split
        ·exact hx
        ·exact hf.fr d
       ·simp only [aX.app,List.cons_append,List.nil_append,aq,oV] at hb
        split at hb
        ·obtain rfl:=Option.some.inj hb
         exact ic c (RP hlo c hc)
        ·exact hf.cs d cs hb c hc
      ·cases hr1
     case ck f args=>
      rw [hao] at hr hlo
      simp only [execOp] at hr
      obtain ⟨dd,hdd,hr1⟩:=Option.bind_eq_some_iff.1 hr
      unfold u7 at hr1
      split at hr1
      ·obtain ⟨⟨q,hp'⟩,hq,hr2⟩:=Option.bind_eq_some_iff.1 hr1
       cases q with
       | ret x=>cases hr2
       | row _ _=>cases hr2
       | iq _ _ _ _ _ _=>cases hr2
       | new cs=>?_
       simp only at hr2
       split at hr2
       ·rename_i hno
        obtain rfl:=Option.some.inj hr2
        have he:effect p (.p ⟨C.E.dp,dd⟩ 0,{(view p s) with bx:=(dd,cs)::(view p s).bx})=⟨[(dd,.p ⟨C.E.dp,dd⟩ 0)],[(dd,cs)],[],none⟩:=by
         unfold effect
         rw [hao,hdd]
         simp [aq]
        rw [he]
        refine ⟨fun d=>?_,fun d cs' hb c hc=>?_⟩
        ·simp only [aX.app,List.cons_append,List.nil_append,aj]
         split
         ·exact hx
         ·exact hf.fr d
        ·simp only [aX.app,List.cons_append,List.nil_append,aq,oV] at hb
         split at hb
         ·obtain rfl:=Option.some.inj hb
          have:=List.all_eq_true.1 (Bool.and_eq_true_iff.1 hno).1 c hc
          cases c<;>first | rfl | exact ic _ this
         ·exact hf.cs d cs' hb c hc
       ·cases hr2
      ·cases hr1
    ·by_cases hst:qw p.p.o=true
     ·cases hao:p.p.o<;>rw [hao] at hst<;>simp [qw] at hst
      rename_i n x y
      rw [hao] at hr hlo hlt
      simp only [iR,Bool.and_eq_true,Bool.or_eq_true] at hlt
      obtain ⟨hyc,hxp⟩:=hlt
      have hyk:((view p s).ev y).bb ⟨C.E.dp,h⟩=true:=by
       cases y with
       | t m=>exact hvf m
       | c z=>
        have hp:z.pure=true:=by
         simp only [aV] at hlo
         split at hlo
         ·simp only [Bool.and_eq_true] at hlo
          exact ry hlo.1.2
         ·cases hlo
        exact ic z hp
      have hcs:∀ d cs,aq r.2.bx d=some cs→∀ c∈cs,c.bb ⟨C.E.dp,h⟩=true:=by
       simp only [execOp] at hr
       split at hr
       ·rename_i k off hx'
        split at hr
        ·rename_i hm
         obtain ⟨cs0,hb0,hr1⟩:=Option.bind_eq_some_iff.1 hr
         split at hr1
         ·rename_i t' es hyy
          split at hr1
          ·rename_i m
           split at hr1
           ·obtain rfl:=Option.some.inj hr1
            intro d cs hb c hc
            rcases zo hb with h3 | rfl
            ·exact hf.cs d cs (bY h3) c hc
            ·rcases List.mem_or_eq_of_mem_set hc with hc | rfl
             ·by_cases hkd:k.dp=C.E.dp
              ·have h4:aq (view p s).bx k.d=some cs0:=by simpa [St.box,hkd] using hb0
               exact hf.cs k.d cs0 (bY h4) c hc
              ·simp only [St.aC,if_neg hkd] at hb
               exact hf.cs d _ (bY hb) c (by rcases List.mem_or_eq_of_mem_set ‹c∈_› with h | h<;>first | exact ‹_› | assumption)
             ·rfl
           ·cases hr1
          ·cases hr1
         ·rename_i pl lo len hyy
          rw [hyy] at hyc;rcases hyc with h | h<;>cases h
         ·split at hr1
          ·obtain rfl:=Option.some.inj hr1
           intro d cs hb c hc
           rcases zo hb with h3 | rfl
           ·exact hf.cs d cs (bY h3) c hc
           ·
            by_cases hkd:k.dp=C.E.dp
            ·rcases wh hc with hc | hc
             ·have h4:aq (view p s).bx k.d=some cs0:=by simpa [St.box,hkd] using hb0
              exact hf.cs k.d cs0 (bY h4) c hc
             ·exact Wg hyk c hc
            ·simp only [St.aC,if_neg hkd] at hb
             exact hf.cs d _ (bY hb) c hc
          ·cases hr1
        ·cases hr
       ·rename_i hx'
        rw [hx'] at hxp;cases hxp
       ·cases hr
      have he:effect p r=⟨p.cs.map (fun m=>(m,.u)),[],bT r.2.bx p.vb,if p.vh=true then some r.2.hp else none⟩:=by
       unfold effect
       rw [hao]
      rw [he]
      refine ⟨fun d=>?_,fun d cs hb c hc=>?_⟩
      ·simp only [aX.app]
       rw [mL]
       split
       ·exact ⟨rfl,rfl⟩
       ·exact hf.fr d
      simp only [aX.app,List.nil_append,pH] at hb
      split at hb
      ·rename_i zs hz
       cases hb2:aq s.bx d with
       | none=>rw [hb2] at hb;cases hb
       | some z=>
        rw [hb2] at hb
        obtain rfl:=Option.some.inj hb
        exact hcs d _ (bY hz) c hc
      ·exact hf.cs d cs hb c hc
     ·by_cases hra:jW p=true
      ·unfold jW at hra
       split at hra
       ·rename_i t sz by_ x y hao
        rw [hao] at hr hlt
        have he:effect p r=⟨iB p.p.d (ea p.p.fz r.1)++p.cs.map (fun m=>(m,.u)),[],bT r.2.bx p.vb,if p.vh=true then some r.2.hp else none⟩:=by
         unfold effect
         simp only [hao,hra,if_true,Bool.true_and]
        rw [he]
        simp only [execOp] at hr
        obtain ⟨dd,hdd,hr1⟩:=Option.bind_eq_some_iff.1 hr
        obtain ⟨ys,hys,hr2⟩:=Option.bind_eq_some_iff.1 hr1
        obtain ⟨qq,hqq,hr3⟩:=Option.bind_eq_some_iff.1 hr2
        have hcs:∀ d cs,aq qq.2.bx d=some cs→∀ c∈cs,c.bb ⟨C.E.dp,h⟩=true:=by
         unfold A.consume at hqq
         split at hqq
         ·obtain rfl:=Option.some.inj hqq
          exact fun d cs hb c hc=>hf.cs d cs (bY hb) c hc
         ·cases hqq
         ·rename_i m
          split at hqq
          ·obtain rfl:=Option.some.inj hqq
           exact fun d cs hb c hc=>hf.cs d cs (bY hb) c hc
          ·split at hqq
           ·obtain rfl:=Option.some.inj hqq
            exact fun d cs hb c hc=>hf.cs d cs (bY hb) c hc
           ·cases hqq
          ·rename_i pl hx
           split at hqq
           ·obtain ⟨rw1,hrow,hq1⟩:=Option.bind_eq_some_iff.1 hqq
            split at hq1
            ·obtain ⟨st',hput,hq2⟩:=Option.bind_eq_some_iff.1 hq1
             obtain rfl:=Option.some.inj hq2
             cases pl with
             | s d'=>simp only [iR,St.ev,hx] at hlt;cases hlt
             | c k off=>
              simp only [St.putAt] at hput
              split at hput
              ·rename_i cs0 hb0
               obtain rfl:=Option.some.inj hput
               intro d cs hb c hc
               rcases zo hb with h3 | rfl
               ·exact hf.cs d cs (bY h3) c hc
               ·rcases List.mem_or_eq_of_mem_set hc with hc | rfl
                ·by_cases hkd:k.dp=C.E.dp
                 ·have h4:aq (view p s).bx k.d=some cs0:=by simpa [St.box,hkd] using hb0
                  exact hf.cs k.d cs0 (bY h4) c hc
                 ·simp only [St.aC,if_neg hkd] at hb
                  exact hf.cs d _ (bY hb) c (by rcases List.mem_or_eq_of_mem_set ‹c∈_› with h | h<;>first | exact ‹_› | assumption)
                ·rfl
              ·cases hput
            ·cases hq1
           ·cases hqq
          ·rename_i pl lo len hx
           simp only [iR,St.ev,hx] at hlt
           cases hlt
          ·cases hqq
        have hbx:r.2.bx=qq.2.bx:=by
         split at hr3
         ·obtain rfl:=Option.some.inj hr3;rfl
         ·cases hr3
        refine ⟨fun d=>(hgen _ _ hfz.1 hfz.2).fr d,fun d cs hb c hc=>?_⟩
        simp only [aX.app,List.nil_append,pH] at hb
        split at hb
        ·rename_i zs hz
         cases hb2:aq s.bx d with
         | none=>rw [hb2] at hb;cases hb
         | some z=>
          rw [hb2] at hb
          obtain rfl:=Option.some.inj hb
          rw [hbx] at hz
          exact hcs d _ (bY hz) c hc
        ·exact hf.cs d cs hb c hc
       ·cases hra
      ·rw [DY (by simpa using hal) (by simp only [fH,Bool.or_eq_false_iff];exact ⟨by simpa using hst,by simpa using hra⟩)]
       exact hgen _ _ hfz.1 hfz.2
   ·cases h2
  ·cases hc
 unfold cB at hq
 split at hq
 ·exact hcore hq
 ·obtain ⟨y,hy,hq1⟩:=Option.bind_eq_some_iff.1 hq
  split at hq1
  ·exact hcore hq1
  ·obtain rfl:=Option.some.inj hq1
   have:=hgen .sk [] rfl rfl
   simpa using this
end
theorem pI.step{dp:Nat}{ro:Bool}{s:St}{R:Rec}{Ω:cm}{p:bw}{q:aX}{h:Nat}(hf:pI dp s h)(hn:h∈p.nb)(hq:cB R Ω ⟨dp,ro⟩ p s=some q):pI dp (q.app s) h:=by
 have hput:∀ (x:AV)(cs:List Nat)(nb wb:List (Nat×List AV))(hp:Option HP),jc ⟨dp,h⟩ x=false→pI dp ((⟨iB p.p.d x++cs.map (fun m=>(m,.u)),nb,wb,hp⟩:aX).app s) h:=by
  intro x cs nb wb hp hx d
  simp only [aX.app,List.append_assoc]
  rw [iz]
  split
  ·rename_i hm
   cases hd:p.p.d with
   | none=>rw [hd] at hm;simp [iB,cK] at hm
   | some dd=>
    rw [hd] at hm
    simp only [iB,cK,List.map_cons,List.map_nil,List.mem_singleton] at hm
    subst hm
    simp [iB,aj,hx]
  ·rw [mL]
   split
   ·rfl
   ·exact hf d
 have hcore:jt R Ω ⟨dp,ro⟩ p (view p s)=some q→pI dp (q.app s) h:=by
  intro hc
  unfold jt at hc
  split at hc
  ·obtain ⟨r,hr,h2⟩:=Option.bind_eq_some_iff.1 hc
   split at h2
   ·rename_i hok2
    have hok:=(Bool.and_eq_true_iff.1 hok2).2
    obtain rfl:=Option.some.inj h2
    have hx:jc ⟨dp,h⟩ r.1=false:=by
     have:=List.all_eq_true.1 (Bool.and_eq_true_iff.1 hok).1 h hn
     simpa using this
    have hfz:jc ⟨dp,h⟩ (ea p.p.fz r.1)=false:=by
     cases p.p.fz with
     | false=>simpa [ea] using hx
     | true=>cases hr1:r.1<;>rw [hr1] at hx<;>first | exact hx | rfl
    unfold effect
    split
    ·split
     ·rename_i dd hd
      intro d
      simp only [aX.app,List.cons_append,List.nil_append,aj]
      split
      ·exact hx
      ·exact hf d
     ·intro d;exact hf d
    ·split
     ·rename_i dd hd
      intro d
      simp only [aX.app,List.cons_append,List.nil_append,aj]
      split
      ·exact hx
      ·exact hf d
     ·intro d;exact hf d
    ·intro d
     simp only [aX.app]
     rw [mL]
     split
     ·rfl
     ·exact hf d
    ·exact hput _ _ _ _ _ hfz
    ·exact hput _ _ _ _ _ hfz
   ·cases h2
  ·cases hc
 unfold cB at hq
 split at hq
 ·exact hcore hq
 ·obtain ⟨y,hy,hq1⟩:=Option.bind_eq_some_iff.1 hq
  split at hq1
  ·exact hcore hq1
  ·obtain rfl:=Option.some.inj hq1
   have:=hput .sk [] [] [] none rfl
   simpa using this
def gO(o:Oper):List Nat:=(o.after.toList.filter fun e=>Region.binds .any e).map (·.on)
def NS(acc:List Nat)(l:List Nat):Nat:=l.foldl (fun s e=>s|||(1 <<< e)|||acc.getD e 0) 0
def xe(acc:List Nat):List (List Nat)→List Nat
 | []=>acc
 | l::r=>xe (acc++[NS acc l]) r
theorem IM(f:Nat→Nat)(i:Nat):∀ (l:List Nat)(s:Nat),(l.foldl (fun s e=>s|||(1 <<< e)|||f e) s).testBit i=true→s.testBit i=true∨∃ e∈l,e=i∨(f e).testBit i=true
 | [],s,h=>.inl h
 | e::l,s,h=>by
  simp only [List.foldl_cons] at h
  rcases IM f i l _ h with h | ⟨e',he',h⟩
  ·simp only [Nat.testBit_or,Bool.or_eq_true] at h
   rcases h with (h | h) | h
   ·exact .inl h
   ·refine .inr ⟨e,by simp,.inl ?_⟩
    rw [Nat.one_shiftLeft,Nat.testBit_two_pow] at h
    simpa using h
   ·exact .inr ⟨e,by simp,.inr h⟩
  ·exact .inr ⟨e',by simp [he'],h⟩
theorem IN:∀ (L:List (List Nat))(acc:List Nat)(A:List (List Nat)),acc.length=A.length→
  (∀ j i,j<acc.length→(acc.getD j 0).testBit i=true→i∈A.getD j []∨∃ e∈A.getD j [],e<j∧(acc.getD e 0).testBit i=true)→
  ∀ j i,((xe acc L).getD j 0).testBit i=true→i∈(A++L).getD j []∨∃ e∈(A++L).getD j [],e<j∧((xe acc L).getD e 0).testBit i=true
 | [],acc,A,hl,h,j,i,hb=>by
  rw [List.append_nil]
  simp only [xe] at hb ⊢
  by_cases hj:j<acc.length
  ·exact h j i hj hb
  ·rw [List.getD_eq_getElem?_getD,List.getElem?_eq_none (by omega)] at hb
   simp at hb
 | l::L,acc,A,hl,h,j,i,hb=>by
  have:=IN L (acc++[NS acc l]) (A++[l]) (by simp [hl]) (fun j i hj hb=>?_) j i hb
  ·simpa [xe] using this
  ·simp only [List.length_append,List.length_singleton] at hj
   simp only [List.getD_eq_getElem?_getD] at hb ⊢
   by_cases hlt:j<acc.length
   ·rw [List.getElem?_append_left hlt] at hb
    rw [List.getElem?_append_left (by omega)]
    rcases h j i hlt (by simpa [List.getD_eq_getElem?_getD] using hb) with h1 | ⟨e,he,h2,h3⟩
    ·exact .inl (by simpa [List.getD_eq_getElem?_getD] using h1)
    ·refine .inr ⟨e,by simpa [List.getD_eq_getElem?_getD] using he,h2,?_⟩
     rw [List.getElem?_append_left (by omega)]
     simpa [List.getD_eq_getElem?_getD] using h3
   ·have hje:j=acc.length:=by omega
    subst hje
    rw [List.getElem?_append_right (Nat.le_refl _)] at hb
    rw [List.getElem?_append_right (by omega),hl]
    simp only [Nat.sub_self,List.getElem?_cons_zero,Option.getD_some] at hb ⊢
    rcases IM (fun e=>acc.getD e 0) i l 0 hb with h1 | ⟨e,he,h1 | h1⟩
    ·simp at h1
    ·exact .inl (h1▸he)
    ·have hea:e<acc.length:=by
      apply Classical.byContradiction
      intro hn
      rw [List.getD_eq_getElem?_getD,List.getElem?_eq_none (by omega)] at h1
      simp at h1
     refine .inr ⟨e,he,by omega,?_⟩
     rw [List.getElem?_append_left hea]
     simpa [List.getD_eq_getElem?_getD] using h1
def NT(gs:List bw)(i j:Nat):Bool:=
 match gs[i]?,gs[j]? with
 | some p,some q=>(p.lt&&q.lt&&xb p q)||vj p q||vj q p
 | _,_=>false
def zp(P:Program)(nt:Nat)(ops:Array Oper):List Oper→List bw→Bool
 | [],[]=>true
 | o::os,g::gs=>AS P nt ops o g.p&&(!g.lt||eY g)&&zp P nt ops os gs
 | _,_=>false
def IP(q:bw)(dd:Nat):Bool:=match q.p.o with
 | .ch _ _ _ _ ow=>!q.lt&&q.p.g.isNone&&ow.contains dd
 | _=>false
theorem jH.Z1{R:Rec}{Ω:cm}{E:Env}{s s2:St}{p:bw}{h:Nat}(hf:jH E.dp s h)(hc:IP p h=true)(he:cC R Ω E s p=some s2):jH E.dp s2 h:=by
 unfold IP at hc
 split at hc
 ·rename_i f args sl dl ow ho
  simp only [Bool.and_eq_true,Bool.not_eq_true',Option.isNone_iff_eq_none] at hc
  obtain ⟨⟨h1,h2⟩,h3⟩:=hc
  have h3':h∈ow:=by simpa using h3
  simp only [cC,h1,Bool.false_eq_true,if_false,gw,h2,ho,execOp] at he
  obtain ⟨⟨x,s'⟩,hcall,he⟩:=Option.bind_eq_some_iff.1 he
  obtain rfl:=Option.some.inj he
  obtain ⟨hp',hC,e2⟩:=AY hcall
  simp only at e2 hC
  subst e2
  have hx:ea p.p.fz x=x:=by
   have:=hC.pure
   cases p.p.fz with
   | false=>rfl
   | true=>cases x<;>first | rfl | cases this
  have hxb:x.bb ⟨E.dp,h⟩=true∧x.fe (.s h)=false:=by
   have:=hC.pure
   refine ⟨ic x this,?_⟩
   cases x<;>first | rfl | cases this
  have hb1:=hf.fr
  have hb2:∀ d cs,aq (s.bu E.dp (cA E.dp s sl dl ow hp')).bx d=some cs→∀ c∈cs,c.bb ⟨E.dp,h⟩=true:=by
   intro d cs hd c hc
   rcases hC.post d cs hd with ho' | ho'
   ·refine hf.cs d cs ?_ c hc
    simp only [St.bu,iA] at hd
    have hm:cA E.dp s sl dl ow hp' ⟨E.dp,d⟩=aq s.bx d:=by
     unfold cA
     rw [if_pos (Bt ho')]
     simp [St.box]
    rw [hm] at hd
    obtain ⟨_,_,e⟩:=Option.bind_eq_some_iff.1 hd
    exact e
   ·exact ja (ho' h h3') c hc
  rw [hx]
  cases p.p.d with
  | none=>exact ⟨hb1,hb2⟩
  | some dd=>
   refine ⟨fun d=>?_,hb2⟩
   simp only [put,St.bR,aj]
   split
   ·exact hxb
   ·exact hb1 d
 ·cases hc
def acy(M:List Nat)(gs:List bw)(n k dd:Nat):Bool:=
 (List.range n).all fun i=>i==k||(M.getD i 0).testBit k||(match gs[i]? with
  | some q=>(q.lt&&q.nk.contains dd)||IP q dd
  | none=>true)
def Q5(M:List Nat)(gs:List bw)(mks:List Nat)(n:Nat):Bool:=
 (List.range n).all fun k=>match gs[k]? with
  | some p=>!p.lt||!IL p.p.o||(match p.p.d with
   | some dd=>mks.contains dd&&acy M gs n k dd
   | none=>true)
  | none=>true
def KA(M:List Nat)(gs:List bw)(n:Nat):Bool:=(List.range n).all fun j=>(List.range j).all fun i=>(M.getD j 0).testBit i||NT gs i j
def Wi(M:List Nat)(gs:List bw)(n:Nat):Bool:=
 (List.range n).all fun k=>match gs[k]? with
  | some p=>!p.lt||!sx p.p.o p.cs||p.vb.all fun h=>(List.range n).all fun i=>i==k||(M.getD i 0).testBit k||(match gs[i]? with
   | some q=>q.lt&&q.nb.contains h
   | none=>true)
  | none=>true
def DZ(P:Program)(nt:Nat)(ops:Array Oper)(mks:List Nat)(gs:List bw):Bool:=
 P.follows .mixedOrders&&zp P nt ops ops.toList gs&&((List.range ops.size).all fun i=>match ops[i]? with
  | some o=>(gO o).all fun e=>decide (e<i)
  | none=>true)&&
 KA (xe [] (ops.toList.map gO)) gs ops.size&&Q5 (xe [] (ops.toList.map gO)) gs mks ops.size&&Wi (xe [] (ops.toList.map gO)) gs ops.size
theorem AZ{P:Program}{nt:Nat}{ops:Array Oper} : ∀ {os:List Oper}{gs:List bw},zp P nt ops os gs=true→os.length=gs.length∧∀ (i:Nat)(o:Oper)(p:bw),os[i]? =some o→gs[i]? =some p→AS P nt ops o p.p=true∧(p.lt=true→eY p=true)
 | [],[],_=>⟨rfl,fun i o p h=>by simp at h⟩
 | o::os,g::gs,h=>by
  simp only [zp,Bool.and_eq_true] at h
  obtain ⟨h1,h2⟩:=AZ h.2
  refine ⟨by simp [h1],fun i o' p ho hp=>?_⟩
  cases i with
  | zero=>
   obtain rfl:o=o':=by simpa using ho
   obtain rfl:g=p:=by simpa using hp
   refine ⟨h.1.1,fun hl=>?_⟩
   have:=h.1.2
   rw [hl] at this
   simpa using this
  | succ i=>exact h2 i o' p (by simpa using ho) (by simpa using hp)
 | [],_::_,h=>by simp [zp] at h
 | _::_,[],h=>by simp [zp] at h
section
variable {C:Cx}{st:St}{a:Act}{w:World}{σ:Sp}{R:Rec}{Ω:cm}
def kB(n:Nat)(listed:Array Bool):List Nat:=(List.range n).filter fun i=>!listed.getD i true
theorem LX{ops:Array Oper}{listed:Array Bool}(hback:∀ i o,ops[i]? =some o→∀ e∈gO o,e<i)(hcl:∀ j o,ops[j]? =some o→listed.getD j false=true→∀ e∈gO o,listed.getD e false=true) :
  ∀ (j:Nat)(o:Oper),ops[j]? =some o→(∀ e∈gO o,listed.getD e false=true)→∀ i,((xe [] (ops.toList.map gO)).getD j 0).testBit i=true→listed.getD i false=true:=by
 intro j
 induction j using Nat.strongRecOn with
 | _ j ih=>
  intro o ho haft i hb
  have hspec:=IN (ops.toList.map gO) [] [] rfl (fun j i hj=>by simp at hj) j i hb
  rw [List.nil_append] at hspec
  have hget:(ops.toList.map gO).getD j []=gO o:=by
   rw [List.getD_eq_getElem?_getD,List.getElem?_map,Array.getElem?_toList,ho];rfl
  rw [hget] at hspec
  rcases hspec with h1 | ⟨e,he,hej,h2⟩
  ·exact haft i h1
  ·have hel:=haft e he
   have hes:e<ops.size:=by have:=Array.getElem?_eq_some_iff.1 ho;obtain ⟨h3,_⟩:=this;omega
   have hoe:ops[e]? =some ops[e]:=Array.getElem?_eq_getElem hes
   exact ih e hej ops[e] hoe (hcl e _ hoe hel) i h2
theorem FY{o:Oper}{listed:Array Bool} : (o.after.all fun e=>!Region.binds .any e||listed.getD e.on false)=true↔∀ e∈gO o,listed.getD e false=true:=by
 rw [Array.all_eq_true_iff_forall_mem]
 constructor
 ·intro h e he
  obtain ⟨x,hx,rfl⟩:=List.mem_map.1 he
  obtain ⟨h1,h2⟩:=List.mem_filter.1 hx
  have:=h x (by simpa using h1)
  simpa [h2] using this
 ·intro h x hx
  by_cases hb:Region.binds .any x=true
  ·have:=h x.on (List.mem_map.2 ⟨x,List.mem_filter.2 ⟨by simpa using hx,hb⟩,rfl⟩)
   simp [this]
  ·simp [hb]
theorem mem_ready{ops:Array Oper}{listed:Array Bool}{i:Nat} : i∈Region.ready .any ops listed↔∃ o,ops[i]? =some o∧listed.getD i true=false∧∀ e∈gO o,listed.getD e false=true:=by
 unfold Region.ready
 rw [List.mem_filter]
 constructor
 ·rintro ⟨h1,h2⟩
  have hi:i<ops.size:=by simpa using h1
  refine ⟨ops[i],Array.getElem?_eq_getElem hi,?_⟩
  simp only [Array.getElem?_eq_getElem hi,Option.map_some,Option.getD_some,Bool.and_eq_true,Bool.not_eq_true'] at h2
  exact ⟨h2.1,FY.1 h2.2⟩
 ·rintro ⟨o,ho,h1,h2⟩
  have hi:i<ops.size:=(Array.getElem?_eq_some_iff.1 ho).1
  refine ⟨by simpa using hi,?_⟩
  simp only [ho,Option.map_some,Option.getD_some,Bool.and_eq_true,Bool.not_eq_true']
  exact ⟨h1,FY.2 h2⟩
theorem FZ{listed:Array Bool}{n i:Nat}(hs:listed.size=n)(hi:i<n)(x y:Bool):listed.getD i x=listed.getD i y:=by
 have:i<listed.size:=by omega
 simp [this]
theorem ad.any{nt:Nat}{ops:Array Oper}{Q:Exit→Act→World→Prop}{gs:List bw}{t:St}(hR:kz C.P R)(hΩ:eX C.P Ω)(hnt:nt≤C.nt)
  (hds:zp C.P nt ops ops.toList gs=true) (hback:∀ i o,ops[i]? =some o→∀ e∈gO o,e<i) (hpairs:KA (xe [] (ops.toList.map gO)) gs ops.size=true) {mks:List Nat} (hmks:Q5 (xe [] (ops.toList.map gO)) gs mks ops.size=true) (hrws:Wi (xe [] (ops.toList.map gO)) gs ops.size=true) :
  ∀ (fuel:Nat)(listed:Array Bool)(s:St)(a:Act)(w:World)(σ:Sp),listed.size=ops.size→fuel=(kB ops.size listed).length→(∀ j o,ops[j]? =some o→listed.getD j false=true→∀ e∈gO o,listed.getD e false=true)→
   nG R Ω C.E gs (kB ops.size listed) s t→ad C s a w σ→(∀ k p dd,k∈kB ops.size listed→gs[k]? =some p→p.lt=true→IL p.p.o=true→p.p.d=some dd→jH C.E.dp s dd)→(∀ k p,k∈kB ops.size listed→gs[k]? =some p→p.lt=true→sx p.p.o p.cs=true→∀ h∈p.vb,pI C.E.dp s h)→
   (∀ a' w' σ',bN C w σ w' σ'→ad C t a' w' σ'→Q .normal a' w')→wpAny C.P .any ops Q fuel listed a w:=by
 have hremm:∀ listed i,i∈kB ops.size listed↔i<ops.size∧listed.getD i true=false:=by
  intro listed i;unfold kB;simp [List.mem_filter]
 have hready:∀ listed i,i∈Region.ready .any ops listed→i∈kB ops.size listed:=by
  intro listed i hi
  obtain ⟨o,ho,h1,_⟩:=mem_ready.1 hi
  exact (hremm _ _).2 ⟨(Array.getElem?_eq_some_iff.1 ho).1,h1⟩
 intro fuel
 induction fuel with
 | zero=>
  intro listed s a w σ hsz hfu hcl hg h hfr hfB hK
  have hrem:kB ops.size listed=[]:=List.eq_nil_of_length_eq_zero hfu.symm
  rw [hrem] at hg
  refine ⟨?_,hK a w σ (.refl _ _ _) (h.se hg)⟩
  apply List.eq_nil_iff_forall_not_mem.2
  intro i hi
  have:=hready _ _ hi
  rw [hrem] at this;cases this
 | succ fuel ih=>
  intro listed s a w σ hsz hfu hcl hg h hfr hfB hK
  refine ⟨fun hnil=>?_,fun i hi=>?_⟩
  ·exfalso
   cases hrem:kB ops.size listed with
   | nil=>rw [hrem] at hfu;simp at hfu
   | cons i0 rest=>
    have hi0:i0∈kB ops.size listed:=by rw [hrem];simp
    obtain ⟨h1,h2⟩:=(hremm _ _).1 hi0
    have hsorted:(kB ops.size listed).Pairwise (· < ·):=(List.pairwise_lt_range (n:=ops.size)).filter _
    have:i0∈Region.ready .any ops listed:=by
     refine mem_ready.2 ⟨ops[i0],Array.getElem?_eq_getElem h1,h2,fun e he=>?_⟩
     have hlt:=hback i0 _ (Array.getElem?_eq_getElem h1) e he
     apply Classical.byContradiction
     intro hne
     have hem:e∈kB ops.size listed:=(hremm _ _).2 ⟨by omega,by rw [FZ hsz (by omega) true false];simpa using hne⟩
     rw [hrem] at hem hsorted
     rcases List.mem_cons.1 hem with rfl | hem
     ·omega
     ·have:=(List.pairwise_cons.1 hsorted).1 e hem
      omega
    rw [hnil] at this;cases this
  ·obtain ⟨o,ho,hun,haft⟩:=mem_ready.1 hi
   have hin:i<ops.size:=(Array.getElem?_eq_some_iff.1 ho).1
   have hir:=hready _ _ hi
   obtain ⟨A,B,hAB⟩:=List.append_of_mem hir
   have hsorted:(kB ops.size listed).Pairwise (· < ·):=(List.pairwise_lt_range (n:=ops.size)).filter _
   have hnb:∀ k,k∈kB ops.size listed→((xe [] (ops.toList.map gO)).getD i 0).testBit k=false:=by
    intro k hk
    cases hb:((xe [] (ops.toList.map gO)).getD i 0).testBit k with
    | false=>rfl
    | true=>
     have:=LX hback hcl i o ho haft k hb
     obtain ⟨h1,h2⟩:=(hremm _ _).1 hk
     rw [FZ hsz h1 true false,this] at h2;cases h2
   rw [hAB] at hsorted
   have hsp:=List.pairwise_append.1 hsorted
   have hA:∀ x∈A,LV gs x i:=by
    intro x hx
    have hlt:x<i:=hsp.2.2 x hx i (by simp)
    have h1:=List.all_eq_true.1 (List.all_eq_true.1 hpairs i (by simpa using hin)) x (by simpa using hlt)
    rw [hnb x (by rw [hAB];simp [hx]),Bool.false_or] at h1
    unfold NT at h1
    split at h1
    ·rename_i p q hp hq
     simp only [Bool.and_eq_true,Bool.or_eq_true] at h1
     refine ⟨p,q,hp,hq,?_⟩
     rcases h1 with (h1 | h1) | h1
     ·exact .inl ⟨h1.1.1,h1.1.2,h1.2⟩
     ·exact .inr (.inl h1)
     ·exact .inr (.inr h1)
    ·cases h1
   rw [hAB] at hg
   obtain ⟨p,s1,s2,hp,hse,hex,hgo⟩:=nG.front A s hA hg
   obtain ⟨hlen,hlow⟩:=AZ hds
   obtain ⟨hlg,hlk⟩:=hlow i o p (by simpa using ho) hp
   have hnd:i∉A∧i∉B:=by
    refine ⟨fun hm=>?_,fun hm=>?_⟩
    ·have:=hsp.2.2 i hm i (by simp);omega
    ·have:=(List.pairwise_cons.1 hsp.2.1).1 i hm;omega
   have hrem':kB ops.size (listed.setIfInBounds i true)=A++B:=by
    have hget:∀ j,j<ops.size→(listed.setIfInBounds i true).getD j true=(if i=j then true else listed.getD j true):=by
     intro j hj
     have hjs:j<listed.size:=by omega
     by_cases hij:i=j
     ·subst hij;simp [hjs]
     ·simp [Array.getElem?_setIfInBounds,hij]
    have e1:kB ops.size (listed.setIfInBounds i true)=(kB ops.size listed).filter (fun j=>j !=i):=by
     unfold kB
     rw [List.filter_filter]
     apply List.filter_congr
     intro j hj
     rw [hget j (by simpa using hj)]
     by_cases hij:i=j
     ·subst hij;simp
     ·have:(j !=i)=true:=by simpa using fun e=>hij e.symm
      simp [hij,this]
    rw [e1,hAB,List.filter_append,List.filter_cons]
    have f1:A.filter (fun j=>j !=i)=A:=List.filter_eq_self.2 fun x hx=>by
     have:x≠i:=fun e=>hnd.1 (e▸hx)
     simpa using this
    have f2:B.filter (fun j=>j !=i)=B:=List.filter_eq_self.2 fun x hx=>by
     have:x≠i:=fun e=>hnd.2 (e▸hx)
     simpa using this
    rw [f1,f2]
    simp
   have hmk:∀ k p' dd,k∈A++B→gs[k]? =some p'→p'.lt=true→IL p'.p.o=true→p'.p.d=some dd→jH C.E.dp s dd∧((p.lt=true∧dd∈p.nk)∨IP p dd=true):=by
    intro k p' dd hk hp' hlt hm hdd
    have hkr:k∈kB ops.size listed:=by
     rw [hAB]
     rcases List.mem_append.1 hk with h1 | h1
     ·exact List.mem_append_left _ h1
     ·exact List.mem_append_right _ (List.mem_cons_of_mem _ h1)
    refine ⟨hfr k p' dd hkr hp' hlt hm hdd,?_⟩
    have hki:k≠i:=fun e=>by
     rw [e] at hk
     rcases List.mem_append.1 hk with h1 | h1
     ·exact hnd.1 h1
     ·exact hnd.2 h1
    have h1:=List.all_eq_true.1 hmks k (by simpa using ((hremm _ _).1 hkr).1)
    simp only [hp',hlt,hm,hdd,Bool.not_true,Bool.false_or,Bool.and_eq_true] at h1
    have h2:=List.all_eq_true.1 h1.2 i (by simpa using hin)
    have e1:(i==k)=false:=by simpa using fun e=>hki (Eq.symm e)
    simp only [e1,hnb k hkr,hp,Bool.false_or,Bool.and_eq_true,Bool.or_eq_true] at h2
    exact h2.imp (fun h2=>⟨h2.1,by simpa using h2.2⟩) id
   have hrw:∀ k p',k∈A++B→gs[k]? =some p'→p'.lt=true→sx p'.p.o p'.cs=true→∀ hh∈p'.vb,pI C.E.dp s hh∧(p.lt=true∧hh∈p.nb):=by
    intro k p' hk hp' hlt hm hh hhm
    have hkr:k∈kB ops.size listed:=by
     rw [hAB]
     rcases List.mem_append.1 hk with h1 | h1
     ·exact List.mem_append_left _ h1
     ·exact List.mem_append_right _ (List.mem_cons_of_mem _ h1)
    refine ⟨hfB k p' hkr hp' hlt hm hh hhm,?_⟩
    have hki:k≠i:=fun e=>by
     rw [e] at hk
     rcases List.mem_append.1 hk with h1 | h1
     ·exact hnd.1 h1
     ·exact hnd.2 h1
    have h1:=List.all_eq_true.1 hrws k (by simpa using ((hremm _ _).1 hkr).1)
    simp only [hp',hlt,hm,Bool.not_true,Bool.false_or] at h1
    have h2:=List.all_eq_true.1 (List.all_eq_true.1 h1 hh hhm) i (by simpa using hin)
    have e1:(i==k)=false:=by simpa using fun e=>hki (Eq.symm e)
    simp only [e1,hnb k hkr,hp,Bool.false_or,Bool.and_eq_true] at h2
    exact ⟨h2.1,by simpa using h2.2⟩
   have hsz':(listed.setIfInBounds i true).size=ops.size:=by simpa using hsz
   have hcl':∀ j o',ops[j]? =some o'→(listed.setIfInBounds i true).getD j false=true→∀ e∈gO o',(listed.setIfInBounds i true).getD e false=true:=by
    have hmono:∀ e,listed.getD e false=true→(listed.setIfInBounds i true).getD e false=true:=by
     intro e he
     simp only [Array.getD_eq_getD_getElem?,Array.getElem?_setIfInBounds] at he ⊢
     split
     ·split
      ·rfl
      ·rename_i h3 h4
       subst h3
       rw [Array.getElem?_eq_none (by omega)] at he;cases he
     ·exact he
    intro j o' hj hl e he
    by_cases hij:i=j
    ·subst hij
     obtain rfl:o=o':=by rw [ho] at hj;exact Option.some.inj hj
     exact hmono e (haft e he)
    ·have:listed.getD j false=true:=by
      simpa [Array.getD_eq_getD_getElem?,Array.getElem?_setIfInBounds,hij] using hl
     exact hmono e (hcl j o' hj this e he)
   have hfu':fuel=(kB ops.size (listed.setIfInBounds i true)).length:=by
    rw [hrem']
    rw [hAB] at hfu
    simp only [List.length_append,List.length_cons] at hfu ⊢
    omega
   have h1:=h.se hse
   by_cases hlt:p.lt=true
   ·simp only [cC,if_pos hlt] at hex
    obtain ⟨q,hq,he2⟩:=Option.bind_eq_some_iff.1 hex
    obtain rfl:=Option.some.inj he2
    refine h1.ZZ hR hΩ ho hlg hnt (hlk hlt) (fun hm dd hdd=>(hfr i p dd hir hp hlt hm hdd).se hse) (fun hm hh hhm=>(hfB i p hir hp hlt hm hh hhm).se hse) hq fun a' w' σ' hs' hc'=>?_
    refine ih _ _ a' w' σ' hsz' hfu' hcl' (by rw [hrem'];exact hgo) hc' (fun k p' dd hk hp' hl' hm hdd=>?_) (fun k p' hk hp' hl' hm hh hhm=>?_) fun a'' w'' σ'' hs'' hc''=>hK a'' w'' σ'' (hs'.trans hs'') hc''
    ·rw [hrem'] at hk
     obtain ⟨h3,⟨_,h4⟩ | h4⟩:=hmk k p' dd hk hp' hl' hm hdd
     ·exact (h3.se hse).step (CD hlg hnt).1 (hlk hlt) h4 hq
     ·exfalso
      unfold IP at h4
      split at h4
      ·rw [hlt] at h4;simp at h4
      ·cases h4
    ·rw [hrem'] at hk
     obtain ⟨h3,_,h4⟩:=hrw k p' hk hp' hl' hm hh hhm
     exact (h3.se hse).step h4 hq
   ·have hex0:=hex
    simp only [cC,if_neg hlt] at hex
    refine h1.QZ hR hΩ ho hlg hnt hex fun a' w' σ' hs' hc'=>?_
    refine ih _ _ a' w' σ' hsz' hfu' hcl' (by rw [hrem'];exact hgo) hc' (fun k p' dd hk hp' hl' hm hdd=>?_) (fun k p' hk hp' hl' hm hh hhm=>?_) fun a'' w'' σ'' hs'' hc''=>hK a'' w'' σ'' (hs'.trans hs'') hc''
    ·rw [hrem'] at hk
     obtain ⟨h3,h4 | h4⟩:=hmk k p' dd hk hp' hl' hm hdd
     ·exact absurd h4.1 hlt
     ·exact (h3.se hse).Z1 h4 hex0
    ·rw [hrem'] at hk
     exact absurd (hrw k p' hk hp' hl' hm hh hhm).2.1 hlt
theorem ad.IQ{nt:Nat}{ops:Array Oper}{Q:Exit→Act→World→Prop}{mks:List Nat}{gs:List bw}{st':St}(hR:kz C.P R)(hΩ:eX C.P Ω)(hnt:nt≤C.nt)(hl:DZ C.P nt ops mks gs=true)(h:ad C st a w σ)
  (hm:(mks.all (rL C.E.dp st)&&gs.all (iS C.E.dp st))=true) (he:kD R Ω C.E st gs=some st') (hK:∀ a' w' σ',bN C w σ w' σ'→ad C st' a' w' σ'→Q .normal a' w'):C.P.follows .mixedOrders=true∧wpAny C.P .any ops Q ops.size (Array.replicate ops.size false) a {w with drawn:=w.drawn+1}:=by
 simp only [DZ,Bool.and_eq_true] at hl
 obtain ⟨⟨⟨⟨⟨hfol,hds⟩,hback⟩,hpairs⟩,hmks⟩,hrws⟩:=hl
 obtain ⟨hm,hfb⟩:=Bool.and_eq_true_iff.1 hm
 have hback':∀ i o,ops[i]? =some o→∀ e∈gO o,e<i:=by
  intro i o ho e he
  have h1:=List.all_eq_true.1 hback i (by simpa using (Array.getElem?_eq_some_iff.1 ho).1)
  simp only [ho] at h1
  simpa using List.all_eq_true.1 h1 e he
 have hrem:kB ops.size (Array.replicate ops.size false)=List.range ops.size:=by
  unfold kB
  apply List.filter_eq_self.2
  intro i hi
  have:i<ops.size:=by simpa using hi
  simp [this]
 obtain ⟨hlen,_⟩:=AZ hds
 have hd:ad C st a {w with drawn:=w.drawn+1} σ:=h.drew
 refine ⟨hfol,ad.any hR hΩ hnt hds hback' hpairs hmks hrws ops.size _ st a _ σ (by simp) (by rw [hrem];simp) (fun j o ho hl=>?_) ?_ hd (fun k p dd hk hp hlt hmk hdd=>?_) (fun k p hk hp hlt hmk hh hhm=>?_) fun a' w' σ' hs hc=>hK a' w' σ' (bN.drew (w:=w) hs) hc⟩
 ·exfalso
  by_cases hj:j<ops.size<;>simp [hj] at hl
 ·rw [hrem]
  have:=nG.text (R:=R) (Ω:=Ω) (E:=C.E) gs 0 st st' rfl he
  have hl2:gs.length=ops.size:=by simpa using hlen.symm
  rwa [hl2,←List.range_eq_range'] at this
 ·have h1:=List.all_eq_true.1 hmks k (by rw [hrem] at hk;exact hk)
  simp only [hp,hlt,hmk,hdd,Bool.not_true,Bool.false_or,Bool.and_eq_true] at h1
  exact jH.of (List.all_eq_true.1 hm dd (by simpa using h1.1))
 ·have h1:=List.all_eq_true.1 hfb p (List.mem_of_getElem? hp)
  simp only [iS,hmk,Bool.not_true,Bool.false_or] at h1
  intro d
  have h2:=List.all_eq_true.1 h1 hh hhm
  have:=lR (p:=fun y=>!jc ⟨C.E.dp,hh⟩ y) rfl _ h2 d
  simpa using this
theorem ad.drawn{nt id:Nat}{ops:Array Oper}{Q:Exit→Act→World→Prop}{mks:List Nat}{gs:List bw}{st':St}(hR:kz C.P R)(hΩ:eX C.P Ω)(hnt:nt≤C.nt)(hl:DZ C.P nt ops mks gs=true)(h:ad C st a w σ)
  (hm:(mks.all (rL C.E.dp st)&&gs.all (iS C.E.dp st))=true) (he:kD R Ω C.E st gs=some st') (hK:∀ a' w' σ',bN C w σ w' σ'→ad C st' a' w' σ'→Q .normal a' w'):(Code.region id ops true).wp C.P Q a w:=by
 obtain ⟨h1,h2⟩:=h.IQ hR hΩ hnt hl hm he hK
 exact wp_region_any h1 h2
end
end Go.Proofs.YtkkkkondjclcnaaGreat.A
