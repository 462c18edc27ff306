/- Regions whose order is drawn: whatever the order, what the order of the text gives. -/
import Derived.Test.YtkkkkondjclcnaaAbsH
import Derived.Orders
set_option linter.unusedSectionVars false
set_option linter.unusedVariables false
set_option linter.unusedSimpArgs false
set_option linter.constructorNameAsVariable false
namespace Go.Proofs.Ytkkkkondjclcnaa.A
open Go
variable [aP]
structure Se(s s':St):Prop where
 fr:∀ d,af s.fr d=af s'.fr d
 bx:∀ d,aq s.bx d=aq s'.bx d
 hp:s.hp=s'.hp
 mem:∀ y,y∈s.fr↔y∈s'.fr
theorem Se.refl(s:St):Se s s:=⟨fun _=>rfl,fun _=>rfl,rfl,fun _=>Iff.rfl⟩
theorem Se.symm{s s':St}(h:Se s s'):Se s' s:=⟨fun d=>(h.fr d).symm,fun d=>(h.bx d).symm,h.hp.symm,fun y=>(h.mem y).symm⟩
theorem Se.trans{s s' s'':St}(h:Se s s')(h':Se s' s''):Se s s'':=⟨fun d=>(h.fr d).trans (h'.fr d),fun d=>(h.bx d).trans (h'.bx d),h.hp.trans h'.hp,fun y=>(h.mem y).trans (h'.mem y)⟩
theorem Se.box{s s':St}(h:Se s s')(dp:Nat)(k:Key):s.box dp k=s'.box dp k:=by
 simp only [St.box,h.bx,h.hp]
theorem ab.se{C:Cx}{s s':St}{a:Act}{w:World}{σ:Sp}(h:ab C s a w σ)(hs:Se s s'):ab C s' a w σ:=
 h.uw (fun d=>.inr (hs.fr d).symm) (fun k cs hk=>by rw [hs.box];exact hk) (fun _ _ _ h=>by rw [hs.hp];exact h)
def b9{α:Type}(l:List (Nat×α)):List Nat:=l.map (·.1)
theorem fg(l r:List (Nat×AV))(d:Nat):af (l++r) d=if d∈b9 l then af l d else af r d:=by
 induction l with
 | nil=>simp [b9]
 | cons x l ih=>
  obtain ⟨k,y⟩:=x
  simp only [List.cons_append,af,b9,List.map_cons,List.mem_cons]
  by_cases h:k=d
  ·subst h;simp
  ·have h':¬d=k:=fun e=>h e.symm
   simp only [if_neg h,h',false_or]
   exact ih
theorem j6(l r:List (Nat×List AV))(d:Nat):aq (l++r) d=if d∈b9 l then aq l d else aq r d:=by
 induction l with
 | nil=>simp [b9]
 | cons x l ih=>
  obtain ⟨k,y⟩:=x
  simp only [List.cons_append,aq,b9,List.map_cons,List.mem_cons]
  by_cases h:k=d
  ·subst h;simp
  ·have h':¬d=k:=fun e=>h e.symm
   simp only [if_neg h,h',false_or]
   exact ih
theorem mx(bx wb:List (Nat×List AV))(d:Nat):aq (lP bx wb) d=match aq wb d with
  | some cs=>(aq bx d).map fun _=>cs
  | none=>aq bx d:=by
 induction wb with
 | nil=>rfl
 | cons x wb ih=>
  obtain ⟨k,y⟩:=x
  simp only [lP,pL,aq]
  by_cases h:k=d
  ·subst h
   simp only [if_true,ih]
   cases aq wb k with
   | none=>rfl
   | some cs=>cases aq bx k<;>rfl
  ·rw [if_neg h,if_neg (fun e=>h e.symm),ih]
theorem lL{l:List (Nat×List AV)}{d:Nat}(h:d∉b9 l):aq l d=none:=by
 induction l with
 | nil=>rfl
 | cons x l ih=>
  obtain ⟨k,y⟩:=x
  simp only [b9,List.map_cons,List.mem_cons,not_or] at h
  simp only [aq,if_neg (fun e=>h.1 (Eq.symm e))]
  exact ih h.2
theorem Se.app{s s':St}(q:aL)(h:Se s s'):Se (q.app s) (q.app s'):=by
 refine ⟨fun d=>?_,fun d=>?_,?_,fun y=>by simp only [aL.app,List.mem_append,h.mem y]⟩
 ·simp only [aL.app,fg,h.fr]
 ·simp only [aL.app,j6,mx,h.bx]
 ·simp only [aL.app,h.hp]
structure JL(q q':aL):Prop where
 fr:∀ d,d∈b9 q.fr→d∉b9 q'.fr
 nn:∀ d,d∈b9 q.nb→d∉b9 q'.nb
 nw:∀ d,d∈b9 q.nb→d∉b9 q'.wb
 wn:∀ d,d∈b9 q.wb→d∉b9 q'.nb
 ww:∀ d,d∈b9 q.wb→d∉b9 q'.wb
 hp:q.hp=none∨q'.hp=none
theorem Iq{q q':aL}(h:JL q q')(s:St):Se (q.app (q'.app s)) (q'.app (q.app s)):=by
 refine ⟨fun d=>?_,fun d=>?_,?_,fun y=>by simp only [aL.app,List.mem_append];constructor<;>rintro (h | h | h)<;>simp [h]⟩
 ·simp only [aL.app,fg]
  by_cases h1:d∈b9 q.fr
  ·simp [h1,h.fr d h1]
  ·simp [h1]
 ·simp only [aL.app,j6,mx]
  by_cases h1:d∈b9 q.nb
  ·have h2:=lL (h.nw d h1)
   simp [h1,h.nn d h1,h2]
  ·by_cases h3:d∈b9 q'.nb
   ·have h4:aq q.wb d=none:=lL fun h5=>h.wn d h5 h3
    simp [h1,h3,h4]
   ·simp only [if_neg h1,if_neg h3]
    by_cases h5:d∈b9 q.wb
    ·have:=lL (h.ww d h5)
     rw [this]
    ·rw [lL h5]
 ·simp only [aL.app]
  rcases h.hp with e | e<;>rw [e]<;>cases q.hp<;>cases q'.hp<;>first | rfl | cases e
def mT:kv→Bool
 | .st _ _ _=>true
 | _=>false
def gI(p:aY):Bool:=match p.p.o with
 | .ap _ _ _ _ _=>p.cs.length==2
 | _=>false
def ep(p:aY):Bool:=mT p.p.o||gI p
def mU:kv→Bool
 | .al _=>true
 | .ck _ _=>true
 | _=>false
def lM(d:Option Nat):List Nat:=match d with
 | some d=>[d]
 | none=>[]
def Nl(p:aY):List Nat:=match p.p.g with
 | some (j,_)=>[j]
 | none=>[]
def tJ(p:aY):List Nat:=lM p.p.d++p.cs
def JM(p:aY):List Nat:=Nl p++p.vw
def EV(p:aY):List Nat:=(if mU p.p.o=true then lM p.p.d else [])++(if ep p=true then p.vb else [])
def p8(l m:List Nat):Bool:=l.all fun x=>!m.contains x
def sw(p q:aY):Bool:=p8 (tJ p) (JM q)&&p8 (tJ q) (JM p)&&p8 (tJ p) (tJ q)&&p8 (EV p) q.vb&&p8 (EV q) p.vb&&p8 (EV p) (EV q)&&!((ep p||ep q)&&p.vh&&q.vh)
theorem ij{l m:List Nat}(h:p8 l m=true){x:Nat}(hx:x∈l):x∉m:=by
 have:=List.all_eq_true.1 h x hx
 simpa using this
theorem sA(bx:List (Nat×List AV))(ks:List Nat){d:Nat}(h:d∈b9 (bA bx ks)):d∈ks:=by
 induction ks with
 | nil=>simp [bA,b9] at h
 | cons k ks ih=>
  simp only [bA] at h
  split at h
  ·simp only [b9,List.map_cons,List.mem_cons] at h
   rcases h with rfl | h
   ·simp
   ·exact List.mem_cons_of_mem _ (ih h)
  ·exact List.mem_cons_of_mem _ (ih h)
section
variable {R:Rec}{Ω:bL}{E:Env}
structure Small(p:aY)(q:aL):Prop where
 fr:∀ d,d∈b9 q.fr→d∈tJ p
 nb:∀ d,d∈b9 q.nb→mU p.p.o=true∧d∈lM p.p.d
 wb:∀ d,d∈b9 q.wb→ep p=true∧d∈p.vb
 hp:q.hp≠none→ep p=true∧p.vh=true
theorem uC{p:aY}{fr:List (Nat×AV)}(h:∀ d,d∈b9 fr→d∈tJ p):Small p ⟨fr,[],[],none⟩:=
 ⟨h,fun d hd=>by simp [b9] at hd,fun d hd=>by simp [b9] at hd,fun h=>absurd rfl h⟩
theorem uD(d:Option Nat)(x:AV):b9 (fj d x)=lM d:=by cases d<;>rfl
theorem Dr(p:aY)(r:AV×St):Small p (effect p r):=by
 have hgen:Small p ⟨fj p.p.d (dk p.p.fz r.1)++p.cs.map (fun m=>(m,.u)),[],[],none⟩:=uC fun d hd=>by
  simp only [b9,List.map_append,List.map_map] at hd
  rcases List.mem_append.1 hd with hd | hd
  ·have:d∈b9 (fj p.p.d (dk p.p.fz r.1)):=hd
   rw [uD] at this
   exact List.mem_append_left _ this
  ·obtain ⟨m,hm,rfl⟩:=List.mem_map.1 hd
   exact List.mem_append_right _ hm
 unfold effect
 split
 ·rename_i zs ho
  split
  ·rename_i dd hd
   refine ⟨fun d h=>?_,fun d h=>⟨by rw [ho];rfl,?_⟩,fun d h=>by simp [b9] at h,fun h=>absurd rfl h⟩
   ·simp only [b9,List.map_cons,List.map_nil,List.mem_singleton] at h
    subst h;unfold tJ;rw [hd];simp [lM]
   ·simp only [b9,List.map_cons,List.map_nil,List.mem_singleton] at h
    subst h;rw [hd];simp [lM]
  ·exact uC fun d h=>by simp [b9] at h
 ·rename_i ho
  split
  ·rename_i dd hd
   refine ⟨fun d h=>?_,fun d h=>⟨by rw [ho];rfl,?_⟩,fun d h=>by simp [b9] at h,fun h=>absurd rfl h⟩
   ·simp only [b9,List.map_cons,List.map_nil,List.mem_singleton] at h
    subst h;unfold tJ;rw [hd];simp [lM]
   ·split at h
    ·simp only [b9,List.map_cons,List.map_nil,List.mem_singleton] at h
     subst h;rw [hd];simp [lM]
    ·simp [b9] at h
  ·exact uC fun d h=>by simp [b9] at h
 ·rename_i ho
  refine ⟨fun d h=>?_,fun d h=>by simp [b9] at h,fun d h=>⟨by simp [ep,ho,mT],sA _ _ h⟩,fun h=>⟨by simp [ep,ho,mT],?_⟩⟩
  ·simp only [b9,List.map_map] at h
   obtain ⟨m,hm,rfl⟩:=List.mem_map.1 h
   exact List.mem_append_right _ hm
  by_cases hv:p.vh=true
  ·exact hv
  ·simp [hv] at h
 ·rename_i ho
  by_cases h2:(p.cs.length==2)=true
  ·have hw:ep p=true:=by simp only [ep,gI,ho,h2,Bool.or_true]
   rw [if_pos h2]
   refine ⟨hgen.fr,fun d h=>by simp [b9] at h,fun d h=>⟨hw,sA _ _ h⟩,fun h=>⟨hw,?_⟩⟩
   by_cases hv:p.vh=true
   ·exact hv
   ·simp [hv] at h
  ·simp only [h2,Bool.false_and,Bool.false_eq_true,if_false]
   exact hgen
 ·exact hgen
theorem po{p:aY}{s:St}{q:aL}(h:bS R Ω E p s=some q):Small p q:=by
 have hcore:∀ v q,fX R Ω E p v=some q→Small p q:=by
  intro v q hq
  unfold fX at hq
  split at hq
  ·obtain ⟨r,_,h2⟩:=Option.bind_eq_some_iff.1 hq
   split at h2
   ·obtain rfl:=Option.some.inj h2
    exact Dr p r
   ·cases h2
  ·cases hq
 unfold bS at h
 split at h
 ·exact hcore _ _ h
 ·obtain ⟨y,_,h2⟩:=Option.bind_eq_some_iff.1 h
  split at h2
  ·exact hcore _ _ h2
  ·obtain rfl:=Option.some.inj h2
   exact uC fun d hd=>by rw [uD] at hd;exact List.mem_append_left _ hd
theorem xb{fr fr':List (Nat×AV)}{ks:List Nat}(h:∀ d∈ks,af fr d=af fr' d):fW fr ks=fW fr' ks:=
 List.map_congr_left fun d hd=>by rw [h d hd]
theorem D6{bx bx':List (Nat×List AV)}{ks:List Nat}(h:∀ d∈ks,aq bx d=aq bx' d):bA bx ks=bA bx' ks:=by
 induction ks with
 | nil=>rfl
 | cons k ks ih=>
  simp only [bA,h k (by simp),ih fun d hd=>h d (by simp [hd])]
structure Dt(p:aY)(s s':St):Prop where
 fr:∀ d∈JM p,af s.fr d=af s'.fr d
 bx:∀ d∈p.vb,aq s.bx d=aq s'.bx d
 hp:p.vh=true→s.hp=s'.hp
theorem Dt.patch{p:aY}{s s':St}(h:Dt p s s'):bS R Ω E p s=bS R Ω E p s':=by
 have hv:view p s=view p s':=by
  unfold view
  rw [xb fun d hd=>h.fr d (List.mem_append_right _ hd),D6 h.bx]
  by_cases hh:p.vh=true
  ·simp only [hh,if_true,h.hp hh]
  ·simp only [if_neg hh]
 unfold bS
 rw [hv]
 split
 ·rfl
 ·rename_i j want hg
  rw [h.fr j (List.mem_append_left _ (by unfold Nl;rw [hg];simp))]
theorem Se.Du{p:aY}{s s':St}(h:Se s s'):Dt p s s':=⟨fun d _=>h.fr d,fun d _=>h.bx d,fun _=>h.hp⟩
theorem Dv{p p':aY}{q:aL}{s:St}(hq:Small p q)(hc:sw p p'=true):Dt p' (q.app s) s:=by
 simp only [sw,Bool.and_eq_true,Bool.not_eq_true'] at hc
 obtain ⟨⟨⟨⟨⟨⟨c1,c2⟩,c3⟩,c4⟩,c5⟩,c6⟩,c7⟩:=hc
 refine ⟨fun d hd=>?_,fun d hd=>?_,fun hh=>?_⟩
 ·simp only [aL.app,fg]
  rw [if_neg]
  intro hm
  exact ij c1 (hq.fr d hm) hd
 ·simp only [aL.app,j6,mx]
  have hnb:d∉b9 q.nb:=fun hm=>by
   obtain ⟨h1,h2⟩:=hq.nb d hm
   exact ij c4 (List.mem_append_left _ (by rw [if_pos h1];exact h2)) hd
  have hwb:d∉b9 q.wb:=fun hm=>by
   obtain ⟨h1,h2⟩:=hq.wb d hm
   exact ij c4 (List.mem_append_right _ (by rw [if_pos h1];exact h2)) hd
  rw [if_neg hnb,lL hwb]
 ·simp only [aL.app]
  cases hp:q.hp with
  | none=>rfl
  | some x=>
   obtain ⟨h1,h2⟩:=hq.hp (by rw [hp];simp)
   rw [h1,h2,hh] at c7
   simp at c7
theorem Ir{p p':aY}{q q':aL}(hq:Small p q)(hq':Small p' q')(hc:sw p p'=true):JL q q':=by
 simp only [sw,Bool.and_eq_true,Bool.not_eq_true'] at hc
 obtain ⟨⟨⟨⟨⟨⟨c1,c2⟩,c3⟩,c4⟩,c5⟩,c6⟩,c7⟩:=hc
 have m1:∀ {p:aY}{q:aL}{d},Small p q→d∈b9 q.nb→d∈EV p:=fun hq h=>by
  obtain ⟨h1,h2⟩:=hq.nb _ h
  exact List.mem_append_left _ (by rw [if_pos h1];exact h2)
 have m2:∀ {p:aY}{q:aL}{d},Small p q→d∈b9 q.wb→d∈EV p:=fun hq h=>by
  obtain ⟨h1,h2⟩:=hq.wb _ h
  exact List.mem_append_right _ (by rw [if_pos h1];exact h2)
 refine ⟨fun d h h'=>ij c3 (hq.fr d h) (hq'.fr d h'),fun d h h'=>ij c6 (m1 hq h) (m1 hq' h'),fun d h h'=>ij c6 (m1 hq h) (m2 hq' h'),fun d h h'=>ij c6 (m2 hq h) (m1 hq' h'),fun d h h'=>ij c6 (m2 hq h) (m2 hq' h'),?_⟩
 cases h1:q.hp with
 | none=>exact .inl rfl
 | some x=>
  cases h2:q'.hp with
  | none=>exact .inr rfl
  | some y=>
   obtain ⟨h3,h4⟩:=hq.hp (by rw [h1];simp)
   obtain ⟨h5,h6⟩:=hq'.hp (by rw [h2];simp)
   rw [h3,h4,h6] at c7
   simp at c7
def ku(R:Rec)(Ω:bL)(E:Env)(gs:List aY):List Nat→St→St→Prop
 | [],s,t=>Se s t
 | i::π,s,t=>∃ p s1 s2,gs[i]? =some p∧Se s s1∧bT R Ω E s1 p=some s2∧ku R Ω E gs π s2 t
variable {gs:List aY}
theorem ku.se{π:List Nat}{s s' t:St}(h:ku R Ω E gs π s' t)(hs:Se s s'):ku R Ω E gs π s t:=by
 cases π with
 | nil=>exact Se.trans hs h
 | cons i π=>
  obtain ⟨p,s1,s2,h1,h2,h3,h4⟩:=h
  exact ⟨p,s1,s2,h1,hs.trans h2,h3,h4⟩
theorem ku.text:∀ (ps:List aY)(i:Nat)(s t:St),gs.drop i=ps→im R Ω E s ps=some t→ku R Ω E gs (List.range' i ps.length) s t
 | [],i,s,t,_,he=>by
  obtain rfl:=Option.some.inj he
  exact Se.refl _
 | p::ps,i,s,t,hi,he=>by
  obtain ⟨s2,h1,h2⟩:=Option.bind_eq_some_iff.1 he
  rw [List.length_cons,List.range'_succ]
  refine ⟨p,s,s2,?_,Se.refl _,h1,ku.text ps (i+1) s2 t ?_ h2⟩
  ·have:(gs.drop i)[0]? =some p:=by rw [hi];rfl
   simpa using this
  ·rw [←List.drop_drop,hi];rfl
def FZ(xs:List aA):List Nat:=xs.flatMap fun x=>match x with
 | .t n=>[n]
 | .c _=>[]
def AI(sl dl:List Nat):kv→Bool
 | .lk _ (.t _) (.t b) lv=>sl.contains b&&(!lv||dl.contains b)
 | _=>false
def F0:kv→Bool
 | .ln false (.t _)=>true
 | _=>false
def AJ(ow:List Nat)(q:aY):Bool:=match q.p.o with
 | .al zs=>AV.aO zs&&!q.vh&&(match q.p.d with
  | some d=>ow.contains d&&q.vb==[d]
  | none=>false)
 | _=>false
def qH(p q:aY):Bool:=match p.p.o with
 | .ch _ args sl dl ow=>!p.lt&&q.lt&&p.p.g.isNone&&q.p.g.isNone&&!ep q&&p8 (tJ q) (FZ args++(sl++dl))&&p8 (lM p.p.d) (tJ q++q.vw)&&(q.nb.contains 1000000||AI sl dl q.p.o)&&(AJ ow q||AI sl dl q.p.o||F0 q.p.o||(!mU q.p.o&&q.vb.isEmpty&&!q.vh))
 | _=>false
structure dN(p q:aY)(f:FuncId)(args:List aA)(sl dl ow:List Nat):Prop where
 o:p.p.o= .ch f args sl dl ow
 pl:p.lt=false
 ql:q.lt=true
 pg:p.p.g=none
 qg:q.p.g=none
 nw:ep q=false
 wr:∀ d,d∈tJ q→d∉FZ args∧d∉sl∧d∉dl
 ds:∀ d,p.p.d=some d→d∉tJ q∧d∉q.vw
 nb:(1000000:Nat)∈q.nb∨AI sl dl q.p.o=true
 kd:AJ ow q=true∨AI sl dl q.p.o=true∨F0 q.p.o=true∨(mU q.p.o=false∧q.vb=[]∧q.vh=false)
theorem Bl{p q:aY}(h:qH p q=true):∃ f args sl dl ow,dN p q f args sl dl ow:=by
 unfold qH at h
 split at h
 ·rename_i f args sl dl ow ho
  simp only [Bool.and_eq_true,Bool.not_eq_true',Option.isNone_iff_eq_none,Bool.or_eq_true] at h
  obtain ⟨⟨⟨⟨⟨⟨⟨⟨h1,h2⟩,h3⟩,h4⟩,h5⟩,h6⟩,h7⟩,h8⟩,h9⟩:=h
  refine ⟨f,args,sl,dl,ow,ho,h1,h2,h3,h4,h5,fun d hd=>?_,fun d hd=>?_,h8.imp (fun h=>by simpa using h) id,?_⟩
  ·have:=ij h6 hd
   exact ⟨fun hm=>this (List.mem_append_left _ hm),fun hm=>this (List.mem_append_right _ (List.mem_append_left _ hm)),fun hm=>this (List.mem_append_right _ (List.mem_append_right _ hm))⟩
  ·have:d∈lM p.p.d:=by rw [hd];simp [lM]
   have:=ij h7 this
   exact ⟨fun hm=>this (List.mem_append_left _ hm),fun hm=>this (List.mem_append_right _ hm)⟩
  ·rcases h9 with ((h9 | h9) | h9) | h9
   ·exact .inl h9
   ·exact .inr (.inl h9)
   ·exact .inr (.inr (.inl h9))
   ·exact .inr (.inr (.inr ⟨h9.1.1,by simpa using h9.1.2,h9.2⟩))
 ·cases h
theorem zu{ow:List Nat}{q:aY}(h:AJ ow q=true):∃ zs d,q.p.o= .al zs∧q.p.d=some d∧AV.aO zs=true∧d∈ow∧q.vb=[d]∧q.vh=false:=by
 unfold AJ at h
 split at h
 ·rename_i zs ho
  simp only [Bool.and_eq_true,Bool.not_eq_true'] at h
  obtain ⟨⟨h1,h2⟩,h3⟩:=h
  split at h3
  ·rename_i d hd
   simp only [Bool.and_eq_true,beq_iff_eq] at h3
   exact ⟨zs,d,ho,hd,h1,by simpa using h3.1,h3.2,h2⟩
  ·cases h3
 ·cases h
theorem F1{sl dl:List Nat}{o:kv}(h:AI sl dl o=true):∃ n m b lv,o= .lk n (.t m) (.t b) lv∧b∈sl∧(lv=true→b∈dl):=by
 unfold AI at h
 split at h
 ·rename_i n m b lv
  simp only [Bool.and_eq_true,Bool.or_eq_true,Bool.not_eq_true'] at h
  refine ⟨n,m,b,lv,rfl,by simpa using h.1,fun hl=>?_⟩
  rcases h.2 with h' | h'
  ·rw [hl] at h';cases h'
  ·simpa using h'
 ·cases h
theorem JN{o:kv}(h:F0 o=true):∃ m,o= .ln false (.t m):=by
 unfold F0 at h
 split at h
 ·exact ⟨_,rfl⟩
 ·cases h
theorem dN.Nn{p q:aY}{f:FuncId}{args:List aA}{sl dl ow:List Nat}(hb:dN p q f args sl dl ow)(ha:mU q.p.o=true):AJ ow q=true:=by
 rcases hb.kd with h | h | h | h
 ·exact h
 ·obtain ⟨n,m,b,lv,e,_⟩:=F1 h
  rw [e] at ha;cases ha
 ·obtain ⟨m,e⟩:=JN h
  rw [e] at ha;cases ha
 ·rw [h.1] at ha;cases ha
theorem KA{z:Bool}{x:AV}{hid:Key→Bool}(h:gJ hid x=false):gJ hid (dk z x)=false:=by
 cases z with
 | false=>exact h
 | true=>cases x<;>first | exact h | rfl
theorem Hb{hid:Key→Bool}{x:AV}(h:ka x=false):gJ hid x=false:=by
 cases x with
 | r pl=>cases pl<;>first | rfl | cases h
 | v pl lo len=>cases pl<;>first | rfl | cases h
 | q pl i sz off=>cases pl<;>first | rfl | cases h
 | _=>rfl
theorem Hc{hid:Key→Bool}{x:AV}(h:x.copy=true):gJ hid x=false:=by
 cases x<;>first | rfl | cases h
theorem Is{fr:List (Nat×AV)}{d:Nat}(h:af fr d≠.u):∃ y∈fr,y.2=af fr d:=by
 induction fr with
 | nil=>exact absurd rfl h
 | cons y fr ih=>
  obtain ⟨k,x⟩:=y
  simp only [af] at h ⊢
  split
  ·exact ⟨(k,x),by simp,rfl⟩
  ·rename_i hne
   rw [if_neg hne] at h
   obtain ⟨z,hz,e⟩:=ih h
   exact ⟨z,List.mem_cons_of_mem _ hz,e⟩
structure nP(dp:Nat)(s:St)(sl dl ow:List Nat):Prop where
 sl:∀ m∈sl,∃ k,cB dp s (af s.fr m) false=some k∧k.dp≤dp
 dl:∀ m∈dl,uU dp ow (af s.fr m)=false∧∃ k,cB dp s (af s.fr m) true=some k∧k.dp≤dp
theorem nP.dp{dp:Nat}{s:St}{sl dl ow:List Nat}(h:nP dp s sl dl ow){k:Key}(hk:et dp s sl dl ow k=true):k.dp≤dp:=by
 unfold et at hk
 simp only [Bool.or_eq_true,List.any_eq_true,Bool.and_eq_true,beq_iff_eq,decide_eq_true_eq] at hk
 rcases hk with (⟨n,hn,e⟩ | ⟨n,hn,_,e⟩) | ⟨e,_⟩
 ·obtain ⟨k',e',h'⟩:=h.sl n hn
  rw [e] at e';injection e' with e';subst e';exact h'
 ·obtain ⟨_,k',e',h'⟩:=h.dl n hn
  rw [e] at e';injection e' with e';subst e';exact h'
 ·omega
theorem It{dp:Nat}{v s:St}(hbx:∀ k cs,v.box dp k=some cs→s.box dp k=some cs){y:AV}{lv:Bool}{k:Key}(h:cB dp v y lv=some k):cB dp s y lv=some k:=by
 cases y<;>first | (simp [cB] at h;done) | skip
 rename_i k' off
 cases lv with
 | false=>exact h
 | true=>
  simp only [cB,if_true] at h ⊢
  split at h
  ·rename_i k2 o2 hc
   obtain ⟨cs,hb,hcs⟩:=Option.bind_eq_some_iff.1 hc
   simp only [hbx _ cs hb,Option.bind_some,hcs]
   exact h
  ·cases h
theorem EW(q:aY)(s:St)(n:Nat):af (view q s).fr n= .u∨af (view q s).fr n=af s.fr n:=ux s.fr q.vw n
theorem KB(q:aY)(s:St)(dp:Nat)(k:Key)(cs:List AV)(h:(view q s).box dp k=some cs):s.box dp k=some cs:=by
 by_cases hk:k.dp=dp
 ·simp only [St.box,hk,if_true] at h ⊢
  exact bD h
 ·simp only [St.box,if_neg hk,view] at h ⊢
  split at h
  ·exact h
  ·cases h
theorem Dw{dp:Nat}{q:aY}{s:St}{sl dl ow:List Nat}{b:Nat}{lv:Bool}{k:Key}(hs:nP dp s sl dl ow)(hb:b∈sl)(hl:lv=true→b∈dl)(h:cB dp (view q s) (af (view q s).fr b) lv=some k):et dp s sl dl ow k=true:=by
 have h1:=It (KB q s dp) h
 have h2:af (view q s).fr b=af s.fr b:=by
  rcases EW q s b with e | e
  ·rw [e] at h1;cases h1
  ·exact e
 rw [h2] at h1
 unfold et
 simp only [Bool.or_eq_true,List.any_eq_true,Bool.and_eq_true,beq_iff_eq,Bool.not_eq_true']
 cases lv with
 | false=>exact .inl (.inl ⟨b,hb,h1⟩)
 | true=>exact .inl (.inr ⟨b,hl rfl,(hs.dl b (hl rfl)).1,h1⟩)
structure fw(q:aY)(qq:aL)(ow:List Nat):Prop where
 fr:∀ d,d∈b9 qq.fr→d∈tJ q
 nb:qq.nb=[]∨∃ d zs,qq.nb=[(d,zs)]∧AV.aO zs=true∧d∈ow
 wb:qq.wb=[]
 hp:qq.hp=none
theorem vR{q:aY}{r:AV×St}(hnw:ep q=false)(hal:mU q.p.o=false):effect q r=⟨fj q.p.d (dk q.p.fz r.1)++q.cs.map (fun m=>(m,.u)),[],[],none⟩:=by
 unfold effect
 split
 ·rename_i zs ho;rw [ho] at hal;cases hal
 ·rename_i ho;rw [ho] at hal;cases hal
 ·rename_i ho;simp [ep,mT,ho] at hnw
 ·rename_i ho
  have h2:(q.cs.length==2)=false:=by
   simp only [ep,gI,ho,mT,Bool.false_or] at hnw
   exact hnw
  simp only [h2,Bool.false_and,Bool.false_eq_true,if_false]
 ·rfl
theorem dN.inv{p q:aY}{f:FuncId}{args:List aA}{sl dl ow:List Nat}(hb:dN p q f args sl dl ow){s:St}{qq:aL}(h:bS R Ω E q s=some qq):∃ r,execOp R Ω E (view q s) q.p.d q.p.o=some r∧okB E.dp q.nb r.1=true∧qq=effect q r:=by
 unfold bS at h
 rw [hb.qg] at h
 simp only at h
 unfold fX at h
 split at h
 ·obtain ⟨r,hr,h2⟩:=Option.bind_eq_some_iff.1 h
  split at h2
  ·rename_i hok
   exact ⟨r,hr,(Bool.and_eq_true_iff.1 hok).2,(Option.some.inj h2).symm⟩
  ·cases h2
 ·cases h
theorem dN.patch{p q:aY}{f:FuncId}{args:List aA}{sl dl ow:List Nat}(hb:dN p q f args sl dl ow){s:St}{qq:aL}(h:bS R Ω E q s=some qq):fw q qq ow:=by
 have hs:=po h
 obtain ⟨r,hr,hok,rfl⟩:=hb.inv h
 by_cases hal:mU q.p.o=true
 ·obtain ⟨zs,dd,ho,hd,h1,h2,_⟩:=zu (hb.Nn hal)
  have he:effect q r=⟨[(dd,r.1)],[(dd,zs)],[],none⟩:=by
   unfold effect
   rw [ho,hd]
  rw [he] at hs ⊢
  exact ⟨hs.fr,.inr ⟨dd,zs,rfl,h1,h2⟩,rfl,rfl⟩
 ·rw [vR hb.nw (by simpa using hal)] at hs ⊢
  exact ⟨hs.fr,.inl rfl,rfl,rfl⟩
theorem dN.plain{p q:aY}{f:FuncId}{args:List aA}{sl dl ow:List Nat}(hb:dN p q f args sl dl ow){s:St}{qq:aL}(hi:nP E.dp s sl dl ow)(h:bS R Ω E q s=some qq):∀ y∈qq.fr,gJ (et E.dp s sl dl ow) y.2=false:=by
 obtain ⟨r,hr,hok,rfl⟩:=hb.inv h
 have hx:gJ (et E.dp s sl dl ow) r.1=false:=by
  rcases hb.nb with hn | hl
  ·unfold okB at hok
   have h4:=(Bool.and_eq_true_iff.1 hok).2
   have h5:q.nb.contains 1000000=true:=by simpa using hn
   rw [h5] at h4
   exact Hb (by simpa using h4)
  ·obtain ⟨n,m,b,lv,e,hsl,hdl⟩:=F1 hl
   rw [e] at hr
   simp only [execOp] at hr
   split at hr
   ·rename_i k off hk
    split at hr
    ·rename_i hev
     have hhid:=Dw hi hsl hdl hev
     obtain ⟨cs,_,hr1⟩:=Option.bind_eq_some_iff.1 hr
     obtain ⟨y,_,hr2⟩:=Option.bind_eq_some_iff.1 hr1
     split at hr2
     ·obtain rfl:=Option.some.inj hr2
      simp [gJ,hhid]
     ·split at hr2
      ·rename_i hc
       obtain rfl:=Option.some.inj hr2
       exact Hc hc
      ·cases hr2
    ·cases hr
   ·cases hr
 by_cases hal:mU q.p.o=true
 ·obtain ⟨zs,dd,ho,hd,h1,h2,_⟩:=zu (hb.Nn hal)
  have he:effect q r=⟨[(dd,r.1)],[(dd,zs)],[],none⟩:=by
   unfold effect
   rw [ho,hd]
  rw [he]
  intro y hy
  obtain rfl:y=(dd,r.1):=by simpa using hy
  exact hx
 ·rw [vR hb.nw (by simpa using hal)]
  intro y hy
  rcases List.mem_append.1 hy with hy | hy
  ·cases hd:q.p.d with
   | none=>rw [hd] at hy;cases hy
   | some dd=>
    rw [hd] at hy
    obtain rfl:y=(dd,dk q.p.fz r.1):=by simpa [fj] using hy
    exact KA hx
  ·obtain ⟨m,_,rfl⟩:=List.mem_map.1 hy
   rfl
theorem dN.QU{p q:aY}{f:FuncId}{args:List aA}{sl dl ow:List Nat}(hb:dN p q f args sl dl ow){s:St}{qq:aL}(h:bS R Ω E q s=some qq):∀ d∈b9 qq.nb,aq s.bx d=none:=by
 have hs:=po h
 intro d hd
 obtain ⟨h1,h2⟩:=hs.nb d hd
 obtain ⟨r,hr,_,_⟩:=hb.inv h
 obtain ⟨zs,dd,ho,hdd,_,_,hvb,_⟩:=zu (hb.Nn h1)
 rw [hdd] at h2
 obtain rfl:d=dd:=by simpa [lM] using h2
 rw [ho] at hr
 simp only [execOp,hdd,Option.bind_some] at hr
 split at hr
 ·rename_i hc
  simp only [Bool.and_eq_true] at hc
  have h4:aq (bA s.bx q.vb) d=none:=by have:=hc.1.1;simp only [fx,Bool.and_eq_true] at this;simpa [view] using this.1
  rwa [sa _ _ _ (by rw [hvb];simp)] at h4
 ·cases hr
structure pq(R:Rec)(E:Env)(s:St)(f:FuncId)(args:List AV)(sl dl ow:List Nat)(x:AV)(hp':HP):Prop where
 ro:E.ro=false
 copy:args.all AV.copy=true
 deep:∀ d cs,aq s.bx d=some cs→AV.bN E.dp cs=true
 nb:∀ y∈s.fr,gJ (et E.dp s sl dl ow) y.2=false
 pt:nP E.dp s sl dl ow
 run:R ⟨E.dp+1,false⟩ f args (uV E.dp s sl dl ow)=some (.ret x,hp')
 pure:x.pure=true
 post:∀ d cs,aq (s.bh E.dp (cg E.dp s sl dl ow hp')).bx d=some cs→d∈ow∨∀ h∈ow,AV.bR ⟨E.dp,h⟩ cs=true
theorem sB{dp:Nat}{o:Option Key} : tO dp o=true↔∃ k,o=some k∧k.dp≤dp:=by
 cases o with
 | none=>simp [tO]
 | some k=>simp [tO]
theorem vS{s:St}{f:FuncId}{args:List AV}{sl dl ow:List Nat}{r:AV×St}(h:qB R E s f args sl dl ow=some r):∃ hp',pq R E s f args sl dl ow r.1 hp'∧r.2=s.bh E.dp (cg E.dp s sl dl ow hp'):=by
 unfold qB at h
 split at h
 ·rename_i hc
  simp only [Bool.and_eq_true,Bool.not_eq_true'] at hc
  obtain ⟨⟨⟨⟨⟨h1,h2⟩,h3⟩,h4⟩,h5⟩,h6⟩:=hc
  obtain ⟨⟨q,hp'⟩,hq,he2⟩:=Option.bind_eq_some_iff.1 h
  cases q with
  | new cs=>cases he2
  | ret x=>?_
  simp only at he2
  split at he2
  ·rename_i hk
   obtain rfl:=Option.some.inj he2
   obtain ⟨hk1,hk2⟩:=Bool.and_eq_true_iff.1 hk
   refine ⟨hp',⟨h1,h2,pN.1 h3,fun n hn=>?_,⟨fun m hm=>sB.1 (List.all_eq_true.1 h5 m hm),fun m hm=>?_⟩,hq,hk1,fun d cs hd=>?_⟩,rfl⟩
   ·simpa using List.all_eq_true.1 h4 n hn
   ·have:=List.all_eq_true.1 h6 m hm
    simp only [Bool.and_eq_true,Bool.not_eq_true'] at this
    exact ⟨this.1,sB.1 this.2⟩
   ·have:=pN.1 hk2 d cs hd
    simpa using this
  ·cases he2
 ·cases h
theorem pq.mk'{s:St}{f:FuncId}{args:List AV}{sl dl ow:List Nat}{x:AV}{hp':HP}(h:pq R E s f args sl dl ow x hp') :
  qB R E s f args sl dl ow=some (x,s.bh E.dp (cg E.dp s sl dl ow hp')):=by
 unfold qB
 have h4':(s.fr.all fun y=>!gJ (et E.dp s sl dl ow) y.2)=true:=by
  rw [List.all_eq_true];intro n hn;rw [h.nb n hn];rfl
 have h5':sl.all (fun n=>tO E.dp (cB E.dp s (af s.fr n) false))=true:=by
  rw [List.all_eq_true];intro m hm
  exact sB.2 (h.pt.sl m hm)
 have h7':dl.all (fun n=>!uU E.dp ow (af s.fr n)&&tO E.dp (cB E.dp s (af s.fr n) true))=true:=by
  rw [List.all_eq_true];intro m hm
  rw [(h.pt.dl m hm).1,sB.2 (h.pt.dl m hm).2];rfl
 have h3':vZ s.bx (fun _ cs=>AV.bN E.dp cs)=true:=pN.2 h.deep
 have h6':vZ (s.bh E.dp (cg E.dp s sl dl ow hp')).bx (fun d cs=>ow.contains d||ow.all fun h=>AV.bR ⟨E.dp,h⟩ cs)=true:=pN.2 fun d cs hd=>by
  have:=h.post d cs hd
  simpa using this
 rw [if_pos (by rw [h.ro,h.copy,h3',h4',h5',h7'];rfl),h.run]
 simp only [Option.bind_some]
 rw [if_pos (by rw [h.pure,h6'];rfl)]
theorem fh(dp:Nat)(hp':HP):∀ (bx:List (Nat×List AV))(d:Nat),aq (da dp hp' bx) d=(aq bx d).bind fun _=>hp' ⟨dp,d⟩
 | [],d=>rfl
 | (k,c)::r,d=>by
  simp only [da,aq]
  by_cases h:k=d
  ·subst h
   simp only [if_true,Option.bind_some]
   cases hk:hp' ⟨dp,k⟩ with
   | some cs=>simp [aq]
   | none=>
    simp only
    rw [fh dp hp' r k,hk]
    cases aq r k<;>rfl
  ·rw [if_neg h]
   split
   ·simp only [aq,if_neg h];exact fh dp hp' r d
   ·exact fh dp hp' r d
theorem Se.ev{s s':St}(h:Se s s')(xs:List aA):xs.map s.ev=xs.map s'.ev:=by
 apply List.map_congr_left
 intro x _
 cases x with
 | c z=>rfl
 | t n=>exact h.fr n
theorem Se.uQ{s s':St}(h:Se s s')(dp:Nat)(y:AV)(lv:Bool):cB dp s y lv=cB dp s' y lv:=by
 unfold cB
 simp only [h.box]
theorem Se.hid{s s':St}(h:Se s s')(dp:Nat)(sl dl ow:List Nat):et dp s sl dl ow=et dp s' sl dl ow:=by
 funext k
 unfold et
 simp only [h.fr,h.uQ]
theorem Se.Dx{s s':St}(h:Se s s')(dp:Nat)(sl dl ow:List Nat)(hp':HP):cg dp s sl dl ow hp'=cg dp s' sl dl ow hp':=by
 funext k
 unfold cg
 rw [h.hid,h.box]
theorem Se.JO{s s':St}(h:Se s s')(dp:Nat)(sl dl ow:List Nat):uV dp s sl dl ow=uV dp s' sl dl ow:=by
 funext k
 unfold uV
 rw [h.hid,h.box]
theorem Se.bh{s s':St}(h:Se s s')(dp:Nat)(hp':HP):Se (s.bh dp hp') (s'.bh dp hp'):=
 ⟨h.fr,fun d=>by simp only [St.bh,fh,h.bx],rfl,h.mem⟩
theorem Se.put{s s':St}(h:Se s s')(d:Option Nat)(x:AV):Se (put s d x) (A.put s' d x):=by
 cases d with
 | none=>exact h
 | some d=>exact ⟨fun n=>by simp only [A.put,St.ba,af];split<;>first | rfl | exact h.fr n,h.bx,h.hp,fun y=>by simp only [A.put,St.ba,List.mem_cons,h.mem y]⟩
theorem nP.se{dp:Nat}{s s':St}{sl dl ow:List Nat}(h:nP dp s sl dl ow)(hs:Se s s'):nP dp s' sl dl ow:=
 ⟨fun m hm=>by rw [←hs.fr,←hs.uQ];exact h.sl m hm,fun m hm=>by rw [←hs.fr,←hs.uQ];exact h.dl m hm⟩
theorem pq.se{s s':St}{f:FuncId}{args:List AV}{sl dl ow:List Nat}{x:AV}{hp':HP}(h:pq R E s f args sl dl ow x hp')(hs:Se s s'):pq R E s' f args sl dl ow x hp':=
 ⟨h.ro,h.copy,fun d cs hd=>h.deep d cs (by rw [hs.bx];exact hd),fun y hy=>by rw [←hs.hid];exact h.nb y ((hs.mem y).2 hy),h.pt.se hs,by rw [←hs.JO];exact h.run,h.pure,
  fun d cs hd=>h.post d cs (by rw [(hs.bh _ _).bx,hs.Dx];exact hd)⟩
theorem EX{s s':St}{xs:List aA}(h:∀ n∈FZ xs,af s'.fr n=af s.fr n):xs.map s'.ev=xs.map s.ev:=by
 apply List.map_congr_left
 intro x hx
 cases x with
 | c z=>rfl
 | t n=>exact h n (List.mem_flatMap.2 ⟨_,hx,by simp⟩)
section
variable {p q:aY}{f:FuncId}{args:List aA}{sl dl ow:List Nat}{qq:aL}{s:St}
theorem fw.xc(hq:fw q qq ow)(hb:dN p q f args sl dl ow){n:Nat}(hn:n∈FZ args∨n∈sl∨n∈dl):af (qq.app s).fr n=af s.fr n:=by
 simp only [aL.app,fg]
 rw [if_neg]
 intro hm
 have:=hb.wr n (hq.fr n hm)
 rcases hn with h | h | h
 ·exact this.1 h
 ·exact this.2.1 h
 ·exact this.2.2 h
theorem fw.box(hq:fw q qq ow){dp:Nat}{k:Key}(hk:∀ d,k=⟨dp,d⟩→d∉ow):(qq.app s).box dp k=s.box dp k:=by
 unfold St.box
 split
 ·rename_i hd
  simp only [aL.app,hq.wb,lP]
  rcases hq.nb with e | ⟨d,zs,e,_,h2⟩
  ·rw [e];rfl
  ·rw [e]
   have:d≠k.d:=fun e'=>hk k.d (by rw [←hd]) (e'▸h2)
   simp [aq,this]
 ·simp only [aL.app,hq.hp,Option.getD_none]
theorem fw.uQ(hq:fw q qq ow){dp:Nat}{y:AV}{lv:Bool}(h:lv=true→uU dp ow y=false):cB dp (qq.app s) y lv=cB dp s y lv:=by
 cases lv with
 | false=>cases y<;>rfl
 | true=>
  have h:=h rfl
  cases y<;>first | rfl | skip
  rename_i k off
  simp only [cB,if_true]
  rw [hq.box fun d e hd=>by subst e;simp [uU,hd] at h]
theorem fw.hid(hq:fw q qq ow)(hb:dN p q f args sl dl ow)(dp:Nat):et dp (qq.app s) sl dl ow=et dp s sl dl ow:=by
 funext k
 unfold et
 have h1:(sl.any fun n=>cB dp (qq.app s) (af (qq.app s).fr n) false==some k)=(sl.any fun n=>cB dp s (af s.fr n) false==some k):=by
  rw [Bool.eq_iff_iff,List.any_eq_true,List.any_eq_true]
  constructor
  ·rintro ⟨n,hn,h⟩;exact ⟨n,hn,by rwa [hq.xc hb (.inr (.inl hn)),hq.uQ (fun h=>by cases h)] at h⟩
  ·rintro ⟨n,hn,h⟩;exact ⟨n,hn,by rwa [hq.xc hb (.inr (.inl hn)),hq.uQ (fun h=>by cases h)]⟩
 have h2:(dl.any fun n=>!uU dp ow (af (qq.app s).fr n)&&cB dp (qq.app s) (af (qq.app s).fr n) true==some k)=(dl.any fun n=>!uU dp ow (af s.fr n)&&cB dp s (af s.fr n) true==some k):=by
  rw [Bool.eq_iff_iff,List.any_eq_true,List.any_eq_true]
  simp only [Bool.and_eq_true,Bool.not_eq_true']
  constructor
  ·rintro ⟨n,hn,h0,h⟩
   rw [hq.xc hb (.inr (.inr hn))] at h0 h
   exact ⟨n,hn,h0,by rwa [hq.uQ (fun _=>h0)] at h⟩
  ·rintro ⟨n,hn,h0,h⟩
   rw [←hq.xc (s:=s) hb (.inr (.inr hn))] at h0 h
   exact ⟨n,hn,h0,by rwa [hq.uQ (fun _=>h0)]⟩
 rw [h1,h2]
theorem wz{dp:Nat}{d:Nat}(h:d∈ow):et dp s sl dl ow ⟨dp,d⟩=true:=by
 simp [et,h]
theorem fw.JO(hq:fw q qq ow)(hb:dN p q f args sl dl ow)(dp:Nat):uV dp (qq.app s) sl dl ow=uV dp s sl dl ow:=by
 funext k
 unfold uV
 rw [hq.hid hb]
 split
 ·rfl
 ·rename_i hn
  exact hq.box fun d e hd=>hn (by rw [e];exact wz hd)
theorem fw.Dx(hq:fw q qq ow)(hb:dN p q f args sl dl ow){dp:Nat}{hp':HP}{k:Key}(hk:∀ d,k=⟨dp,d⟩→d∉ow):cg dp (qq.app s) sl dl ow hp' k=cg dp s sl dl ow hp' k:=by
 unfold cg
 rw [hq.hid hb,hq.box hk]
theorem Iu{dp:Nat}{hp':HP}{d:Nat}(h:d∈ow):cg dp s sl dl ow hp' ⟨dp,d⟩=aq s.bx d:=by
 unfold cg
 rw [if_pos (wz h)]
 simp [St.box]
theorem tK(hq:fw q qq ow):(qq.app s).bx=qq.nb++s.bx:=by simp only [aL.app,hq.wb,lP]
theorem fw.SE(hq:fw q qq ow){d:Nat}(h:d∉ow):aq (qq.app s).bx d=aq s.bx d:=by
 rw [tK hq]
 rcases hq.nb with e | ⟨d',zs,e,_,h2⟩
 ·rw [e];rfl
 ·rw [e]
  have:d'≠d:=fun e'=>h (e'▸h2)
  simp [aq,this]
theorem fw.UA(hq:fw q qq ow){d:Nat}{cs:List AV}(h:aq (qq.app s).bx d=some cs):aq s.bx d=some cs∨AV.aO cs=true:=by
 rw [tK hq] at h
 rcases hq.nb with e | ⟨d',zs,e,hz,_⟩
 ·rw [e] at h;exact .inl h
 ·rw [e] at h
  simp only [List.cons_append,List.nil_append,aq] at h
  split at h
  ·obtain rfl:=Option.some.inj h;exact .inr hz
  ·exact .inl h
theorem nP.app(h:nP E.dp s sl dl ow)(hq:fw q qq ow)(hb:dN p q f args sl dl ow):nP E.dp (qq.app s) sl dl ow:=
 ⟨fun m hm=>by rw [hq.xc hb (.inr (.inl hm)),hq.uQ (fun h=>by cases h)];exact h.sl m hm,
  fun m hm=>by
   have h1:=h.dl m hm
   rw [hq.xc hb (.inr (.inr hm)),hq.uQ (fun _=>h1.1)];exact h1⟩
theorem nP.QV(h:nP E.dp (qq.app s) sl dl ow)(hq:fw q qq ow)(hb:dN p q f args sl dl ow):nP E.dp s sl dl ow:=
 ⟨fun m hm=>by
   have h1:=h.sl m hm
   rwa [hq.xc hb (.inr (.inl hm)),hq.uQ (fun h=>by cases h)] at h1,
  fun m hm=>by
   have h1:=h.dl m hm
   rw [hq.xc hb (.inr (.inr hm))] at h1
   rwa [hq.uQ (fun _=>h1.1)] at h1⟩
theorem fw.call(hq:fw q qq ow)(hb:dN p q f args sl dl ow)(hpl:∀ y∈qq.fr,gJ (et E.dp s sl dl ow) y.2=false){vals:List AV}{x:AV}{hp':HP}(h:pq R E s f vals sl dl ow x hp'):pq R E (qq.app s) f vals sl dl ow x hp':=by
 refine ⟨h.ro,h.copy,fun d cs hd=>?_,fun y hy=>?_,h.pt.app hq hb,by rw [hq.JO hb];exact h.run,h.pure,fun d cs hd=>?_⟩
 ·rcases hq.UA hd with h1 | h1
  ·exact h.deep d cs h1
  ·exact mV _ h1
 ·rw [hq.hid hb]
  rcases List.mem_append.1 (show y∈qq.fr++s.fr from hy) with h1 | h1
  ·exact hpl y h1
  ·exact h.nb y h1
 ·by_cases ho:d∈ow
  ·exact .inl ho
  ·refine h.post d cs ?_
   simp only [St.bh,fh,hq.SE ho] at hd ⊢
   rwa [hq.Dx hb fun d' e=>by injection e with _ e;subst e;exact ho] at hd
theorem fw.No(hq:fw q qq ow)(hb:dN p q f args sl dl ow){vals:List AV}{x:AV}{hp':HP}(hno:∀ d∈b9 qq.nb,aq s.bx d=none)(h:pq R E (qq.app s) f vals sl dl ow x hp'):pq R E s f vals sl dl ow x hp':=by
 refine ⟨h.ro,h.copy,fun d cs hd=>?_,fun y hy=>?_,h.pt.QV hq hb,by rw [←hq.JO hb];exact h.run,h.pure,fun d cs hd=>?_⟩
 ·refine h.deep d cs ?_
  rw [tK hq,j6,if_neg fun hm=>?_]
  ·exact hd
  ·rw [hno d hm] at hd;cases hd
 ·rw [←hq.hid hb]
  exact h.nb y (show y∈qq.fr++s.fr from List.mem_append_right _ hy)
 ·by_cases ho:d∈ow
  ·exact .inl ho
  ·refine h.post d cs ?_
   simp only [St.bh,fh,hq.SE ho] at hd ⊢
   rwa [hq.Dx hb fun d' e=>by injection e with _ e;subst e;exact ho]
theorem fw.comm(hq:fw q qq ow)(hb:dN p q f args sl dl ow){x:AV}{hp':HP} : Se (qq.app (put (s.bh E.dp (cg E.dp s sl dl ow hp')) p.p.d x)) (put ((qq.app s).bh E.dp (cg E.dp (qq.app s) sl dl ow hp')) p.p.d x):=by
 have hbx:∀ d,aq (qq.nb++lP (s.bh E.dp (cg E.dp s sl dl ow hp')).bx qq.wb) d=aq ((qq.app s).bh E.dp (cg E.dp (qq.app s) sl dl ow hp')).bx d:=by
  intro d
  simp only [St.bh,tK hq,hq.wb,lP,j6,fh]
  by_cases hd:d∈b9 qq.nb
  ·rw [if_pos hd,if_pos hd]
   rcases hq.nb with e | ⟨d',zs,e,_,ho⟩
   ·rw [e] at hd;simp [b9] at hd
   ·rw [e] at hd ⊢
    simp only [b9,List.map_cons,List.map_nil,List.mem_singleton] at hd
    subst hd
    rw [Iu (s:=qq.app s) ho,tK hq,e]
    simp [aq]
  ·rw [if_neg hd,if_neg hd]
   by_cases ho:d∈ow
   ·rw [Iu (s:=qq.app s) ho,Iu (s:=s) ho,tK hq,j6,if_neg hd]
   ·rw [hq.Dx hb fun d' e=>by injection e with _ e;subst e;exact ho]
 have hhp:(s.bh E.dp (cg E.dp s sl dl ow hp')).hp=((qq.app s).bh E.dp (cg E.dp (qq.app s) sl dl ow hp')).hp:=by
  simp only [St.bh]
  funext k
  split
  ·rename_i hlt
   rw [hq.Dx hb fun d e=>by subst e;exact absurd hlt (Nat.lt_irrefl _)]
  ·rfl
 cases hd:p.p.d with
 | none=>
  refine ⟨fun n=>rfl,hbx,?_,fun y=>Iff.rfl⟩
  show qq.hp.getD _=_
  rw [hq.hp];exact hhp
 | some dd=>
  have hdd:dd∉b9 qq.fr:=fun hm=>(hb.ds dd hd).1 (hq.fr dd hm)
  refine ⟨fun n=>?_,hbx,?_,fun y=>?_⟩
  ·show af (qq.fr++(dd,x)::s.fr) n=af ((dd,x)::(qq.fr++s.fr)) n
   simp only [fg,af]
   by_cases hn:dd=n
   ·subst hn;simp [hdd]
   ·simp only [if_neg hn]
  ·show qq.hp.getD _=_
   rw [hq.hp];exact hhp
  ·show y∈qq.fr++(dd,x)::s.fr↔y∈(dd,x)::(qq.fr++s.fr)
   simp only [List.mem_append,List.mem_cons]
   constructor
   ·rintro (h | h | h)
    ·exact .inr (.inl h)
    ·exact .inl h
    ·exact .inr (.inr h)
   ·rintro (h | h | h)
    ·exact .inr (.inl h)
    ·exact .inl h
    ·exact .inr (.inr h)
theorem dN.Du(hb:dN p q f args sl dl ow){x:AV}{hp':HP}(hnb:∀ y∈s.fr,gJ (et E.dp s sl dl ow) y.2=false)(hpt:nP E.dp s sl dl ow) :
  bS R Ω E q (put (s.bh E.dp (cg E.dp s sl dl ow hp')) p.p.d x)=bS R Ω E q s:=by
 have hkf:fW (put (s.bh E.dp (cg E.dp s sl dl ow hp')) p.p.d x).fr q.vw=fW s.fr q.vw:=by
  apply xb
  intro n hn
  cases hd:p.p.d with
  | none=>rfl
  | some dd=>
   have:dd≠n:=fun e=>(hb.ds dd hd).2 (e▸hn)
   simp only [put,St.ba,af,if_neg this]
   rfl
 have hbx2:(put (s.bh E.dp (cg E.dp s sl dl ow hp')) p.p.d x).bx=(s.bh E.dp (cg E.dp s sl dl ow hp')).bx:=by cases p.p.d<;>rfl
 have hp2:(put (s.bh E.dp (cg E.dp s sl dl ow hp')) p.p.d x).hp=(s.bh E.dp (cg E.dp s sl dl ow hp')).hp:=by cases p.p.d<;>rfl
 have hbo:∀ d,et E.dp s sl dl ow ⟨E.dp,d⟩=true→aq (put (s.bh E.dp (cg E.dp s sl dl ow hp')) p.p.d x).bx d=aq s.bx d:=by
  intro d hd
  rw [hbx2]
  simp only [St.bh,fh]
  have:cg E.dp s sl dl ow hp' ⟨E.dp,d⟩=aq s.bx d:=by
   unfold cg
   rw [if_pos hd]
   simp [St.box]
  rw [this]
  cases aq s.bx d<;>rfl
 have hvfr:(view q (put (s.bh E.dp (cg E.dp s sl dl ow hp')) p.p.d x)).fr=(view q s).fr:=hkf
 have hvb:∀ k,et E.dp s sl dl ow k=true→(view q (put (s.bh E.dp (cg E.dp s sl dl ow hp')) p.p.d x)).box E.dp k=(view q s).box E.dp k:=by
  intro k hk
  obtain ⟨kd,ke⟩:=k
  by_cases hkd:kd=E.dp
  ·subst hkd
   show (if E.dp=E.dp then aq (bA _ q.vb) ke else _)=(if E.dp=E.dp then aq (bA _ q.vb) ke else _)
   rw [if_pos rfl,if_pos rfl]
   have:∀ ks,aq (bA (put (s.bh E.dp (cg E.dp s sl dl ow hp')) p.p.d x).bx ks) ke=aq (bA s.bx ks) ke:=by
    intro ks
    by_cases hm:ke∈ks
    ·rw [sa _ _ _ hm,sa _ _ _ hm,hbo ke hk]
    ·have h1:∀ bx:List (Nat×List AV),aq (bA bx ks) ke=none:=fun bx=>lL fun h=>hm (sA bx ks h)
     rw [h1,h1]
   exact this q.vb
  ·have hlt:kd<E.dp:=by have:(⟨kd,ke⟩:Key).dp≤E.dp:=hpt.dp hk;simp only at this;omega
   show (if kd=E.dp then _ else (view q (put (s.bh E.dp (cg E.dp s sl dl ow hp')) p.p.d x)).hp ⟨kd,ke⟩)=(if kd=E.dp then _ else (view q s).hp ⟨kd,ke⟩)
   rw [if_neg hkd,if_neg hkd]
   simp only [view]
   split
   ·rw [hp2]
    simp only [St.bh]
    rw [if_pos hlt]
    unfold cg
    rw [if_pos hk]
    simp [St.box,hkd]
   ·rfl
 have hkey:(AJ ow q=true∨(mU q.p.o=false∧q.vb=[]∧q.vh=false))∨∃ g:Option AV,(execOp R Ω E (view q s) q.p.d q.p.o=g.map fun y=>(y,view q s))∧(execOp R Ω E (view q (put (s.bh E.dp (cg E.dp s sl dl ow hp')) p.p.d x)) q.p.d q.p.o=g.map fun y=>(y,view q (put (s.bh E.dp (cg E.dp s sl dl ow hp')) p.p.d x)))∧mU q.p.o=false∧(∀ v,fA v q.p.o=true)∧∀ v,dR E.dp q v=true:=by
  rcases hb.kd with h | h | h | h
  ·exact .inl (.inl h)
  ·right
   obtain ⟨n,m,b,lv,ho,hsl,hdl⟩:=F1 h
   have e1:∀ n,(view q (put (s.bh E.dp (cg E.dp s sl dl ow hp')) p.p.d x)).ev (.t n)=(view q s).ev (.t n):=fun n=>by show af _ n=af _ n;rw [hvfr]
   have e2:cB E.dp (view q (put (s.bh E.dp (cg E.dp s sl dl ow hp')) p.p.d x)) ((view q s).ev (.t b)) lv=cB E.dp (view q s) ((view q s).ev (.t b)) lv:=by
    cases lv with
    | false=>unfold cB;cases (view q s).ev (.t b)<;>rfl
    | true=>
     cases hy:(view q s).ev (.t b)<;>first | rfl | skip
     rename_i k' off'
     have hk':et E.dp s sl dl ow k'=true:=Dw (q:=q) (lv:=false) hpt hsl (fun h=>by cases h) (by
      show cB E.dp (view q s) ((view q s).ev (.t b)) false=some k'
      rw [hy];rfl)
     simp only [cB,if_true,hvb k' hk']
   have e3:mU q.p.o=false∧(∀ v,fA v q.p.o=true)∧∀ v,dR E.dp q v=true:=⟨by rw [ho];rfl,fun v=>by rw [ho];rfl,fun v=>by unfold dR;rw [ho]⟩
   by_cases hA:∃ k off,(view q s).ev (.t m)= .p k off∧cB E.dp (view q s) ((view q s).ev (.t b)) lv=some k
   ·obtain ⟨k,off,hA,hev⟩:=hA
    have hk:=Dw (q:=q) hpt hsl hdl hev
    refine ⟨((view q s).box E.dp k).bind fun cs=>(pick n off cs).bind fun y=>match y with
     | .o _ _=>some (.r (.c k off))
     | y=>if y.copy then some y else none,?_,?_,e3⟩
    ·rw [ho]
     simp only [execOp,hA,if_pos hev]
     cases (view q s).box E.dp k with
     | none=>rfl
     | some cs=>
      simp only [Option.bind_some]
      cases pick n off cs with
      | none=>rfl
      | some y=>
       simp only [Option.bind_some]
       cases y<;>simp only []<;>first | rfl | (split<;>rfl)
    ·rw [ho]
     simp only [execOp,e1,hA,e2,if_pos hev,hvb k hk]
     cases (view q s).box E.dp k with
     | none=>rfl
     | some cs=>
      simp only [Option.bind_some]
      cases pick n off cs with
      | none=>rfl
      | some y=>
       simp only [Option.bind_some]
       cases y<;>simp only []<;>first | rfl | (split<;>rfl)
   ·refine ⟨none,?_,?_,e3⟩
    ·rw [ho]
     simp only [execOp]
     split
     ·rename_i k off hx
      rw [if_neg fun hev=>hA ⟨k,off,hx,hev⟩];rfl
     ·rfl
    ·rw [ho]
     simp only [execOp,e1,e2]
     split
     ·rename_i k off hx
      rw [if_neg fun hev=>hA ⟨k,off,hx,hev⟩];rfl
     ·rfl
  ·right
   obtain ⟨m,ho⟩:=JN h
   have e1:(view q (put (s.bh E.dp (cg E.dp s sl dl ow hp')) p.p.d x)).ev (.t m)=(view q s).ev (.t m):=by show af _ m=af _ m;rw [hvfr]
   have hrow:∀ pl,gJ (et E.dp s sl dl ow) (.r pl)=false→(view q (put (s.bh E.dp (cg E.dp s sl dl ow hp')) p.p.d x)).rowAt E.dp pl=(view q s).rowAt E.dp pl:=by
    intro pl hpl
    cases pl with
    | s d'=>simp only [St.rowAt,hvfr]
    | c k off=>
     have hk:et E.dp s sl dl ow k=true:=by simpa [gJ] using hpl
     simp only [St.rowAt,hvb k hk]
   have hbv:gJ (et E.dp s sl dl ow) ((view q s).ev (.t m))=false:=by
    show gJ _ (af (view q s).fr m)=false
    rcases EW q s m with e | e
    ·rw [e];rfl
    ·rw [e]
     by_cases hu:af s.fr m= .u
     ·rw [hu];rfl
     ·obtain ⟨y,hy,e'⟩:=Is hu
      rw [←e'];exact hnb y hy
   have hel:(view q (put (s.bh E.dp (cg E.dp s sl dl ow hp')) p.p.d x)).elems E.dp ((view q s).ev (.t m))=(view q s).elems E.dp ((view q s).ev (.t m)):=by
    cases hy:(view q s).ev (.t m) with
    | r pl=>rw [hy] at hbv;exact hrow pl hbv
    | v pl lo len=>
     rw [hy] at hbv
     have:gJ (et E.dp s sl dl ow) (.r pl)=false:=by cases pl<;>exact hbv
     simp only [St.elems,hrow pl this]
    | _=>rfl
   refine ⟨(match (view q s).ev (.t m) with
    | .s _=>none
    | .sp _ _ n _=>some (.i .i64 n)
    | y=>((view q s).elems E.dp y).bind fun r=>some (.i .i64 r.2.length)),?_,?_,by rw [ho];rfl,fun v=>by rw [ho];rfl,fun v=>by unfold dR;rw [ho]⟩
   ·rw [ho]
    simp only [execOp]
    cases (view q s).ev (.t m)<;>simp only []<;>first | rfl | (simp only [Bool.false_eq_true,if_false];cases (view q s).elems E.dp _<;>rfl)
   ·rw [ho]
    simp only [execOp,e1]
    cases hy:(view q s).ev (.t m)<;>rw [hy] at hel<;>simp only []<;>first | rfl | (simp only [Bool.false_eq_true,if_false,hel];cases (view q s).elems E.dp _<;>rfl)
  ·exact .inl (.inr h)
 rcases hkey with h | ⟨g,h1,h2,h3,h4,h5⟩
 ·refine Dt.patch ⟨fun d hd=>?_,fun d hd=>?_,fun hv=>?_⟩
  ·have hd':d∈q.vw:=by
    have h2:=hd
    unfold JM Nl at h2
    rw [hb.qg] at h2
    simpa using h2
   have:=congrArg (fun l=>af l d) hkf
   simpa only [AU _ _ _ hd'] using this
  ·rcases h with h | h
   ·obtain ⟨zs,dd,_,_,_,hdo,hvb',_⟩:=zu h
    rw [hvb'] at hd
    obtain rfl:d=dd:=by simpa using hd
    exact hbo d (wz hdo)
   ·rw [h.2.1] at hd;cases hd
  ·rcases h with h | h
   ·obtain ⟨_,_,_,_,_,_,_,hvh⟩:=zu h
    rw [hvh] at hv;cases hv
   ·rw [h.2.2] at hv;cases hv
 ·unfold bS fX
  rw [hb.qg]
  simp only [h1,h2,h4,h5]
  cases g with
  | none=>rfl
  | some y=>simp only [Option.map_some,Option.bind_some,vR hb.nw h3]
end
def F3(gs:List aY)(i j:Nat):Prop:=∃ p q,gs[i]? =some p∧gs[j]? =some q∧((p.lt=true∧q.lt=true∧sw p q=true)∨qH p q=true∨qH q p=true)
theorem ku.swap{i j:Nat}{π:List Nat}{s t:St}(hf:F3 gs i j)(h:ku R Ω E gs (i::j::π) s t):ku R Ω E gs (j::i::π) s t:=by
 obtain ⟨p,q,hp,hq,hcase⟩:=hf
 obtain ⟨p',s1,s2,h1,h2,h3,q',s3,s4,h4,h5,h6,h7⟩:=h
 obtain rfl:p=p':=by rw [hp] at h1;exact Option.some.inj h1
 obtain rfl:q=q':=by rw [hq] at h4;exact Option.some.inj h4
 rcases hcase with ⟨hpl,hql,hc⟩ | hc | hc
 rotate_left
 ·
  obtain ⟨f,args,sl,vs,ow,hb⟩:=Bl hc
  simp only [bT,hb.pl,Bool.false_eq_true,if_false,eL,hb.pg,hb.o,execOp] at h3
  obtain ⟨⟨x,s2'⟩,hcall,he⟩:=Option.bind_eq_some_iff.1 h3
  obtain rfl:=Option.some.inj he
  simp only [bT,if_pos hb.ql] at h6
  obtain ⟨qq,hqq,he'⟩:=Option.bind_eq_some_iff.1 h6
  obtain rfl:=Option.some.inj he'
  have hP:=hb.patch hqq
  obtain ⟨hp',hC,e2⟩:=vS hcall
  simp only at e2 hC
  subst e2
  have hqq1:bS R Ω E q s1=some qq:=by
   rw [←hb.Du (x:=dk p.p.fz x) (hp':=hp') hC.nb hC.pt,(Se.Du h5).patch];exact hqq
  have hev:=EX (s:=s1) (s':=qq.app s1) (xs:=args) fun n hn=>hP.xc hb (.inl hn)
  have hcall':=(hP.call hb (hb.plain hC.pt hqq1) hC).mk'
  rw [←hev] at hcall'
  refine ⟨q,s1,qq.app s1,hq,h2,by simp only [bT,if_pos hb.ql,hqq1,Option.bind_some],p,qq.app s1,_,hp,Se.refl _,by simp only [bT,hb.pl,Bool.false_eq_true,if_false,eL,hb.pg,hb.o,execOp,hcall',Option.bind_some];rfl,?_⟩
  exact h7.se (Se.trans (hP.comm hb).symm (h5.app qq))
 ·
  obtain ⟨f,args,sl,vs,ow,hb⟩:=Bl hc
  simp only [bT,if_pos hb.ql] at h3
  obtain ⟨qq,hqq,he'⟩:=Option.bind_eq_some_iff.1 h3
  obtain rfl:=Option.some.inj he'
  simp only [bT,hb.pl,Bool.false_eq_true,if_false,eL,hb.pg,hb.o,execOp] at h6
  obtain ⟨⟨x,s4'⟩,hcall,he⟩:=Option.bind_eq_some_iff.1 h6
  obtain rfl:=Option.some.inj he
  have hP:=hb.patch hqq
  obtain ⟨hp',hC,e2⟩:=vS hcall
  simp only at e2 hC
  subst e2
  have hev:=EX (s:=s1) (s':=qq.app s1) (xs:=args) fun n hn=>hP.xc hb (.inl hn)
  have hC1:=hC.se h5.symm
  rw [←h5.ev,hev] at hC1
  have hC2:=hP.No hb (hb.QU hqq) hC1
  have hcall':=hC2.mk'
  have hqq1:bS R Ω E p (put (s1.bh E.dp (cg E.dp s1 sl vs ow hp')) q.p.d (dk q.p.fz x))=some qq:=by
   rw [hb.Du hC2.nb hC2.pt];exact hqq
  refine ⟨q,s1,_,hq,h2,by simp only [bT,hb.pl,Bool.false_eq_true,if_false,eL,hb.pg,hb.o,execOp,hcall',Option.bind_some];rfl,p,_,_,hp,Se.refl _,by simp only [bT,if_pos hb.ql,hqq1,Option.bind_some];rfl,?_⟩
  refine h7.se (Se.trans (hP.comm hb) ?_)
  refine Se.put ?_ _ _
  rw [←h5.Dx]
  exact h5.bh _ _
 simp only [bT,if_pos hpl] at h3
 simp only [bT,if_pos hql] at h6
 obtain ⟨pp,hpp,he⟩:=Option.bind_eq_some_iff.1 h3
 obtain rfl:=Option.some.inj he
 obtain ⟨qq,hqq,he'⟩:=Option.bind_eq_some_iff.1 h6
 obtain rfl:=Option.some.inj he'
 have hc':sw q p=true:=by
  simp only [sw,Bool.and_eq_true,Bool.not_eq_true'] at hc ⊢
  obtain ⟨⟨⟨⟨⟨⟨c1,c2⟩,c3⟩,c4⟩,c5⟩,c6⟩,c7⟩:=hc
  have hsym:∀ l m,p8 l m=true→p8 m l=true:=fun l m h=>by
   unfold p8
   rw [List.all_eq_true]
   intro x hx
   have:x∉l:=fun hl=>ij h hl hx
   simpa using this
  refine ⟨⟨⟨⟨⟨⟨c2,c1⟩,hsym _ _ c3⟩,c5⟩,c4⟩,hsym _ _ c6⟩,?_⟩
  revert c7
  cases ep p<;>cases ep q<;>cases p.vh<;>cases q.vh<;>simp
 have sp:=po hpp
 have sq:=po hqq
 have e1:bS R Ω E q s1=some qq:=by
  rw [←hqq]
  exact ((Dv sp hc).patch.symm.trans (Se.Du h5).patch)
 have e2:bS R Ω E p (qq.app s1)=some pp:=by
  rw [←hpp]
  exact (Dv sq hc').patch
 refine ⟨q,s1,qq.app s1,hq,h2,by simp only [bT,if_pos hql,e1,Option.bind_some],p,qq.app s1,pp.app (qq.app s1),hp,Se.refl _,by simp only [bT,if_pos hpl,e2,Option.bind_some],?_⟩
 exact h7.se ((Iq (Ir sp sq hc) s1).trans (h5.app qq))
theorem ku.front{i:Nat}{B:List Nat}{t:St} : ∀ (A:List Nat)(s:St),(∀ a∈A,F3 gs a i)→ku R Ω E gs (A++i::B) s t→ku R Ω E gs (i::(A++B)) s t
 | [],_,_,h=>h
 | a::A,s,hf,h=>by
  obtain ⟨p,s1,s2,h1,h2,h3,h4⟩:=h
  exact ku.swap (hf a (by simp)) ⟨p,s1,s2,h1,h2,h3,ku.front A s2 (fun b hb=>hf b (by simp [hb])) h4⟩
end
variable [aP]
def Dy:kv→Bool
 | .al _=>true
 | .ck _ _=>true
 | .bs _ _ _=>true
 | .ms _ _ _ _ _=>true
 | .ap _ _ _ _ _=>true
 | _=>false
def cX(p:aY):Bool:=
 match p.p.o with
 | .bx _=>false
 | .c2 _ _=>false
 | .d2 _ _=>false
 | .cn _ _=>false
 | .cr _ _ _=>false
 | .ch _ _ _ _ _=>false
 | .bg _ _=>false
 | .bxg _=>false
 | .st _ _ y=>p.p.d==none&&(p.cs==[]||match y with
  | .t m=>p.cs==[m]
  | .c _=>false)
 | .ap _ _ _ x _=>match x with
  | .t m=>p.cs==[m]||p.cs==[m,m]
  | .c _=>p.cs==[]
 | _=>p.cs==[]
structure gn(dp:Nat)(s:St)(h:Nat):Prop where
 fr:∀ d,(af s.fr d).aW ⟨dp,h⟩=true∧(af s.fr d).dj (.s h)=false
 cs:∀ d cs,aq s.bx d=some cs→∀ c∈cs,c.aW ⟨dp,h⟩=true
theorem gn.of{dp:Nat}{s:St}{h:Nat}(hf:ob dp s h=true):gn dp s h:=by
 simp only [ob,Bool.and_eq_true] at hf
 refine ⟨fun d=>?_,fun d cs hb c hc=>er (fM _ hf.2 d cs hb) c hc⟩
 have:=e5 (p:=fun y=>y.aW ⟨dp,h⟩&&!y.dj (.s h)) rfl _ hf.1.2 d
 simpa using this
theorem gn.se{dp:Nat}{s s':St}{h:Nat}(hf:gn dp s h)(hs:Se s s'):gn dp s' h:=
 ⟨fun d=>by rw [←hs.fr];exact hf.fr d,fun d cs hb=>hf.cs d cs (by rw [hs.bx];exact hb)⟩
def my(dp:Nat)(s:St)(h:Nat):Prop:=∀ d,jC ⟨dp,h⟩ (af s.fr d)=false
theorem my.se{dp:Nat}{s s':St}{h:Nat}(hf:my dp s h)(hs:Se s s'):my dp s' h:=fun d=>by rw [←hs.fr];exact hf d
theorem Iv{k:Key}{off:Nat}{x:AV}(h:x.dj (.c k off)=true):jC k x=true:=by
 cases x with
 | r pl=>
   have:pl= .c k off:=by simpa [AV.dj] using h
   subst this;simp [jC]
 | v pl lo len=>
   have:pl= .c k off:=by simpa [AV.dj] using h
   subst this;simp [jC]
 | q pl i sz off'=>
   have:pl= .c k off:=by simpa [AV.dj] using h
   subst this;simp [jC]
 | _=>cases h
section
variable {C:Cx}{s:St}{a:Act}{w:World}{σ:Sp}{o:Oper}{R:Rec}{Ω:bL}
theorem AK(p:aY)(s:St)(dp:Nat):Le dp (view p s) s:=by
 refine ⟨ux s.fr p.vw,fun k cs hk=>?_⟩
 by_cases hd:k.dp=dp
 ·simp only [St.box,view,hd,if_true] at hk ⊢
  exact bD hk
 ·simp only [St.box,view,if_neg hd] at hk ⊢
  split at hk
  ·exact hk
  ·cases hk
theorem zw{p:aY}{r:AV×St}(h1:mU p.p.o=false)(h2:ep p=false):effect p r=⟨fj p.p.d (dk p.p.fz r.1)++p.cs.map (fun m=>(m,.u)),[],[],none⟩:=by
 unfold effect
 split
 ·rename_i ho;rw [ho] at h1;cases h1
 ·rename_i ho;rw [ho] at h1;cases h1
 ·rename_i ho;simp [ep,ho,mT] at h2
 ·rename_i ho
  have:(p.cs.length==2)=false:=by simpa [ep,gI,ho,mT] using h2
  simp [this]
 ·rfl
theorem Hd(d:Option Nat)(x:AV)(s:St)(d':Nat):af (fj d x++s.fr) d'=af (A.put s d x).fr d':=by cases d<;>rfl
theorem jz(cs:List Nat)(fr:List (Nat×AV))(d:Nat):af (cs.map (fun m=>(m,AV.u))++fr) d=if d∈cs then .u else af fr d:=by
 induction cs with
 | nil=>simp
 | cons c cs ih=>
  simp only [List.map_cons,List.cons_append,af,List.mem_cons,ih]
  by_cases h:c=d
  ·subst h;simp
  ·have h':¬d=c:=fun e=>h e.symm
   simp [h,h']
theorem finish{p:aY}{q:aL}{x:AV}{s':St}{K:Act→World→Prop}{Q:Exit→Act→World→Prop}(hdst:o.dst=p.p.d)(hd:∀ dd,p.p.d=some dd→dd<C.nt)(hsim:bW C o p.p.d a w σ s' x)
  (hfr:∀ d',af (q.app s).fr d'= .u∨af (q.app s).fr d'=af (A.put s' p.p.d (dk p.p.fz x)).fr d') (hbx:∀ k cs,(q.app s).box C.E.dp k=some cs→s'.box C.E.dp k=some cs)
  (hhp:∀ k cs,k.dp≠C.E.dp→(q.app s).hp k=some cs→s'.hp k=some cs) (hK:∀ a' w' σ',bn C w σ w' σ'→ab C (q.app s) a' w' σ'→K a' w'):o.wp C.P a w K Q:=by
 refine hsim _ _ fun cv w' σ' hop=>?_
 obtain ⟨σ'',hs,hc⟩:=hop.Nk hd p.p.fz
 rw [hdst]
 refine hK _ _ _ hs (hc.uw hfr (fun k cs hk=>?_) (fun k cs hk hc=>?_))
 ·have:=hbx k cs hk
  cases p.p.d<;>exact this
 ·have:=hhp k cs hk hc
  cases p.p.d<;>exact this
theorem ya{dp:Nat}{p:aY}{s:St}{k:Key}{cs nw:List AV}(fr:List (Nat×AV))(hb:(view p s).box dp k=some cs) :
  (∀ k' cs',((⟨fr,[],bA ((view p s).au dp k nw).bx p.vb,if p.vh=true then some ((view p s).au dp k nw).hp else none⟩:aL).app s).box dp k'=some cs'→(s.au dp k nw).box dp k'=some cs')∧
  (∀ k' cs',k'.dp≠dp→((⟨fr,[],bA ((view p s).au dp k nw).bx p.vb,if p.vh=true then some ((view p s).au dp k nw).hp else none⟩:aL).app s).hp k'=some cs'→(s.au dp k nw).hp k'=some cs'):=by
 have hb':=(AK p s dp).bx k cs hb
 refine ⟨fun k' cs' hk'=>?_,fun k' cs' hkd hk'=>?_⟩
 ·rw [eE hb']
  by_cases hkd':k'.dp=dp
  ·simp only [St.box,hkd',if_true,aL.app,List.nil_append,mx] at hk'
   by_cases hkd:k.dp=dp
   ·simp only [St.au,hkd,if_true] at hk'
    by_cases hkk:k'=k
    ·subst hkk
     rw [if_pos rfl]
     have hvb:aq (view p s).bx k'.d=some cs:=by simpa [St.box,hkd] using hb
     have hin:k'.d∈p.vb:=by
      have:∀ ks,aq (bA s.bx ks) k'.d=some cs→k'.d∈ks:=by
       intro ks hks
       refine sA s.bx ks ?_
       apply Classical.byContradiction
       intro hno
       rw [lL hno] at hks;cases hks
      exact this p.vb hvb
     have hkeep:∀ (bx:List (Nat×List AV))(ks:List Nat)(d:Nat),d∈ks→aq (bA bx ks) d=aq bx d:=by
      intro bx ks d
      induction ks with
      | nil=>intro h;cases h
      | cons c ks ih=>
       intro hm
       simp only [bA]
       cases hc2:aq bx c with
       | none=>
        simp only
        rcases List.mem_cons.1 hm with rfl | hm
        ·cases hq2:aq (bA bx ks) d with
         | none=>exact hc2.symm
         | some z=>have:=bD hq2;rw [hc2] at this;cases this
        ·exact ih hm
       | some z=>
        simp only [aq]
        by_cases hcd:c=d
        ·subst hcd;rw [if_pos rfl,hc2]
        ·rw [if_neg hcd]
         rcases List.mem_cons.1 hm with rfl | hm
         ·exact absurd rfl hcd
         ·exact ih hm
     rw [hkeep _ _ _ hin,pL,if_pos rfl,hvb] at hk'
     have hsb:aq s.bx k'.d=some cs:=by simpa [St.box,hkd] using hb'
     rw [hsb] at hk'
     exact hk'
    ·rw [if_neg hkk]
     have hne:k'.d≠k.d:=fun e=>hkk (by cases k;cases k';simp at hkd hkd' e;rw [hkd,hkd',e])
     simp only [St.box,hkd',if_true]
     cases hq:aq (bA (fV (view p s).bx k.d nw) p.vb) k'.d with
     | none=>rw [hq] at hk';exact hk'
     | some z=>
      rw [hq] at hk'
      have h1:=bD hq
      rw [pL,if_neg hne] at h1
      have h2:aq s.bx k'.d=some z:=bD h1
      rw [h2] at hk' ⊢
      exact hk'
   ·simp only [St.au,if_neg hkd] at hk'
    have hkk:k'≠k:=fun e=>hkd (e▸hkd')
    rw [if_neg hkk]
    simp only [St.box,hkd',if_true]
    cases hq:aq (bA (view p s).bx p.vb) k'.d with
    | none=>rw [hq] at hk';exact hk'
    | some z=>
     rw [hq] at hk'
     have h1:=bD hq
     have h2:aq s.bx k'.d=some z:=bD h1
     rw [h2] at hk' ⊢
     exact hk'
  ·simp only [St.box,if_neg hkd',aL.app] at hk' ⊢
   by_cases hkd:k.dp=dp
   ·have hkk:k'≠k:=fun e=>hkd' (e▸hkd)
    rw [if_neg hkk]
    simp only [St.au,hkd,if_true] at hk'
    by_cases hv:p.vh=true
    ·simp only [hv,if_true,Option.getD_some,view] at hk';exact hk'
    ·simp only [if_neg hv,Option.getD_none] at hk';exact hk'
   ·by_cases hv:p.vh=true
    ·simp only [St.au,if_neg hkd,hv,if_true,Option.getD_some,view,aj] at hk'
     exact hk'
    ·exfalso
     simp only [St.box,if_neg hkd,view,if_neg hv] at hb
     cases hb
 ·by_cases hkd2:k.dp=dp
  ·simp only [St.au,hkd2,if_true] at hk' ⊢
   by_cases hv:p.vh=true
   ·simp only [aL.app,hv,if_true,Option.getD_some,view] at hk';exact hk'
   ·simp only [aL.app,if_neg hv,Option.getD_none] at hk';exact hk'
  ·simp only [St.au,if_neg hkd2] at hk' ⊢
   by_cases hv:p.vh=true
   ·simp only [aL.app,hv,if_true,Option.getD_some,view] at hk';exact hk'
   ·exfalso
    simp only [St.box,if_neg hkd2,view,if_neg hv] at hb
    cases hb
theorem ab.KC{p:aY}{r:AV×St}{K:Act→World→Prop}{Q:Exit→Act→World→Prop}(hR:ig C.P R)(hΩ:ei C.P Ω)(h:ab C s a w σ)(hlo:aF C.P p.p.o o.op=true)(hdst:o.dst=p.p.d)(hd:∀ dd,p.p.d=some dd→dd<C.nt)
  (hk:cX p=true) (hfree:Dy p.p.o=true→∀ dd,p.p.d=some dd→gn C.E.dp s dd) (hlt:fA (view p s) p.p.o=true) (hls:dR C.E.dp p (view p s)=true) (hfb:oJ p.p.o p.cs=true→∀ h∈p.vb,my C.E.dp s h) (hr:execOp R Ω C.E (view p s) p.p.d p.p.o=some r)
  (hK:∀ a' w' σ',bn C w σ w' σ'→ab C ((effect p r).app s) a' w' σ'→K a' w'):o.wp C.P a w K Q:=by
 have hle:=AK p s C.E.dp
 have pO:mU p.p.o=false→ep p=false→∀ s',bW C o p.p.d a w σ s' r.1→(∀ d',d'∈p.cs∨p.p.d=some d'∨af s.fr d'=af s'.fr d')→(∀ k,s'.box C.E.dp k=s.box C.E.dp k)→s'.hp=s.hp→o.wp C.P a w K Q:=by
  intro h1 h2 s' he hf hb hh
  have he2:=zw (r:=r) h1 h2
  rw [he2] at hK
  refine finish hdst hd he (fun d'=>?_) (fun k cs hk=>?_) (fun k cs _ hk=>?_) hK
  ·simp only [aL.app,List.append_assoc]
   rw [fg,uD]
   cases hdd:p.p.d with
   | none=>
    rw [if_neg (by simp [lM]),jz]
    by_cases hm:d'∈p.cs
    ·rw [if_pos hm];exact .inl rfl
    ·rw [if_neg hm]
     rcases hf d' with h3 | h3 | h3
     ·exact absurd h3 hm
     ·rw [hdd] at h3;cases h3
     ·exact .inr h3
   | some dd=>
    by_cases hm:d'=dd
    ·subst hm
     rw [if_pos (by simp [lM])]
     exact .inr (by simp [fj,af,A.put,St.ba])
    ·rw [if_neg (by simp [lM,hm]),jz]
     by_cases hm2:d'∈p.cs
     ·rw [if_pos hm2];exact .inl rfl
     ·rw [if_neg hm2]
      rcases hf d' with h3 | h3 | h3
      ·exact absurd h3 hm2
      ·rw [hdd] at h3;exact absurd (Option.some.inj h3).symm hm
      ·refine .inr ?_
       simp only [A.put,St.ba,af,if_neg (fun e=>hm (Eq.symm e))]
       exact h3
  ·rw [hb];exact hk
  ·rw [hh];exact hk
 have plain:mU p.p.o=false→ep p=false→∀ s',execOp R Ω C.E s p.p.d p.p.o=some (r.1,s')→(∀ d',d'∈p.cs∨p.p.d=some d'∨af s.fr d'=af s'.fr d')→(∀ k,s'.box C.E.dp k=s.box C.E.dp k)→s'.hp=s.hp→o.wp C.P a w K Q:=
  fun h1 h2 s' he hf hb hh=>pO h1 h2 s' (vN hR hΩ p.p.o h hlo he) hf hb hh
 have hdrop:∀ {dd},p.p.d=some dd→gn C.E.dp s dd→∀ d',d'∈p.cs∨p.p.d=some d'∨af s.fr d'=af (s.az (.s dd)).fr d':=by
  intro dd _ hf d'
  refine .inr (.inr ?_)
  simp only [St.az,iS,(hf.fr d').2,Bool.false_eq_true,if_false]
 cases hao:p.p.o with
 | bx x=>simp [cX,hao] at hk
 | c2 f args=>simp [cX,hao] at hk
 | d2 x args=>simp [cX,hao] at hk
 | cn f args=>simp [cX,hao] at hk
 | ch f args sl dl ow=>simp [cX,hao] at hk
 | bg zs fs=>simp [cX,hao] at hk
 | bxg x=>simp [cX,hao] at hk
 | c3 f args=>
  rw [hao] at hr hlo
  obtain ⟨_,h2⟩:=ER (d:=p.p.d) hR.h h (fun x hx=>hle.ev rfl hx) hle.bx hlo hr
  exact pO (by rw [hao];rfl) (by simp [ep,gI,hao,mT]) s h2 (fun d'=>.inr (.inr rfl)) (fun _=>rfl) rfl
 | d3 x args=>
  rw [hao] at hr hlo
  obtain ⟨_,h2⟩:=ES (d:=p.p.d) hR.h h (fun x hx=>hle.ev rfl hx) hle.bx hlo hr
  exact pO (by rw [hao];rfl) (by simp [ep,gI,hao,mT]) s h2 (fun d'=>.inr (.inr rfl)) (fun _=>rfl) rfl
 | cr t f args=>simp [cX,hao] at hk
 | as x=>
  rw [hao] at hr hlt hlo
  refine plain (by rw [hao];rfl) (by simp [ep,gI,hao,mT]) s ?_ (fun d'=>.inr (.inr rfl)) (fun _=>rfl) rfl
  rw [hao]
  have hc:((view p s).ev x).copy=true:=hlt
  have hx:=hle.ev rfl (vP hc)
  cases x with
  | c z=>
   simp only [execOp] at hr ⊢
   split at hr
   ·rename_i hp
    obtain rfl:=Option.some.inj hr
    rw [if_pos hp]
   ·cases hr
  | t n=>
   have hx':af s.fr n=af (view p s).fr n:=hx
   simp only [execOp] at hr ⊢
   have hc':(af (view p s).fr n).copy=true:=hc
   rw [hx']
   generalize af (view p s).fr n=y at hr hc'
   cases y<;>first | (simp [AV.copy] at hc';done) | skip
   all_goals
    simp only [hc',Bool.true_or,if_true] at hr ⊢
    obtain rfl:=Option.some.inj hr
    rfl
 | bs t sz es=>
  rw [hao] at hr hlt hlo
  simp only [execOp] at hr
  obtain ⟨dd,hdd,hr1⟩:=Option.bind_eq_some_iff.1 hr
  have hf:=hfree (by rw [hao];rfl) dd hdd
  split at hr1
  ·rename_i hall
   obtain rfl:=Option.some.inj hr1
   refine plain (by rw [hao];rfl) (by simp [ep,gI,hao,mT]) (s.az (.s dd)) ?_ (hdrop hdd hf) (fun _=>rfl) rfl
   rw [hao]
   have hm:=hle.map (xs:=es) fun x hx=>by
    have:=List.all_eq_true.1 hall _ (List.mem_map_of_mem hx)
    simp only [Bool.and_eq_true] at this
    exact Ha this.1.1
   simp only [execOp,hdd,Option.bind_some,hm,if_pos hall]
  ·cases hr1
 | ms t sz by_ z n=>
  rw [hao] at hr hlt hlo
  simp only [execOp] at hr
  obtain ⟨dd,hdd,hr1⟩:=Option.bind_eq_some_iff.1 hr
  obtain ⟨m,hm,hr2⟩:=Option.bind_eq_some_iff.1 hr1
  have hf:=hfree (by rw [hao];rfl) dd hdd
  split at hr2
  ·rename_i hc
   obtain rfl:=Option.some.inj hr2
   refine plain (by rw [hao];rfl) (by simp [ep,gI,hao,mT]) (s.az (.s dd)) ?_ (hdrop hdd hf) (fun _=>rfl) rfl
   rw [hao]
   simp only [execOp,hdd,Option.bind_some,hle.nat hm,if_pos hc]
  ·cases hr2
 | ap t sz by_ x y=>
  rw [hao] at hr hlt hlo
  simp only [execOp] at hr
  obtain ⟨dd,hdd,hr1⟩:=Option.bind_eq_some_iff.1 hr
  obtain ⟨ys,hys,hr2⟩:=Option.bind_eq_some_iff.1 hr1
  obtain ⟨qq,hqq,hr3⟩:=Option.bind_eq_some_iff.1 hr2
  have hf:=hfree (by rw [hao];rfl) dd hdd
  split at hr3
  ·rename_i hc
   obtain rfl:=Option.some.inj hr3
   have hyu:(view p s).ev y≠.u:=by intro e;rw [e] at hys;cases hys
   by_cases hrc:zC ((view p s).ev x)=true
   ·
    have h2:(p.cs.length==2)=true:=by
     have:=hls
     simp only [dR,hao,hrc] at this
     simpa using this
    cases x with
    | c z=>
     exfalso
     unfold A.consume at hqq
     cases z<;>first | (simp [St.ev,zC] at hrc;done) | cases hqq
    | t m=>
     have hcs:p.cs=[m,m]:=by
      have:=hk
      simp only [cX,hao,Bool.or_eq_true,beq_iff_eq] at this
      rcases this with e | e
      ·rw [e] at h2;cases h2
      ·exact e
     have hx:∃ k off,af (view p s).fr m= .r (.c k off):=by
      have h3:zC (af (view p s).fr m)=true:=hrc
      generalize af (view p s).fr m=z at h3
      cases z<;>first | (cases h3;done) | skip
      rename_i pl
      cases pl with
      | s d=>cases h3
      | c k off=>exact ⟨k,off,rfl⟩
     obtain ⟨k,off,hx⟩:=hx
     unfold A.consume at hqq
     simp only [hx] at hqq
     split at hqq
     ·rename_i hmine
      obtain ⟨rw1,hrow,hq1⟩:=Option.bind_eq_some_iff.1 hqq
      split at hq1
      ·rename_i htt
       obtain ⟨st',hput,hq2⟩:=Option.bind_eq_some_iff.1 hq1
       obtain rfl:=Option.some.inj hq2
       simp only [St.putAt] at hput
       split at hput
       ·rename_i cs0 hb
        obtain rfl:=Option.some.inj hput
        have hb':=hle.bx k cs0 hb
        have hrow':s.rowAt C.E.dp (.c k off)=some rw1:=by
         simp only [St.rowAt,hb] at hrow
         simp only [St.rowAt,hb']
         exact hrow
        have hcon:A.consume C.E s t (.t m)=some (rw1.2,s.au C.E.dp k (cs0.set off .u)):=by
         simp only [A.consume,hle.slot hx (by simp),if_pos hmine,hrow',Option.bind_some,if_pos htt,St.putAt,hb']
        have hex:execOp R Ω C.E s p.p.d p.p.o=some (.o t (rw1.2++ys.2),(s.au C.E.dp k (cs0.set off .u)).az (.s dd)):=by
         rw [hao]
         simp only [execOp,hdd,Option.bind_some,hle.ev (x:=y) rfl hyu,hle.elems hys,hcon,if_pos hc]
        have hsim:=vN hR hΩ p.p.o h (by rw [hao];exact hlo) hex
        have he:∀ r:AV×St,effect p r=⟨fj p.p.d (dk p.p.fz r.1)++p.cs.map (fun m=>(m,.u)),[],bA r.2.bx p.vb,if p.vh=true then some r.2.hp else none⟩:=by
         intro r
         unfold effect
         simp only [hao,h2,if_true,Bool.true_and]
        rw [he] at hK
        obtain ⟨sb1,sb2⟩:=ya (nw:=cs0.set off .u) (fj p.p.d (dk p.p.fz (.o t (rw1.2++ys.2)))++p.cs.map (fun m=>(m,AV.u))) hb
        refine finish hdst hd hsim (fun d'=>?_) sb1 sb2 hK
        simp only [aL.app,List.append_assoc]
        rw [fg,uD,hdd]
        by_cases hm:d'=dd
        ·subst hm
         rw [if_pos (by simp [lM])]
         exact .inr (by simp [fj,af,A.put,St.ba])
        ·rw [if_neg (by simp [lM,hm]),jz]
         split
         ·exact .inl rfl
         ·refine .inr ?_
          simp only [A.put,St.ba,af,if_neg (fun e=>hm (Eq.symm e)),St.az,iS,jy,(hf.fr d').2,Bool.false_eq_true,if_false]
       ·cases hput
      ·cases hq1
     ·cases hqq
   have hnw:ep p=false:=by
    have:=hls
    simp only [dR,hao,beq_iff_eq] at this
    simp only [ep,gI,hao,mT,Bool.false_or,←this]
    simpa using hrc
   have hcon:∃ s1:St,A.consume C.E s t x=some (qq.1,s1)∧(∀ d',d'∈p.cs∨af s.fr d'=af s1.fr d')∧(∀ k,s1.box C.E.dp k=s.box C.E.dp k)∧s1.hp=s.hp∧(∀ d',(af s1.fr d').dj (.s dd)=false):=by
    unfold A.consume at hqq
    split at hqq
    ·obtain rfl:=Option.some.inj hqq
     exact ⟨s,rfl,fun _=>.inr rfl,fun _=>rfl,rfl,fun d'=>(hf.fr d').2⟩
    ·cases hqq
    ·rename_i m
     have hcs:m∈p.cs:=by
      have:=hk
      simp only [cX,hao,Bool.or_eq_true,beq_iff_eq] at this
      rcases this with e | e<;>rw [e]<;>simp
     split at hqq
     ·rename_i hx
      obtain rfl:=Option.some.inj hqq
      refine ⟨s,?_,fun _=>.inr rfl,fun _=>rfl,rfl,fun d'=>(hf.fr d').2⟩
      simp only [A.consume,hle.slot hx (by simp)]
     ·rename_i t' es hx
      split at hqq
      ·rename_i htt
       obtain rfl:=Option.some.inj hqq
       refine ⟨s.ba m .u,?_,fun d'=>?_,fun _=>rfl,rfl,fun d'=>?_⟩
       ·simp only [A.consume,hle.slot hx (by simp),if_pos htt]
       ·rw [gy]
        by_cases hm:m=d'
        ·exact .inl (hm▸hcs)
        ·exact .inr (by rw [if_neg hm])
       ·rw [gy]
        split
        ·rfl
        ·exact (hf.fr d').2
      ·cases hqq
     ·rename_i pl hx
      simp only [fA,St.ev,hx] at hlt
      simp only [zC,St.ev,hx] at hrc
      cases pl with
      | s d=>cases hlt
      | c k off=>exact absurd rfl hrc
     ·rename_i pl lo len hx
      simp only [fA,St.ev,hx] at hlt
      cases hlt
     ·cases hqq
   obtain ⟨s1,h1,h2,h3,h4,h5⟩:=hcon
   refine plain (by rw [hao];rfl) hnw (s1.az (.s dd)) ?_ (fun d'=>?_) (fun k=>h3 k) h4
   ·rw [hao]
    simp only [execOp,hdd,Option.bind_some,hle.ev (x:=y) rfl hyu,hle.elems hys,h1,if_pos hc]
   ·rcases h2 d' with h6 | h6
    ·exact .inl h6
    ·refine .inr (.inr ?_)
     simp only [St.az,iS,h5 d',Bool.false_eq_true,if_false]
     exact h6
  ·cases hr3
 | al zs=>
  rw [hao] at hr hlt hlo
  simp only [execOp] at hr
  obtain ⟨dd,hdd,hr1⟩:=Option.bind_eq_some_iff.1 hr
  have hf:=hfree (by rw [hao];rfl) dd hdd
  split at hr1
  ·rename_i hcd
   have hd6:dd<1000000:=by simp only [fx,Bool.and_eq_true,decide_eq_true_eq] at hcd;exact hcd.1.1.2
   obtain rfl:=Option.some.inj hr1
   have he:effect p (.p ⟨C.E.dp,dd⟩ 0,{(view p s) with bx:=(dd,zs)::(view p s).bx})=⟨[(dd,.p ⟨C.E.dp,dd⟩ 0)],[(dd,zs)],[],none⟩:=by
    unfold effect
    rw [hao,hdd]
   rw [he] at hK
   refine finish (s:=s) hdst hd (EN (d:=p.p.d) h hd6 hlo hdd (fun d'=>(hf.fr d').1) (fun d' cs' hb c hc=>hf.cs d' cs' hb c hc)) (fun d'=>.inr ?_) (fun k cs hk=>?_) (fun k cs _ hk=>?_) hK
   ·rw [hdd]
    have:dk p.p.fz (.p ⟨C.E.dp,dd⟩ 0)= .p ⟨C.E.dp,dd⟩ 0:=by cases p.p.fz<;>rfl
    rw [this]
    rfl
   ·by_cases hkd:k.dp=C.E.dp
    ·simp only [St.box,aL.app,hkd,if_true,lP,List.cons_append,List.nil_append] at hk ⊢
     exact hk
    ·simp only [St.box,aL.app,if_neg hkd] at hk ⊢
     exact hk
   ·exact hk
  ·cases hr1
 | ck f args=>
  rw [hao] at hr hlt hlo
  simp only [execOp] at hr
  obtain ⟨dd,hdd,hr1⟩:=Option.bind_eq_some_iff.1 hr
  have hf:=hfree (by rw [hao];rfl) dd hdd
  unfold sU at hr1
  split at hr1
  ·rename_i hp
   obtain ⟨⟨q,hp'⟩,hq,hr2⟩:=Option.bind_eq_some_iff.1 hr1
   cases q with
   | ret x=>cases hr2
   | new cs=>?_
   simp only at hr2
   split at hr2
   ·rename_i hno
    have hm:=hle.map (xs:=args) fun x hx=>Ha (cU hp _ (List.mem_map_of_mem hx))
    have hd6:dd<1000000:=by simp only [nh,fx,Bool.and_eq_true,decide_eq_true_eq] at hno;exact hno.2.1.1.2
    obtain rfl:=Option.some.inj hr2
    have he:effect p (.p ⟨C.E.dp,dd⟩ 0,{(view p s) with bx:=(dd,cs)::(view p s).bx})=⟨[(dd,.p ⟨C.E.dp,dd⟩ 0)],[(dd,cs)],[],none⟩:=by
     unfold effect
     rw [hao,hdd]
     simp [aq]
    rw [he] at hK
    refine finish (s:=s) hdst hd (ET (d:=p.p.d) hR.h h hlo (by rw [hm];exact hp) (by rw [hm];exact hq) hd6 (fun d'=>(hf.fr d').1) (fun d' cs' hb c hc=>hf.cs d' cs' hb c hc)) (fun d'=>.inr ?_) (fun k cs hk=>?_) (fun k cs _ hk=>?_) hK
    ·rw [hdd]
     have:dk p.p.fz (.p ⟨C.E.dp,dd⟩ 0)= .p ⟨C.E.dp,dd⟩ 0:=by cases p.p.fz<;>rfl
     rw [this]
     rfl
    ·by_cases hkd:k.dp=C.E.dp
     ·simp only [St.box,aL.app,hkd,if_true,lP,List.cons_append,List.nil_append] at hk ⊢
      exact hk
     ·simp only [St.box,aL.app,if_neg hkd] at hk ⊢
      exact hk
    ·exact hk
   ·cases hr2
  ·cases hr1
 | st n x y=>
  rw [hao] at hr hlt hlo
  have hdn:p.p.d=none:=by
   have:=hk
   simp only [cX,hao,Bool.and_eq_true,beq_iff_eq] at this
   exact this.1
  simp only [fA,Bool.and_eq_true,Bool.or_eq_true] at hlt
  obtain ⟨hyc,hxp⟩:=hlt
  have hyu:(view p s).ev y≠.u:=by
   intro e;rw [e] at hyc;rcases hyc with h | h<;>cases h
  have hy:=hle.ev rfl hyu
  have heff:∀ r:AV×St,effect p r=⟨p.cs.map (fun m=>(m,.u)),[],bA r.2.bx p.vb,if p.vh=true then some r.2.hp else none⟩:=by
   intro r
   unfold effect
   rw [hao]
  simp only [execOp] at hr
  split at hr
  ·rename_i k off hx
   split at hr
   ·rename_i hm
    obtain ⟨cs,hb,hr1⟩:=Option.bind_eq_some_iff.1 hr
    have hb':=hle.bx k cs hb
    split at hr1
    ·rename_i t' es hyy
     have hrow:uX ((view p s).ev y)=true:=by rw [hyy];rfl
     have hls2:=hls
     simp only [dR,hao,hrow,hx,Bool.not_true,Bool.false_or,Bool.and_eq_true,decide_eq_true_eq,beq_iff_eq] at hls2
     obtain ⟨⟨hkd,hvb⟩,hcs⟩:=hls2
     cases y with
     | c z=>cases hcs
     | t m=>
      have hcs':p.cs=[m]:=by simpa using hcs
      have hfb':my C.E.dp s k.d:=hfb (by rw [hao];simp [oJ,hcs']) k.d (by rw [hvb];simp)
      simp only at hr1
      split at hr1
      ·rename_i hc
       obtain rfl:=Option.some.inj hr1
       have hex:execOp R Ω C.E s p.p.d p.p.o=some (.u,((s.ba m .u).az (.c k off)).au C.E.dp k (cs.set off (.o t' es))):=by
        rw [hao]
        simp only [execOp,hle.ev hx (by simp),if_pos hm,hb',Option.bind_some,hy,hyy]
        rw [if_pos hc]
       have hsim:=vN (r:=(.u,((s.ba m .u).az (.c k off)).au C.E.dp k (cs.set off (.o t' es)))) hR hΩ p.p.o h (by rw [hao];exact hlo) hex
       rw [heff,hcs'] at hK
       have hbx0:∀ nw,(((view p s).ba m .u).az (.c k off)).au C.E.dp k nw=({((view p s).au C.E.dp k nw) with fr:=(((view p s).ba m .u).az (.c k off)).fr} : St):=by
        intro nw
        simp only [St.au,hkd,if_true,St.az,St.ba]
       rw [hbx0] at hK
       obtain ⟨sb1,sb2⟩:=ya (nw:=cs.set off (.o t' es)) [(m,.u)] hb
       have hbx1:∀ nw k',((((s.ba m .u).az (.c k off)).au C.E.dp k nw).box C.E.dp k')=(s.au C.E.dp k nw).box C.E.dp k':=by
        intro nw k'
        simp only [St.au,hkd,if_true,St.az,St.ba,St.box]
       have hhp1:∀ nw,((((s.ba m .u).az (.c k off)).au C.E.dp k nw).hp)=(s.au C.E.dp k nw).hp:=by
        intro nw
        simp only [St.au,hkd,if_true,St.az,St.ba]
       refine finish hdst hd hsim (fun d'=>?_) (fun k' cs' hk'=>?_) (fun k' cs' hkd' hk'=>?_) hK
       ·rw [hdn]
        simp only [aL.app,A.put,jy,List.map_cons,List.map_nil,List.cons_append,List.nil_append,af]
        by_cases hmd:m=d'
        ·rw [if_pos hmd];exact .inl rfl
        ·rw [if_neg hmd]
         refine .inr ?_
         simp only [St.az,St.ba,iS,af,if_neg hmd]
         rw [if_neg]
         intro hbor
         have:=hfb' d'
         rw [←hkd] at this
         rw [Iv hbor] at this;cases this
       ·rw [hbx1];exact sb1 k' cs' hk'
       ·rw [hhp1];exact sb2 k' cs' hkd' hk'
      ·cases hr1
    ·rename_i pl lo len hyy
     rw [hyy] at hyc;rcases hyc with h | h<;>cases h
    ·rename_i hyo hyv
     have hyc':((view p s).ev y).copy=true:=by
      rcases hyc with h | h
      ·exact h
      ·exfalso
       generalize (view p s).ev y=z at h hyo
       cases z<;>first | (exact hyo _ _ rfl) | (exact absurd rfl (hyo _ _)) | (cases h;done)
     split at hr1
     ·rename_i hc
      obtain rfl:=Option.some.inj hr1
      have hex:execOp R Ω C.E s p.p.d p.p.o=some (.u,s.au C.E.dp k (putCells cs off ((view p s).ev y).cl)):=by
       rw [hao]
       simp only [execOp,hle.ev hx (by simp),if_pos hm,hb',Option.bind_some,hy]
       rw [if_pos hc]
      have hsim:=vN (r:=(.u,s.au C.E.dp k (putCells cs off ((view p s).ev y).cl))) hR hΩ p.p.o h (by rw [hao];exact hlo) hex
      rw [heff] at hK
      obtain ⟨sb1,sb2⟩:=ya (nw:=putCells cs off ((view p s).ev y).cl) (p.cs.map fun m=>(m,AV.u)) hb
      refine finish hdst hd hsim (fun d'=>?_) sb1 sb2 hK
      rw [hdn]
      simp only [aL.app,A.put,jy]
      rw [jz]
      split
      ·exact .inl rfl
      ·exact .inr rfl
     ·cases hr1
   ·cases hr
  ·rename_i hx
   rw [hx] at hxp;cases hxp
  ·cases hr
 | _=>
  have hqk:qk p.p.o=true:=by rw [hao];rfl
  obtain ⟨_,h2⟩:=QT hle hqk hlt hr
  exact plain (by rw [hao];rfl) (by simp [ep,gI,hao,mT]) s h2 (fun d'=>.inr (.inr rfl)) (fun _=>rfl) rfl
end
variable [aP]
section
variable {C:Cx}{s:St}{a:Act}{w:World}{σ:Sp}{o:Oper}{R:Rec}{Ω:bL}
theorem ab.QW{nt i:Nat}{ops:Array Oper}{p:aY}{q:aL}{K:Act→World→Prop}{Q:Exit→Act→World→Prop}(hR:ig C.P R)(hΩ:ei C.P Ω)(h:ab C s a w σ)(ho:ops[i]? =some o)(hl:vO C.P nt ops o p.p=true)(hnt:nt≤C.nt)
  (hk:cX p=true) (hfree:Dy p.p.o=true→∀ dd,p.p.d=some dd→gn C.E.dp s dd) (hfb:oJ p.p.o p.cs=true→∀ h∈p.vb,my C.E.dp s h) (hq:bS R Ω C.E p s=some q) (hK:∀ a' w' σ',bn C w σ w' σ'→ab C (q.app s) a' w' σ'→K a' w'):wpOp C.P ops Q i K a w:=by
 obtain ⟨hlo,hdst,hd,hgd⟩:=xZ hl hnt
 obtain ⟨hg1,hg2⟩:=h.guard hgd
 have hcore:fX R Ω C.E p (view p s)=some q→o.wp C.P a w K Q:=by
  intro hc
  unfold fX at hc
  split at hc
  ·rename_i hlt
   obtain ⟨r,hr,h2⟩:=Option.bind_eq_some_iff.1 hc
   split at h2
   ·obtain rfl:=Option.some.inj h2
    simp only [Bool.and_eq_true] at hlt
    exact h.KC hR hΩ hlo hdst hd hk hfree hlt.1 hlt.2 hfb hr hK
   ·cases h2
  ·cases hc
 simp only [wpOp,ho]
 unfold bS at hq
 split at hq
 ·rename_i hgn
  rw [if_pos (hg1 hgn)]
  exact .inl (hcore hq)
 ·rename_i j want hgs
  obtain ⟨y,hy,hq1⟩:=Option.bind_eq_some_iff.1 hq
  have hwt:=hg2 j want y hgs hy
  split at hq1
  ·rename_i hyt
   rw [if_pos (by rw [hwt,hyt])]
   exact .inl (hcore hq1)
  ·rename_i hyf
   rw [if_neg (by rw [hwt];exact hyf)]
   refine hK _ _ _ (.refl _ _ _) ?_
   rw [←Option.some.inj hq1,hdst]
   refine (h.JI hd).se ⟨fun d'=>?_,fun d'=>?_,?_,fun y=>?_⟩
   ·simp only [aL.app];rw [Hd]
   ·cases p.p.d<;>rfl
   ·cases p.p.d<;>rfl
   ·cases p.p.d<;>exact Iff.rfl
theorem uE{s:St}{dp:Nat}{k:Key}{cs zs:List AV}{d:Nat}(h:aq (s.au dp k cs).bx d=some zs):aq s.bx d=some zs∨zs=cs:=by
 unfold St.au at h
 split at h
 ·simp only [pL] at h
  split at h
  ·rename_i e
   cases hb:aq s.bx k.d with
   | none=>rw [hb] at h;cases h
   | some z=>
    rw [hb] at h
    exact .inr (Option.some.inj h).symm
  ·exact .inl h
 ·exact .inl h
theorem Np{k:Key}{y:AV}(h:y.aW k=true):∀ c∈y.cl,c.aW k=true:=by
 intro c hc
 cases y<;>simp only [AV.cl,List.mem_singleton] at hc<;>first | (subst hc;exact h) | skip
 exact er (by simpa [AV.aW] using h) c hc
theorem gn.step{p:aY}{q:aL}{h:Nat}{op:Op}(hf:gn C.E.dp s h)(hlo:aF C.P p.p.o op=true)(hk:cX p=true)(hn:h∈p.nk)(hq:bS R Ω C.E p s=some q):gn C.E.dp (q.app s) h:=by
 have hle:=AK p s C.E.dp
 have hvf:∀ d,(af (view p s).fr d).aW ⟨C.E.dp,h⟩=true:=fun d=>by
  rcases hle.fr d with e | e
  ·rw [e];rfl
  ·rw [e];exact (hf.fr d).1
 have hgen:∀ (x:AV)(cs:List Nat),x.aW ⟨C.E.dp,h⟩=true→x.dj (.s h)=false→gn C.E.dp ((⟨fj p.p.d x++cs.map (fun m=>(m,.u)),[],[],none⟩:aL).app s) h:=by
  intro x cs hx hb
  refine ⟨fun d=>?_,hf.cs⟩
  simp only [aL.app,List.append_assoc]
  rw [fg]
  split
  ·rename_i hm
   cases hd:p.p.d with
   | none=>rw [hd] at hm;simp [fj,b9] at hm
   | some dd=>
    rw [hd] at hm
    simp only [fj,b9,List.map_cons,List.map_nil,List.mem_singleton] at hm
    subst hm
    simp [fj,af,hx,hb]
  ·rw [jz]
   split
   ·exact ⟨rfl,rfl⟩
   ·exact hf.fr d
 have hcore:fX R Ω C.E p (view p s)=some q→gn C.E.dp (q.app s) h:=by
  intro hc
  unfold fX at hc
  split at hc
  ·rename_i hlt2
   have hlt:=(Bool.and_eq_true_iff.1 hlt2).1
   obtain ⟨r,hr,h2⟩:=Option.bind_eq_some_iff.1 hc
   split at h2
   ·rename_i hok2
    have hok:=(Bool.and_eq_true_iff.1 hok2).1
    obtain rfl:=Option.some.inj h2
    have hx:r.1.aW ⟨C.E.dp,h⟩=true∧r.1.dj (.s h)=false:=by
     have:=List.all_eq_true.1 hok h hn
     simpa using this
    have hfz:(dk p.p.fz r.1).aW ⟨C.E.dp,h⟩=true∧(dk p.p.fz r.1).dj (.s h)=false:=by
     cases p.p.fz with
     | false=>simpa [dk] using hx
     | true=>cases hr1:r.1<;>rw [hr1] at hx<;>first | exact hx | exact ⟨rfl,rfl⟩
    by_cases hal:mU p.p.o=true
    ·cases hao:p.p.o<;>rw [hao] at hal<;>simp [mU] at hal
     case al zs=>
      rw [hao] at hr hlo
      simp only [execOp] at hr
      obtain ⟨dd,hdd,hr1⟩:=Option.bind_eq_some_iff.1 hr
      split at hr1
      ·obtain rfl:=Option.some.inj hr1
       have he:effect p (.p ⟨C.E.dp,dd⟩ 0,{(view p s) with bx:=(dd,zs)::(view p s).bx})=⟨[(dd,.p ⟨C.E.dp,dd⟩ 0)],[(dd,zs)],[],none⟩:=by
        unfold effect
        rw [hao,hdd]
       rw [he]
       refine ⟨fun d=>?_,fun d cs hb c hc=>?_⟩
       ·simp only [aL.app,List.cons_append,List.nil_append,af]
        split
        ·exact hx
        ·exact hf.fr d
       ·simp only [aL.app,List.cons_append,List.nil_append,aq,lP] at hb
        split at hb
        ·obtain rfl:=Option.some.inj hb
         exact eU c (Kt hlo c hc)
        ·exact hf.cs d cs hb c hc
      ·cases hr1
     case ck f args=>
      rw [hao] at hr hlo
      simp only [execOp] at hr
      obtain ⟨dd,hdd,hr1⟩:=Option.bind_eq_some_iff.1 hr
      unfold sU at hr1
      split at hr1
      ·obtain ⟨⟨q,hp'⟩,hq,hr2⟩:=Option.bind_eq_some_iff.1 hr1
       cases q with
       | ret x=>cases hr2
       | new cs=>?_
       simp only at hr2
       split at hr2
       ·rename_i hno
        obtain rfl:=Option.some.inj hr2
        have he:effect p (.p ⟨C.E.dp,dd⟩ 0,{(view p s) with bx:=(dd,cs)::(view p s).bx})=⟨[(dd,.p ⟨C.E.dp,dd⟩ 0)],[(dd,cs)],[],none⟩:=by
         unfold effect
         rw [hao,hdd]
         simp [aq]
        rw [he]
        refine ⟨fun d=>?_,fun d cs' hb c hc=>?_⟩
        ·simp only [aL.app,List.cons_append,List.nil_append,af]
         split
         ·exact hx
         ·exact hf.fr d
        ·simp only [aL.app,List.cons_append,List.nil_append,aq,lP] at hb
         split at hb
         ·obtain rfl:=Option.some.inj hb
          have:=List.all_eq_true.1 (Bool.and_eq_true_iff.1 hno).1 c hc
          cases c<;>first | rfl | exact eU _ this
         ·exact hf.cs d cs' hb c hc
       ·cases hr2
      ·cases hr1
    ·by_cases hst:mT p.p.o=true
     ·cases hao:p.p.o<;>rw [hao] at hst<;>simp [mT] at hst
      rename_i n x y
      rw [hao] at hr hlo hlt
      simp only [fA,Bool.and_eq_true,Bool.or_eq_true] at hlt
      obtain ⟨hyc,hxp⟩:=hlt
      have hyk:((view p s).ev y).aW ⟨C.E.dp,h⟩=true:=by
       cases y with
       | t m=>exact hvf m
       | c z=>
        have hp:z.pure=true:=by
         simp only [aF] at hlo
         split at hlo
         ·simp only [Bool.and_eq_true] at hlo
          exact lI hlo.1.2
         ·cases hlo
        exact eU z hp
      have hcs:∀ d cs,aq r.2.bx d=some cs→∀ c∈cs,c.aW ⟨C.E.dp,h⟩=true:=by
       simp only [execOp] at hr
       split at hr
       ·rename_i k off hx'
        split at hr
        ·rename_i hm
         obtain ⟨cs0,hb0,hr1⟩:=Option.bind_eq_some_iff.1 hr
         split at hr1
         ·rename_i t' es hyy
          split at hr1
          ·rename_i m
           split at hr1
           ·obtain rfl:=Option.some.inj hr1
            intro d cs hb c hc
            rcases uE hb with h3 | rfl
            ·exact hf.cs d cs (bD h3) c hc
            ·rcases List.mem_or_eq_of_mem_set hc with hc | rfl
             ·by_cases hkd:k.dp=C.E.dp
              ·have h4:aq (view p s).bx k.d=some cs0:=by simpa [St.box,hkd] using hb0
               exact hf.cs k.d cs0 (bD h4) c hc
              ·simp only [St.au,if_neg hkd] at hb
               exact hf.cs d _ (bD hb) c (by rcases List.mem_or_eq_of_mem_set ‹c∈_› with h | h<;>first | exact ‹_› | assumption)
             ·rfl
           ·cases hr1
          ·cases hr1
         ·rename_i pl lo len hyy
          rw [hyy] at hyc;rcases hyc with h | h<;>cases h
         ·split at hr1
          ·obtain rfl:=Option.some.inj hr1
           intro d cs hb c hc
           rcases uE hb with h3 | rfl
           ·exact hf.cs d cs (bD h3) c hc
           ·
            by_cases hkd:k.dp=C.E.dp
            ·rcases rv hc with hc | hc
             ·have h4:aq (view p s).bx k.d=some cs0:=by simpa [St.box,hkd] using hb0
              exact hf.cs k.d cs0 (bD h4) c hc
             ·exact Np hyk c hc
            ·simp only [St.au,if_neg hkd] at hb
             exact hf.cs d _ (bD hb) c hc
          ·cases hr1
        ·cases hr
       ·rename_i hx'
        rw [hx'] at hxp;cases hxp
       ·cases hr
      have he:effect p r=⟨p.cs.map (fun m=>(m,.u)),[],bA r.2.bx p.vb,if p.vh=true then some r.2.hp else none⟩:=by
       unfold effect
       rw [hao]
      rw [he]
      refine ⟨fun d=>?_,fun d cs hb c hc=>?_⟩
      ·simp only [aL.app]
       rw [jz]
       split
       ·exact ⟨rfl,rfl⟩
       ·exact hf.fr d
      simp only [aL.app,List.nil_append,mx] at hb
      split at hb
      ·rename_i zs hz
       cases hb2:aq s.bx d with
       | none=>rw [hb2] at hb;cases hb
       | some z=>
        rw [hb2] at hb
        obtain rfl:=Option.some.inj hb
        exact hcs d _ (bD hz) c hc
      ·exact hf.cs d cs hb c hc
     ·by_cases hra:gI p=true
      ·unfold gI at hra
       split at hra
       ·rename_i t sz by_ x y hao
        rw [hao] at hr hlt
        have he:effect p r=⟨fj p.p.d (dk p.p.fz r.1)++p.cs.map (fun m=>(m,.u)),[],bA r.2.bx p.vb,if p.vh=true then some r.2.hp else none⟩:=by
         unfold effect
         simp only [hao,hra,if_true,Bool.true_and]
        rw [he]
        simp only [execOp] at hr
        obtain ⟨dd,hdd,hr1⟩:=Option.bind_eq_some_iff.1 hr
        obtain ⟨ys,hys,hr2⟩:=Option.bind_eq_some_iff.1 hr1
        obtain ⟨qq,hqq,hr3⟩:=Option.bind_eq_some_iff.1 hr2
        have hcs:∀ d cs,aq qq.2.bx d=some cs→∀ c∈cs,c.aW ⟨C.E.dp,h⟩=true:=by
         unfold A.consume at hqq
         split at hqq
         ·obtain rfl:=Option.some.inj hqq
          exact fun d cs hb c hc=>hf.cs d cs (bD hb) c hc
         ·cases hqq
         ·rename_i m
          split at hqq
          ·obtain rfl:=Option.some.inj hqq
           exact fun d cs hb c hc=>hf.cs d cs (bD hb) c hc
          ·split at hqq
           ·obtain rfl:=Option.some.inj hqq
            exact fun d cs hb c hc=>hf.cs d cs (bD hb) c hc
           ·cases hqq
          ·rename_i pl hx
           split at hqq
           ·obtain ⟨rw1,hrow,hq1⟩:=Option.bind_eq_some_iff.1 hqq
            split at hq1
            ·obtain ⟨st',hput,hq2⟩:=Option.bind_eq_some_iff.1 hq1
             obtain rfl:=Option.some.inj hq2
             cases pl with
             | s d'=>simp only [fA,St.ev,hx] at hlt;cases hlt
             | c k off=>
              simp only [St.putAt] at hput
              split at hput
              ·rename_i cs0 hb0
               obtain rfl:=Option.some.inj hput
               intro d cs hb c hc
               rcases uE hb with h3 | rfl
               ·exact hf.cs d cs (bD h3) c hc
               ·rcases List.mem_or_eq_of_mem_set hc with hc | rfl
                ·by_cases hkd:k.dp=C.E.dp
                 ·have h4:aq (view p s).bx k.d=some cs0:=by simpa [St.box,hkd] using hb0
                  exact hf.cs k.d cs0 (bD h4) c hc
                 ·simp only [St.au,if_neg hkd] at hb
                  exact hf.cs d _ (bD hb) c (by rcases List.mem_or_eq_of_mem_set ‹c∈_› with h | h<;>first | exact ‹_› | assumption)
                ·rfl
              ·cases hput
            ·cases hq1
           ·cases hqq
          ·rename_i pl lo len hx
           simp only [fA,St.ev,hx] at hlt
           cases hlt
          ·cases hqq
        have hbx:r.2.bx=qq.2.bx:=by
         split at hr3
         ·obtain rfl:=Option.some.inj hr3;rfl
         ·cases hr3
        refine ⟨fun d=>(hgen _ _ hfz.1 hfz.2).fr d,fun d cs hb c hc=>?_⟩
        simp only [aL.app,List.nil_append,mx] at hb
        split at hb
        ·rename_i zs hz
         cases hb2:aq s.bx d with
         | none=>rw [hb2] at hb;cases hb
         | some z=>
          rw [hb2] at hb
          obtain rfl:=Option.some.inj hb
          rw [hbx] at hz
          exact hcs d _ (bD hz) c hc
        ·exact hf.cs d cs hb c hc
       ·cases hra
      ·rw [zw (by simpa using hal) (by simp only [ep,Bool.or_eq_false_iff];exact ⟨by simpa using hst,by simpa using hra⟩)]
       exact hgen _ _ hfz.1 hfz.2
   ·cases h2
  ·cases hc
 unfold bS at hq
 split at hq
 ·exact hcore hq
 ·obtain ⟨y,hy,hq1⟩:=Option.bind_eq_some_iff.1 hq
  split at hq1
  ·exact hcore hq1
  ·obtain rfl:=Option.some.inj hq1
   have:=hgen .sk [] rfl rfl
   simpa using this
end
theorem my.step{dp:Nat}{ro:Bool}{s:St}{R:Rec}{Ω:bL}{p:aY}{q:aL}{h:Nat}(hf:my dp s h)(hn:h∈p.nb)(hq:bS R Ω ⟨dp,ro⟩ p s=some q):my dp (q.app s) h:=by
 have hput:∀ (x:AV)(cs:List Nat)(nb wb:List (Nat×List AV))(hp:Option HP),jC ⟨dp,h⟩ x=false→my dp ((⟨fj p.p.d x++cs.map (fun m=>(m,.u)),nb,wb,hp⟩:aL).app s) h:=by
  intro x cs nb wb hp hx d
  simp only [aL.app,List.append_assoc]
  rw [fg]
  split
  ·rename_i hm
   cases hd:p.p.d with
   | none=>rw [hd] at hm;simp [fj,b9] at hm
   | some dd=>
    rw [hd] at hm
    simp only [fj,b9,List.map_cons,List.map_nil,List.mem_singleton] at hm
    subst hm
    simp [fj,af,hx]
  ·rw [jz]
   split
   ·rfl
   ·exact hf d
 have hcore:fX R Ω ⟨dp,ro⟩ p (view p s)=some q→my dp (q.app s) h:=by
  intro hc
  unfold fX at hc
  split at hc
  ·obtain ⟨r,hr,h2⟩:=Option.bind_eq_some_iff.1 hc
   split at h2
   ·rename_i hok2
    have hok:=(Bool.and_eq_true_iff.1 hok2).2
    obtain rfl:=Option.some.inj h2
    have hx:jC ⟨dp,h⟩ r.1=false:=by
     have:=List.all_eq_true.1 (Bool.and_eq_true_iff.1 hok).1 h hn
     simpa using this
    have hfz:jC ⟨dp,h⟩ (dk p.p.fz r.1)=false:=by
     cases p.p.fz with
     | false=>simpa [dk] using hx
     | true=>cases hr1:r.1<;>rw [hr1] at hx<;>first | exact hx | rfl
    unfold effect
    split
    ·split
     ·rename_i dd hd
      intro d
      simp only [aL.app,List.cons_append,List.nil_append,af]
      split
      ·exact hx
      ·exact hf d
     ·intro d;exact hf d
    ·split
     ·rename_i dd hd
      intro d
      simp only [aL.app,List.cons_append,List.nil_append,af]
      split
      ·exact hx
      ·exact hf d
     ·intro d;exact hf d
    ·intro d
     simp only [aL.app]
     rw [jz]
     split
     ·rfl
     ·exact hf d
    ·exact hput _ _ _ _ _ hfz
    ·exact hput _ _ _ _ _ hfz
   ·cases h2
  ·cases hc
 unfold bS at hq
 split at hq
 ·exact hcore hq
 ·obtain ⟨y,hy,hq1⟩:=Option.bind_eq_some_iff.1 hq
  split at hq1
  ·exact hcore hq1
  ·obtain rfl:=Option.some.inj hq1
   have:=hput .sk [] [] [] none rfl
   simpa using this
def eQ(o:Oper):List Nat:=(o.after.toList.filter fun e=>Region.binds .any e).map (·.on)
def He(acc:List Nat)(l:List Nat):Nat:=l.foldl (fun s e=>s|||(1 <<< e)|||acc.getD e 0) 0
def sC(acc:List Nat):List (List Nat)→List Nat
 | []=>acc
 | l::r=>sC (acc++[He acc l]) r
theorem Dz(f:Nat→Nat)(i:Nat):∀ (l:List Nat)(s:Nat),(l.foldl (fun s e=>s|||(1 <<< e)|||f e) s).testBit i=true→s.testBit i=true∨∃ e∈l,e=i∨(f e).testBit i=true
 | [],s,h=>.inl h
 | e::l,s,h=>by
  simp only [List.foldl_cons] at h
  rcases Dz f i l _ h with h | ⟨e',he',h⟩
  ·simp only [Nat.testBit_or,Bool.or_eq_true] at h
   rcases h with (h | h) | h
   ·exact .inl h
   ·refine .inr ⟨e,by simp,.inl ?_⟩
    rw [Nat.one_shiftLeft,Nat.testBit_two_pow] at h
    simpa using h
   ·exact .inr ⟨e,by simp,.inr h⟩
  ·exact .inr ⟨e',by simp [he'],h⟩
theorem DA:∀ (L:List (List Nat))(acc:List Nat)(A:List (List Nat)),acc.length=A.length→
  (∀ j i,j<acc.length→(acc.getD j 0).testBit i=true→i∈A.getD j []∨∃ e∈A.getD j [],e<j∧(acc.getD e 0).testBit i=true)→
  ∀ j i,((sC acc L).getD j 0).testBit i=true→i∈(A++L).getD j []∨∃ e∈(A++L).getD j [],e<j∧((sC acc L).getD e 0).testBit i=true
 | [],acc,A,hl,h,j,i,hb=>by
  rw [List.append_nil]
  simp only [sC] at hb ⊢
  by_cases hj:j<acc.length
  ·exact h j i hj hb
  ·rw [List.getD_eq_getElem?_getD,List.getElem?_eq_none (by omega)] at hb
   simp at hb
 | l::L,acc,A,hl,h,j,i,hb=>by
  have:=DA L (acc++[He acc l]) (A++[l]) (by simp [hl]) (fun j i hj hb=>?_) j i hb
  ·simpa [sC] using this
  ·simp only [List.length_append,List.length_singleton] at hj
   simp only [List.getD_eq_getElem?_getD] at hb ⊢
   by_cases hlt:j<acc.length
   ·rw [List.getElem?_append_left hlt] at hb
    rw [List.getElem?_append_left (by omega)]
    rcases h j i hlt (by simpa [List.getD_eq_getElem?_getD] using hb) with h1 | ⟨e,he,h2,h3⟩
    ·exact .inl (by simpa [List.getD_eq_getElem?_getD] using h1)
    ·refine .inr ⟨e,by simpa [List.getD_eq_getElem?_getD] using he,h2,?_⟩
     rw [List.getElem?_append_left (by omega)]
     simpa [List.getD_eq_getElem?_getD] using h3
   ·have hje:j=acc.length:=by omega
    subst hje
    rw [List.getElem?_append_right (Nat.le_refl _)] at hb
    rw [List.getElem?_append_right (by omega),hl]
    simp only [Nat.sub_self,List.getElem?_cons_zero,Option.getD_some] at hb ⊢
    rcases Dz (fun e=>acc.getD e 0) i l 0 hb with h1 | ⟨e,he,h1 | h1⟩
    ·simp at h1
    ·exact .inl (h1▸he)
    ·have hea:e<acc.length:=by
      apply Classical.byContradiction
      intro hn
      rw [List.getD_eq_getElem?_getD,List.getElem?_eq_none (by omega)] at h1
      simp at h1
     refine .inr ⟨e,he,by omega,?_⟩
     rw [List.getElem?_append_left hea]
     simpa [List.getD_eq_getElem?_getD] using h1
def Hf(gs:List aY)(i j:Nat):Bool:=
 match gs[i]?,gs[j]? with
 | some p,some q=>(p.lt&&q.lt&&sw p q)||qH p q||qH q p
 | _,_=>false
def uF(P:Program)(nt:Nat)(ops:Array Oper):List Oper→List aY→Bool
 | [],[]=>true
 | o::os,g::gs=>vO P nt ops o g.p&&(!g.lt||cX g)&&uF P nt ops os gs
 | _,_=>false
def DB(q:aY)(dd:Nat):Bool:=match q.p.o with
 | .ch _ _ _ _ ow=>!q.lt&&q.p.g.isNone&&ow.contains dd
 | _=>false
theorem gn.QX{R:Rec}{Ω:bL}{E:Env}{s s2:St}{p:aY}{h:Nat}(hf:gn E.dp s h)(hc:DB p h=true)(he:bT R Ω E s p=some s2):gn E.dp s2 h:=by
 unfold DB at hc
 split at hc
 ·rename_i f args sl dl ow ho
  simp only [Bool.and_eq_true,Bool.not_eq_true',Option.isNone_iff_eq_none] at hc
  obtain ⟨⟨h1,h2⟩,h3⟩:=hc
  have h3':h∈ow:=by simpa using h3
  simp only [bT,h1,Bool.false_eq_true,if_false,eL,h2,ho,execOp] at he
  obtain ⟨⟨x,s'⟩,hcall,he⟩:=Option.bind_eq_some_iff.1 he
  obtain rfl:=Option.some.inj he
  obtain ⟨hp',hC,e2⟩:=vS hcall
  simp only at e2 hC
  subst e2
  have hx:dk p.p.fz x=x:=by
   have:=hC.pure
   cases p.p.fz with
   | false=>rfl
   | true=>cases x<;>first | rfl | cases this
  have hxb:x.aW ⟨E.dp,h⟩=true∧x.dj (.s h)=false:=by
   have:=hC.pure
   refine ⟨eU x this,?_⟩
   cases x<;>first | rfl | cases this
  have hb1:=hf.fr
  have hb2:∀ d cs,aq (s.bh E.dp (cg E.dp s sl dl ow hp')).bx d=some cs→∀ c∈cs,c.aW ⟨E.dp,h⟩=true:=by
   intro d cs hd c hc
   rcases hC.post d cs hd with ho' | ho'
   ·refine hf.cs d cs ?_ c hc
    simp only [St.bh,fh] at hd
    have hm:cg E.dp s sl dl ow hp' ⟨E.dp,d⟩=aq s.bx d:=by
     unfold cg
     rw [if_pos (wz ho')]
     simp [St.box]
    rw [hm] at hd
    obtain ⟨_,_,e⟩:=Option.bind_eq_some_iff.1 hd
    exact e
   ·exact er (ho' h h3') c hc
  rw [hx]
  cases p.p.d with
  | none=>exact ⟨hb1,hb2⟩
  | some dd=>
   refine ⟨fun d=>?_,hb2⟩
   simp only [put,St.ba,af]
   split
   ·exact hxb
   ·exact hb1 d
 ·cases hc
def Tk(M:List Nat)(gs:List aY)(n k dd:Nat):Bool:=
 (List.range n).all fun i=>i==k||(M.getD i 0).testBit k||(match gs[i]? with
  | some q=>(q.lt&&q.nk.contains dd)||DB q dd
  | none=>true)
def JP(M:List Nat)(gs:List aY)(mks:List Nat)(n:Nat):Bool:=
 (List.range n).all fun k=>match gs[k]? with
  | some p=>!p.lt||!Dy p.p.o||(match p.p.d with
   | some dd=>mks.contains dd&&Tk M gs n k dd
   | none=>true)
  | none=>true
def EY(M:List Nat)(gs:List aY)(n:Nat):Bool:=(List.range n).all fun j=>(List.range j).all fun i=>(M.getD j 0).testBit i||Hf gs i j
def Nq(M:List Nat)(gs:List aY)(n:Nat):Bool:=
 (List.range n).all fun k=>match gs[k]? with
  | some p=>!p.lt||!oJ p.p.o p.cs||p.vb.all fun h=>(List.range n).all fun i=>i==k||(M.getD i 0).testBit k||(match gs[i]? with
   | some q=>q.lt&&q.nb.contains h
   | none=>true)
  | none=>true
def zx(P:Program)(nt:Nat)(ops:Array Oper)(mks:List Nat)(gs:List aY):Bool:=
 P.follows .mixedOrders&&uF P nt ops ops.toList gs&&((List.range ops.size).all fun i=>match ops[i]? with
  | some o=>(eQ o).all fun e=>decide (e<i)
  | none=>true)&&
 EY (sC [] (ops.toList.map eQ)) gs ops.size&&JP (sC [] (ops.toList.map eQ)) gs mks ops.size&&Nq (sC [] (ops.toList.map eQ)) gs ops.size
theorem vT{P:Program}{nt:Nat}{ops:Array Oper} : ∀ {os:List Oper}{gs:List aY},uF P nt ops os gs=true→os.length=gs.length∧∀ (i:Nat)(o:Oper)(p:aY),os[i]? =some o→gs[i]? =some p→vO P nt ops o p.p=true∧(p.lt=true→cX p=true)
 | [],[],_=>⟨rfl,fun i o p h=>by simp at h⟩
 | o::os,g::gs,h=>by
  simp only [uF,Bool.and_eq_true] at h
  obtain ⟨h1,h2⟩:=vT h.2
  refine ⟨by simp [h1],fun i o' p ho hp=>?_⟩
  cases i with
  | zero=>
   obtain rfl:o=o':=by simpa using ho
   obtain rfl:g=p:=by simpa using hp
   refine ⟨h.1.1,fun hl=>?_⟩
   have:=h.1.2
   rw [hl] at this
   simpa using this
  | succ i=>exact h2 i o' p (by simpa using ho) (by simpa using hp)
 | [],_::_,h=>by simp [uF] at h
 | _::_,[],h=>by simp [uF] at h
section
variable {C:Cx}{st:St}{a:Act}{w:World}{σ:Sp}{R:Rec}{Ω:bL}
def ik(n:Nat)(listed:Array Bool):List Nat:=(List.range n).filter fun i=>!listed.getD i true
theorem F4{ops:Array Oper}{listed:Array Bool}(hback:∀ i o,ops[i]? =some o→∀ e∈eQ o,e<i)(hcl:∀ j o,ops[j]? =some o→listed.getD j false=true→∀ e∈eQ o,listed.getD e false=true) :
  ∀ (j:Nat)(o:Oper),ops[j]? =some o→(∀ e∈eQ o,listed.getD e false=true)→∀ i,((sC [] (ops.toList.map eQ)).getD j 0).testBit i=true→listed.getD i false=true:=by
 intro j
 induction j using Nat.strongRecOn with
 | _ j ih=>
  intro o ho haft i hb
  have hspec:=DA (ops.toList.map eQ) [] [] rfl (fun j i hj=>by simp at hj) j i hb
  rw [List.nil_append] at hspec
  have hget:(ops.toList.map eQ).getD j []=eQ o:=by
   rw [List.getD_eq_getElem?_getD,List.getElem?_map,Array.getElem?_toList,ho];rfl
  rw [hget] at hspec
  rcases hspec with h1 | ⟨e,he,hej,h2⟩
  ·exact haft i h1
  ·have hel:=haft e he
   have hes:e<ops.size:=by have:=Array.getElem?_eq_some_iff.1 ho;obtain ⟨h3,_⟩:=this;omega
   have hoe:ops[e]? =some ops[e]:=Array.getElem?_eq_getElem hes
   exact ih e hej ops[e] hoe (hcl e _ hoe hel) i h2
theorem Bm{o:Oper}{listed:Array Bool} : (o.after.all fun e=>!Region.binds .any e||listed.getD e.on false)=true↔∀ e∈eQ o,listed.getD e false=true:=by
 rw [Array.all_eq_true_iff_forall_mem]
 constructor
 ·intro h e he
  obtain ⟨x,hx,rfl⟩:=List.mem_map.1 he
  obtain ⟨h1,h2⟩:=List.mem_filter.1 hx
  have:=h x (by simpa using h1)
  simpa [h2] using this
 ·intro h x hx
  by_cases hb:Region.binds .any x=true
  ·have:=h x.on (List.mem_map.2 ⟨x,List.mem_filter.2 ⟨by simpa using hx,hb⟩,rfl⟩)
   simp [this]
  ·simp [hb]
theorem mem_ready{ops:Array Oper}{listed:Array Bool}{i:Nat} : i∈Region.ready .any ops listed↔∃ o,ops[i]? =some o∧listed.getD i true=false∧∀ e∈eQ o,listed.getD e false=true:=by
 unfold Region.ready
 rw [List.mem_filter]
 constructor
 ·rintro ⟨h1,h2⟩
  have hi:i<ops.size:=by simpa using h1
  refine ⟨ops[i],Array.getElem?_eq_getElem hi,?_⟩
  simp only [Array.getElem?_eq_getElem hi,Option.map_some,Option.getD_some,Bool.and_eq_true,Bool.not_eq_true'] at h2
  exact ⟨h2.1,Bm.1 h2.2⟩
 ·rintro ⟨o,ho,h1,h2⟩
  have hi:i<ops.size:=(Array.getElem?_eq_some_iff.1 ho).1
  refine ⟨by simpa using hi,?_⟩
  simp only [ho,Option.map_some,Option.getD_some,Bool.and_eq_true,Bool.not_eq_true']
  exact ⟨h1,Bm.2 h2⟩
theorem Bn{listed:Array Bool}{n i:Nat}(hs:listed.size=n)(hi:i<n)(x y:Bool):listed.getD i x=listed.getD i y:=by
 have:i<listed.size:=by omega
 simp [this]
theorem ab.any{nt:Nat}{ops:Array Oper}{Q:Exit→Act→World→Prop}{gs:List aY}{t:St}(hR:ig C.P R)(hΩ:ei C.P Ω)(hnt:nt≤C.nt)
  (hds:uF C.P nt ops ops.toList gs=true) (hback:∀ i o,ops[i]? =some o→∀ e∈eQ o,e<i) (hpairs:EY (sC [] (ops.toList.map eQ)) gs ops.size=true) {mks:List Nat} (hmks:JP (sC [] (ops.toList.map eQ)) gs mks ops.size=true) (hrws:Nq (sC [] (ops.toList.map eQ)) gs ops.size=true) :
  ∀ (fuel:Nat)(listed:Array Bool)(s:St)(a:Act)(w:World)(σ:Sp),listed.size=ops.size→fuel=(ik ops.size listed).length→(∀ j o,ops[j]? =some o→listed.getD j false=true→∀ e∈eQ o,listed.getD e false=true)→
   ku R Ω C.E gs (ik ops.size listed) s t→ab C s a w σ→(∀ k p dd,k∈ik ops.size listed→gs[k]? =some p→p.lt=true→Dy p.p.o=true→p.p.d=some dd→gn C.E.dp s dd)→(∀ k p,k∈ik ops.size listed→gs[k]? =some p→p.lt=true→oJ p.p.o p.cs=true→∀ h∈p.vb,my C.E.dp s h)→
   (∀ a' w' σ',bn C w σ w' σ'→ab C t a' w' σ'→Q .normal a' w')→wpAny C.P .any ops Q fuel listed a w:=by
 have hremm:∀ listed i,i∈ik ops.size listed↔i<ops.size∧listed.getD i true=false:=by
  intro listed i;unfold ik;simp [List.mem_filter]
 have hready:∀ listed i,i∈Region.ready .any ops listed→i∈ik ops.size listed:=by
  intro listed i hi
  obtain ⟨o,ho,h1,_⟩:=mem_ready.1 hi
  exact (hremm _ _).2 ⟨(Array.getElem?_eq_some_iff.1 ho).1,h1⟩
 intro fuel
 induction fuel with
 | zero=>
  intro listed s a w σ hsz hfu hcl hg h hfr hfB hK
  have hrem:ik ops.size listed=[]:=List.eq_nil_of_length_eq_zero hfu.symm
  rw [hrem] at hg
  refine ⟨?_,hK a w σ (.refl _ _ _) (h.se hg)⟩
  apply List.eq_nil_iff_forall_not_mem.2
  intro i hi
  have:=hready _ _ hi
  rw [hrem] at this;cases this
 | succ fuel ih=>
  intro listed s a w σ hsz hfu hcl hg h hfr hfB hK
  refine ⟨fun hnil=>?_,fun i hi=>?_⟩
  ·exfalso
   cases hrem:ik ops.size listed with
   | nil=>rw [hrem] at hfu;simp at hfu
   | cons i0 rest=>
    have hi0:i0∈ik ops.size listed:=by rw [hrem];simp
    obtain ⟨h1,h2⟩:=(hremm _ _).1 hi0
    have hsorted:(ik ops.size listed).Pairwise (· < ·):=(List.pairwise_lt_range (n:=ops.size)).filter _
    have:i0∈Region.ready .any ops listed:=by
     refine mem_ready.2 ⟨ops[i0],Array.getElem?_eq_getElem h1,h2,fun e he=>?_⟩
     have hlt:=hback i0 _ (Array.getElem?_eq_getElem h1) e he
     apply Classical.byContradiction
     intro hne
     have hem:e∈ik ops.size listed:=(hremm _ _).2 ⟨by omega,by rw [Bn hsz (by omega) true false];simpa using hne⟩
     rw [hrem] at hem hsorted
     rcases List.mem_cons.1 hem with rfl | hem
     ·omega
     ·have:=(List.pairwise_cons.1 hsorted).1 e hem
      omega
    rw [hnil] at this;cases this
  ·obtain ⟨o,ho,hun,haft⟩:=mem_ready.1 hi
   have hin:i<ops.size:=(Array.getElem?_eq_some_iff.1 ho).1
   have hir:=hready _ _ hi
   obtain ⟨A,B,hAB⟩:=List.append_of_mem hir
   have hsorted:(ik ops.size listed).Pairwise (· < ·):=(List.pairwise_lt_range (n:=ops.size)).filter _
   have hnb:∀ k,k∈ik ops.size listed→((sC [] (ops.toList.map eQ)).getD i 0).testBit k=false:=by
    intro k hk
    cases hb:((sC [] (ops.toList.map eQ)).getD i 0).testBit k with
    | false=>rfl
    | true=>
     have:=F4 hback hcl i o ho haft k hb
     obtain ⟨h1,h2⟩:=(hremm _ _).1 hk
     rw [Bn hsz h1 true false,this] at h2;cases h2
   rw [hAB] at hsorted
   have hsp:=List.pairwise_append.1 hsorted
   have hA:∀ x∈A,F3 gs x i:=by
    intro x hx
    have hlt:x<i:=hsp.2.2 x hx i (by simp)
    have h1:=List.all_eq_true.1 (List.all_eq_true.1 hpairs i (by simpa using hin)) x (by simpa using hlt)
    rw [hnb x (by rw [hAB];simp [hx]),Bool.false_or] at h1
    unfold Hf at h1
    split at h1
    ·rename_i p q hp hq
     simp only [Bool.and_eq_true,Bool.or_eq_true] at h1
     refine ⟨p,q,hp,hq,?_⟩
     rcases h1 with (h1 | h1) | h1
     ·exact .inl ⟨h1.1.1,h1.1.2,h1.2⟩
     ·exact .inr (.inl h1)
     ·exact .inr (.inr h1)
    ·cases h1
   rw [hAB] at hg
   obtain ⟨p,s1,s2,hp,hse,hex,hgo⟩:=ku.front A s hA hg
   obtain ⟨hlen,hlow⟩:=vT hds
   obtain ⟨hlg,hlk⟩:=hlow i o p (by simpa using ho) hp
   have hnd:i∉A∧i∉B:=by
    refine ⟨fun hm=>?_,fun hm=>?_⟩
    ·have:=hsp.2.2 i hm i (by simp);omega
    ·have:=(List.pairwise_cons.1 hsp.2.1).1 i hm;omega
   have hrem':ik ops.size (listed.setIfInBounds i true)=A++B:=by
    have hget:∀ j,j<ops.size→(listed.setIfInBounds i true).getD j true=(if i=j then true else listed.getD j true):=by
     intro j hj
     have hjs:j<listed.size:=by omega
     by_cases hij:i=j
     ·subst hij;simp [hjs]
     ·simp [Array.getElem?_setIfInBounds,hij]
    have e1:ik ops.size (listed.setIfInBounds i true)=(ik ops.size listed).filter (fun j=>j !=i):=by
     unfold ik
     rw [List.filter_filter]
     apply List.filter_congr
     intro j hj
     rw [hget j (by simpa using hj)]
     by_cases hij:i=j
     ·subst hij;simp
     ·have:(j !=i)=true:=by simpa using fun e=>hij e.symm
      simp [hij,this]
    rw [e1,hAB,List.filter_append,List.filter_cons]
    have f1:A.filter (fun j=>j !=i)=A:=List.filter_eq_self.2 fun x hx=>by
     have:x≠i:=fun e=>hnd.1 (e▸hx)
     simpa using this
    have f2:B.filter (fun j=>j !=i)=B:=List.filter_eq_self.2 fun x hx=>by
     have:x≠i:=fun e=>hnd.2 (e▸hx)
     simpa using this
    rw [f1,f2]
    simp
   have hmk:∀ k p' dd,k∈A++B→gs[k]? =some p'→p'.lt=true→Dy p'.p.o=true→p'.p.d=some dd→gn C.E.dp s dd∧((p.lt=true∧dd∈p.nk)∨DB p dd=true):=by
    intro k p' dd hk hp' hlt hm hdd
    have hkr:k∈ik ops.size listed:=by
     rw [hAB]
     rcases List.mem_append.1 hk with h1 | h1
     ·exact List.mem_append_left _ h1
     ·exact List.mem_append_right _ (List.mem_cons_of_mem _ h1)
    refine ⟨hfr k p' dd hkr hp' hlt hm hdd,?_⟩
    have hki:k≠i:=fun e=>by
     rw [e] at hk
     rcases List.mem_append.1 hk with h1 | h1
     ·exact hnd.1 h1
     ·exact hnd.2 h1
    have h1:=List.all_eq_true.1 hmks k (by simpa using ((hremm _ _).1 hkr).1)
    simp only [hp',hlt,hm,hdd,Bool.not_true,Bool.false_or,Bool.and_eq_true] at h1
    have h2:=List.all_eq_true.1 h1.2 i (by simpa using hin)
    have e1:(i==k)=false:=by simpa using fun e=>hki (Eq.symm e)
    simp only [e1,hnb k hkr,hp,Bool.false_or,Bool.and_eq_true,Bool.or_eq_true] at h2
    exact h2.imp (fun h2=>⟨h2.1,by simpa using h2.2⟩) id
   have hrw:∀ k p',k∈A++B→gs[k]? =some p'→p'.lt=true→oJ p'.p.o p'.cs=true→∀ hh∈p'.vb,my C.E.dp s hh∧(p.lt=true∧hh∈p.nb):=by
    intro k p' hk hp' hlt hm hh hhm
    have hkr:k∈ik ops.size listed:=by
     rw [hAB]
     rcases List.mem_append.1 hk with h1 | h1
     ·exact List.mem_append_left _ h1
     ·exact List.mem_append_right _ (List.mem_cons_of_mem _ h1)
    refine ⟨hfB k p' hkr hp' hlt hm hh hhm,?_⟩
    have hki:k≠i:=fun e=>by
     rw [e] at hk
     rcases List.mem_append.1 hk with h1 | h1
     ·exact hnd.1 h1
     ·exact hnd.2 h1
    have h1:=List.all_eq_true.1 hrws k (by simpa using ((hremm _ _).1 hkr).1)
    simp only [hp',hlt,hm,Bool.not_true,Bool.false_or] at h1
    have h2:=List.all_eq_true.1 (List.all_eq_true.1 h1 hh hhm) i (by simpa using hin)
    have e1:(i==k)=false:=by simpa using fun e=>hki (Eq.symm e)
    simp only [e1,hnb k hkr,hp,Bool.false_or,Bool.and_eq_true] at h2
    exact ⟨h2.1,by simpa using h2.2⟩
   have hsz':(listed.setIfInBounds i true).size=ops.size:=by simpa using hsz
   have hcl':∀ j o',ops[j]? =some o'→(listed.setIfInBounds i true).getD j false=true→∀ e∈eQ o',(listed.setIfInBounds i true).getD e false=true:=by
    have hmono:∀ e,listed.getD e false=true→(listed.setIfInBounds i true).getD e false=true:=by
     intro e he
     simp only [Array.getD_eq_getD_getElem?,Array.getElem?_setIfInBounds] at he ⊢
     split
     ·split
      ·rfl
      ·rename_i h3 h4
       subst h3
       rw [Array.getElem?_eq_none (by omega)] at he;cases he
     ·exact he
    intro j o' hj hl e he
    by_cases hij:i=j
    ·subst hij
     obtain rfl:o=o':=by rw [ho] at hj;exact Option.some.inj hj
     exact hmono e (haft e he)
    ·have:listed.getD j false=true:=by
      simpa [Array.getD_eq_getD_getElem?,Array.getElem?_setIfInBounds,hij] using hl
     exact hmono e (hcl j o' hj this e he)
   have hfu':fuel=(ik ops.size (listed.setIfInBounds i true)).length:=by
    rw [hrem']
    rw [hAB] at hfu
    simp only [List.length_append,List.length_cons] at hfu ⊢
    omega
   have h1:=h.se hse
   by_cases hlt:p.lt=true
   ·simp only [bT,if_pos hlt] at hex
    obtain ⟨q,hq,he2⟩:=Option.bind_eq_some_iff.1 hex
    obtain rfl:=Option.some.inj he2
    refine h1.QW hR hΩ ho hlg hnt (hlk hlt) (fun hm dd hdd=>(hfr i p dd hir hp hlt hm hdd).se hse) (fun hm hh hhm=>(hfB i p hir hp hlt hm hh hhm).se hse) hq fun a' w' σ' hs' hc'=>?_
    refine ih _ _ a' w' σ' hsz' hfu' hcl' (by rw [hrem'];exact hgo) hc' (fun k p' dd hk hp' hl' hm hdd=>?_) (fun k p' hk hp' hl' hm hh hhm=>?_) fun a'' w'' σ'' hs'' hc''=>hK a'' w'' σ'' (hs'.trans hs'') hc''
    ·rw [hrem'] at hk
     obtain ⟨h3,⟨_,h4⟩ | h4⟩:=hmk k p' dd hk hp' hl' hm hdd
     ·exact (h3.se hse).step (xZ hlg hnt).1 (hlk hlt) h4 hq
     ·exfalso
      unfold DB at h4
      split at h4
      ·rw [hlt] at h4;simp at h4
      ·cases h4
    ·rw [hrem'] at hk
     obtain ⟨h3,_,h4⟩:=hrw k p' hk hp' hl' hm hh hhm
     exact (h3.se hse).step h4 hq
   ·have hex0:=hex
    simp only [bT,if_neg hlt] at hex
    refine h1.JJ hR hΩ ho hlg hnt hex fun a' w' σ' hs' hc'=>?_
    refine ih _ _ a' w' σ' hsz' hfu' hcl' (by rw [hrem'];exact hgo) hc' (fun k p' dd hk hp' hl' hm hdd=>?_) (fun k p' hk hp' hl' hm hh hhm=>?_) fun a'' w'' σ'' hs'' hc''=>hK a'' w'' σ'' (hs'.trans hs'') hc''
    ·rw [hrem'] at hk
     obtain ⟨h3,h4 | h4⟩:=hmk k p' dd hk hp' hl' hm hdd
     ·exact absurd h4.1 hlt
     ·exact (h3.se hse).QX h4 hex0
    ·rw [hrem'] at hk
     exact absurd (hrw k p' hk hp' hl' hm hh hhm).2.1 hlt
theorem ab.DC{nt:Nat}{ops:Array Oper}{Q:Exit→Act→World→Prop}{mks:List Nat}{gs:List aY}{st':St}(hR:ig C.P R)(hΩ:ei C.P Ω)(hnt:nt≤C.nt)(hl:zx C.P nt ops mks gs=true)(h:ab C st a w σ)
  (hm:(mks.all (ob C.E.dp st)&&gs.all (kx C.E.dp st))=true) (he:im R Ω C.E st gs=some st') (hK:∀ a' w' σ',bn C w σ w' σ'→ab C st' a' w' σ'→Q .normal a' w'):C.P.follows .mixedOrders=true∧wpAny C.P .any ops Q ops.size (Array.replicate ops.size false) a {w with drawn:=w.drawn+1}:=by
 simp only [zx,Bool.and_eq_true] at hl
 obtain ⟨⟨⟨⟨⟨hfol,hds⟩,hback⟩,hpairs⟩,hmks⟩,hrws⟩:=hl
 obtain ⟨hm,hfb⟩:=Bool.and_eq_true_iff.1 hm
 have hback':∀ i o,ops[i]? =some o→∀ e∈eQ o,e<i:=by
  intro i o ho e he
  have h1:=List.all_eq_true.1 hback i (by simpa using (Array.getElem?_eq_some_iff.1 ho).1)
  simp only [ho] at h1
  simpa using List.all_eq_true.1 h1 e he
 have hrem:ik ops.size (Array.replicate ops.size false)=List.range ops.size:=by
  unfold ik
  apply List.filter_eq_self.2
  intro i hi
  have:i<ops.size:=by simpa using hi
  simp [this]
 obtain ⟨hlen,_⟩:=vT hds
 have hd:ab C st a {w with drawn:=w.drawn+1} σ:=h.drew
 refine ⟨hfol,ab.any hR hΩ hnt hds hback' hpairs hmks hrws ops.size _ st a _ σ (by simp) (by rw [hrem];simp) (fun j o ho hl=>?_) ?_ hd (fun k p dd hk hp hlt hmk hdd=>?_) (fun k p hk hp hlt hmk hh hhm=>?_) fun a' w' σ' hs hc=>hK a' w' σ' (bn.drew (w:=w) hs) hc⟩
 ·exfalso
  by_cases hj:j<ops.size<;>simp [hj] at hl
 ·rw [hrem]
  have:=ku.text (R:=R) (Ω:=Ω) (E:=C.E) gs 0 st st' rfl he
  have hl2:gs.length=ops.size:=by simpa using hlen.symm
  rwa [hl2,←List.range_eq_range'] at this
 ·have h1:=List.all_eq_true.1 hmks k (by rw [hrem] at hk;exact hk)
  simp only [hp,hlt,hmk,hdd,Bool.not_true,Bool.false_or,Bool.and_eq_true] at h1
  exact gn.of (List.all_eq_true.1 hm dd (by simpa using h1.1))
 ·have h1:=List.all_eq_true.1 hfb p (List.mem_of_getElem? hp)
  simp only [kx,hmk,Bool.not_true,Bool.false_or] at h1
  intro d
  have h2:=List.all_eq_true.1 h1 hh hhm
  have:=e5 (p:=fun y=>!jC ⟨C.E.dp,hh⟩ y) rfl _ h2 d
  simpa using this
theorem ab.drawn{nt id:Nat}{ops:Array Oper}{Q:Exit→Act→World→Prop}{mks:List Nat}{gs:List aY}{st':St}(hR:ig C.P R)(hΩ:ei C.P Ω)(hnt:nt≤C.nt)(hl:zx C.P nt ops mks gs=true)(h:ab C st a w σ)
  (hm:(mks.all (ob C.E.dp st)&&gs.all (kx C.E.dp st))=true) (he:im R Ω C.E st gs=some st') (hK:∀ a' w' σ',bn C w σ w' σ'→ab C st' a' w' σ'→Q .normal a' w'):(Code.region id ops true).wp C.P Q a w:=by
 obtain ⟨h1,h2⟩:=h.DC hR hΩ hnt hl hm he hK
 exact wp_region_any h1 h2
end
end Go.Proofs.Ytkkkkondjclcnaa.A
