/- Regions whose order is drawn: whatever the order, what the order of the text gives. -/
import Derived.Test.YtdpjofmmokaobaaGreatAbsH
import Derived.Orders
set_option linter.unusedSectionVars false
set_option linter.unusedVariables false
set_option linter.unusedSimpArgs false
set_option linter.constructorNameAsVariable false
namespace Go.Proofs.YtdpjofmmokaobaaGreat.A
open Go
variable [bE]
structure Se(s s':St):Prop where
 fr:∀ d,ax s.fr d=ax s'.fr d
 bx:∀ d,ay s.bx d=ay s'.bx d
 hp:s.hp=s'.hp
 mem:∀ y,y∈s.fr↔y∈s'.fr
theorem Se.refl(s:St):Se s s:=⟨fun _=>rfl,fun _=>rfl,rfl,fun _=>Iff.rfl⟩
theorem Se.symm{s s':St}(h:Se s s'):Se s' s:=⟨fun d=>(h.fr d).symm,fun d=>(h.bx d).symm,h.hp.symm,fun y=>(h.mem y).symm⟩
theorem Se.trans{s s' s'':St}(h:Se s s')(h':Se s' s''):Se s s'':=⟨fun d=>(h.fr d).trans (h'.fr d),fun d=>(h.bx d).trans (h'.bx d),h.hp.trans h'.hp,fun y=>(h.mem y).trans (h'.mem y)⟩
theorem Se.box{s s':St}(h:Se s s')(dp:Nat)(k:Key):s.box dp k=s'.box dp k:=by
 simp only [St.box,h.bx,h.hp]
theorem an.se{C:Cx}{s s':St}{a:Act}{w:World}{σ:Sp}(h:an C s a w σ)(hs:Se s s'):an C s' a w σ:=
 h.xM (fun d=>.inr (hs.fr d).symm) (fun k cs hk=>by rw [hs.box];exact hk) (fun _ _ _ h=>by rw [hs.hp];exact h)
def cL{α:Type}(l:List (Nat×α)):List Nat:=l.map (·.1)
theorem gn(l r:List (Nat×AV))(d:Nat):ax (l++r) d=if d∈cL l then ax l d else ax r d:=by
 induction l with
 | nil=>simp [cL]
 | cons x l ih=>
  obtain ⟨k,y⟩:=x
  simp only [List.cons_append,ax,cL,List.map_cons,List.mem_cons]
  by_cases h:k=d
  ·subst h;simp
  ·have h':¬d=k:=fun e=>h e.symm
   simp only [if_neg h,h',false_or]
   exact ih
theorem mc(l r:List (Nat×List AV))(d:Nat):ay (l++r) d=if d∈cL l then ay l d else ay r d:=by
 induction l with
 | nil=>simp [cL]
 | cons x l ih=>
  obtain ⟨k,y⟩:=x
  simp only [List.cons_append,ay,cL,List.map_cons,List.mem_cons]
  by_cases h:k=d
  ·subst h;simp
  ·have h':¬d=k:=fun e=>h e.symm
   simp only [if_neg h,h',false_or]
   exact ih
theorem oo(bx wb:List (Nat×List AV))(d:Nat):ay (nO bx wb) d=match ay wb d with
  | some cs=>(ay bx d).map fun _=>cs
  | none=>ay bx d:=by
 induction wb with
 | nil=>rfl
 | cons x wb ih=>
  obtain ⟨k,y⟩:=x
  simp only [nO,si,ay]
  by_cases h:k=d
  ·subst h
   simp only [if_true,ih]
   cases ay wb k with
   | none=>rfl
   | some cs=>cases ay bx k<;>rfl
  ·rw [if_neg h,if_neg (fun e=>h e.symm),ih]
theorem nJ{l:List (Nat×List AV)}{d:Nat}(h:d∉cL l):ay l d=none:=by
 induction l with
 | nil=>rfl
 | cons x l ih=>
  obtain ⟨k,y⟩:=x
  simp only [cL,List.map_cons,List.mem_cons,not_or] at h
  simp only [ay,if_neg (fun e=>h.1 (Eq.symm e))]
  exact ih h.2
theorem Se.app{s s':St}(q:bu)(h:Se s s'):Se (q.app s) (q.app s'):=by
 refine ⟨fun d=>?_,fun d=>?_,?_,fun y=>by simp only [bu.app,List.mem_append,h.mem y]⟩
 ·simp only [bu.app,gn,h.fr]
 ·simp only [bu.app,mc,oo,h.bx]
 ·simp only [bu.app,h.hp]
structure Nv(q q':bu):Prop where
 fr:∀ d,d∈cL q.fr→d∉cL q'.fr
 nn:∀ d,d∈cL q.nb→d∉cL q'.nb
 nw:∀ d,d∈cL q.nb→d∉cL q'.wb
 wn:∀ d,d∈cL q.wb→d∉cL q'.nb
 ww:∀ d,d∈cL q.wb→d∉cL q'.wb
 hp:q.hp=none∨q'.hp=none
theorem Mt{q q':bu}(h:Nv q q')(s:St):Se (q.app (q'.app s)) (q'.app (q.app s)):=by
 refine ⟨fun d=>?_,fun d=>?_,?_,fun y=>by simp only [bu.app,List.mem_append];constructor<;>rintro (h | h | h)<;>simp [h]⟩
 ·simp only [bu.app,gn]
  by_cases h1:d∈cL q.fr
  ·simp [h1,h.fr d h1]
  ·simp [h1]
 ·simp only [bu.app,mc,oo]
  by_cases h1:d∈cL q.nb
  ·have h2:=nJ (h.nw d h1)
   simp [h1,h.nn d h1,h2]
  ·by_cases h3:d∈cL q'.nb
   ·have h4:ay q.wb d=none:=nJ fun h5=>h.wn d h5 h3
    simp [h1,h3,h4]
   ·simp only [if_neg h1,if_neg h3]
    by_cases h5:d∈cL q.wb
    ·have:=nJ (h.ww d h5)
     rw [this]
    ·rw [nJ h5]
 ·simp only [bu.app]
  rcases h.hp with e | e<;>rw [e]<;>cases q.hp<;>cases q'.hp<;>first | rfl | cases e
def pX:mr→Bool
 | .st _ _ _=>true
 | _=>false
def kg(p:bM):Bool:=match p.p.o with
 | .ap _ _ _ _ _=>p.cs.length==2
 | _=>false
def fI(p:bM):Bool:=pX p.p.o||kg p
def oY:mr→Bool
 | .al _=>true
 | .ck _ _=>true
 | _=>false
def nK(d:Option Nat):List Nat:=match d with
 | some d=>[d]
 | none=>[]
def SZ(p:bM):List Nat:=match p.p.g with
 | some (j,_)=>[j]
 | none=>[]
def wQ(p:bM):List Nat:=nK p.p.d++p.cs
def Nw(p:bM):List Nat:=SZ p++p.vw
def HX(p:bM):List Nat:=(if oY p.p.o=true then nK p.p.d else [])++(if fI p=true then p.vb else [])
def sJ(l m:List Nat):Bool:=l.all fun x=>!m.contains x
def vm(p q:bM):Bool:=sJ (wQ p) (Nw q)&&sJ (wQ q) (Nw p)&&sJ (wQ p) (wQ q)&&sJ (HX p) q.vb&&sJ (HX q) p.vb&&sJ (HX p) (HX q)&&!((fI p||fI q)&&p.vh&&q.vh)
theorem jP{l m:List Nat}(h:sJ l m=true){x:Nat}(hx:x∈l):x∉m:=by
 have:=List.all_eq_true.1 h x hx
 simpa using this
theorem vn(bx:List (Nat×List AV))(ks:List Nat){d:Nat}(h:d∈cL (cp bx ks)):d∈ks:=by
 induction ks with
 | nil=>simp [cp,cL] at h
 | cons k ks ih=>
  simp only [cp] at h
  split at h
  ·simp only [cL,List.map_cons,List.mem_cons] at h
   rcases h with rfl | h
   ·simp
   ·exact List.mem_cons_of_mem _ (ih h)
  ·exact List.mem_cons_of_mem _ (ih h)
section
variable {R:Rec}{Ω:cD}{E:Env}
structure Small(p:bM)(q:bu):Prop where
 fr:∀ d,d∈cL q.fr→d∈wQ p
 nb:∀ d,d∈cL q.nb→oY p.p.o=true∧d∈nK p.p.d
 wb:∀ d,d∈cL q.wb→fI p=true∧d∈p.vb
 hp:q.hp≠none→fI p=true∧p.vh=true
theorem xT{p:bM}{fr:List (Nat×AV)}(h:∀ d,d∈cL fr→d∈wQ p):Small p ⟨fr,[],[],none⟩:=
 ⟨h,fun d hd=>by simp [cL] at hd,fun d hd=>by simp [cL] at hd,fun h=>absurd rfl h⟩
theorem xU(d:Option Nat)(x:AV):cL (gv d x)=nK d:=by cases d<;>rfl
theorem Gq(p:bM)(r:AV×St):Small p (effect p r):=by
 have hgen:Small p ⟨gv p.p.d (dX p.p.fz r.1)++p.cs.map (fun m=>(m,.u)),[],[],none⟩:=xT fun d hd=>by
  simp only [cL,List.map_append,List.map_map] at hd
  rcases List.mem_append.1 hd with hd | hd
  ·have:d∈cL (gv p.p.d (dX p.p.fz r.1)):=hd
   rw [xU] at this
   exact List.mem_append_left _ this
  ·obtain ⟨m,hm,rfl⟩:=List.mem_map.1 hd
   exact List.mem_append_right _ hm
 unfold effect
 split
 ·rename_i zs ho
  split
  ·rename_i dd hd
   refine ⟨fun d h=>?_,fun d h=>⟨by rw [ho];rfl,?_⟩,fun d h=>by simp [cL] at h,fun h=>absurd rfl h⟩
   ·simp only [cL,List.map_cons,List.map_nil,List.mem_singleton] at h
    subst h;unfold wQ;rw [hd];simp [nK]
   ·simp only [cL,List.map_cons,List.map_nil,List.mem_singleton] at h
    subst h;rw [hd];simp [nK]
  ·exact xT fun d h=>by simp [cL] at h
 ·rename_i ho
  split
  ·rename_i dd hd
   refine ⟨fun d h=>?_,fun d h=>⟨by rw [ho];rfl,?_⟩,fun d h=>by simp [cL] at h,fun h=>absurd rfl h⟩
   ·simp only [cL,List.map_cons,List.map_nil,List.mem_singleton] at h
    subst h;unfold wQ;rw [hd];simp [nK]
   ·split at h
    ·simp only [cL,List.map_cons,List.map_nil,List.mem_singleton] at h
     subst h;rw [hd];simp [nK]
    ·simp [cL] at h
  ·exact xT fun d h=>by simp [cL] at h
 ·rename_i ho
  refine ⟨fun d h=>?_,fun d h=>by simp [cL] at h,fun d h=>⟨by simp [fI,ho,pX],vn _ _ h⟩,fun h=>⟨by simp [fI,ho,pX],?_⟩⟩
  ·simp only [cL,List.map_map] at h
   obtain ⟨m,hm,rfl⟩:=List.mem_map.1 h
   exact List.mem_append_right _ hm
  by_cases hv:p.vh=true
  ·exact hv
  ·simp [hv] at h
 ·rename_i ho
  by_cases h2:(p.cs.length==2)=true
  ·have hw:fI p=true:=by simp only [fI,kg,ho,h2,Bool.or_true]
   rw [if_pos h2]
   refine ⟨hgen.fr,fun d h=>by simp [cL] at h,fun d h=>⟨hw,vn _ _ h⟩,fun h=>⟨hw,?_⟩⟩
   by_cases hv:p.vh=true
   ·exact hv
   ·simp [hv] at h
  ·simp only [h2,Bool.false_and,Bool.false_eq_true,if_false]
   exact hgen
 ·exact hgen
theorem rP{p:bM}{s:St}{q:bu}(h:cF R Ω E p s=some q):Small p q:=by
 have hcore:∀ v q,iJ R Ω E p v=some q→Small p q:=by
  intro v q hq
  unfold iJ at hq
  split at hq
  ·obtain ⟨r,_,h2⟩:=Option.bind_eq_some_iff.1 hq
   split at h2
   ·obtain rfl:=Option.some.inj h2
    exact Gq p r
   ·cases h2
  ·cases hq
 unfold cF at h
 split at h
 ·exact hcore _ _ h
 ·obtain ⟨y,_,h2⟩:=Option.bind_eq_some_iff.1 h
  split at h2
  ·exact hcore _ _ h2
  ·obtain rfl:=Option.some.inj h2
   exact xT fun d hd=>by rw [xU] at hd;exact List.mem_append_left _ hd
theorem Ap{fr fr':List (Nat×AV)}{ks:List Nat}(h:∀ d∈ks,ax fr d=ax fr' d):iI fr ks=iI fr' ks:=
 List.map_congr_left fun d hd=>by rw [h d hd]
theorem Hi{bx bx':List (Nat×List AV)}{ks:List Nat}(h:∀ d∈ks,ay bx d=ay bx' d):cp bx ks=cp bx' ks:=by
 induction ks with
 | nil=>rfl
 | cons k ks ih=>
  simp only [cp,h k (by simp),ih fun d hd=>h d (by simp [hd])]
structure Gr(p:bM)(s s':St):Prop where
 fr:∀ d∈Nw p,ax s.fr d=ax s'.fr d
 bx:∀ d∈p.vb,ay s.bx d=ay s'.bx d
 hp:p.vh=true→s.hp=s'.hp
theorem Gr.patch{p:bM}{s s':St}(h:Gr p s s'):cF R Ω E p s=cF R Ω E p s':=by
 have hv:view p s=view p s':=by
  unfold view
  rw [Ap fun d hd=>h.fr d (List.mem_append_right _ hd),Hi h.bx]
  by_cases hh:p.vh=true
  ·simp only [hh,if_true,h.hp hh]
  ·simp only [if_neg hh]
 unfold cF
 rw [hv]
 split
 ·rfl
 ·rename_i j want hg
  rw [h.fr j (List.mem_append_left _ (by unfold SZ;rw [hg];simp))]
theorem Se.Gs{p:bM}{s s':St}(h:Se s s'):Gr p s s':=⟨fun d _=>h.fr d,fun d _=>h.bx d,fun _=>h.hp⟩
theorem Gt{p p':bM}{q:bu}{s:St}(hq:Small p q)(hc:vm p p'=true):Gr p' (q.app s) s:=by
 simp only [vm,Bool.and_eq_true,Bool.not_eq_true'] at hc
 obtain ⟨⟨⟨⟨⟨⟨c1,c2⟩,c3⟩,c4⟩,c5⟩,c6⟩,c7⟩:=hc
 refine ⟨fun d hd=>?_,fun d hd=>?_,fun hh=>?_⟩
 ·simp only [bu.app,gn]
  rw [if_neg]
  intro hm
  exact jP c1 (hq.fr d hm) hd
 ·simp only [bu.app,mc,oo]
  have hnb:d∉cL q.nb:=fun hm=>by
   obtain ⟨h1,h2⟩:=hq.nb d hm
   exact jP c4 (List.mem_append_left _ (by rw [if_pos h1];exact h2)) hd
  have hwb:d∉cL q.wb:=fun hm=>by
   obtain ⟨h1,h2⟩:=hq.wb d hm
   exact jP c4 (List.mem_append_right _ (by rw [if_pos h1];exact h2)) hd
  rw [if_neg hnb,nJ hwb]
 ·simp only [bu.app]
  cases hp:q.hp with
  | none=>rfl
  | some x=>
   obtain ⟨h1,h2⟩:=hq.hp (by rw [hp];simp)
   rw [h1,h2,hh] at c7
   simp at c7
theorem Mu{p p':bM}{q q':bu}(hq:Small p q)(hq':Small p' q')(hc:vm p p'=true):Nv q q':=by
 simp only [vm,Bool.and_eq_true,Bool.not_eq_true'] at hc
 obtain ⟨⟨⟨⟨⟨⟨c1,c2⟩,c3⟩,c4⟩,c5⟩,c6⟩,c7⟩:=hc
 have m1:∀ {p:bM}{q:bu}{d},Small p q→d∈cL q.nb→d∈HX p:=fun hq h=>by
  obtain ⟨h1,h2⟩:=hq.nb _ h
  exact List.mem_append_left _ (by rw [if_pos h1];exact h2)
 have m2:∀ {p:bM}{q:bu}{d},Small p q→d∈cL q.wb→d∈HX p:=fun hq h=>by
  obtain ⟨h1,h2⟩:=hq.wb _ h
  exact List.mem_append_right _ (by rw [if_pos h1];exact h2)
 refine ⟨fun d h h'=>jP c3 (hq.fr d h) (hq'.fr d h'),fun d h h'=>jP c6 (m1 hq h) (m1 hq' h'),fun d h h'=>jP c6 (m1 hq h) (m2 hq' h'),fun d h h'=>jP c6 (m2 hq h) (m1 hq' h'),fun d h h'=>jP c6 (m2 hq h) (m2 hq' h'),?_⟩
 cases h1:q.hp with
 | none=>exact .inl rfl
 | some x=>
  cases h2:q'.hp with
  | none=>exact .inr rfl
  | some y=>
   obtain ⟨h3,h4⟩:=hq.hp (by rw [h1];simp)
   obtain ⟨h5,h6⟩:=hq'.hp (by rw [h2];simp)
   rw [h3,h4,h6] at c7
   simp at c7
def mq(R:Rec)(Ω:cD)(E:Env)(gs:List bM):List Nat→St→St→Prop
 | [],s,t=>Se s t
 | i::π,s,t=>∃ p s1 s2,gs[i]? =some p∧Se s s1∧cG R Ω E s1 p=some s2∧mq R Ω E gs π s2 t
variable {gs:List bM}
theorem mq.se{π:List Nat}{s s' t:St}(h:mq R Ω E gs π s' t)(hs:Se s s'):mq R Ω E gs π s t:=by
 cases π with
 | nil=>exact Se.trans hs h
 | cons i π=>
  obtain ⟨p,s1,s2,h1,h2,h3,h4⟩:=h
  exact ⟨p,s1,s2,h1,hs.trans h2,h3,h4⟩
theorem mq.text:∀ (ps:List bM)(i:Nat)(s t:St),gs.drop i=ps→nP R Ω E s ps=some t→mq R Ω E gs (List.range' i ps.length) s t
 | [],i,s,t,_,he=>by
  obtain rfl:=Option.some.inj he
  exact Se.refl _
 | p::ps,i,s,t,hi,he=>by
  obtain ⟨s2,h1,h2⟩:=Option.bind_eq_some_iff.1 he
  rw [List.length_cons,List.range'_succ]
  refine ⟨p,s,s2,?_,Se.refl _,h1,mq.text ps (i+1) s2 t ?_ h2⟩
  ·have:(gs.drop i)[0]? =some p:=by rw [hi];rfl
   simpa using this
  ·rw [←List.drop_drop,hi];rfl
def I6(xs:List a8):List Nat:=xs.flatMap fun x=>match x with
 | .t n=>[n]
 | .c _=>[]
def DI(sl dl:List Nat):mr→Bool
 | .lk _ (.t _) (.t b) lv=>sl.contains b&&(!lv||dl.contains b)
 | _=>false
def I7:mr→Bool
 | .ln false (.t _)=>true
 | _=>false
def DJ(ow:List Nat)(q:bM):Bool:=match q.p.o with
 | .al zs=>AV.bK zs&&!q.vh&&(match q.p.d with
  | some d=>ow.contains d&&q.vb==[d]
  | none=>false)
 | _=>false
def tr(p q:bM):Bool:=match p.p.o with
 | .ch _ args sl dl ow=>!p.lt&&q.lt&&p.p.g.isNone&&q.p.g.isNone&&!fI q&&sJ (wQ q) (I6 args++(sl++dl))&&sJ (nK p.p.d) (wQ q++q.vw)&&(q.nb.contains 1000000||DI sl dl q.p.o)&&(DJ ow q||DI sl dl q.p.o||I7 q.p.o||(!oY q.p.o&&q.vb.isEmpty&&!q.vh))
 | _=>false
structure eI(p q:bM)(f:FuncId)(args:List a8)(sl dl ow:List Nat):Prop where
 o:p.p.o= .ch f args sl dl ow
 pl:p.lt=false
 ql:q.lt=true
 pg:p.p.g=none
 qg:q.p.g=none
 nw:fI q=false
 wr:∀ d,d∈wQ q→d∉I6 args∧d∉sl∧d∉dl
 ds:∀ d,p.p.d=some d→d∉wQ q∧d∉q.vw
 nb:(1000000:Nat)∈q.nb∨DI sl dl q.p.o=true
 kd:DJ ow q=true∨DI sl dl q.p.o=true∨I7 q.p.o=true∨(oY q.p.o=false∧q.vb=[]∧q.vh=false)
theorem Ea{p q:bM}(h:tr p q=true):∃ f args sl dl ow,eI p q f args sl dl ow:=by
 unfold tr at h
 split at h
 ·rename_i f args sl dl ow ho
  simp only [Bool.and_eq_true,Bool.not_eq_true',Option.isNone_iff_eq_none,Bool.or_eq_true] at h
  obtain ⟨⟨⟨⟨⟨⟨⟨⟨h1,h2⟩,h3⟩,h4⟩,h5⟩,h6⟩,h7⟩,h8⟩,h9⟩:=h
  refine ⟨f,args,sl,dl,ow,ho,h1,h2,h3,h4,h5,fun d hd=>?_,fun d hd=>?_,h8.imp (fun h=>by simpa using h) id,?_⟩
  ·have:=jP h6 hd
   exact ⟨fun hm=>this (List.mem_append_left _ hm),fun hm=>this (List.mem_append_right _ (List.mem_append_left _ hm)),fun hm=>this (List.mem_append_right _ (List.mem_append_right _ hm))⟩
  ·have:d∈nK p.p.d:=by rw [hd];simp [nK]
   have:=jP h7 this
   exact ⟨fun hm=>this (List.mem_append_left _ hm),fun hm=>this (List.mem_append_right _ hm)⟩
  ·rcases h9 with ((h9 | h9) | h9) | h9
   ·exact .inl h9
   ·exact .inr (.inl h9)
   ·exact .inr (.inr (.inl h9))
   ·exact .inr (.inr (.inr ⟨h9.1.1,by simpa using h9.1.2,h9.2⟩))
 ·cases h
theorem Ct{ow:List Nat}{q:bM}(h:DJ ow q=true):∃ zs d,q.p.o= .al zs∧q.p.d=some d∧AV.bK zs=true∧d∈ow∧q.vb=[d]∧q.vh=false:=by
 unfold DJ at h
 split at h
 ·rename_i zs ho
  simp only [Bool.and_eq_true,Bool.not_eq_true'] at h
  obtain ⟨⟨h1,h2⟩,h3⟩:=h
  split at h3
  ·rename_i d hd
   simp only [Bool.and_eq_true,beq_iff_eq] at h3
   exact ⟨zs,d,ho,hd,h1,by simpa using h3.1,h3.2,h2⟩
  ·cases h3
 ·cases h
theorem I8{sl dl:List Nat}{o:mr}(h:DI sl dl o=true):∃ n m b lv,o= .lk n (.t m) (.t b) lv∧b∈sl∧(lv=true→b∈dl):=by
 unfold DI at h
 split at h
 ·rename_i n m b lv
  simp only [Bool.and_eq_true,Bool.or_eq_true,Bool.not_eq_true'] at h
  refine ⟨n,m,b,lv,rfl,by simpa using h.1,fun hl=>?_⟩
  rcases h.2 with h' | h'
  ·rw [hl] at h';cases h'
  ·simpa using h'
 ·cases h
theorem Nx{o:mr}(h:I7 o=true):∃ m,o= .ln false (.t m):=by
 unfold I7 at h
 split at h
 ·exact ⟨_,rfl⟩
 ·cases h
theorem eI.S0{p q:bM}{f:FuncId}{args:List a8}{sl dl ow:List Nat}(hb:eI p q f args sl dl ow)(ha:oY q.p.o=true):DJ ow q=true:=by
 rcases hb.kd with h | h | h | h
 ·exact h
 ·obtain ⟨n,m,b,lv,e,_⟩:=I8 h
  rw [e] at ha;cases ha
 ·obtain ⟨m,e⟩:=Nx h
  rw [e] at ha;cases ha
 ·rw [h.1] at ha;cases ha
theorem Ot{z:Bool}{x:AV}{hid:Key→Bool}(h:jq hid x=false):jq hid (dX z x)=false:=by
 cases z with
 | false=>exact h
 | true=>cases x<;>first | exact h | rfl
theorem Ks{hid:Key→Bool}{x:AV}(h:mZ x=false):jq hid x=false:=by
 cases x with
 | r pl=>cases pl<;>first | rfl | cases h
 | v pl lo len=>cases pl<;>first | rfl | cases h
 | q pl i sz off=>cases pl<;>first | rfl | cases h
 | _=>rfl
theorem Kt{hid:Key→Bool}{x:AV}(h:x.copy=true):jq hid x=false:=by
 cases x<;>first | rfl | cases h
theorem Mv{fr:List (Nat×AV)}{d:Nat}(h:ax fr d≠.u):∃ y∈fr,y.2=ax fr d:=by
 induction fr with
 | nil=>exact absurd rfl h
 | cons y fr ih=>
  obtain ⟨k,x⟩:=y
  simp only [ax] at h ⊢
  split
  ·exact ⟨(k,x),by simp,rfl⟩
  ·rename_i hne
   rw [if_neg hne] at h
   obtain ⟨z,hz,e⟩:=ih h
   exact ⟨z,List.mem_cons_of_mem _ hz,e⟩
structure pY(dp:Nat)(s:St)(sl dl ow:List Nat):Prop where
 sl:∀ m∈sl,∃ k,dh dp s (ax s.fr m) false=some k∧k.dp≤dp
 dl:∀ m∈dl,yp dp ow (ax s.fr m)=false∧∃ k,dh dp s (ax s.fr m) true=some k∧k.dp≤dp
theorem pY.dp{dp:Nat}{s:St}{sl dl ow:List Nat}(h:pY dp s sl dl ow){k:Key}(hk:fw dp s sl dl ow k=true):k.dp≤dp:=by
 unfold fw at hk
 simp only [Bool.or_eq_true,List.any_eq_true,Bool.and_eq_true,beq_iff_eq,decide_eq_true_eq] at hk
 rcases hk with (⟨n,hn,e⟩ | ⟨n,hn,_,e⟩) | ⟨e,_⟩
 ·obtain ⟨k',e',h'⟩:=h.sl n hn
  rw [e] at e';injection e' with e';subst e';exact h'
 ·obtain ⟨_,k',e',h'⟩:=h.dl n hn
  rw [e] at e';injection e' with e';subst e';exact h'
 ·omega
theorem Mw{dp:Nat}{v s:St}(hbx:∀ k cs,v.box dp k=some cs→s.box dp k=some cs){y:AV}{lv:Bool}{k:Key}(h:dh dp v y lv=some k):dh dp s y lv=some k:=by
 cases y<;>first | (simp [dh] at h;done) | skip
 rename_i k' off
 cases lv with
 | false=>exact h
 | true=>
  simp only [dh,if_true] at h ⊢
  split at h
  ·rename_i k2 o2 hc
   obtain ⟨cs,hb,hcs⟩:=Option.bind_eq_some_iff.1 hc
   simp only [hbx _ cs hb,Option.bind_some,hcs]
   exact h
  ·cases h
theorem HY(q:bM)(s:St)(n:Nat):ax (view q s).fr n= .u∨ax (view q s).fr n=ax s.fr n:=xO s.fr q.vw n
theorem Ou(q:bM)(s:St)(dp:Nat)(k:Key)(cs:List AV)(h:(view q s).box dp k=some cs):s.box dp k=some cs:=by
 by_cases hk:k.dp=dp
 ·simp only [St.box,hk,if_true] at h ⊢
  exact cm h
 ·simp only [St.box,if_neg hk,view] at h ⊢
  split at h
  ·exact h
  ·cases h
theorem Gu{dp:Nat}{q:bM}{s:St}{sl dl ow:List Nat}{b:Nat}{lv:Bool}{k:Key}(hs:pY dp s sl dl ow)(hb:b∈sl)(hl:lv=true→b∈dl)(h:dh dp (view q s) (ax (view q s).fr b) lv=some k):fw dp s sl dl ow k=true:=by
 have h1:=Mw (Ou q s dp) h
 have h2:ax (view q s).fr b=ax s.fr b:=by
  rcases HY q s b with e | e
  ·rw [e] at h1;cases h1
  ·exact e
 rw [h2] at h1
 unfold fw
 simp only [Bool.or_eq_true,List.any_eq_true,Bool.and_eq_true,beq_iff_eq,Bool.not_eq_true']
 cases lv with
 | false=>exact .inl (.inl ⟨b,hb,h1⟩)
 | true=>exact .inl (.inr ⟨b,hl rfl,(hs.dl b (hl rfl)).1,h1⟩)
structure gO(q:bM)(qq:bu)(ow:List Nat):Prop where
 fr:∀ d,d∈cL qq.fr→d∈wQ q
 nb:qq.nb=[]∨∃ d zs,qq.nb=[(d,zs)]∧AV.bK zs=true∧d∈ow
 wb:qq.wb=[]
 hp:qq.hp=none
theorem zp{q:bM}{r:AV×St}(hnw:fI q=false)(hal:oY q.p.o=false):effect q r=⟨gv q.p.d (dX q.p.fz r.1)++q.cs.map (fun m=>(m,.u)),[],[],none⟩:=by
 unfold effect
 split
 ·rename_i zs ho;rw [ho] at hal;cases hal
 ·rename_i ho;rw [ho] at hal;cases hal
 ·rename_i ho;simp [fI,pX,ho] at hnw
 ·rename_i ho
  have h2:(q.cs.length==2)=false:=by
   simp only [fI,kg,ho,pX,Bool.false_or] at hnw
   exact hnw
  simp only [h2,Bool.false_and,Bool.false_eq_true,if_false]
 ·rfl
theorem eI.inv{p q:bM}{f:FuncId}{args:List a8}{sl dl ow:List Nat}(hb:eI p q f args sl dl ow){s:St}{qq:bu}(h:cF R Ω E q s=some qq):∃ r,execOp R Ω E (view q s) q.p.d q.p.o=some r∧okB E.dp q.nb r.1=true∧qq=effect q r:=by
 unfold cF at h
 rw [hb.qg] at h
 simp only at h
 unfold iJ at h
 split at h
 ·obtain ⟨r,hr,h2⟩:=Option.bind_eq_some_iff.1 h
  split at h2
  ·rename_i hok
   exact ⟨r,hr,(Bool.and_eq_true_iff.1 hok).2,(Option.some.inj h2).symm⟩
  ·cases h2
 ·cases h
theorem eI.patch{p q:bM}{f:FuncId}{args:List a8}{sl dl ow:List Nat}(hb:eI p q f args sl dl ow){s:St}{qq:bu}(h:cF R Ω E q s=some qq):gO q qq ow:=by
 have hs:=rP h
 obtain ⟨r,hr,hok,rfl⟩:=hb.inv h
 by_cases hal:oY q.p.o=true
 ·obtain ⟨zs,dd,ho,hd,h1,h2,_⟩:=Ct (hb.S0 hal)
  have he:effect q r=⟨[(dd,r.1)],[(dd,zs)],[],none⟩:=by
   unfold effect
   rw [ho,hd]
  rw [he] at hs ⊢
  exact ⟨hs.fr,.inr ⟨dd,zs,rfl,h1,h2⟩,rfl,rfl⟩
 ·rw [zp hb.nw (by simpa using hal)] at hs ⊢
  exact ⟨hs.fr,.inl rfl,rfl,rfl⟩
theorem eI.plain{p q:bM}{f:FuncId}{args:List a8}{sl dl ow:List Nat}(hb:eI p q f args sl dl ow){s:St}{qq:bu}(hi:pY E.dp s sl dl ow)(h:cF R Ω E q s=some qq):∀ y∈qq.fr,jq (fw E.dp s sl dl ow) y.2=false:=by
 obtain ⟨r,hr,hok,rfl⟩:=hb.inv h
 have hx:jq (fw E.dp s sl dl ow) r.1=false:=by
  rcases hb.nb with hn | hl
  ·unfold okB at hok
   have h4:=(Bool.and_eq_true_iff.1 hok).2
   have h5:q.nb.contains 1000000=true:=by simpa using hn
   rw [h5] at h4
   exact Ks (by simpa using h4)
  ·obtain ⟨n,m,b,lv,e,hsl,hdl⟩:=I8 hl
   rw [e] at hr
   simp only [execOp] at hr
   split at hr
   ·rename_i k off hk
    split at hr
    ·rename_i hev
     have hhid:=Gu hi hsl hdl hev
     obtain ⟨cs,_,hr1⟩:=Option.bind_eq_some_iff.1 hr
     obtain ⟨y,_,hr2⟩:=Option.bind_eq_some_iff.1 hr1
     split at hr2
     ·obtain rfl:=Option.some.inj hr2
      simp [jq,hhid]
     ·split at hr2
      ·rename_i hc
       obtain rfl:=Option.some.inj hr2
       exact Kt hc
      ·cases hr2
    ·cases hr
   ·cases hr
 by_cases hal:oY q.p.o=true
 ·obtain ⟨zs,dd,ho,hd,h1,h2,_⟩:=Ct (hb.S0 hal)
  have he:effect q r=⟨[(dd,r.1)],[(dd,zs)],[],none⟩:=by
   unfold effect
   rw [ho,hd]
  rw [he]
  intro y hy
  obtain rfl:y=(dd,r.1):=by simpa using hy
  exact hx
 ·rw [zp hb.nw (by simpa using hal)]
  intro y hy
  rcases List.mem_append.1 hy with hy | hy
  ·cases hd:q.p.d with
   | none=>rw [hd] at hy;cases hy
   | some dd=>
    rw [hd] at hy
    obtain rfl:y=(dd,dX q.p.fz r.1):=by simpa [gv] using hy
    exact Ot hx
  ·obtain ⟨m,_,rfl⟩:=List.mem_map.1 hy
   rfl
theorem eI.Xf{p q:bM}{f:FuncId}{args:List a8}{sl dl ow:List Nat}(hb:eI p q f args sl dl ow){s:St}{qq:bu}(h:cF R Ω E q s=some qq):∀ d∈cL qq.nb,ay s.bx d=none:=by
 have hs:=rP h
 intro d hd
 obtain ⟨h1,h2⟩:=hs.nb d hd
 obtain ⟨r,hr,_,_⟩:=hb.inv h
 obtain ⟨zs,dd,ho,hdd,_,_,hvb,_⟩:=Ct (hb.S0 h1)
 rw [hdd] at h2
 obtain rfl:d=dd:=by simpa [nK] using h2
 rw [ho] at hr
 simp only [execOp,hdd,Option.bind_some] at hr
 split at hr
 ·rename_i hc
  simp only [Bool.and_eq_true] at hc
  have h4:ay (cp s.bx q.vb) d=none:=by have:=hc.1.1;simp only [kN,Bool.and_eq_true] at this;simpa [view] using this.1
  rwa [u7 _ _ _ (by rw [hvb];simp)] at h4
 ·cases hr
structure rQ(R:Rec)(E:Env)(s:St)(f:FuncId)(args:List AV)(sl dl ow:List Nat)(x:AV)(hp':HP):Prop where
 ro:E.ro=false
 copy:args.all AV.copy=true
 deep:∀ d cs,ay s.bx d=some cs→AV.bz E.dp cs=true
 nb:∀ y∈s.fr,jq (fw E.dp s sl dl ow) y.2=false
 pt:pY E.dp s sl dl ow
 run:R ⟨E.dp+1,false⟩ f args (yq E.dp s sl dl ow)=some (.ret x,hp')
 pure:x.pure=true
 post:∀ d cs,ay (s.bU E.dp (cP E.dp s sl dl ow hp')).bx d=some cs→d∈ow∨∀ h∈ow,AV.aI ⟨E.dp,h⟩ cs=true
theorem vo{dp:Nat}{o:Option Key} : wV dp o=true↔∃ k,o=some k∧k.dp≤dp:=by
 cases o with
 | none=>simp [wV]
 | some k=>simp [wV]
theorem zq{s:St}{f:FuncId}{args:List AV}{sl dl ow:List Nat}{r:AV×St}(h:ta R E s f args sl dl ow=some r):∃ hp',rQ R E s f args sl dl ow r.1 hp'∧r.2=s.bU E.dp (cP E.dp s sl dl ow hp'):=by
 unfold ta at h
 split at h
 ·rename_i hc
  simp only [Bool.and_eq_true,Bool.not_eq_true'] at hc
  obtain ⟨⟨⟨⟨⟨h1,h2⟩,h3⟩,h4⟩,h5⟩,h6⟩:=hc
  obtain ⟨⟨q,hp'⟩,hq,he2⟩:=Option.bind_eq_some_iff.1 h
  cases q with
  | new cs=>cases he2
  | ret x=>?_
  simp only at he2
  split at he2
  ·rename_i hk
   obtain rfl:=Option.some.inj he2
   obtain ⟨hk1,hk2⟩:=Bool.and_eq_true_iff.1 hk
   refine ⟨hp',⟨h1,h2,sn.1 h3,fun n hn=>?_,⟨fun m hm=>vo.1 (List.all_eq_true.1 h5 m hm),fun m hm=>?_⟩,hq,hk1,fun d cs hd=>?_⟩,rfl⟩
   ·simpa using List.all_eq_true.1 h4 n hn
   ·have:=List.all_eq_true.1 h6 m hm
    simp only [Bool.and_eq_true,Bool.not_eq_true'] at this
    exact ⟨this.1,vo.1 this.2⟩
   ·have:=sn.1 hk2 d cs hd
    simpa using this
  ·cases he2
 ·cases h
theorem rQ.mk'{s:St}{f:FuncId}{args:List AV}{sl dl ow:List Nat}{x:AV}{hp':HP}(h:rQ R E s f args sl dl ow x hp') :
  ta R E s f args sl dl ow=some (x,s.bU E.dp (cP E.dp s sl dl ow hp')):=by
 unfold ta
 have h4':(s.fr.all fun y=>!jq (fw E.dp s sl dl ow) y.2)=true:=by
  rw [List.all_eq_true];intro n hn;rw [h.nb n hn];rfl
 have h5':sl.all (fun n=>wV E.dp (dh E.dp s (ax s.fr n) false))=true:=by
  rw [List.all_eq_true];intro m hm
  exact vo.2 (h.pt.sl m hm)
 have h7':dl.all (fun n=>!yp E.dp ow (ax s.fr n)&&wV E.dp (dh E.dp s (ax s.fr n) true))=true:=by
  rw [List.all_eq_true];intro m hm
  rw [(h.pt.dl m hm).1,vo.2 (h.pt.dl m hm).2];rfl
 have h3':zA s.bx (fun _ cs=>AV.bz E.dp cs)=true:=sn.2 h.deep
 have h6':zA (s.bU E.dp (cP E.dp s sl dl ow hp')).bx (fun d cs=>ow.contains d||ow.all fun h=>AV.aI ⟨E.dp,h⟩ cs)=true:=sn.2 fun d cs hd=>by
  have:=h.post d cs hd
  simpa using this
 rw [if_pos (by rw [h.ro,h.copy,h3',h4',h5',h7'];rfl),h.run]
 simp only [Option.bind_some]
 rw [if_pos (by rw [h.pure,h6'];rfl)]
theorem gq(dp:Nat)(hp':HP):∀ (bx:List (Nat×List AV))(d:Nat),ay (iH dp hp' bx) d=(ay bx d).bind fun _=>hp' ⟨dp,d⟩
 | [],d=>rfl
 | (k,c)::r,d=>by
  simp only [iH,ay]
  by_cases h:k=d
  ·subst h
   simp only [if_true,Option.bind_some]
   cases hk:hp' ⟨dp,k⟩ with
   | some cs=>simp [ay]
   | none=>
    simp only
    rw [gq dp hp' r k,hk]
    cases ay r k<;>rfl
  ·rw [if_neg h]
   split
   ·simp only [ay,if_neg h];exact gq dp hp' r d
   ·exact gq dp hp' r d
theorem Se.ev{s s':St}(h:Se s s')(xs:List a8):xs.map s.ev=xs.map s'.ev:=by
 apply List.map_congr_left
 intro x _
 cases x with
 | c z=>rfl
 | t n=>exact h.fr n
theorem Se.ye{s s':St}(h:Se s s')(dp:Nat)(y:AV)(lv:Bool):dh dp s y lv=dh dp s' y lv:=by
 unfold dh
 simp only [h.box]
theorem Se.hid{s s':St}(h:Se s s')(dp:Nat)(sl dl ow:List Nat):fw dp s sl dl ow=fw dp s' sl dl ow:=by
 funext k
 unfold fw
 simp only [h.fr,h.ye]
theorem Se.Gv{s s':St}(h:Se s s')(dp:Nat)(sl dl ow:List Nat)(hp':HP):cP dp s sl dl ow hp'=cP dp s' sl dl ow hp':=by
 funext k
 unfold cP
 rw [h.hid,h.box]
theorem Se.Ny{s s':St}(h:Se s s')(dp:Nat)(sl dl ow:List Nat):yq dp s sl dl ow=yq dp s' sl dl ow:=by
 funext k
 unfold yq
 rw [h.hid,h.box]
theorem Se.bU{s s':St}(h:Se s s')(dp:Nat)(hp':HP):Se (s.bU dp hp') (s'.bU dp hp'):=
 ⟨h.fr,fun d=>by simp only [St.bU,gq,h.bx],rfl,h.mem⟩
theorem Se.put{s s':St}(h:Se s s')(d:Option Nat)(x:AV):Se (put s d x) (A.put s' d x):=by
 cases d with
 | none=>exact h
 | some d=>exact ⟨fun n=>by simp only [A.put,St.bQ,ax];split<;>first | rfl | exact h.fr n,h.bx,h.hp,fun y=>by simp only [A.put,St.bQ,List.mem_cons,h.mem y]⟩
theorem pY.se{dp:Nat}{s s':St}{sl dl ow:List Nat}(h:pY dp s sl dl ow)(hs:Se s s'):pY dp s' sl dl ow:=
 ⟨fun m hm=>by rw [←hs.fr,←hs.ye];exact h.sl m hm,fun m hm=>by rw [←hs.fr,←hs.ye];exact h.dl m hm⟩
theorem rQ.se{s s':St}{f:FuncId}{args:List AV}{sl dl ow:List Nat}{x:AV}{hp':HP}(h:rQ R E s f args sl dl ow x hp')(hs:Se s s'):rQ R E s' f args sl dl ow x hp':=
 ⟨h.ro,h.copy,fun d cs hd=>h.deep d cs (by rw [hs.bx];exact hd),fun y hy=>by rw [←hs.hid];exact h.nb y ((hs.mem y).2 hy),h.pt.se hs,by rw [←hs.Ny];exact h.run,h.pure,
  fun d cs hd=>h.post d cs (by rw [(hs.bU _ _).bx,hs.Gv];exact hd)⟩
theorem HZ{s s':St}{xs:List a8}(h:∀ n∈I6 xs,ax s'.fr n=ax s.fr n):xs.map s'.ev=xs.map s.ev:=by
 apply List.map_congr_left
 intro x hx
 cases x with
 | c z=>rfl
 | t n=>exact h n (List.mem_flatMap.2 ⟨_,hx,by simp⟩)
section
variable {p q:bM}{f:FuncId}{args:List a8}{sl dl ow:List Nat}{qq:bu}{s:St}
theorem gO.Aq(hq:gO q qq ow)(hb:eI p q f args sl dl ow){n:Nat}(hn:n∈I6 args∨n∈sl∨n∈dl):ax (qq.app s).fr n=ax s.fr n:=by
 simp only [bu.app,gn]
 rw [if_neg]
 intro hm
 have:=hb.wr n (hq.fr n hm)
 rcases hn with h | h | h
 ·exact this.1 h
 ·exact this.2.1 h
 ·exact this.2.2 h
theorem gO.box(hq:gO q qq ow){dp:Nat}{k:Key}(hk:∀ d,k=⟨dp,d⟩→d∉ow):(qq.app s).box dp k=s.box dp k:=by
 unfold St.box
 split
 ·rename_i hd
  simp only [bu.app,hq.wb,nO]
  rcases hq.nb with e | ⟨d,zs,e,_,h2⟩
  ·rw [e];rfl
  ·rw [e]
   have:d≠k.d:=fun e'=>hk k.d (by rw [←hd]) (e'▸h2)
   simp [ay,this]
 ·simp only [bu.app,hq.hp,Option.getD_none]
theorem gO.ye(hq:gO q qq ow){dp:Nat}{y:AV}{lv:Bool}(h:lv=true→yp dp ow y=false):dh dp (qq.app s) y lv=dh dp s y lv:=by
 cases lv with
 | false=>cases y<;>rfl
 | true=>
  have h:=h rfl
  cases y<;>first | rfl | skip
  rename_i k off
  simp only [dh,if_true]
  rw [hq.box fun d e hd=>by subst e;simp [yp,hd] at h]
theorem gO.hid(hq:gO q qq ow)(hb:eI p q f args sl dl ow)(dp:Nat):fw dp (qq.app s) sl dl ow=fw dp s sl dl ow:=by
 funext k
 unfold fw
 have h1:(sl.any fun n=>dh dp (qq.app s) (ax (qq.app s).fr n) false==some k)=(sl.any fun n=>dh dp s (ax s.fr n) false==some k):=by
  rw [Bool.eq_iff_iff,List.any_eq_true,List.any_eq_true]
  constructor
  ·rintro ⟨n,hn,h⟩;exact ⟨n,hn,by rwa [hq.Aq hb (.inr (.inl hn)),hq.ye (fun h=>by cases h)] at h⟩
  ·rintro ⟨n,hn,h⟩;exact ⟨n,hn,by rwa [hq.Aq hb (.inr (.inl hn)),hq.ye (fun h=>by cases h)]⟩
 have h2:(dl.any fun n=>!yp dp ow (ax (qq.app s).fr n)&&dh dp (qq.app s) (ax (qq.app s).fr n) true==some k)=(dl.any fun n=>!yp dp ow (ax s.fr n)&&dh dp s (ax s.fr n) true==some k):=by
  rw [Bool.eq_iff_iff,List.any_eq_true,List.any_eq_true]
  simp only [Bool.and_eq_true,Bool.not_eq_true']
  constructor
  ·rintro ⟨n,hn,h0,h⟩
   rw [hq.Aq hb (.inr (.inr hn))] at h0 h
   exact ⟨n,hn,h0,by rwa [hq.ye (fun _=>h0)] at h⟩
  ·rintro ⟨n,hn,h0,h⟩
   rw [←hq.Aq (s:=s) hb (.inr (.inr hn))] at h0 h
   exact ⟨n,hn,h0,by rwa [hq.ye (fun _=>h0)]⟩
 rw [h1,h2]
theorem zR{dp:Nat}{d:Nat}(h:d∈ow):fw dp s sl dl ow ⟨dp,d⟩=true:=by
 simp [fw,h]
theorem gO.Ny(hq:gO q qq ow)(hb:eI p q f args sl dl ow)(dp:Nat):yq dp (qq.app s) sl dl ow=yq dp s sl dl ow:=by
 funext k
 unfold yq
 rw [hq.hid hb]
 split
 ·rfl
 ·rename_i hn
  exact hq.box fun d e hd=>hn (by rw [e];exact zR hd)
theorem gO.Gv(hq:gO q qq ow)(hb:eI p q f args sl dl ow){dp:Nat}{hp':HP}{k:Key}(hk:∀ d,k=⟨dp,d⟩→d∉ow):cP dp (qq.app s) sl dl ow hp' k=cP dp s sl dl ow hp' k:=by
 unfold cP
 rw [hq.hid hb,hq.box hk]
theorem Mx{dp:Nat}{hp':HP}{d:Nat}(h:d∈ow):cP dp s sl dl ow hp' ⟨dp,d⟩=ay s.bx d:=by
 unfold cP
 rw [if_pos (zR h)]
 simp [St.box]
theorem wR(hq:gO q qq ow):(qq.app s).bx=qq.nb++s.bx:=by simp only [bu.app,hq.wb,nO]
theorem gO.YS(hq:gO q qq ow){d:Nat}(h:d∉ow):ay (qq.app s).bx d=ay s.bx d:=by
 rw [wR hq]
 rcases hq.nb with e | ⟨d',zs,e,_,h2⟩
 ·rw [e];rfl
 ·rw [e]
  have:d'≠d:=fun e'=>h (e'▸h2)
  simp [ay,this]
theorem gO.bxI(hq:gO q qq ow){d:Nat}{cs:List AV}(h:ay (qq.app s).bx d=some cs):ay s.bx d=some cs∨AV.bK cs=true:=by
 rw [wR hq] at h
 rcases hq.nb with e | ⟨d',zs,e,hz,_⟩
 ·rw [e] at h;exact .inl h
 ·rw [e] at h
  simp only [List.cons_append,List.nil_append,ay] at h
  split at h
  ·obtain rfl:=Option.some.inj h;exact .inr hz
  ·exact .inl h
theorem pY.app(h:pY E.dp s sl dl ow)(hq:gO q qq ow)(hb:eI p q f args sl dl ow):pY E.dp (qq.app s) sl dl ow:=
 ⟨fun m hm=>by rw [hq.Aq hb (.inr (.inl hm)),hq.ye (fun h=>by cases h)];exact h.sl m hm,
  fun m hm=>by
   have h1:=h.dl m hm
   rw [hq.Aq hb (.inr (.inr hm)),hq.ye (fun _=>h1.1)];exact h1⟩
theorem pY.Xg(h:pY E.dp (qq.app s) sl dl ow)(hq:gO q qq ow)(hb:eI p q f args sl dl ow):pY E.dp s sl dl ow:=
 ⟨fun m hm=>by
   have h1:=h.sl m hm
   rwa [hq.Aq hb (.inr (.inl hm)),hq.ye (fun h=>by cases h)] at h1,
  fun m hm=>by
   have h1:=h.dl m hm
   rw [hq.Aq hb (.inr (.inr hm))] at h1
   rwa [hq.ye (fun _=>h1.1)] at h1⟩
theorem gO.call(hq:gO q qq ow)(hb:eI p q f args sl dl ow)(hpl:∀ y∈qq.fr,jq (fw E.dp s sl dl ow) y.2=false){vals:List AV}{x:AV}{hp':HP}(h:rQ R E s f vals sl dl ow x hp'):rQ R E (qq.app s) f vals sl dl ow x hp':=by
 refine ⟨h.ro,h.copy,fun d cs hd=>?_,fun y hy=>?_,h.pt.app hq hb,by rw [hq.Ny hb];exact h.run,h.pure,fun d cs hd=>?_⟩
 ·rcases hq.bxI hd with h1 | h1
  ·exact h.deep d cs h1
  ·exact oZ _ h1
 ·rw [hq.hid hb]
  rcases List.mem_append.1 (show y∈qq.fr++s.fr from hy) with h1 | h1
  ·exact hpl y h1
  ·exact h.nb y h1
 ·by_cases ho:d∈ow
  ·exact .inl ho
  ·refine h.post d cs ?_
   simp only [St.bU,gq,hq.YS ho] at hd ⊢
   rwa [hq.Gv hb fun d' e=>by injection e with _ e;subst e;exact ho] at hd
theorem gO.S1(hq:gO q qq ow)(hb:eI p q f args sl dl ow){vals:List AV}{x:AV}{hp':HP}(hno:∀ d∈cL qq.nb,ay s.bx d=none)(h:rQ R E (qq.app s) f vals sl dl ow x hp'):rQ R E s f vals sl dl ow x hp':=by
 refine ⟨h.ro,h.copy,fun d cs hd=>?_,fun y hy=>?_,h.pt.Xg hq hb,by rw [←hq.Ny hb];exact h.run,h.pure,fun d cs hd=>?_⟩
 ·refine h.deep d cs ?_
  rw [wR hq,mc,if_neg fun hm=>?_]
  ·exact hd
  ·rw [hno d hm] at hd;cases hd
 ·rw [←hq.hid hb]
  exact h.nb y (show y∈qq.fr++s.fr from List.mem_append_right _ hy)
 ·by_cases ho:d∈ow
  ·exact .inl ho
  ·refine h.post d cs ?_
   simp only [St.bU,gq,hq.YS ho] at hd ⊢
   rwa [hq.Gv hb fun d' e=>by injection e with _ e;subst e;exact ho]
theorem gO.comm(hq:gO q qq ow)(hb:eI p q f args sl dl ow){x:AV}{hp':HP} : Se (qq.app (put (s.bU E.dp (cP E.dp s sl dl ow hp')) p.p.d x)) (put ((qq.app s).bU E.dp (cP E.dp (qq.app s) sl dl ow hp')) p.p.d x):=by
 have hbx:∀ d,ay (qq.nb++nO (s.bU E.dp (cP E.dp s sl dl ow hp')).bx qq.wb) d=ay ((qq.app s).bU E.dp (cP E.dp (qq.app s) sl dl ow hp')).bx d:=by
  intro d
  simp only [St.bU,wR hq,hq.wb,nO,mc,gq]
  by_cases hd:d∈cL qq.nb
  ·rw [if_pos hd,if_pos hd]
   rcases hq.nb with e | ⟨d',zs,e,_,ho⟩
   ·rw [e] at hd;simp [cL] at hd
   ·rw [e] at hd ⊢
    simp only [cL,List.map_cons,List.map_nil,List.mem_singleton] at hd
    subst hd
    rw [Mx (s:=qq.app s) ho,wR hq,e]
    simp [ay]
  ·rw [if_neg hd,if_neg hd]
   by_cases ho:d∈ow
   ·rw [Mx (s:=qq.app s) ho,Mx (s:=s) ho,wR hq,mc,if_neg hd]
   ·rw [hq.Gv hb fun d' e=>by injection e with _ e;subst e;exact ho]
 have hhp:(s.bU E.dp (cP E.dp s sl dl ow hp')).hp=((qq.app s).bU E.dp (cP E.dp (qq.app s) sl dl ow hp')).hp:=by
  simp only [St.bU]
  funext k
  split
  ·rename_i hlt
   rw [hq.Gv hb fun d e=>by subst e;exact absurd hlt (Nat.lt_irrefl _)]
  ·rfl
 cases hd:p.p.d with
 | none=>
  refine ⟨fun n=>rfl,hbx,?_,fun y=>Iff.rfl⟩
  show qq.hp.getD _=_
  rw [hq.hp];exact hhp
 | some dd=>
  have hdd:dd∉cL qq.fr:=fun hm=>(hb.ds dd hd).1 (hq.fr dd hm)
  refine ⟨fun n=>?_,hbx,?_,fun y=>?_⟩
  ·show ax (qq.fr++(dd,x)::s.fr) n=ax ((dd,x)::(qq.fr++s.fr)) n
   simp only [gn,ax]
   by_cases hn:dd=n
   ·subst hn;simp [hdd]
   ·simp only [if_neg hn]
  ·show qq.hp.getD _=_
   rw [hq.hp];exact hhp
  ·show y∈qq.fr++(dd,x)::s.fr↔y∈(dd,x)::(qq.fr++s.fr)
   simp only [List.mem_append,List.mem_cons]
   constructor
   ·rintro (h | h | h)
    ·exact .inr (.inl h)
    ·exact .inl h
    ·exact .inr (.inr h)
   ·rintro (h | h | h)
    ·exact .inr (.inl h)
    ·exact .inl h
    ·exact .inr (.inr h)
theorem eI.Gs(hb:eI p q f args sl dl ow){x:AV}{hp':HP}(hnb:∀ y∈s.fr,jq (fw E.dp s sl dl ow) y.2=false)(hpt:pY E.dp s sl dl ow) :
  cF R Ω E q (put (s.bU E.dp (cP E.dp s sl dl ow hp')) p.p.d x)=cF R Ω E q s:=by
 have hkf:iI (put (s.bU E.dp (cP E.dp s sl dl ow hp')) p.p.d x).fr q.vw=iI s.fr q.vw:=by
  apply Ap
  intro n hn
  cases hd:p.p.d with
  | none=>rfl
  | some dd=>
   have:dd≠n:=fun e=>(hb.ds dd hd).2 (e▸hn)
   simp only [put,St.bQ,ax,if_neg this]
   rfl
 have hbx2:(put (s.bU E.dp (cP E.dp s sl dl ow hp')) p.p.d x).bx=(s.bU E.dp (cP E.dp s sl dl ow hp')).bx:=by cases p.p.d<;>rfl
 have hp2:(put (s.bU E.dp (cP E.dp s sl dl ow hp')) p.p.d x).hp=(s.bU E.dp (cP E.dp s sl dl ow hp')).hp:=by cases p.p.d<;>rfl
 have hbo:∀ d,fw E.dp s sl dl ow ⟨E.dp,d⟩=true→ay (put (s.bU E.dp (cP E.dp s sl dl ow hp')) p.p.d x).bx d=ay s.bx d:=by
  intro d hd
  rw [hbx2]
  simp only [St.bU,gq]
  have:cP E.dp s sl dl ow hp' ⟨E.dp,d⟩=ay s.bx d:=by
   unfold cP
   rw [if_pos hd]
   simp [St.box]
  rw [this]
  cases ay s.bx d<;>rfl
 have hvfr:(view q (put (s.bU E.dp (cP E.dp s sl dl ow hp')) p.p.d x)).fr=(view q s).fr:=hkf
 have hvb:∀ k,fw E.dp s sl dl ow k=true→(view q (put (s.bU E.dp (cP E.dp s sl dl ow hp')) p.p.d x)).box E.dp k=(view q s).box E.dp k:=by
  intro k hk
  obtain ⟨kd,ke⟩:=k
  by_cases hkd:kd=E.dp
  ·subst hkd
   show (if E.dp=E.dp then ay (cp _ q.vb) ke else _)=(if E.dp=E.dp then ay (cp _ q.vb) ke else _)
   rw [if_pos rfl,if_pos rfl]
   have:∀ ks,ay (cp (put (s.bU E.dp (cP E.dp s sl dl ow hp')) p.p.d x).bx ks) ke=ay (cp s.bx ks) ke:=by
    intro ks
    by_cases hm:ke∈ks
    ·rw [u7 _ _ _ hm,u7 _ _ _ hm,hbo ke hk]
    ·have h1:∀ bx:List (Nat×List AV),ay (cp bx ks) ke=none:=fun bx=>nJ fun h=>hm (vn bx ks h)
     rw [h1,h1]
   exact this q.vb
  ·have hlt:kd<E.dp:=by have:(⟨kd,ke⟩:Key).dp≤E.dp:=hpt.dp hk;simp only at this;omega
   show (if kd=E.dp then _ else (view q (put (s.bU E.dp (cP E.dp s sl dl ow hp')) p.p.d x)).hp ⟨kd,ke⟩)=(if kd=E.dp then _ else (view q s).hp ⟨kd,ke⟩)
   rw [if_neg hkd,if_neg hkd]
   simp only [view]
   split
   ·rw [hp2]
    simp only [St.bU]
    rw [if_pos hlt]
    unfold cP
    rw [if_pos hk]
    simp [St.box,hkd]
   ·rfl
 have hkey:(DJ ow q=true∨(oY q.p.o=false∧q.vb=[]∧q.vh=false))∨∃ g:Option AV,(execOp R Ω E (view q s) q.p.d q.p.o=g.map fun y=>(y,view q s))∧(execOp R Ω E (view q (put (s.bU E.dp (cP E.dp s sl dl ow hp')) p.p.d x)) q.p.d q.p.o=g.map fun y=>(y,view q (put (s.bU E.dp (cP E.dp s sl dl ow hp')) p.p.d x)))∧oY q.p.o=false∧(∀ v,gP v q.p.o=true)∧∀ v,ga E.dp q v=true:=by
  rcases hb.kd with h | h | h | h
  ·exact .inl (.inl h)
  ·right
   obtain ⟨n,m,b,lv,ho,hsl,hdl⟩:=I8 h
   have e1:∀ n,(view q (put (s.bU E.dp (cP E.dp s sl dl ow hp')) p.p.d x)).ev (.t n)=(view q s).ev (.t n):=fun n=>by show ax _ n=ax _ n;rw [hvfr]
   have e2:dh E.dp (view q (put (s.bU E.dp (cP E.dp s sl dl ow hp')) p.p.d x)) ((view q s).ev (.t b)) lv=dh E.dp (view q s) ((view q s).ev (.t b)) lv:=by
    cases lv with
    | false=>unfold dh;cases (view q s).ev (.t b)<;>rfl
    | true=>
     cases hy:(view q s).ev (.t b)<;>first | rfl | skip
     rename_i k' off'
     have hk':fw E.dp s sl dl ow k'=true:=Gu (q:=q) (lv:=false) hpt hsl (fun h=>by cases h) (by
      show dh E.dp (view q s) ((view q s).ev (.t b)) false=some k'
      rw [hy];rfl)
     simp only [dh,if_true,hvb k' hk']
   have e3:oY q.p.o=false∧(∀ v,gP v q.p.o=true)∧∀ v,ga E.dp q v=true:=⟨by rw [ho];rfl,fun v=>by rw [ho];rfl,fun v=>by unfold ga;rw [ho]⟩
   by_cases hA:∃ k off,(view q s).ev (.t m)= .p k off∧dh E.dp (view q s) ((view q s).ev (.t b)) lv=some k
   ·obtain ⟨k,off,hA,hev⟩:=hA
    have hk:=Gu (q:=q) hpt hsl hdl hev
    refine ⟨((view q s).box E.dp k).bind fun cs=>(pick n off cs).bind fun y=>match y with
     | .o _ _=>some (.r (.c k off))
     | y=>if y.copy then some y else none,?_,?_,e3⟩
    ·rw [ho]
     simp only [execOp,hA,if_pos hev]
     cases (view q s).box E.dp k with
     | none=>rfl
     | some cs=>
      simp only [Option.bind_some]
      cases pick n off cs with
      | none=>rfl
      | some y=>
       simp only [Option.bind_some]
       cases y<;>simp only []<;>first | rfl | (split<;>rfl)
    ·rw [ho]
     simp only [execOp,e1,hA,e2,if_pos hev,hvb k hk]
     cases (view q s).box E.dp k with
     | none=>rfl
     | some cs=>
      simp only [Option.bind_some]
      cases pick n off cs with
      | none=>rfl
      | some y=>
       simp only [Option.bind_some]
       cases y<;>simp only []<;>first | rfl | (split<;>rfl)
   ·refine ⟨none,?_,?_,e3⟩
    ·rw [ho]
     simp only [execOp]
     split
     ·rename_i k off hx
      rw [if_neg fun hev=>hA ⟨k,off,hx,hev⟩];rfl
     ·rfl
    ·rw [ho]
     simp only [execOp,e1,e2]
     split
     ·rename_i k off hx
      rw [if_neg fun hev=>hA ⟨k,off,hx,hev⟩];rfl
     ·rfl
  ·right
   obtain ⟨m,ho⟩:=Nx h
   have e1:(view q (put (s.bU E.dp (cP E.dp s sl dl ow hp')) p.p.d x)).ev (.t m)=(view q s).ev (.t m):=by show ax _ m=ax _ m;rw [hvfr]
   have hrow:∀ pl,jq (fw E.dp s sl dl ow) (.r pl)=false→(view q (put (s.bU E.dp (cP E.dp s sl dl ow hp')) p.p.d x)).rowAt E.dp pl=(view q s).rowAt E.dp pl:=by
    intro pl hpl
    cases pl with
    | s d'=>simp only [St.rowAt,hvfr]
    | c k off=>
     have hk:fw E.dp s sl dl ow k=true:=by simpa [jq] using hpl
     simp only [St.rowAt,hvb k hk]
   have hbv:jq (fw E.dp s sl dl ow) ((view q s).ev (.t m))=false:=by
    show jq _ (ax (view q s).fr m)=false
    rcases HY q s m with e | e
    ·rw [e];rfl
    ·rw [e]
     by_cases hu:ax s.fr m= .u
     ·rw [hu];rfl
     ·obtain ⟨y,hy,e'⟩:=Mv hu
      rw [←e'];exact hnb y hy
   have hel:(view q (put (s.bU E.dp (cP E.dp s sl dl ow hp')) p.p.d x)).elems E.dp ((view q s).ev (.t m))=(view q s).elems E.dp ((view q s).ev (.t m)):=by
    cases hy:(view q s).ev (.t m) with
    | r pl=>rw [hy] at hbv;exact hrow pl hbv
    | v pl lo len=>
     rw [hy] at hbv
     have:jq (fw E.dp s sl dl ow) (.r pl)=false:=by cases pl<;>exact hbv
     simp only [St.elems,hrow pl this]
    | _=>rfl
   refine ⟨(match (view q s).ev (.t m) with
    | .s _=>none
    | .sp _ _ n _=>some (.i .i64 n)
    | y=>((view q s).elems E.dp y).bind fun r=>some (.i .i64 r.2.length)),?_,?_,by rw [ho];rfl,fun v=>by rw [ho];rfl,fun v=>by unfold ga;rw [ho]⟩
   ·rw [ho]
    simp only [execOp]
    cases (view q s).ev (.t m)<;>simp only []<;>first | rfl | (simp only [Bool.false_eq_true,if_false];cases (view q s).elems E.dp _<;>rfl)
   ·rw [ho]
    simp only [execOp,e1]
    cases hy:(view q s).ev (.t m)<;>rw [hy] at hel<;>simp only []<;>first | rfl | (simp only [Bool.false_eq_true,if_false,hel];cases (view q s).elems E.dp _<;>rfl)
  ·exact .inl (.inr h)
 rcases hkey with h | ⟨g,h1,h2,h3,h4,h5⟩
 ·refine Gr.patch ⟨fun d hd=>?_,fun d hd=>?_,fun hv=>?_⟩
  ·have hd':d∈q.vw:=by
    have h2:=hd
    unfold Nw SZ at h2
    rw [hb.qg] at h2
    simpa using h2
   have:=congrArg (fun l=>ax l d) hkf
   simpa only [DT _ _ _ hd'] using this
  ·rcases h with h | h
   ·obtain ⟨zs,dd,_,_,_,hdo,hvb',_⟩:=Ct h
    rw [hvb'] at hd
    obtain rfl:d=dd:=by simpa using hd
    exact hbo d (zR hdo)
   ·rw [h.2.1] at hd;cases hd
  ·rcases h with h | h
   ·obtain ⟨_,_,_,_,_,_,_,hvh⟩:=Ct h
    rw [hvh] at hv;cases hv
   ·rw [h.2.2] at hv;cases hv
 ·unfold cF iJ
  rw [hb.qg]
  simp only [h1,h2,h4,h5]
  cases g with
  | none=>rfl
  | some y=>simp only [Option.map_some,Option.bind_some,zp hb.nw h3]
end
def I9(gs:List bM)(i j:Nat):Prop:=∃ p q,gs[i]? =some p∧gs[j]? =some q∧((p.lt=true∧q.lt=true∧vm p q=true)∨tr p q=true∨tr q p=true)
theorem mq.swap{i j:Nat}{π:List Nat}{s t:St}(hf:I9 gs i j)(h:mq R Ω E gs (i::j::π) s t):mq R Ω E gs (j::i::π) s t:=by
 obtain ⟨p,q,hp,hq,hcase⟩:=hf
 obtain ⟨p',s1,s2,h1,h2,h3,q',s3,s4,h4,h5,h6,h7⟩:=h
 obtain rfl:p=p':=by rw [hp] at h1;exact Option.some.inj h1
 obtain rfl:q=q':=by rw [hq] at h4;exact Option.some.inj h4
 rcases hcase with ⟨hpl,hql,hc⟩ | hc | hc
 rotate_left
 ·
  obtain ⟨f,args,sl,vs,ow,hb⟩:=Ea hc
  simp only [cG,hb.pl,Bool.false_eq_true,if_false,fL,hb.pg,hb.o,execOp] at h3
  obtain ⟨⟨x,s2'⟩,hcall,he⟩:=Option.bind_eq_some_iff.1 h3
  obtain rfl:=Option.some.inj he
  simp only [cG,if_pos hb.ql] at h6
  obtain ⟨qq,hqq,he'⟩:=Option.bind_eq_some_iff.1 h6
  obtain rfl:=Option.some.inj he'
  have hP:=hb.patch hqq
  obtain ⟨hp',hC,e2⟩:=zq hcall
  simp only at e2 hC
  subst e2
  have hqq1:cF R Ω E q s1=some qq:=by
   rw [←hb.Gs (x:=dX p.p.fz x) (hp':=hp') hC.nb hC.pt,(Se.Gs h5).patch];exact hqq
  have hev:=HZ (s:=s1) (s':=qq.app s1) (xs:=args) fun n hn=>hP.Aq hb (.inl hn)
  have hcall':=(hP.call hb (hb.plain hC.pt hqq1) hC).mk'
  rw [←hev] at hcall'
  refine ⟨q,s1,qq.app s1,hq,h2,by simp only [cG,if_pos hb.ql,hqq1,Option.bind_some],p,qq.app s1,_,hp,Se.refl _,by simp only [cG,hb.pl,Bool.false_eq_true,if_false,fL,hb.pg,hb.o,execOp,hcall',Option.bind_some];rfl,?_⟩
  exact h7.se (Se.trans (hP.comm hb).symm (h5.app qq))
 ·
  obtain ⟨f,args,sl,vs,ow,hb⟩:=Ea hc
  simp only [cG,if_pos hb.ql] at h3
  obtain ⟨qq,hqq,he'⟩:=Option.bind_eq_some_iff.1 h3
  obtain rfl:=Option.some.inj he'
  simp only [cG,hb.pl,Bool.false_eq_true,if_false,fL,hb.pg,hb.o,execOp] at h6
  obtain ⟨⟨x,s4'⟩,hcall,he⟩:=Option.bind_eq_some_iff.1 h6
  obtain rfl:=Option.some.inj he
  have hP:=hb.patch hqq
  obtain ⟨hp',hC,e2⟩:=zq hcall
  simp only at e2 hC
  subst e2
  have hev:=HZ (s:=s1) (s':=qq.app s1) (xs:=args) fun n hn=>hP.Aq hb (.inl hn)
  have bF:=hC.se h5.symm
  rw [←h5.ev,hev] at bF
  have hC2:=hP.S1 hb (hb.Xf hqq) bF
  have hcall':=hC2.mk'
  have hqq1:cF R Ω E p (put (s1.bU E.dp (cP E.dp s1 sl vs ow hp')) q.p.d (dX q.p.fz x))=some qq:=by
   rw [hb.Gs hC2.nb hC2.pt];exact hqq
  refine ⟨q,s1,_,hq,h2,by simp only [cG,hb.pl,Bool.false_eq_true,if_false,fL,hb.pg,hb.o,execOp,hcall',Option.bind_some];rfl,p,_,_,hp,Se.refl _,by simp only [cG,if_pos hb.ql,hqq1,Option.bind_some];rfl,?_⟩
  refine h7.se (Se.trans (hP.comm hb) ?_)
  refine Se.put ?_ _ _
  rw [←h5.Gv]
  exact h5.bU _ _
 simp only [cG,if_pos hpl] at h3
 simp only [cG,if_pos hql] at h6
 obtain ⟨pp,hpp,he⟩:=Option.bind_eq_some_iff.1 h3
 obtain rfl:=Option.some.inj he
 obtain ⟨qq,hqq,he'⟩:=Option.bind_eq_some_iff.1 h6
 obtain rfl:=Option.some.inj he'
 have hc':vm q p=true:=by
  simp only [vm,Bool.and_eq_true,Bool.not_eq_true'] at hc ⊢
  obtain ⟨⟨⟨⟨⟨⟨c1,c2⟩,c3⟩,c4⟩,c5⟩,c6⟩,c7⟩:=hc
  have hsym:∀ l m,sJ l m=true→sJ m l=true:=fun l m h=>by
   unfold sJ
   rw [List.all_eq_true]
   intro x hx
   have:x∉l:=fun hl=>jP h hl hx
   simpa using this
  refine ⟨⟨⟨⟨⟨⟨c2,c1⟩,hsym _ _ c3⟩,c5⟩,c4⟩,hsym _ _ c6⟩,?_⟩
  revert c7
  cases fI p<;>cases fI q<;>cases p.vh<;>cases q.vh<;>simp
 have sp:=rP hpp
 have sq:=rP hqq
 have e1:cF R Ω E q s1=some qq:=by
  rw [←hqq]
  exact ((Gt sp hc).patch.symm.trans (Se.Gs h5).patch)
 have e2:cF R Ω E p (qq.app s1)=some pp:=by
  rw [←hpp]
  exact (Gt sq hc').patch
 refine ⟨q,s1,qq.app s1,hq,h2,by simp only [cG,if_pos hql,e1,Option.bind_some],p,qq.app s1,pp.app (qq.app s1),hp,Se.refl _,by simp only [cG,if_pos hpl,e2,Option.bind_some],?_⟩
 exact h7.se ((Mt (Mu sp sq hc) s1).trans (h5.app qq))
theorem mq.front{i:Nat}{B:List Nat}{t:St} : ∀ (A:List Nat)(s:St),(∀ a∈A,I9 gs a i)→mq R Ω E gs (A++i::B) s t→mq R Ω E gs (i::(A++B)) s t
 | [],_,_,h=>h
 | a::A,s,hf,h=>by
  obtain ⟨p,s1,s2,h1,h2,h3,h4⟩:=h
  exact mq.swap (hf a (by simp)) ⟨p,s1,s2,h1,h2,h3,mq.front A s2 (fun b hb=>hf b (by simp [hb])) h4⟩
end
variable [bE]
def Gw:mr→Bool
 | .al _=>true
 | .ck _ _=>true
 | .bs _ _ _=>true
 | .ms _ _ _ _ _=>true
 | .ap _ _ _ _ _=>true
 | _=>false
def dK(p:bM):Bool:=
 match p.p.o with
 | .bx _=>false
 | .c2 _ _=>false
 | .d2 _ _=>false
 | .cn _ _=>false
 | .cr _ _ _=>false
 | .ch _ _ _ _ _=>false
 | .bg _ _=>false
 | .bxg _=>false
 | .st _ _ y=>p.p.d==none&&(p.cs==[]||match y with
  | .t m=>p.cs==[m]
  | .c _=>false)
 | .ap _ _ _ x _=>match x with
  | .t m=>p.cs==[m]||p.cs==[m,m]
  | .c _=>p.cs==[]
 | _=>p.cs==[]
structure iW(dp:Nat)(s:St)(h:Nat):Prop where
 fr:∀ d,(ax s.fr d).aG ⟨dp,h⟩=true∧(ax s.fr d).bJ (.s h)=false
 cs:∀ d cs,ay s.bx d=some cs→∀ c∈cs,c.aG ⟨dp,h⟩=true
theorem iW.of{dp:Nat}{s:St}{h:Nat}(hf:eB dp s h=true):iW dp s h:=by
 simp only [eB,Bool.and_eq_true] at hf
 refine ⟨fun d=>?_,fun d cs hb c hc=>fv (iv _ hf.2 d cs hb) c hc⟩
 have:=gj (p:=fun y=>y.aG ⟨dp,h⟩&&!y.bJ (.s h)) rfl _ hf.1.2 d
 simpa using this
theorem iW.se{dp:Nat}{s s':St}{h:Nat}(hf:iW dp s h)(hs:Se s s'):iW dp s' h:=
 ⟨fun d=>by rw [←hs.fr];exact hf.fr d,fun d cs hb=>hf.cs d cs (by rw [hs.bx];exact hb)⟩
def oq(dp:Nat)(s:St)(h:Nat):Prop:=∀ d,cg ⟨dp,h⟩ (ax s.fr d)=false
theorem oq.se{dp:Nat}{s s':St}{h:Nat}(hf:oq dp s h)(hs:Se s s'):oq dp s' h:=fun d=>by rw [←hs.fr];exact hf d
theorem My{k:Key}{off:Nat}{x:AV}(h:x.bJ (.c k off)=true):cg k x=true:=by
 cases x with
 | r pl=>
   have:pl= .c k off:=by simpa [AV.bJ] using h
   subst this;simp [cg]
 | v pl lo len=>
   have:pl= .c k off:=by simpa [AV.bJ] using h
   subst this;simp [cg]
 | q pl i sz off'=>
   have:pl= .c k off:=by simpa [AV.bJ] using h
   subst this;simp [cg]
 | _=>cases h
section
variable {C:Cx}{s:St}{a:Act}{w:World}{σ:Sp}{o:Oper}{R:Rec}{Ω:cD}
theorem DK(p:bM)(s:St)(dp:Nat):Le dp (view p s) s:=by
 refine ⟨xO s.fr p.vw,fun k cs hk=>?_⟩
 by_cases hd:k.dp=dp
 ·simp only [St.box,view,hd,if_true] at hk ⊢
  exact cm hk
 ·simp only [St.box,view,if_neg hd] at hk ⊢
  split at hk
  ·exact hk
  ·cases hk
theorem Cu{p:bM}{r:AV×St}(h1:oY p.p.o=false)(h2:fI p=false):effect p r=⟨gv p.p.d (dX p.p.fz r.1)++p.cs.map (fun m=>(m,.u)),[],[],none⟩:=by
 unfold effect
 split
 ·rename_i ho;rw [ho] at h1;cases h1
 ·rename_i ho;rw [ho] at h1;cases h1
 ·rename_i ho;simp [fI,ho,pX] at h2
 ·rename_i ho
  have:(p.cs.length==2)=false:=by simpa [fI,kg,ho,pX] using h2
  simp [this]
 ·rfl
theorem Ku(d:Option Nat)(x:AV)(s:St)(d':Nat):ax (gv d x++s.fr) d'=ax (A.put s d x).fr d':=by cases d<;>rfl
theorem lE(cs:List Nat)(fr:List (Nat×AV))(d:Nat):ax (cs.map (fun m=>(m,AV.u))++fr) d=if d∈cs then .u else ax fr d:=by
 induction cs with
 | nil=>simp
 | cons c cs ih=>
  simp only [List.map_cons,List.cons_append,ax,List.mem_cons,ih]
  by_cases h:c=d
  ·subst h;simp
  ·have h':¬d=c:=fun e=>h e.symm
   simp [h,h']
theorem finish{p:bM}{q:bu}{x:AV}{s':St}{K:Act→World→Prop}{Q:Exit→Act→World→Prop}(hdst:o.dst=p.p.d)(hd:∀ dd,p.p.d=some dd→dd<C.nt)(hsim:cK C o p.p.d a w σ s' x)
  (hfr:∀ d',ax (q.app s).fr d'= .u∨ax (q.app s).fr d'=ax (A.put s' p.p.d (dX p.p.fz x)).fr d') (hbx:∀ k cs,(q.app s).box C.E.dp k=some cs→s'.box C.E.dp k=some cs)
  (hhp:∀ k cs,k.dp≠C.E.dp→(q.app s).hp k=some cs→s'.hp k=some cs) (hK:∀ a' w' σ',bX C w σ w' σ'→an C (q.app s) a' w' σ'→K a' w'):o.wp C.P a w K Q:=by
 refine hsim _ _ fun cv w' σ' hop=>?_
 obtain ⟨σ'',hs,hc⟩:=hop.SY hd p.p.fz
 rw [hdst]
 refine hK _ _ _ hs (hc.xM hfr (fun k cs hk=>?_) (fun k cs hk hc=>?_))
 ·have:=hbx k cs hk
  cases p.p.d<;>exact this
 ·have:=hhp k cs hk hc
  cases p.p.d<;>exact this
theorem Bj{dp:Nat}{p:bM}{s:St}{k:Key}{cs nw:List AV}(fr:List (Nat×AV))(hb:(view p s).box dp k=some cs) :
  (∀ k' cs',((⟨fr,[],cp ((view p s).aM dp k nw).bx p.vb,if p.vh=true then some ((view p s).aM dp k nw).hp else none⟩:bu).app s).box dp k'=some cs'→(s.aM dp k nw).box dp k'=some cs')∧
  (∀ k' cs',k'.dp≠dp→((⟨fr,[],cp ((view p s).aM dp k nw).bx p.vb,if p.vh=true then some ((view p s).aM dp k nw).hp else none⟩:bu).app s).hp k'=some cs'→(s.aM dp k nw).hp k'=some cs'):=by
 have hb':=(DK p s dp).bx k cs hb
 refine ⟨fun k' cs' hk'=>?_,fun k' cs' hkd hk'=>?_⟩
 ·rw [fH hb']
  by_cases hkd':k'.dp=dp
  ·simp only [St.box,hkd',if_true,bu.app,List.nil_append,oo] at hk'
   by_cases hkd:k.dp=dp
   ·simp only [St.aM,hkd,if_true] at hk'
    by_cases hkk:k'=k
    ·subst hkk
     rw [if_pos rfl]
     have hvb:ay (view p s).bx k'.d=some cs:=by simpa [St.box,hkd] using hb
     have hin:k'.d∈p.vb:=by
      have:∀ ks,ay (cp s.bx ks) k'.d=some cs→k'.d∈ks:=by
       intro ks hks
       refine vn s.bx ks ?_
       apply Classical.byContradiction
       intro hno
       rw [nJ hno] at hks;cases hks
      exact this p.vb hvb
     have hkeep:∀ (bx:List (Nat×List AV))(ks:List Nat)(d:Nat),d∈ks→ay (cp bx ks) d=ay bx d:=by
      intro bx ks d
      induction ks with
      | nil=>intro h;cases h
      | cons c ks ih=>
       intro hm
       simp only [cp]
       cases hc2:ay bx c with
       | none=>
        simp only
        rcases List.mem_cons.1 hm with rfl | hm
        ·cases hq2:ay (cp bx ks) d with
         | none=>exact hc2.symm
         | some z=>have:=cm hq2;rw [hc2] at this;cases this
        ·exact ih hm
       | some z=>
        simp only [ay]
        by_cases hcd:c=d
        ·subst hcd;rw [if_pos rfl,hc2]
        ·rw [if_neg hcd]
         rcases List.mem_cons.1 hm with rfl | hm
         ·exact absurd rfl hcd
         ·exact ih hm
     rw [hkeep _ _ _ hin,si,if_pos rfl,hvb] at hk'
     have hsb:ay s.bx k'.d=some cs:=by simpa [St.box,hkd] using hb'
     rw [hsb] at hk'
     exact hk'
    ·rw [if_neg hkk]
     have hne:k'.d≠k.d:=fun e=>hkk (by cases k;cases k';simp at hkd hkd' e;rw [hkd,hkd',e])
     simp only [St.box,hkd',if_true]
     cases hq:ay (cp (iG (view p s).bx k.d nw) p.vb) k'.d with
     | none=>rw [hq] at hk';exact hk'
     | some z=>
      rw [hq] at hk'
      have h1:=cm hq
      rw [si,if_neg hne] at h1
      have h2:ay s.bx k'.d=some z:=cm h1
      rw [h2] at hk' ⊢
      exact hk'
   ·simp only [St.aM,if_neg hkd] at hk'
    have hkk:k'≠k:=fun e=>hkd (e▸hkd')
    rw [if_neg hkk]
    simp only [St.box,hkd',if_true]
    cases hq:ay (cp (view p s).bx p.vb) k'.d with
    | none=>rw [hq] at hk';exact hk'
    | some z=>
     rw [hq] at hk'
     have h1:=cm hq
     have h2:ay s.bx k'.d=some z:=cm h1
     rw [h2] at hk' ⊢
     exact hk'
  ·simp only [St.box,if_neg hkd',bu.app] at hk' ⊢
   by_cases hkd:k.dp=dp
   ·have hkk:k'≠k:=fun e=>hkd' (e▸hkd)
    rw [if_neg hkk]
    simp only [St.aM,hkd,if_true] at hk'
    by_cases hv:p.vh=true
    ·simp only [hv,if_true,Option.getD_some,view] at hk';exact hk'
    ·simp only [if_neg hv,Option.getD_none] at hk';exact hk'
   ·by_cases hv:p.vh=true
    ·simp only [St.aM,if_neg hkd,hv,if_true,Option.getD_some,view,ad] at hk'
     exact hk'
    ·exfalso
     simp only [St.box,if_neg hkd,view,if_neg hv] at hb
     cases hb
 ·by_cases hkd2:k.dp=dp
  ·simp only [St.aM,hkd2,if_true] at hk' ⊢
   by_cases hv:p.vh=true
   ·simp only [bu.app,hv,if_true,Option.getD_some,view] at hk';exact hk'
   ·simp only [bu.app,if_neg hv,Option.getD_none] at hk';exact hk'
  ·simp only [St.aM,if_neg hkd2] at hk' ⊢
   by_cases hv:p.vh=true
   ·simp only [bu.app,hv,if_true,Option.getD_some,view] at hk';exact hk'
   ·exfalso
    simp only [St.box,if_neg hkd2,view,if_neg hv] at hb
    cases hb
theorem an.Ov{p:bM}{r:AV×St}{K:Act→World→Prop}{Q:Exit→Act→World→Prop}(hR:jO C.P R)(hΩ:fq C.P Ω)(h:an C s a w σ)(hlo:bj C.P p.p.o o.op=true)(hdst:o.dst=p.p.d)(hd:∀ dd,p.p.d=some dd→dd<C.nt)
  (hk:dK p=true) (hfree:Gw p.p.o=true→∀ dd,p.p.d=some dd→iW C.E.dp s dd) (hlt:gP (view p s) p.p.o=true) (hls:ga C.E.dp p (view p s)=true) (hfb:qX p.p.o p.cs=true→∀ h∈p.vb,oq C.E.dp s h) (hr:execOp R Ω C.E (view p s) p.p.d p.p.o=some r)
  (hK:∀ a' w' σ',bX C w σ w' σ'→an C ((effect p r).app s) a' w' σ'→K a' w'):o.wp C.P a w K Q:=by
 have hle:=DK p s C.E.dp
 have uy:oY p.p.o=false→fI p=false→∀ s',cK C o p.p.d a w σ s' r.1→(∀ d',d'∈p.cs∨p.p.d=some d'∨ax s.fr d'=ax s'.fr d')→(∀ k,s'.box C.E.dp k=s.box C.E.dp k)→s'.hp=s.hp→o.wp C.P a w K Q:=by
  intro h1 h2 s' he hf hb hh
  have he2:=Cu (r:=r) h1 h2
  rw [he2] at hK
  refine finish hdst hd he (fun d'=>?_) (fun k cs hk=>?_) (fun k cs _ hk=>?_) hK
  ·simp only [bu.app,List.append_assoc]
   rw [gn,xU]
   cases hdd:p.p.d with
   | none=>
    rw [if_neg (by simp [nK]),lE]
    by_cases hm:d'∈p.cs
    ·rw [if_pos hm];exact .inl rfl
    ·rw [if_neg hm]
     rcases hf d' with h3 | h3 | h3
     ·exact absurd h3 hm
     ·rw [hdd] at h3;cases h3
     ·exact .inr h3
   | some dd=>
    by_cases hm:d'=dd
    ·subst hm
     rw [if_pos (by simp [nK])]
     exact .inr (by simp [gv,ax,A.put,St.bQ])
    ·rw [if_neg (by simp [nK,hm]),lE]
     by_cases hm2:d'∈p.cs
     ·rw [if_pos hm2];exact .inl rfl
     ·rw [if_neg hm2]
      rcases hf d' with h3 | h3 | h3
      ·exact absurd h3 hm2
      ·rw [hdd] at h3;exact absurd (Option.some.inj h3).symm hm
      ·refine .inr ?_
       simp only [A.put,St.bQ,ax,if_neg (fun e=>hm (Eq.symm e))]
       exact h3
  ·rw [hb];exact hk
  ·rw [hh];exact hk
 have plain:oY p.p.o=false→fI p=false→∀ s',execOp R Ω C.E s p.p.d p.p.o=some (r.1,s')→(∀ d',d'∈p.cs∨p.p.d=some d'∨ax s.fr d'=ax s'.fr d')→(∀ k,s'.box C.E.dp k=s.box C.E.dp k)→s'.hp=s.hp→o.wp C.P a w K Q:=
  fun h1 h2 s' he hf hb hh=>uy h1 h2 s' (zl hR hΩ p.p.o h hlo he) hf hb hh
 have hdrop:∀ {dd},p.p.d=some dd→iW C.E.dp s dd→∀ d',d'∈p.cs∨p.p.d=some d'∨ax s.fr d'=ax (s.a6 (.s dd)).fr d':=by
  intro dd _ hf d'
  refine .inr (.inr ?_)
  simp only [St.a6,kD,(hf.fr d').2,Bool.false_eq_true,if_false]
 cases hao:p.p.o with
 | bx x=>simp [dK,hao] at hk
 | c2 f args=>simp [dK,hao] at hk
 | d2 x args=>simp [dK,hao] at hk
 | cn f args=>simp [dK,hao] at hk
 | ch f args sl dl ow=>simp [dK,hao] at hk
 | bg zs fs=>simp [dK,hao] at hk
 | bxg x=>simp [dK,hao] at hk
 | c3 f args=>
  rw [hao] at hr hlo
  obtain ⟨_,h2⟩:=HU (d:=p.p.d) hR.h h (fun x hx=>hle.ev rfl hx) hle.bx hlo hr
  exact uy (by rw [hao];rfl) (by simp [fI,kg,hao,pX]) s h2 (fun d'=>.inr (.inr rfl)) (fun _=>rfl) rfl
 | cr t f args=>simp [dK,hao] at hk
 | as x=>
  rw [hao] at hr hlt hlo
  refine plain (by rw [hao];rfl) (by simp [fI,kg,hao,pX]) s ?_ (fun d'=>.inr (.inr rfl)) (fun _=>rfl) rfl
  rw [hao]
  have hc:((view p s).ev x).copy=true:=hlt
  have hx:=hle.ev rfl (zn hc)
  cases x with
  | c z=>
   simp only [execOp] at hr ⊢
   split at hr
   ·rename_i hp
    obtain rfl:=Option.some.inj hr
    rw [if_pos hp]
   ·cases hr
  | t n=>
   have hx':ax s.fr n=ax (view p s).fr n:=hx
   simp only [execOp] at hr ⊢
   have hc':(ax (view p s).fr n).copy=true:=hc
   rw [hx']
   generalize ax (view p s).fr n=y at hr hc'
   cases y<;>first | (simp [AV.copy] at hc';done) | skip
   all_goals
    simp only [hc',Bool.true_or,if_true] at hr ⊢
    obtain rfl:=Option.some.inj hr
    rfl
 | bs t sz es=>
  rw [hao] at hr hlt hlo
  simp only [execOp] at hr
  obtain ⟨dd,hdd,hr1⟩:=Option.bind_eq_some_iff.1 hr
  have hf:=hfree (by rw [hao];rfl) dd hdd
  split at hr1
  ·rename_i hall
   obtain rfl:=Option.some.inj hr1
   refine plain (by rw [hao];rfl) (by simp [fI,kg,hao,pX]) (s.a6 (.s dd)) ?_ (hdrop hdd hf) (fun _=>rfl) rfl
   rw [hao]
   have hm:=hle.map (xs:=es) fun x hx=>by
    have:=List.all_eq_true.1 hall _ (List.mem_map_of_mem hx)
    simp only [Bool.and_eq_true] at this
    exact Kr this.1.1
   simp only [execOp,hdd,Option.bind_some,hm,if_pos hall]
  ·cases hr1
 | ms t sz by_ z n=>
  rw [hao] at hr hlt hlo
  simp only [execOp] at hr
  obtain ⟨dd,hdd,hr1⟩:=Option.bind_eq_some_iff.1 hr
  obtain ⟨m,hm,hr2⟩:=Option.bind_eq_some_iff.1 hr1
  have hf:=hfree (by rw [hao];rfl) dd hdd
  split at hr2
  ·rename_i hc
   obtain rfl:=Option.some.inj hr2
   refine plain (by rw [hao];rfl) (by simp [fI,kg,hao,pX]) (s.a6 (.s dd)) ?_ (hdrop hdd hf) (fun _=>rfl) rfl
   rw [hao]
   simp only [execOp,hdd,Option.bind_some,hle.nat hm,if_pos hc]
  ·cases hr2
 | ap t sz by_ x y=>
  rw [hao] at hr hlt hlo
  simp only [execOp] at hr
  obtain ⟨dd,hdd,hr1⟩:=Option.bind_eq_some_iff.1 hr
  obtain ⟨ys,hys,hr2⟩:=Option.bind_eq_some_iff.1 hr1
  obtain ⟨qq,hqq,hr3⟩:=Option.bind_eq_some_iff.1 hr2
  have hf:=hfree (by rw [hao];rfl) dd hdd
  split at hr3
  ·rename_i hc
   obtain rfl:=Option.some.inj hr3
   have hyu:(view p s).ev y≠.u:=by intro e;rw [e] at hys;cases hys
   by_cases hrc:CC ((view p s).ev x)=true
   ·
    have h2:(p.cs.length==2)=true:=by
     have:=hls
     simp only [ga,hao,hrc] at this
     simpa using this
    cases x with
    | c z=>
     exfalso
     unfold A.consume at hqq
     cases z<;>first | (simp [St.ev,CC] at hrc;done) | cases hqq
    | t m=>
     have hcs:p.cs=[m,m]:=by
      have:=hk
      simp only [dK,hao,Bool.or_eq_true,beq_iff_eq] at this
      rcases this with e | e
      ·rw [e] at h2;cases h2
      ·exact e
     have hx:∃ k off,ax (view p s).fr m= .r (.c k off):=by
      have h3:CC (ax (view p s).fr m)=true:=hrc
      generalize ax (view p s).fr m=z at h3
      cases z<;>first | (cases h3;done) | skip
      rename_i pl
      cases pl with
      | s d=>cases h3
      | c k off=>exact ⟨k,off,rfl⟩
     obtain ⟨k,off,hx⟩:=hx
     unfold A.consume at hqq
     simp only [hx] at hqq
     split at hqq
     ·rename_i hmine
      obtain ⟨rw1,hrow,hq1⟩:=Option.bind_eq_some_iff.1 hqq
      split at hq1
      ·rename_i htt
       obtain ⟨st',hput,hq2⟩:=Option.bind_eq_some_iff.1 hq1
       obtain rfl:=Option.some.inj hq2
       simp only [St.putAt] at hput
       split at hput
       ·rename_i cs0 hb
        obtain rfl:=Option.some.inj hput
        have hb':=hle.bx k cs0 hb
        have hrow':s.rowAt C.E.dp (.c k off)=some rw1:=by
         simp only [St.rowAt,hb] at hrow
         simp only [St.rowAt,hb']
         exact hrow
        have hcon:A.consume C.E s t (.t m)=some (rw1.2,s.aM C.E.dp k (cs0.set off .u)):=by
         simp only [A.consume,hle.slot hx (by simp),if_pos hmine,hrow',Option.bind_some,if_pos htt,St.putAt,hb']
        have hex:execOp R Ω C.E s p.p.d p.p.o=some (.o t (rw1.2++ys.2),(s.aM C.E.dp k (cs0.set off .u)).a6 (.s dd)):=by
         rw [hao]
         simp only [execOp,hdd,Option.bind_some,hle.ev (x:=y) rfl hyu,hle.elems hys,hcon,if_pos hc]
        have hsim:=zl hR hΩ p.p.o h (by rw [hao];exact hlo) hex
        have he:∀ r:AV×St,effect p r=⟨gv p.p.d (dX p.p.fz r.1)++p.cs.map (fun m=>(m,.u)),[],cp r.2.bx p.vb,if p.vh=true then some r.2.hp else none⟩:=by
         intro r
         unfold effect
         simp only [hao,h2,if_true,Bool.true_and]
        rw [he] at hK
        obtain ⟨sb1,sb2⟩:=Bj (nw:=cs0.set off .u) (gv p.p.d (dX p.p.fz (.o t (rw1.2++ys.2)))++p.cs.map (fun m=>(m,AV.u))) hb
        refine finish hdst hd hsim (fun d'=>?_) sb1 sb2 hK
        simp only [bu.app,List.append_assoc]
        rw [gn,xU,hdd]
        by_cases hm:d'=dd
        ·subst hm
         rw [if_pos (by simp [nK])]
         exact .inr (by simp [gv,ax,A.put,St.bQ])
        ·rw [if_neg (by simp [nK,hm]),lE]
         split
         ·exact .inl rfl
         ·refine .inr ?_
          simp only [A.put,St.bQ,ax,if_neg (fun e=>hm (Eq.symm e)),St.a6,kD,lD,(hf.fr d').2,Bool.false_eq_true,if_false]
       ·cases hput
      ·cases hq1
     ·cases hqq
   have hnw:fI p=false:=by
    have:=hls
    simp only [ga,hao,beq_iff_eq] at this
    simp only [fI,kg,hao,pX,Bool.false_or,←this]
    simpa using hrc
   have hcon:∃ s1:St,A.consume C.E s t x=some (qq.1,s1)∧(∀ d',d'∈p.cs∨ax s.fr d'=ax s1.fr d')∧(∀ k,s1.box C.E.dp k=s.box C.E.dp k)∧s1.hp=s.hp∧(∀ d',(ax s1.fr d').bJ (.s dd)=false):=by
    unfold A.consume at hqq
    split at hqq
    ·obtain rfl:=Option.some.inj hqq
     exact ⟨s,rfl,fun _=>.inr rfl,fun _=>rfl,rfl,fun d'=>(hf.fr d').2⟩
    ·cases hqq
    ·rename_i m
     have hcs:m∈p.cs:=by
      have:=hk
      simp only [dK,hao,Bool.or_eq_true,beq_iff_eq] at this
      rcases this with e | e<;>rw [e]<;>simp
     split at hqq
     ·rename_i hx
      obtain rfl:=Option.some.inj hqq
      refine ⟨s,?_,fun _=>.inr rfl,fun _=>rfl,rfl,fun d'=>(hf.fr d').2⟩
      simp only [A.consume,hle.slot hx (by simp)]
     ·rename_i t' es hx
      split at hqq
      ·rename_i htt
       obtain rfl:=Option.some.inj hqq
       refine ⟨s.bQ m .u,?_,fun d'=>?_,fun _=>rfl,rfl,fun d'=>?_⟩
       ·simp only [A.consume,hle.slot hx (by simp),if_pos htt]
       ·rw [jf]
        by_cases hm:m=d'
        ·exact .inl (hm▸hcs)
        ·exact .inr (by rw [if_neg hm])
       ·rw [jf]
        split
        ·rfl
        ·exact (hf.fr d').2
      ·cases hqq
     ·rename_i pl hx
      simp only [gP,St.ev,hx] at hlt
      simp only [CC,St.ev,hx] at hrc
      cases pl with
      | s d=>cases hlt
      | c k off=>exact absurd rfl hrc
     ·rename_i pl lo len hx
      simp only [gP,St.ev,hx] at hlt
      cases hlt
     ·cases hqq
   obtain ⟨s1,h1,h2,h3,h4,h5⟩:=hcon
   refine plain (by rw [hao];rfl) hnw (s1.a6 (.s dd)) ?_ (fun d'=>?_) (fun k=>h3 k) h4
   ·rw [hao]
    simp only [execOp,hdd,Option.bind_some,hle.ev (x:=y) rfl hyu,hle.elems hys,h1,if_pos hc]
   ·rcases h2 d' with h6 | h6
    ·exact .inl h6
    ·refine .inr (.inr ?_)
     simp only [St.a6,kD,h5 d',Bool.false_eq_true,if_false]
     exact h6
  ·cases hr3
 | al zs=>
  rw [hao] at hr hlt hlo
  simp only [execOp] at hr
  obtain ⟨dd,hdd,hr1⟩:=Option.bind_eq_some_iff.1 hr
  have hf:=hfree (by rw [hao];rfl) dd hdd
  split at hr1
  ·rename_i hcd
   have hd6:dd<1000000:=by simp only [kN,Bool.and_eq_true,decide_eq_true_eq] at hcd;exact hcd.1.1.2
   obtain rfl:=Option.some.inj hr1
   have he:effect p (.p ⟨C.E.dp,dd⟩ 0,{(view p s) with bx:=(dd,zs)::(view p s).bx})=⟨[(dd,.p ⟨C.E.dp,dd⟩ 0)],[(dd,zs)],[],none⟩:=by
    unfold effect
    rw [hao,hdd]
   rw [he] at hK
   refine finish (s:=s) hdst hd (HR (d:=p.p.d) h hd6 hlo hdd (fun d'=>(hf.fr d').1) (fun d' cs' hb c hc=>hf.cs d' cs' hb c hc)) (fun d'=>.inr ?_) (fun k cs hk=>?_) (fun k cs _ hk=>?_) hK
   ·rw [hdd]
    have:dX p.p.fz (.p ⟨C.E.dp,dd⟩ 0)= .p ⟨C.E.dp,dd⟩ 0:=by cases p.p.fz<;>rfl
    rw [this]
    rfl
   ·by_cases hkd:k.dp=C.E.dp
    ·simp only [St.box,bu.app,hkd,if_true,nO,List.cons_append,List.nil_append] at hk ⊢
     exact hk
    ·simp only [St.box,bu.app,if_neg hkd] at hk ⊢
     exact hk
   ·exact hk
  ·cases hr1
 | ck f args=>
  rw [hao] at hr hlt hlo
  simp only [execOp] at hr
  obtain ⟨dd,hdd,hr1⟩:=Option.bind_eq_some_iff.1 hr
  have hf:=hfree (by rw [hao];rfl) dd hdd
  unfold vT at hr1
  split at hr1
  ·rename_i hp
   obtain ⟨⟨q,hp'⟩,hq,hr2⟩:=Option.bind_eq_some_iff.1 hr1
   cases q with
   | ret x=>cases hr2
   | new cs=>?_
   simp only at hr2
   split at hr2
   ·rename_i hno
    have hm:=hle.map (xs:=args) fun x hx=>Kr (eM hp _ (List.mem_map_of_mem hx))
    have hd6:dd<1000000:=by simp only [px,kN,Bool.and_eq_true,decide_eq_true_eq] at hno;exact hno.2.1.1.2
    obtain rfl:=Option.some.inj hr2
    have he:effect p (.p ⟨C.E.dp,dd⟩ 0,{(view p s) with bx:=(dd,cs)::(view p s).bx})=⟨[(dd,.p ⟨C.E.dp,dd⟩ 0)],[(dd,cs)],[],none⟩:=by
     unfold effect
     rw [hao,hdd]
     simp [ay]
    rw [he] at hK
    refine finish (s:=s) hdst hd (HV (d:=p.p.d) hR.h h hlo (by rw [hm];exact hp) (by rw [hm];exact hq) hd6 (fun d'=>(hf.fr d').1) (fun d' cs' hb c hc=>hf.cs d' cs' hb c hc)) (fun d'=>.inr ?_) (fun k cs hk=>?_) (fun k cs _ hk=>?_) hK
    ·rw [hdd]
     have:dX p.p.fz (.p ⟨C.E.dp,dd⟩ 0)= .p ⟨C.E.dp,dd⟩ 0:=by cases p.p.fz<;>rfl
     rw [this]
     rfl
    ·by_cases hkd:k.dp=C.E.dp
     ·simp only [St.box,bu.app,hkd,if_true,nO,List.cons_append,List.nil_append] at hk ⊢
      exact hk
     ·simp only [St.box,bu.app,if_neg hkd] at hk ⊢
      exact hk
    ·exact hk
   ·cases hr2
  ·cases hr1
 | st n x y=>
  rw [hao] at hr hlt hlo
  have hdn:p.p.d=none:=by
   have:=hk
   simp only [dK,hao,Bool.and_eq_true,beq_iff_eq] at this
   exact this.1
  simp only [gP,Bool.and_eq_true,Bool.or_eq_true] at hlt
  obtain ⟨hyc,hxp⟩:=hlt
  have hyu:(view p s).ev y≠.u:=by
   intro e;rw [e] at hyc;rcases hyc with h | h<;>cases h
  have hy:=hle.ev rfl hyu
  have heff:∀ r:AV×St,effect p r=⟨p.cs.map (fun m=>(m,.u)),[],cp r.2.bx p.vb,if p.vh=true then some r.2.hp else none⟩:=by
   intro r
   unfold effect
   rw [hao]
  simp only [execOp] at hr
  split at hr
  ·rename_i k off hx
   split at hr
   ·rename_i hm
    obtain ⟨cs,hb,hr1⟩:=Option.bind_eq_some_iff.1 hr
    have hb':=hle.bx k cs hb
    split at hr1
    ·rename_i t' es hyy
     have hrow:DO ((view p s).ev y)=true:=by rw [hyy];rfl
     have hls2:=hls
     simp only [ga,hao,hrow,hx,Bool.not_true,Bool.false_or,Bool.and_eq_true,decide_eq_true_eq,beq_iff_eq] at hls2
     obtain ⟨⟨hkd,hvb⟩,hcs⟩:=hls2
     cases y with
     | c z=>cases hcs
     | t m=>
      have hcs':p.cs=[m]:=by simpa using hcs
      have hfb':oq C.E.dp s k.d:=hfb (by rw [hao];simp [qX,hcs']) k.d (by rw [hvb];simp)
      simp only at hr1
      split at hr1
      ·rename_i hc
       obtain rfl:=Option.some.inj hr1
       have hex:execOp R Ω C.E s p.p.d p.p.o=some (.u,((s.bQ m .u).a6 (.c k off)).aM C.E.dp k (cs.set off (.o t' es))):=by
        rw [hao]
        simp only [execOp,hle.ev hx (by simp),if_pos hm,hb',Option.bind_some,hy,hyy]
        rw [if_pos hc]
       have hsim:=zl (r:=(.u,((s.bQ m .u).a6 (.c k off)).aM C.E.dp k (cs.set off (.o t' es)))) hR hΩ p.p.o h (by rw [hao];exact hlo) hex
       rw [heff,hcs'] at hK
       have hbx0:∀ nw,(((view p s).bQ m .u).a6 (.c k off)).aM C.E.dp k nw=({((view p s).aM C.E.dp k nw) with fr:=(((view p s).bQ m .u).a6 (.c k off)).fr} : St):=by
        intro nw
        simp only [St.aM,hkd,if_true,St.a6,St.bQ]
       rw [hbx0] at hK
       obtain ⟨sb1,sb2⟩:=Bj (nw:=cs.set off (.o t' es)) [(m,.u)] hb
       have hbx1:∀ nw k',((((s.bQ m .u).a6 (.c k off)).aM C.E.dp k nw).box C.E.dp k')=(s.aM C.E.dp k nw).box C.E.dp k':=by
        intro nw k'
        simp only [St.aM,hkd,if_true,St.a6,St.bQ,St.box]
       have hhp1:∀ nw,((((s.bQ m .u).a6 (.c k off)).aM C.E.dp k nw).hp)=(s.aM C.E.dp k nw).hp:=by
        intro nw
        simp only [St.aM,hkd,if_true,St.a6,St.bQ]
       refine finish hdst hd hsim (fun d'=>?_) (fun k' cs' hk'=>?_) (fun k' cs' hkd' hk'=>?_) hK
       ·rw [hdn]
        simp only [bu.app,A.put,lD,List.map_cons,List.map_nil,List.cons_append,List.nil_append,ax]
        by_cases hmd:m=d'
        ·rw [if_pos hmd];exact .inl rfl
        ·rw [if_neg hmd]
         refine .inr ?_
         simp only [St.a6,St.bQ,kD,ax,if_neg hmd]
         rw [if_neg]
         intro hbor
         have:=hfb' d'
         rw [←hkd] at this
         rw [My hbor] at this;cases this
       ·rw [hbx1];exact sb1 k' cs' hk'
       ·rw [hhp1];exact sb2 k' cs' hkd' hk'
      ·cases hr1
    ·rename_i pl lo len hyy
     rw [hyy] at hyc;rcases hyc with h | h<;>cases h
    ·rename_i hyo hyv
     have hyc':((view p s).ev y).copy=true:=by
      rcases hyc with h | h
      ·exact h
      ·exfalso
       generalize (view p s).ev y=z at h hyo
       cases z<;>first | (exact hyo _ _ rfl) | (exact absurd rfl (hyo _ _)) | (cases h;done)
     split at hr1
     ·rename_i hc
      obtain rfl:=Option.some.inj hr1
      have hex:execOp R Ω C.E s p.p.d p.p.o=some (.u,s.aM C.E.dp k (putCells cs off ((view p s).ev y).cl)):=by
       rw [hao]
       simp only [execOp,hle.ev hx (by simp),if_pos hm,hb',Option.bind_some,hy]
       rw [if_pos hc]
      have hsim:=zl (r:=(.u,s.aM C.E.dp k (putCells cs off ((view p s).ev y).cl))) hR hΩ p.p.o h (by rw [hao];exact hlo) hex
      rw [heff] at hK
      obtain ⟨sb1,sb2⟩:=Bj (nw:=putCells cs off ((view p s).ev y).cl) (p.cs.map fun m=>(m,AV.u)) hb
      refine finish hdst hd hsim (fun d'=>?_) sb1 sb2 hK
      rw [hdn]
      simp only [bu.app,A.put,lD]
      rw [lE]
      split
      ·exact .inl rfl
      ·exact .inr rfl
     ·cases hr1
   ·cases hr
  ·rename_i hx
   rw [hx] at hxp;cases hxp
  ·cases hr
 | _=>
  have hqk:qk p.p.o=true:=by rw [hao];rfl
  obtain ⟨_,h2⟩:=Xe hle hqk hlt hr
  exact plain (by rw [hao];rfl) (by simp [fI,kg,hao,pX]) s h2 (fun d'=>.inr (.inr rfl)) (fun _=>rfl) rfl
end
variable [bE]
section
variable {C:Cx}{s:St}{a:Act}{w:World}{σ:Sp}{o:Oper}{R:Rec}{Ω:cD}
theorem an.Xh{nt i:Nat}{ops:Array Oper}{p:bM}{q:bu}{K:Act→World→Prop}{Q:Exit→Act→World→Prop}(hR:jO C.P R)(hΩ:fq C.P Ω)(h:an C s a w σ)(ho:ops[i]? =some o)(hl:zm C.P nt ops o p.p=true)(hnt:nt≤C.nt)
  (hk:dK p=true) (hfree:Gw p.p.o=true→∀ dd,p.p.d=some dd→iW C.E.dp s dd) (hfb:qX p.p.o p.cs=true→∀ h∈p.vb,oq C.E.dp s h) (hq:cF R Ω C.E p s=some q) (hK:∀ a' w' σ',bX C w σ w' σ'→an C (q.app s) a' w' σ'→K a' w'):wpOp C.P ops Q i K a w:=by
 obtain ⟨hlo,hdst,hd,hgd⟩:=Bi hl hnt
 obtain ⟨hg1,hg2⟩:=h.guard hgd
 have hcore:iJ R Ω C.E p (view p s)=some q→o.wp C.P a w K Q:=by
  intro hc
  unfold iJ at hc
  split at hc
  ·rename_i hlt
   obtain ⟨r,hr,h2⟩:=Option.bind_eq_some_iff.1 hc
   split at h2
   ·obtain rfl:=Option.some.inj h2
    simp only [Bool.and_eq_true] at hlt
    exact h.Ov hR hΩ hlo hdst hd hk hfree hlt.1 hlt.2 hfb hr hK
   ·cases h2
  ·cases hc
 simp only [wpOp,ho]
 unfold cF at hq
 split at hq
 ·rename_i hgn
  rw [if_pos (hg1 hgn)]
  exact .inl (hcore hq)
 ·rename_i j want hgs
  obtain ⟨y,hy,hq1⟩:=Option.bind_eq_some_iff.1 hq
  have hwt:=hg2 j want y hgs hy
  split at hq1
  ·rename_i hyt
   rw [if_pos (by rw [hwt,hyt])]
   exact .inl (hcore hq1)
  ·rename_i hyf
   rw [if_neg (by rw [hwt];exact hyf)]
   refine hK _ _ _ (.refl _ _ _) ?_
   rw [←Option.some.inj hq1,hdst]
   refine (h.Ns hd).se ⟨fun d'=>?_,fun d'=>?_,?_,fun y=>?_⟩
   ·simp only [bu.app];rw [Ku]
   ·cases p.p.d<;>rfl
   ·cases p.p.d<;>rfl
   ·cases p.p.d<;>exact Iff.rfl
theorem xV{s:St}{dp:Nat}{k:Key}{cs zs:List AV}{d:Nat}(h:ay (s.aM dp k cs).bx d=some zs):ay s.bx d=some zs∨zs=cs:=by
 unfold St.aM at h
 split at h
 ·simp only [si] at h
  split at h
  ·rename_i e
   cases hb:ay s.bx k.d with
   | none=>rw [hb] at h;cases h
   | some z=>
    rw [hb] at h
    exact .inr (Option.some.inj h).symm
  ·exact .inl h
 ·exact .inl h
theorem S2{k:Key}{y:AV}(h:y.aG k=true):∀ c∈y.cl,c.aG k=true:=by
 intro c hc
 cases y<;>simp only [AV.cl,List.mem_singleton] at hc<;>first | (subst hc;exact h) | skip
 exact fv (by simpa [AV.aG] using h) c hc
theorem iW.step{p:bM}{q:bu}{h:Nat}{op:Op}(hf:iW C.E.dp s h)(hlo:bj C.P p.p.o op=true)(hk:dK p=true)(hn:h∈p.nk)(hq:cF R Ω C.E p s=some q):iW C.E.dp (q.app s) h:=by
 have hle:=DK p s C.E.dp
 have hvf:∀ d,(ax (view p s).fr d).aG ⟨C.E.dp,h⟩=true:=fun d=>by
  rcases hle.fr d with e | e
  ·rw [e];rfl
  ·rw [e];exact (hf.fr d).1
 have hgen:∀ (x:AV)(cs:List Nat),x.aG ⟨C.E.dp,h⟩=true→x.bJ (.s h)=false→iW C.E.dp ((⟨gv p.p.d x++cs.map (fun m=>(m,.u)),[],[],none⟩:bu).app s) h:=by
  intro x cs hx hb
  refine ⟨fun d=>?_,hf.cs⟩
  simp only [bu.app,List.append_assoc]
  rw [gn]
  split
  ·rename_i hm
   cases hd:p.p.d with
   | none=>rw [hd] at hm;simp [gv,cL] at hm
   | some dd=>
    rw [hd] at hm
    simp only [gv,cL,List.map_cons,List.map_nil,List.mem_singleton] at hm
    subst hm
    simp [gv,ax,hx,hb]
  ·rw [lE]
   split
   ·exact ⟨rfl,rfl⟩
   ·exact hf.fr d
 have hcore:iJ R Ω C.E p (view p s)=some q→iW C.E.dp (q.app s) h:=by
  intro hc
  unfold iJ at hc
  split at hc
  ·rename_i hlt2
   have hlt:=(Bool.and_eq_true_iff.1 hlt2).1
   obtain ⟨r,hr,h2⟩:=Option.bind_eq_some_iff.1 hc
   split at h2
   ·rename_i hok2
    have hok:=(Bool.and_eq_true_iff.1 hok2).1
    obtain rfl:=Option.some.inj h2
    have hx:r.1.aG ⟨C.E.dp,h⟩=true∧r.1.bJ (.s h)=false:=by
     have:=List.all_eq_true.1 hok h hn
     simpa using this
    have hfz:(dX p.p.fz r.1).aG ⟨C.E.dp,h⟩=true∧(dX p.p.fz r.1).bJ (.s h)=false:=by
     cases p.p.fz with
     | false=>simpa [dX] using hx
     | true=>cases hr1:r.1<;>rw [hr1] at hx<;>first | exact hx | exact ⟨rfl,rfl⟩
    by_cases hal:oY p.p.o=true
    ·cases hao:p.p.o<;>rw [hao] at hal<;>simp [oY] at hal
     case al zs=>
      rw [hao] at hr hlo
      simp only [execOp] at hr
      obtain ⟨dd,hdd,hr1⟩:=Option.bind_eq_some_iff.1 hr
      split at hr1
      ·obtain rfl:=Option.some.inj hr1
       have he:effect p (.p ⟨C.E.dp,dd⟩ 0,{(view p s) with bx:=(dd,zs)::(view p s).bx})=⟨[(dd,.p ⟨C.E.dp,dd⟩ 0)],[(dd,zs)],[],none⟩:=by
        unfold effect
        rw [hao,hdd]
       rw [he]
       refine ⟨fun d=>?_,fun d cs hb c hc=>?_⟩
       ·simp only [bu.app,List.cons_append,List.nil_append,ax]
        split
        ·exact hx
        ·exact hf.fr d
       ·simp only [bu.app,List.cons_append,List.nil_append,ay,nO] at hb
        split at hb
        ·obtain rfl:=Option.some.inj hb
         exact fY c (Oj hlo c hc)
        ·exact hf.cs d cs hb c hc
      ·cases hr1
     case ck f args=>
      rw [hao] at hr hlo
      simp only [execOp] at hr
      obtain ⟨dd,hdd,hr1⟩:=Option.bind_eq_some_iff.1 hr
      unfold vT at hr1
      split at hr1
      ·obtain ⟨⟨q,hp'⟩,hq,hr2⟩:=Option.bind_eq_some_iff.1 hr1
       cases q with
       | ret x=>cases hr2
       | new cs=>?_
       simp only at hr2
       split at hr2
       ·rename_i hno
        obtain rfl:=Option.some.inj hr2
        have he:effect p (.p ⟨C.E.dp,dd⟩ 0,{(view p s) with bx:=(dd,cs)::(view p s).bx})=⟨[(dd,.p ⟨C.E.dp,dd⟩ 0)],[(dd,cs)],[],none⟩:=by
         unfold effect
         rw [hao,hdd]
         simp [ay]
        rw [he]
        refine ⟨fun d=>?_,fun d cs' hb c hc=>?_⟩
        ·simp only [bu.app,List.cons_append,List.nil_append,ax]
         split
         ·exact hx
         ·exact hf.fr d
        ·simp only [bu.app,List.cons_append,List.nil_append,ay,nO] at hb
         split at hb
         ·obtain rfl:=Option.some.inj hb
          have:=List.all_eq_true.1 (Bool.and_eq_true_iff.1 hno).1 c hc
          cases c<;>first | rfl | exact fY _ this
         ·exact hf.cs d cs' hb c hc
       ·cases hr2
      ·cases hr1
    ·by_cases hst:pX p.p.o=true
     ·cases hao:p.p.o<;>rw [hao] at hst<;>simp [pX] at hst
      rename_i n x y
      rw [hao] at hr hlo hlt
      simp only [gP,Bool.and_eq_true,Bool.or_eq_true] at hlt
      obtain ⟨hyc,hxp⟩:=hlt
      have hyk:((view p s).ev y).aG ⟨C.E.dp,h⟩=true:=by
       cases y with
       | t m=>exact hvf m
       | c z=>
        have hp:z.pure=true:=by
         simp only [bj] at hlo
         split at hlo
         ·simp only [Bool.and_eq_true] at hlo
          exact nH hlo.1.2
         ·cases hlo
        exact fY z hp
      have hcs:∀ d cs,ay r.2.bx d=some cs→∀ c∈cs,c.aG ⟨C.E.dp,h⟩=true:=by
       simp only [execOp] at hr
       split at hr
       ·rename_i k off hx'
        split at hr
        ·rename_i hm
         obtain ⟨cs0,hb0,hr1⟩:=Option.bind_eq_some_iff.1 hr
         split at hr1
         ·rename_i t' es hyy
          split at hr1
          ·rename_i m
           split at hr1
           ·obtain rfl:=Option.some.inj hr1
            intro d cs hb c hc
            rcases xV hb with h3 | rfl
            ·exact hf.cs d cs (cm h3) c hc
            ·rcases List.mem_or_eq_of_mem_set hc with hc | rfl
             ·by_cases hkd:k.dp=C.E.dp
              ·have h4:ay (view p s).bx k.d=some cs0:=by simpa [St.box,hkd] using hb0
               exact hf.cs k.d cs0 (cm h4) c hc
              ·simp only [St.aM,if_neg hkd] at hb
               exact hf.cs d _ (cm hb) c (by rcases List.mem_or_eq_of_mem_set ‹c∈_› with h | h<;>first | exact ‹_› | assumption)
             ·rfl
           ·cases hr1
          ·cases hr1
         ·rename_i pl lo len hyy
          rw [hyy] at hyc;rcases hyc with h | h<;>cases h
         ·split at hr1
          ·obtain rfl:=Option.some.inj hr1
           intro d cs hb c hc
           rcases xV hb with h3 | rfl
           ·exact hf.cs d cs (cm h3) c hc
           ·
            by_cases hkd:k.dp=C.E.dp
            ·rcases ur hc with hc | hc
             ·have h4:ay (view p s).bx k.d=some cs0:=by simpa [St.box,hkd] using hb0
              exact hf.cs k.d cs0 (cm h4) c hc
             ·exact S2 hyk c hc
            ·simp only [St.aM,if_neg hkd] at hb
             exact hf.cs d _ (cm hb) c hc
          ·cases hr1
        ·cases hr
       ·rename_i hx'
        rw [hx'] at hxp;cases hxp
       ·cases hr
      have he:effect p r=⟨p.cs.map (fun m=>(m,.u)),[],cp r.2.bx p.vb,if p.vh=true then some r.2.hp else none⟩:=by
       unfold effect
       rw [hao]
      rw [he]
      refine ⟨fun d=>?_,fun d cs hb c hc=>?_⟩
      ·simp only [bu.app]
       rw [lE]
       split
       ·exact ⟨rfl,rfl⟩
       ·exact hf.fr d
      simp only [bu.app,List.nil_append,oo] at hb
      split at hb
      ·rename_i zs hz
       cases hb2:ay s.bx d with
       | none=>rw [hb2] at hb;cases hb
       | some z=>
        rw [hb2] at hb
        obtain rfl:=Option.some.inj hb
        exact hcs d _ (cm hz) c hc
      ·exact hf.cs d cs hb c hc
     ·by_cases hra:kg p=true
      ·unfold kg at hra
       split at hra
       ·rename_i t sz by_ x y hao
        rw [hao] at hr hlt
        have he:effect p r=⟨gv p.p.d (dX p.p.fz r.1)++p.cs.map (fun m=>(m,.u)),[],cp r.2.bx p.vb,if p.vh=true then some r.2.hp else none⟩:=by
         unfold effect
         simp only [hao,hra,if_true,Bool.true_and]
        rw [he]
        simp only [execOp] at hr
        obtain ⟨dd,hdd,hr1⟩:=Option.bind_eq_some_iff.1 hr
        obtain ⟨ys,hys,hr2⟩:=Option.bind_eq_some_iff.1 hr1
        obtain ⟨qq,hqq,hr3⟩:=Option.bind_eq_some_iff.1 hr2
        have hcs:∀ d cs,ay qq.2.bx d=some cs→∀ c∈cs,c.aG ⟨C.E.dp,h⟩=true:=by
         unfold A.consume at hqq
         split at hqq
         ·obtain rfl:=Option.some.inj hqq
          exact fun d cs hb c hc=>hf.cs d cs (cm hb) c hc
         ·cases hqq
         ·rename_i m
          split at hqq
          ·obtain rfl:=Option.some.inj hqq
           exact fun d cs hb c hc=>hf.cs d cs (cm hb) c hc
          ·split at hqq
           ·obtain rfl:=Option.some.inj hqq
            exact fun d cs hb c hc=>hf.cs d cs (cm hb) c hc
           ·cases hqq
          ·rename_i pl hx
           split at hqq
           ·obtain ⟨rw1,hrow,hq1⟩:=Option.bind_eq_some_iff.1 hqq
            split at hq1
            ·obtain ⟨st',hput,hq2⟩:=Option.bind_eq_some_iff.1 hq1
             obtain rfl:=Option.some.inj hq2
             cases pl with
             | s d'=>simp only [gP,St.ev,hx] at hlt;cases hlt
             | c k off=>
              simp only [St.putAt] at hput
              split at hput
              ·rename_i cs0 hb0
               obtain rfl:=Option.some.inj hput
               intro d cs hb c hc
               rcases xV hb with h3 | rfl
               ·exact hf.cs d cs (cm h3) c hc
               ·rcases List.mem_or_eq_of_mem_set hc with hc | rfl
                ·by_cases hkd:k.dp=C.E.dp
                 ·have h4:ay (view p s).bx k.d=some cs0:=by simpa [St.box,hkd] using hb0
                  exact hf.cs k.d cs0 (cm h4) c hc
                 ·simp only [St.aM,if_neg hkd] at hb
                  exact hf.cs d _ (cm hb) c (by rcases List.mem_or_eq_of_mem_set ‹c∈_› with h | h<;>first | exact ‹_› | assumption)
                ·rfl
              ·cases hput
            ·cases hq1
           ·cases hqq
          ·rename_i pl lo len hx
           simp only [gP,St.ev,hx] at hlt
           cases hlt
          ·cases hqq
        have hbx:r.2.bx=qq.2.bx:=by
         split at hr3
         ·obtain rfl:=Option.some.inj hr3;rfl
         ·cases hr3
        refine ⟨fun d=>(hgen _ _ hfz.1 hfz.2).fr d,fun d cs hb c hc=>?_⟩
        simp only [bu.app,List.nil_append,oo] at hb
        split at hb
        ·rename_i zs hz
         cases hb2:ay s.bx d with
         | none=>rw [hb2] at hb;cases hb
         | some z=>
          rw [hb2] at hb
          obtain rfl:=Option.some.inj hb
          rw [hbx] at hz
          exact hcs d _ (cm hz) c hc
        ·exact hf.cs d cs hb c hc
       ·cases hra
      ·rw [Cu (by simpa using hal) (by simp only [fI,Bool.or_eq_false_iff];exact ⟨by simpa using hst,by simpa using hra⟩)]
       exact hgen _ _ hfz.1 hfz.2
   ·cases h2
  ·cases hc
 unfold cF at hq
 split at hq
 ·exact hcore hq
 ·obtain ⟨y,hy,hq1⟩:=Option.bind_eq_some_iff.1 hq
  split at hq1
  ·exact hcore hq1
  ·obtain rfl:=Option.some.inj hq1
   have:=hgen .sk [] rfl rfl
   simpa using this
end
theorem oq.step{dp:Nat}{ro:Bool}{s:St}{R:Rec}{Ω:cD}{p:bM}{q:bu}{h:Nat}(hf:oq dp s h)(hn:h∈p.nb)(hq:cF R Ω ⟨dp,ro⟩ p s=some q):oq dp (q.app s) h:=by
 have hput:∀ (x:AV)(cs:List Nat)(nb wb:List (Nat×List AV))(hp:Option HP),cg ⟨dp,h⟩ x=false→oq dp ((⟨gv p.p.d x++cs.map (fun m=>(m,.u)),nb,wb,hp⟩:bu).app s) h:=by
  intro x cs nb wb hp hx d
  simp only [bu.app,List.append_assoc]
  rw [gn]
  split
  ·rename_i hm
   cases hd:p.p.d with
   | none=>rw [hd] at hm;simp [gv,cL] at hm
   | some dd=>
    rw [hd] at hm
    simp only [gv,cL,List.map_cons,List.map_nil,List.mem_singleton] at hm
    subst hm
    simp [gv,ax,hx]
  ·rw [lE]
   split
   ·rfl
   ·exact hf d
 have hcore:iJ R Ω ⟨dp,ro⟩ p (view p s)=some q→oq dp (q.app s) h:=by
  intro hc
  unfold iJ at hc
  split at hc
  ·obtain ⟨r,hr,h2⟩:=Option.bind_eq_some_iff.1 hc
   split at h2
   ·rename_i hok2
    have hok:=(Bool.and_eq_true_iff.1 hok2).2
    obtain rfl:=Option.some.inj h2
    have hx:cg ⟨dp,h⟩ r.1=false:=by
     have:=List.all_eq_true.1 (Bool.and_eq_true_iff.1 hok).1 h hn
     simpa using this
    have hfz:cg ⟨dp,h⟩ (dX p.p.fz r.1)=false:=by
     cases p.p.fz with
     | false=>simpa [dX] using hx
     | true=>cases hr1:r.1<;>rw [hr1] at hx<;>first | exact hx | rfl
    unfold effect
    split
    ·split
     ·rename_i dd hd
      intro d
      simp only [bu.app,List.cons_append,List.nil_append,ax]
      split
      ·exact hx
      ·exact hf d
     ·intro d;exact hf d
    ·split
     ·rename_i dd hd
      intro d
      simp only [bu.app,List.cons_append,List.nil_append,ax]
      split
      ·exact hx
      ·exact hf d
     ·intro d;exact hf d
    ·intro d
     simp only [bu.app]
     rw [lE]
     split
     ·rfl
     ·exact hf d
    ·exact hput _ _ _ _ _ hfz
    ·exact hput _ _ _ _ _ hfz
   ·cases h2
  ·cases hc
 unfold cF at hq
 split at hq
 ·exact hcore hq
 ·obtain ⟨y,hy,hq1⟩:=Option.bind_eq_some_iff.1 hq
  split at hq1
  ·exact hcore hq1
  ·obtain rfl:=Option.some.inj hq1
   have:=hput .sk [] [] [] none rfl
   simpa using this
def fS(o:Oper):List Nat:=(o.after.toList.filter fun e=>Region.binds .any e).map (·.on)
def Kv(acc:List Nat)(l:List Nat):Nat:=l.foldl (fun s e=>s|||(1 <<< e)|||acc.getD e 0) 0
def vp(acc:List Nat):List (List Nat)→List Nat
 | []=>acc
 | l::r=>vp (acc++[Kv acc l]) r
theorem Gx(f:Nat→Nat)(i:Nat):∀ (l:List Nat)(s:Nat),(l.foldl (fun s e=>s|||(1 <<< e)|||f e) s).testBit i=true→s.testBit i=true∨∃ e∈l,e=i∨(f e).testBit i=true
 | [],s,h=>.inl h
 | e::l,s,h=>by
  simp only [List.foldl_cons] at h
  rcases Gx f i l _ h with h | ⟨e',he',h⟩
  ·simp only [Nat.testBit_or,Bool.or_eq_true] at h
   rcases h with (h | h) | h
   ·exact .inl h
   ·refine .inr ⟨e,by simp,.inl ?_⟩
    rw [Nat.one_shiftLeft,Nat.testBit_two_pow] at h
    simpa using h
   ·exact .inr ⟨e,by simp,.inr h⟩
  ·exact .inr ⟨e',by simp [he'],h⟩
theorem Gy:∀ (L:List (List Nat))(acc:List Nat)(A:List (List Nat)),acc.length=A.length→
  (∀ j i,j<acc.length→(acc.getD j 0).testBit i=true→i∈A.getD j []∨∃ e∈A.getD j [],e<j∧(acc.getD e 0).testBit i=true)→
  ∀ j i,((vp acc L).getD j 0).testBit i=true→i∈(A++L).getD j []∨∃ e∈(A++L).getD j [],e<j∧((vp acc L).getD e 0).testBit i=true
 | [],acc,A,hl,h,j,i,hb=>by
  rw [List.append_nil]
  simp only [vp] at hb ⊢
  by_cases hj:j<acc.length
  ·exact h j i hj hb
  ·rw [List.getD_eq_getElem?_getD,List.getElem?_eq_none (by omega)] at hb
   simp at hb
 | l::L,acc,A,hl,h,j,i,hb=>by
  have:=Gy L (acc++[Kv acc l]) (A++[l]) (by simp [hl]) (fun j i hj hb=>?_) j i hb
  ·simpa [vp] using this
  ·simp only [List.length_append,List.length_singleton] at hj
   simp only [List.getD_eq_getElem?_getD] at hb ⊢
   by_cases hlt:j<acc.length
   ·rw [List.getElem?_append_left hlt] at hb
    rw [List.getElem?_append_left (by omega)]
    rcases h j i hlt (by simpa [List.getD_eq_getElem?_getD] using hb) with h1 | ⟨e,he,h2,h3⟩
    ·exact .inl (by simpa [List.getD_eq_getElem?_getD] using h1)
    ·refine .inr ⟨e,by simpa [List.getD_eq_getElem?_getD] using he,h2,?_⟩
     rw [List.getElem?_append_left (by omega)]
     simpa [List.getD_eq_getElem?_getD] using h3
   ·have hje:j=acc.length:=by omega
    subst hje
    rw [List.getElem?_append_right (Nat.le_refl _)] at hb
    rw [List.getElem?_append_right (by omega),hl]
    simp only [Nat.sub_self,List.getElem?_cons_zero,Option.getD_some] at hb ⊢
    rcases Gx (fun e=>acc.getD e 0) i l 0 hb with h1 | ⟨e,he,h1 | h1⟩
    ·simp at h1
    ·exact .inl (h1▸he)
    ·have hea:e<acc.length:=by
      apply Classical.byContradiction
      intro hn
      rw [List.getD_eq_getElem?_getD,List.getElem?_eq_none (by omega)] at h1
      simp at h1
     refine .inr ⟨e,he,by omega,?_⟩
     rw [List.getElem?_append_left hea]
     simpa [List.getD_eq_getElem?_getD] using h1
def Kw(gs:List bM)(i j:Nat):Bool:=
 match gs[i]?,gs[j]? with
 | some p,some q=>(p.lt&&q.lt&&vm p q)||tr p q||tr q p
 | _,_=>false
def xW(P:Program)(nt:Nat)(ops:Array Oper):List Oper→List bM→Bool
 | [],[]=>true
 | o::os,g::gs=>zm P nt ops o g.p&&(!g.lt||dK g)&&xW P nt ops os gs
 | _,_=>false
def Gz(q:bM)(dd:Nat):Bool:=match q.p.o with
 | .ch _ _ _ _ ow=>!q.lt&&q.p.g.isNone&&ow.contains dd
 | _=>false
theorem iW.Xi{R:Rec}{Ω:cD}{E:Env}{s s2:St}{p:bM}{h:Nat}(hf:iW E.dp s h)(hc:Gz p h=true)(he:cG R Ω E s p=some s2):iW E.dp s2 h:=by
 unfold Gz at hc
 split at hc
 ·rename_i f args sl dl ow ho
  simp only [Bool.and_eq_true,Bool.not_eq_true',Option.isNone_iff_eq_none] at hc
  obtain ⟨⟨h1,h2⟩,h3⟩:=hc
  have h3':h∈ow:=by simpa using h3
  simp only [cG,h1,Bool.false_eq_true,if_false,fL,h2,ho,execOp] at he
  obtain ⟨⟨x,s'⟩,hcall,he⟩:=Option.bind_eq_some_iff.1 he
  obtain rfl:=Option.some.inj he
  obtain ⟨hp',hC,e2⟩:=zq hcall
  simp only at e2 hC
  subst e2
  have hx:dX p.p.fz x=x:=by
   have:=hC.pure
   cases p.p.fz with
   | false=>rfl
   | true=>cases x<;>first | rfl | cases this
  have hxb:x.aG ⟨E.dp,h⟩=true∧x.bJ (.s h)=false:=by
   have:=hC.pure
   refine ⟨fY x this,?_⟩
   cases x<;>first | rfl | cases this
  have hb1:=hf.fr
  have hb2:∀ d cs,ay (s.bU E.dp (cP E.dp s sl dl ow hp')).bx d=some cs→∀ c∈cs,c.aG ⟨E.dp,h⟩=true:=by
   intro d cs hd c hc
   rcases hC.post d cs hd with ho' | ho'
   ·refine hf.cs d cs ?_ c hc
    simp only [St.bU,gq] at hd
    have hm:cP E.dp s sl dl ow hp' ⟨E.dp,d⟩=ay s.bx d:=by
     unfold cP
     rw [if_pos (zR ho')]
     simp [St.box]
    rw [hm] at hd
    obtain ⟨_,_,e⟩:=Option.bind_eq_some_iff.1 hd
    exact e
   ·exact fv (ho' h h3') c hc
  rw [hx]
  cases p.p.d with
  | none=>exact ⟨hb1,hb2⟩
  | some dd=>
   refine ⟨fun d=>?_,hb2⟩
   simp only [put,St.bQ,ax]
   split
   ·exact hxb
   ·exact hb1 d
 ·cases hc
def aai(M:List Nat)(gs:List bM)(n k dd:Nat):Bool:=
 (List.range n).all fun i=>i==k||(M.getD i 0).testBit k||(match gs[i]? with
  | some q=>(q.lt&&q.nk.contains dd)||Gz q dd
  | none=>true)
def Nz(M:List Nat)(gs:List bM)(mks:List Nat)(n:Nat):Bool:=
 (List.range n).all fun k=>match gs[k]? with
  | some p=>!p.lt||!Gw p.p.o||(match p.p.d with
   | some dd=>mks.contains dd&&aai M gs n k dd
   | none=>true)
  | none=>true
def H3(M:List Nat)(gs:List bM)(n:Nat):Bool:=(List.range n).all fun j=>(List.range j).all fun i=>(M.getD j 0).testBit i||Kw gs i j
def S3(M:List Nat)(gs:List bM)(n:Nat):Bool:=
 (List.range n).all fun k=>match gs[k]? with
  | some p=>!p.lt||!qX p.p.o p.cs||p.vb.all fun h=>(List.range n).all fun i=>i==k||(M.getD i 0).testBit k||(match gs[i]? with
   | some q=>q.lt&&q.nb.contains h
   | none=>true)
  | none=>true
def Cv(P:Program)(nt:Nat)(ops:Array Oper)(mks:List Nat)(gs:List bM):Bool:=
 P.follows .mixedOrders&&xW P nt ops ops.toList gs&&((List.range ops.size).all fun i=>match ops[i]? with
  | some o=>(fS o).all fun e=>decide (e<i)
  | none=>true)&&
 H3 (vp [] (ops.toList.map fS)) gs ops.size&&Nz (vp [] (ops.toList.map fS)) gs mks ops.size&&S3 (vp [] (ops.toList.map fS)) gs ops.size
theorem zr{P:Program}{nt:Nat}{ops:Array Oper} : ∀ {os:List Oper}{gs:List bM},xW P nt ops os gs=true→os.length=gs.length∧∀ (i:Nat)(o:Oper)(p:bM),os[i]? =some o→gs[i]? =some p→zm P nt ops o p.p=true∧(p.lt=true→dK p=true)
 | [],[],_=>⟨rfl,fun i o p h=>by simp at h⟩
 | o::os,g::gs,h=>by
  simp only [xW,Bool.and_eq_true] at h
  obtain ⟨h1,h2⟩:=zr h.2
  refine ⟨by simp [h1],fun i o' p ho hp=>?_⟩
  cases i with
  | zero=>
   obtain rfl:o=o':=by simpa using ho
   obtain rfl:g=p:=by simpa using hp
   refine ⟨h.1.1,fun hl=>?_⟩
   have:=h.1.2
   rw [hl] at this
   simpa using this
  | succ i=>exact h2 i o' p (by simpa using ho) (by simpa using hp)
 | [],_::_,h=>by simp [xW] at h
 | _::_,[],h=>by simp [xW] at h
section
variable {C:Cx}{st:St}{a:Act}{w:World}{σ:Sp}{R:Rec}{Ω:cD}
def jQ(n:Nat)(listed:Array Bool):List Nat:=(List.range n).filter fun i=>!listed.getD i true
theorem Ja{ops:Array Oper}{listed:Array Bool}(hback:∀ i o,ops[i]? =some o→∀ e∈fS o,e<i)(hcl:∀ j o,ops[j]? =some o→listed.getD j false=true→∀ e∈fS o,listed.getD e false=true) :
  ∀ (j:Nat)(o:Oper),ops[j]? =some o→(∀ e∈fS o,listed.getD e false=true)→∀ i,((vp [] (ops.toList.map fS)).getD j 0).testBit i=true→listed.getD i false=true:=by
 intro j
 induction j using Nat.strongRecOn with
 | _ j ih=>
  intro o ho haft i hb
  have hspec:=Gy (ops.toList.map fS) [] [] rfl (fun j i hj=>by simp at hj) j i hb
  rw [List.nil_append] at hspec
  have hget:(ops.toList.map fS).getD j []=fS o:=by
   rw [List.getD_eq_getElem?_getD,List.getElem?_map,Array.getElem?_toList,ho];rfl
  rw [hget] at hspec
  rcases hspec with h1 | ⟨e,he,hej,h2⟩
  ·exact haft i h1
  ·have hel:=haft e he
   have hes:e<ops.size:=by have:=Array.getElem?_eq_some_iff.1 ho;obtain ⟨h3,_⟩:=this;omega
   have hoe:ops[e]? =some ops[e]:=Array.getElem?_eq_getElem hes
   exact ih e hej ops[e] hoe (hcl e _ hoe hel) i h2
theorem Eb{o:Oper}{listed:Array Bool} : (o.after.all fun e=>!Region.binds .any e||listed.getD e.on false)=true↔∀ e∈fS o,listed.getD e false=true:=by
 rw [Array.all_eq_true_iff_forall_mem]
 constructor
 ·intro h e he
  obtain ⟨x,hx,rfl⟩:=List.mem_map.1 he
  obtain ⟨h1,h2⟩:=List.mem_filter.1 hx
  have:=h x (by simpa using h1)
  simpa [h2] using this
 ·intro h x hx
  by_cases hb:Region.binds .any x=true
  ·have:=h x.on (List.mem_map.2 ⟨x,List.mem_filter.2 ⟨by simpa using hx,hb⟩,rfl⟩)
   simp [this]
  ·simp [hb]
theorem mem_ready{ops:Array Oper}{listed:Array Bool}{i:Nat} : i∈Region.ready .any ops listed↔∃ o,ops[i]? =some o∧listed.getD i true=false∧∀ e∈fS o,listed.getD e false=true:=by
 unfold Region.ready
 rw [List.mem_filter]
 constructor
 ·rintro ⟨h1,h2⟩
  have hi:i<ops.size:=by simpa using h1
  refine ⟨ops[i],Array.getElem?_eq_getElem hi,?_⟩
  simp only [Array.getElem?_eq_getElem hi,Option.map_some,Option.getD_some,Bool.and_eq_true,Bool.not_eq_true'] at h2
  exact ⟨h2.1,Eb.1 h2.2⟩
 ·rintro ⟨o,ho,h1,h2⟩
  have hi:i<ops.size:=(Array.getElem?_eq_some_iff.1 ho).1
  refine ⟨by simpa using hi,?_⟩
  simp only [ho,Option.map_some,Option.getD_some,Bool.and_eq_true,Bool.not_eq_true']
  exact ⟨h1,Eb.2 h2⟩
theorem Ec{listed:Array Bool}{n i:Nat}(hs:listed.size=n)(hi:i<n)(x y:Bool):listed.getD i x=listed.getD i y:=by
 have:i<listed.size:=by omega
 simp [this]
theorem an.any{nt:Nat}{ops:Array Oper}{Q:Exit→Act→World→Prop}{gs:List bM}{t:St}(hR:jO C.P R)(hΩ:fq C.P Ω)(hnt:nt≤C.nt)
  (hds:xW C.P nt ops ops.toList gs=true) (hback:∀ i o,ops[i]? =some o→∀ e∈fS o,e<i) (hpairs:H3 (vp [] (ops.toList.map fS)) gs ops.size=true) {mks:List Nat} (hmks:Nz (vp [] (ops.toList.map fS)) gs mks ops.size=true) (hrws:S3 (vp [] (ops.toList.map fS)) gs ops.size=true) :
  ∀ (fuel:Nat)(listed:Array Bool)(s:St)(a:Act)(w:World)(σ:Sp),listed.size=ops.size→fuel=(jQ ops.size listed).length→(∀ j o,ops[j]? =some o→listed.getD j false=true→∀ e∈fS o,listed.getD e false=true)→
   mq R Ω C.E gs (jQ ops.size listed) s t→an C s a w σ→(∀ k p dd,k∈jQ ops.size listed→gs[k]? =some p→p.lt=true→Gw p.p.o=true→p.p.d=some dd→iW C.E.dp s dd)→(∀ k p,k∈jQ ops.size listed→gs[k]? =some p→p.lt=true→qX p.p.o p.cs=true→∀ h∈p.vb,oq C.E.dp s h)→
   (∀ a' w' σ',bX C w σ w' σ'→an C t a' w' σ'→Q .normal a' w')→wpAny C.P .any ops Q fuel listed a w:=by
 have hremm:∀ listed i,i∈jQ ops.size listed↔i<ops.size∧listed.getD i true=false:=by
  intro listed i;unfold jQ;simp [List.mem_filter]
 have hready:∀ listed i,i∈Region.ready .any ops listed→i∈jQ ops.size listed:=by
  intro listed i hi
  obtain ⟨o,ho,h1,_⟩:=mem_ready.1 hi
  exact (hremm _ _).2 ⟨(Array.getElem?_eq_some_iff.1 ho).1,h1⟩
 intro fuel
 induction fuel with
 | zero=>
  intro listed s a w σ hsz hfu hcl hg h hfr hfB hK
  have hrem:jQ ops.size listed=[]:=List.eq_nil_of_length_eq_zero hfu.symm
  rw [hrem] at hg
  refine ⟨?_,hK a w σ (.refl _ _ _) (h.se hg)⟩
  apply List.eq_nil_iff_forall_not_mem.2
  intro i hi
  have:=hready _ _ hi
  rw [hrem] at this;cases this
 | succ fuel ih=>
  intro listed s a w σ hsz hfu hcl hg h hfr hfB hK
  refine ⟨fun hnil=>?_,fun i hi=>?_⟩
  ·exfalso
   cases hrem:jQ ops.size listed with
   | nil=>rw [hrem] at hfu;simp at hfu
   | cons i0 rest=>
    have hi0:i0∈jQ ops.size listed:=by rw [hrem];simp
    obtain ⟨h1,h2⟩:=(hremm _ _).1 hi0
    have hsorted:(jQ ops.size listed).Pairwise (· < ·):=(List.pairwise_lt_range (n:=ops.size)).filter _
    have:i0∈Region.ready .any ops listed:=by
     refine mem_ready.2 ⟨ops[i0],Array.getElem?_eq_getElem h1,h2,fun e he=>?_⟩
     have hlt:=hback i0 _ (Array.getElem?_eq_getElem h1) e he
     apply Classical.byContradiction
     intro hne
     have hem:e∈jQ ops.size listed:=(hremm _ _).2 ⟨by omega,by rw [Ec hsz (by omega) true false];simpa using hne⟩
     rw [hrem] at hem hsorted
     rcases List.mem_cons.1 hem with rfl | hem
     ·omega
     ·have:=(List.pairwise_cons.1 hsorted).1 e hem
      omega
    rw [hnil] at this;cases this
  ·obtain ⟨o,ho,hun,haft⟩:=mem_ready.1 hi
   have hin:i<ops.size:=(Array.getElem?_eq_some_iff.1 ho).1
   have hir:=hready _ _ hi
   obtain ⟨A,B,hAB⟩:=List.append_of_mem hir
   have hsorted:(jQ ops.size listed).Pairwise (· < ·):=(List.pairwise_lt_range (n:=ops.size)).filter _
   have hnb:∀ k,k∈jQ ops.size listed→((vp [] (ops.toList.map fS)).getD i 0).testBit k=false:=by
    intro k hk
    cases hb:((vp [] (ops.toList.map fS)).getD i 0).testBit k with
    | false=>rfl
    | true=>
     have:=Ja hback hcl i o ho haft k hb
     obtain ⟨h1,h2⟩:=(hremm _ _).1 hk
     rw [Ec hsz h1 true false,this] at h2;cases h2
   rw [hAB] at hsorted
   have hsp:=List.pairwise_append.1 hsorted
   have hA:∀ x∈A,I9 gs x i:=by
    intro x hx
    have hlt:x<i:=hsp.2.2 x hx i (by simp)
    have h1:=List.all_eq_true.1 (List.all_eq_true.1 hpairs i (by simpa using hin)) x (by simpa using hlt)
    rw [hnb x (by rw [hAB];simp [hx]),Bool.false_or] at h1
    unfold Kw at h1
    split at h1
    ·rename_i p q hp hq
     simp only [Bool.and_eq_true,Bool.or_eq_true] at h1
     refine ⟨p,q,hp,hq,?_⟩
     rcases h1 with (h1 | h1) | h1
     ·exact .inl ⟨h1.1.1,h1.1.2,h1.2⟩
     ·exact .inr (.inl h1)
     ·exact .inr (.inr h1)
    ·cases h1
   rw [hAB] at hg
   obtain ⟨p,s1,s2,hp,hse,hex,hgo⟩:=mq.front A s hA hg
   obtain ⟨hlen,hlow⟩:=zr hds
   obtain ⟨hlg,hlk⟩:=hlow i o p (by simpa using ho) hp
   have hnd:i∉A∧i∉B:=by
    refine ⟨fun hm=>?_,fun hm=>?_⟩
    ·have:=hsp.2.2 i hm i (by simp);omega
    ·have:=(List.pairwise_cons.1 hsp.2.1).1 i hm;omega
   have hrem':jQ ops.size (listed.setIfInBounds i true)=A++B:=by
    have hget:∀ j,j<ops.size→(listed.setIfInBounds i true).getD j true=(if i=j then true else listed.getD j true):=by
     intro j hj
     have hjs:j<listed.size:=by omega
     by_cases hij:i=j
     ·subst hij;simp [hjs]
     ·simp [Array.getElem?_setIfInBounds,hij]
    have e1:jQ ops.size (listed.setIfInBounds i true)=(jQ ops.size listed).filter (fun j=>j !=i):=by
     unfold jQ
     rw [List.filter_filter]
     apply List.filter_congr
     intro j hj
     rw [hget j (by simpa using hj)]
     by_cases hij:i=j
     ·subst hij;simp
     ·have:(j !=i)=true:=by simpa using fun e=>hij e.symm
      simp [hij,this]
    rw [e1,hAB,List.filter_append,List.filter_cons]
    have f1:A.filter (fun j=>j !=i)=A:=List.filter_eq_self.2 fun x hx=>by
     have:x≠i:=fun e=>hnd.1 (e▸hx)
     simpa using this
    have f2:B.filter (fun j=>j !=i)=B:=List.filter_eq_self.2 fun x hx=>by
     have:x≠i:=fun e=>hnd.2 (e▸hx)
     simpa using this
    rw [f1,f2]
    simp
   have hmk:∀ k p' dd,k∈A++B→gs[k]? =some p'→p'.lt=true→Gw p'.p.o=true→p'.p.d=some dd→iW C.E.dp s dd∧((p.lt=true∧dd∈p.nk)∨Gz p dd=true):=by
    intro k p' dd hk hp' hlt hm hdd
    have hkr:k∈jQ ops.size listed:=by
     rw [hAB]
     rcases List.mem_append.1 hk with h1 | h1
     ·exact List.mem_append_left _ h1
     ·exact List.mem_append_right _ (List.mem_cons_of_mem _ h1)
    refine ⟨hfr k p' dd hkr hp' hlt hm hdd,?_⟩
    have hki:k≠i:=fun e=>by
     rw [e] at hk
     rcases List.mem_append.1 hk with h1 | h1
     ·exact hnd.1 h1
     ·exact hnd.2 h1
    have h1:=List.all_eq_true.1 hmks k (by simpa using ((hremm _ _).1 hkr).1)
    simp only [hp',hlt,hm,hdd,Bool.not_true,Bool.false_or,Bool.and_eq_true] at h1
    have h2:=List.all_eq_true.1 h1.2 i (by simpa using hin)
    have e1:(i==k)=false:=by simpa using fun e=>hki (Eq.symm e)
    simp only [e1,hnb k hkr,hp,Bool.false_or,Bool.and_eq_true,Bool.or_eq_true] at h2
    exact h2.imp (fun h2=>⟨h2.1,by simpa using h2.2⟩) id
   have hrw:∀ k p',k∈A++B→gs[k]? =some p'→p'.lt=true→qX p'.p.o p'.cs=true→∀ hh∈p'.vb,oq C.E.dp s hh∧(p.lt=true∧hh∈p.nb):=by
    intro k p' hk hp' hlt hm hh hhm
    have hkr:k∈jQ ops.size listed:=by
     rw [hAB]
     rcases List.mem_append.1 hk with h1 | h1
     ·exact List.mem_append_left _ h1
     ·exact List.mem_append_right _ (List.mem_cons_of_mem _ h1)
    refine ⟨hfB k p' hkr hp' hlt hm hh hhm,?_⟩
    have hki:k≠i:=fun e=>by
     rw [e] at hk
     rcases List.mem_append.1 hk with h1 | h1
     ·exact hnd.1 h1
     ·exact hnd.2 h1
    have h1:=List.all_eq_true.1 hrws k (by simpa using ((hremm _ _).1 hkr).1)
    simp only [hp',hlt,hm,Bool.not_true,Bool.false_or] at h1
    have h2:=List.all_eq_true.1 (List.all_eq_true.1 h1 hh hhm) i (by simpa using hin)
    have e1:(i==k)=false:=by simpa using fun e=>hki (Eq.symm e)
    simp only [e1,hnb k hkr,hp,Bool.false_or,Bool.and_eq_true] at h2
    exact ⟨h2.1,by simpa using h2.2⟩
   have hsz':(listed.setIfInBounds i true).size=ops.size:=by simpa using hsz
   have hcl':∀ j o',ops[j]? =some o'→(listed.setIfInBounds i true).getD j false=true→∀ e∈fS o',(listed.setIfInBounds i true).getD e false=true:=by
    have hmono:∀ e,listed.getD e false=true→(listed.setIfInBounds i true).getD e false=true:=by
     intro e he
     simp only [Array.getD_eq_getD_getElem?,Array.getElem?_setIfInBounds] at he ⊢
     split
     ·split
      ·rfl
      ·rename_i h3 h4
       subst h3
       rw [Array.getElem?_eq_none (by omega)] at he;cases he
     ·exact he
    intro j o' hj hl e he
    by_cases hij:i=j
    ·subst hij
     obtain rfl:o=o':=by rw [ho] at hj;exact Option.some.inj hj
     exact hmono e (haft e he)
    ·have:listed.getD j false=true:=by
      simpa [Array.getD_eq_getD_getElem?,Array.getElem?_setIfInBounds,hij] using hl
     exact hmono e (hcl j o' hj this e he)
   have hfu':fuel=(jQ ops.size (listed.setIfInBounds i true)).length:=by
    rw [hrem']
    rw [hAB] at hfu
    simp only [List.length_append,List.length_cons] at hfu ⊢
    omega
   have h1:=h.se hse
   by_cases hlt:p.lt=true
   ·simp only [cG,if_pos hlt] at hex
    obtain ⟨q,hq,he2⟩:=Option.bind_eq_some_iff.1 hex
    obtain rfl:=Option.some.inj he2
    refine h1.Xh hR hΩ ho hlg hnt (hlk hlt) (fun hm dd hdd=>(hfr i p dd hir hp hlt hm hdd).se hse) (fun hm hh hhm=>(hfB i p hir hp hlt hm hh hhm).se hse) hq fun a' w' σ' hs' hc'=>?_
    refine ih _ _ a' w' σ' hsz' hfu' hcl' (by rw [hrem'];exact hgo) hc' (fun k p' dd hk hp' hl' hm hdd=>?_) (fun k p' hk hp' hl' hm hh hhm=>?_) fun a'' w'' σ'' hs'' hc''=>hK a'' w'' σ'' (hs'.trans hs'') hc''
    ·rw [hrem'] at hk
     obtain ⟨h3,⟨_,h4⟩ | h4⟩:=hmk k p' dd hk hp' hl' hm hdd
     ·exact (h3.se hse).step (Bi hlg hnt).1 (hlk hlt) h4 hq
     ·exfalso
      unfold Gz at h4
      split at h4
      ·rw [hlt] at h4;simp at h4
      ·cases h4
    ·rw [hrem'] at hk
     obtain ⟨h3,_,h4⟩:=hrw k p' hk hp' hl' hm hh hhm
     exact (h3.se hse).step h4 hq
   ·have hex0:=hex
    simp only [cG,if_neg hlt] at hex
    refine h1.Nt hR hΩ ho hlg hnt hex fun a' w' σ' hs' hc'=>?_
    refine ih _ _ a' w' σ' hsz' hfu' hcl' (by rw [hrem'];exact hgo) hc' (fun k p' dd hk hp' hl' hm hdd=>?_) (fun k p' hk hp' hl' hm hh hhm=>?_) fun a'' w'' σ'' hs'' hc''=>hK a'' w'' σ'' (hs'.trans hs'') hc''
    ·rw [hrem'] at hk
     obtain ⟨h3,h4 | h4⟩:=hmk k p' dd hk hp' hl' hm hdd
     ·exact absurd h4.1 hlt
     ·exact (h3.se hse).Xi h4 hex0
    ·rw [hrem'] at hk
     exact absurd (hrw k p' hk hp' hl' hm hh hhm).2.1 hlt
theorem an.GA{nt:Nat}{ops:Array Oper}{Q:Exit→Act→World→Prop}{mks:List Nat}{gs:List bM}{st':St}(hR:jO C.P R)(hΩ:fq C.P Ω)(hnt:nt≤C.nt)(hl:Cv C.P nt ops mks gs=true)(h:an C st a w σ)
  (hm:(mks.all (eB C.E.dp st)&&gs.all (rA C.E.dp st))=true) (he:nP R Ω C.E st gs=some st') (hK:∀ a' w' σ',bX C w σ w' σ'→an C st' a' w' σ'→Q .normal a' w'):C.P.follows .mixedOrders=true∧wpAny C.P .any ops Q ops.size (Array.replicate ops.size false) a {w with drawn:=w.drawn+1}:=by
 simp only [Cv,Bool.and_eq_true] at hl
 obtain ⟨⟨⟨⟨⟨hfol,hds⟩,hback⟩,hpairs⟩,hmks⟩,hrws⟩:=hl
 obtain ⟨hm,hfb⟩:=Bool.and_eq_true_iff.1 hm
 have hback':∀ i o,ops[i]? =some o→∀ e∈fS o,e<i:=by
  intro i o ho e he
  have h1:=List.all_eq_true.1 hback i (by simpa using (Array.getElem?_eq_some_iff.1 ho).1)
  simp only [ho] at h1
  simpa using List.all_eq_true.1 h1 e he
 have hrem:jQ ops.size (Array.replicate ops.size false)=List.range ops.size:=by
  unfold jQ
  apply List.filter_eq_self.2
  intro i hi
  have:i<ops.size:=by simpa using hi
  simp [this]
 obtain ⟨hlen,_⟩:=zr hds
 have hd:an C st a {w with drawn:=w.drawn+1} σ:=h.drew
 refine ⟨hfol,an.any hR hΩ hnt hds hback' hpairs hmks hrws ops.size _ st a _ σ (by simp) (by rw [hrem];simp) (fun j o ho hl=>?_) ?_ hd (fun k p dd hk hp hlt hmk hdd=>?_) (fun k p hk hp hlt hmk hh hhm=>?_) fun a' w' σ' hs hc=>hK a' w' σ' (bX.drew (w:=w) hs) hc⟩
 ·exfalso
  by_cases hj:j<ops.size<;>simp [hj] at hl
 ·rw [hrem]
  have:=mq.text (R:=R) (Ω:=Ω) (E:=C.E) gs 0 st st' rfl he
  have hl2:gs.length=ops.size:=by simpa using hlen.symm
  rwa [hl2,←List.range_eq_range'] at this
 ·have h1:=List.all_eq_true.1 hmks k (by rw [hrem] at hk;exact hk)
  simp only [hp,hlt,hmk,hdd,Bool.not_true,Bool.false_or,Bool.and_eq_true] at h1
  exact iW.of (List.all_eq_true.1 hm dd (by simpa using h1.1))
 ·have h1:=List.all_eq_true.1 hfb p (List.mem_of_getElem? hp)
  simp only [rA,hmk,Bool.not_true,Bool.false_or] at h1
  intro d
  have h2:=List.all_eq_true.1 h1 hh hhm
  have:=gj (p:=fun y=>!cg ⟨C.E.dp,hh⟩ y) rfl _ h2 d
  simpa using this
theorem an.drawn{nt id:Nat}{ops:Array Oper}{Q:Exit→Act→World→Prop}{mks:List Nat}{gs:List bM}{st':St}(hR:jO C.P R)(hΩ:fq C.P Ω)(hnt:nt≤C.nt)(hl:Cv C.P nt ops mks gs=true)(h:an C st a w σ)
  (hm:(mks.all (eB C.E.dp st)&&gs.all (rA C.E.dp st))=true) (he:nP R Ω C.E st gs=some st') (hK:∀ a' w' σ',bX C w σ w' σ'→an C st' a' w' σ'→Q .normal a' w'):(Code.region id ops true).wp C.P Q a w:=by
 obtain ⟨h1,h2⟩:=h.GA hR hΩ hnt hl hm he hK
 exact wp_region_any h1 h2
end
end Go.Proofs.YtdpjofmmokaobaaGreat.A
