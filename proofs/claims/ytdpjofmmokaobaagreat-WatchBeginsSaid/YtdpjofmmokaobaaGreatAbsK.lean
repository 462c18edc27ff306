/- Regions whose order is drawn: whatever the order, what the order of the text gives. -/
import Derived.Test.YtdpjofmmokaobaaGreatAbsH
import Derived.Orders
set_option linter.unusedSectionVars false
set_option linter.unusedVariables false
set_option linter.unusedSimpArgs false
set_option linter.constructorNameAsVariable false
namespace Go.Proofs.YtdpjofmmokaobaaGreat.A
open Go
variable [bJ]
structure Se(s s':St):Prop where
 fr:∀ d,ax s.fr d=ax s'.fr d
 bx:∀ d,aC s.bx d=aC s'.bx d
 hp:s.hp=s'.hp
 mem:∀ y,y∈s.fr↔y∈s'.fr
theorem Se.refl(s:St):Se s s:=⟨fun _=>rfl,fun _=>rfl,rfl,fun _=>Iff.rfl⟩
theorem Se.symm{s s':St}(h:Se s s'):Se s' s:=⟨fun d=>(h.fr d).symm,fun d=>(h.bx d).symm,h.hp.symm,fun y=>(h.mem y).symm⟩
theorem Se.trans{s s' s'':St}(h:Se s s')(h':Se s' s''):Se s s'':=⟨fun d=>(h.fr d).trans (h'.fr d),fun d=>(h.bx d).trans (h'.bx d),h.hp.trans h'.hp,fun y=>(h.mem y).trans (h'.mem y)⟩
theorem Se.box{s s':St}(h:Se s s')(dp:Nat)(k:Key):s.box dp k=s'.box dp k:=by
 simp only [St.box,h.bx,h.hp]
theorem an.se{C:Cx}{s s':St}{a:Act}{w:World}{σ:Sp}(h:an C s a w σ)(hs:Se s s'):an C s' a w σ:=
 h.Aq (fun d=>.inr (hs.fr d).symm) (fun k cs hk=>by rw [hs.box];exact hk) (fun _ _ _ h=>by rw [hs.hp];exact h)
def cZ{α:Type}(l:List (Nat×α)):List Nat:=l.map (·.1)
theorem gE(l r:List (Nat×AV))(d:Nat):ax (l++r) d=if d∈cZ l then ax l d else ax r d:=by
 induction l with
 | nil=>simp [cZ]
 | cons x l ih=>
  obtain ⟨k,y⟩:=x
  simp only [List.cons_append,ax,cZ,List.map_cons,List.mem_cons]
  by_cases h:k=d
  ·subst h;simp
  ·have h':¬d=k:=fun e=>h e.symm
   simp only [if_neg h,h',false_or]
   exact ih
theorem mI(l r:List (Nat×List AV))(d:Nat):aC (l++r) d=if d∈cZ l then aC l d else aC r d:=by
 induction l with
 | nil=>simp [cZ]
 | cons x l ih=>
  obtain ⟨k,y⟩:=x
  simp only [List.cons_append,aC,cZ,List.map_cons,List.mem_cons]
  by_cases h:k=d
  ·subst h;simp
  ·have h':¬d=k:=fun e=>h e.symm
   simp only [if_neg h,h',false_or]
   exact ih
theorem oG(bx wb:List (Nat×List AV))(d:Nat):aC (n5 bx wb) d=match aC wb d with
  | some cs=>(aC bx d).map fun _=>cs
  | none=>aC bx d:=by
 induction wb with
 | nil=>rfl
 | cons x wb ih=>
  obtain ⟨k,y⟩:=x
  simp only [n5,sH,aC]
  by_cases h:k=d
  ·subst h
   simp only [if_true,ih]
   cases aC wb k with
   | none=>rfl
   | some cs=>cases aC bx k<;>rfl
  ·rw [if_neg h,if_neg (fun e=>h e.symm),ih]
theorem nW{l:List (Nat×List AV)}{d:Nat}(h:d∉cZ l):aC l d=none:=by
 induction l with
 | nil=>rfl
 | cons x l ih=>
  obtain ⟨k,y⟩:=x
  simp only [cZ,List.map_cons,List.mem_cons,not_or] at h
  simp only [aC,if_neg (fun e=>h.1 (Eq.symm e))]
  exact ih h.2
theorem Se.app{s s':St}(q:bB)(h:Se s s'):Se (q.app s) (q.app s'):=by
 refine ⟨fun d=>?_,fun d=>?_,?_,fun y=>by simp only [bB.app,List.mem_append,h.mem y]⟩
 ·simp only [bB.app,gE,h.fr]
 ·simp only [bB.app,mI,oG,h.bx]
 ·simp only [bB.app,h.hp]
structure Ox(q q':bB):Prop where
 fr:∀ d,d∈cZ q.fr→d∉cZ q'.fr
 nn:∀ d,d∈cZ q.nb→d∉cZ q'.nb
 nw:∀ d,d∈cZ q.nb→d∉cZ q'.wb
 wn:∀ d,d∈cZ q.wb→d∉cZ q'.nb
 ww:∀ d,d∈cZ q.wb→d∉cZ q'.wb
 hp:q.hp=none∨q'.hp=none
theorem Nl{q q':bB}(h:Ox q q')(s:St):Se (q.app (q'.app s)) (q'.app (q.app s)):=by
 refine ⟨fun d=>?_,fun d=>?_,?_,fun y=>by simp only [bB.app,List.mem_append];constructor<;>rintro (h | h | h)<;>simp [h]⟩
 ·simp only [bB.app,gE]
  by_cases h1:d∈cZ q.fr
  ·simp [h1,h.fr d h1]
  ·simp [h1]
 ·simp only [bB.app,mI,oG]
  by_cases h1:d∈cZ q.nb
  ·have h2:=nW (h.nw d h1)
   simp [h1,h.nn d h1,h2]
  ·by_cases h3:d∈cZ q'.nb
   ·have h4:aC q.wb d=none:=nW fun h5=>h.wn d h5 h3
    simp [h1,h3,h4]
   ·simp only [if_neg h1,if_neg h3]
    by_cases h5:d∈cZ q.wb
    ·have:=nW (h.ww d h5)
     rw [this]
    ·rw [nW h5]
 ·simp only [bB.app]
  rcases h.hp with e | e<;>rw [e]<;>cases q.hp<;>cases q'.hp<;>first | rfl | cases e
def p8:mS→Bool
 | .st _ _ _=>true
 | _=>false
def kx(p:bQ):Bool:=match p.p.o with
 | .ap _ _ _ _ _=>p.cs.length==2
 | _=>false
def fM(p:bQ):Bool:=p8 p.p.o||kx p
def pn:mS→Bool
 | .al _=>true
 | .ck _ _=>true
 | _=>false
def nX(d:Option Nat):List Nat:=match d with
 | some d=>[d]
 | none=>[]
def TS(p:bQ):List Nat:=match p.p.g with
 | some (j,_)=>[j]
 | none=>[]
def xj(p:bQ):List Nat:=nX p.p.d++p.cs
def Oy(p:bQ):List Nat:=TS p++p.vw
def II(p:bQ):List Nat:=(if pn p.p.o=true then nX p.p.d else [])++(if fM p=true then p.vb else [])
def sY(l m:List Nat):Bool:=l.all fun x=>!m.contains x
def vO(p q:bQ):Bool:=sY (xj p) (Oy q)&&sY (xj q) (Oy p)&&sY (xj p) (xj q)&&sY (II p) q.vb&&sY (II q) p.vb&&sY (II p) (II q)&&!((fM p||fM q)&&p.vh&&q.vh)
theorem ka{l m:List Nat}(h:sY l m=true){x:Nat}(hx:x∈l):x∉m:=by
 have:=List.all_eq_true.1 h x hx
 simpa using this
theorem vP(bx:List (Nat×List AV))(ks:List Nat){d:Nat}(h:d∈cZ (cB bx ks)):d∈ks:=by
 induction ks with
 | nil=>simp [cB,cZ] at h
 | cons k ks ih=>
  simp only [cB] at h
  split at h
  ·simp only [cZ,List.map_cons,List.mem_cons] at h
   rcases h with rfl | h
   ·simp
   ·exact List.mem_cons_of_mem _ (ih h)
  ·exact List.mem_cons_of_mem _ (ih h)
section
variable {R:Rec}{Ω:cK}{E:Env}
structure Small(p:bQ)(q:bB):Prop where
 fr:∀ d,d∈cZ q.fr→d∈xj p
 nb:∀ d,d∈cZ q.nb→pn p.p.o=true∧d∈nX p.p.d
 wb:∀ d,d∈cZ q.wb→fM p=true∧d∈p.vb
 hp:q.hp≠none→fM p=true∧p.vh=true
theorem ym{p:bQ}{fr:List (Nat×AV)}(h:∀ d,d∈cZ fr→d∈xj p):Small p ⟨fr,[],[],none⟩:=
 ⟨h,fun d hd=>by simp [cZ] at hd,fun d hd=>by simp [cZ] at hd,fun h=>absurd rfl h⟩
theorem yn(d:Option Nat)(x:AV):cZ (gI d x)=nX d:=by cases d<;>rfl
theorem G8(p:bQ)(r:AV×St):Small p (effect p r):=by
 have hgen:Small p ⟨gI p.p.d (ew p.p.fz r.1)++p.cs.map (fun m=>(m,.u)),[],[],none⟩:=ym fun d hd=>by
  simp only [cZ,List.map_append,List.map_map] at hd
  rcases List.mem_append.1 hd with hd | hd
  ·have:d∈cZ (gI p.p.d (ew p.p.fz r.1)):=hd
   rw [yn] at this
   exact List.mem_append_left _ this
  ·obtain ⟨m,hm,rfl⟩:=List.mem_map.1 hd
   exact List.mem_append_right _ hm
 unfold effect
 split
 ·rename_i zs ho
  split
  ·rename_i dd hd
   refine ⟨fun d h=>?_,fun d h=>⟨by rw [ho];rfl,?_⟩,fun d h=>by simp [cZ] at h,fun h=>absurd rfl h⟩
   ·simp only [cZ,List.map_cons,List.map_nil,List.mem_singleton] at h
    subst h;unfold xj;rw [hd];simp [nX]
   ·simp only [cZ,List.map_cons,List.map_nil,List.mem_singleton] at h
    subst h;rw [hd];simp [nX]
  ·exact ym fun d h=>by simp [cZ] at h
 ·rename_i ho
  split
  ·rename_i dd hd
   refine ⟨fun d h=>?_,fun d h=>⟨by rw [ho];rfl,?_⟩,fun d h=>by simp [cZ] at h,fun h=>absurd rfl h⟩
   ·simp only [cZ,List.map_cons,List.map_nil,List.mem_singleton] at h
    subst h;unfold xj;rw [hd];simp [nX]
   ·split at h
    ·simp only [cZ,List.map_cons,List.map_nil,List.mem_singleton] at h
     subst h;rw [hd];simp [nX]
    ·simp [cZ] at h
  ·exact ym fun d h=>by simp [cZ] at h
 ·rename_i ho
  refine ⟨fun d h=>?_,fun d h=>by simp [cZ] at h,fun d h=>⟨by simp [fM,ho,p8],vP _ _ h⟩,fun h=>⟨by simp [fM,ho,p8],?_⟩⟩
  ·simp only [cZ,List.map_map] at h
   obtain ⟨m,hm,rfl⟩:=List.mem_map.1 h
   exact List.mem_append_right _ hm
  by_cases hv:p.vh=true
  ·exact hv
  ·simp [hv] at h
 ·rename_i ho
  by_cases h2:(p.cs.length==2)=true
  ·have hw:fM p=true:=by simp only [fM,kx,ho,h2,Bool.or_true]
   rw [if_pos h2]
   refine ⟨hgen.fr,fun d h=>by simp [cZ] at h,fun d h=>⟨hw,vP _ _ h⟩,fun h=>⟨hw,?_⟩⟩
   by_cases hv:p.vh=true
   ·exact hv
   ·simp [hv] at h
  ·simp only [h2,Bool.false_and,Bool.false_eq_true,if_false]
   exact hgen
 ·exact hgen
theorem rY{p:bQ}{s:St}{q:bB}(h:cQ R Ω E p s=some q):Small p q:=by
 have hcore:∀ v q,iT R Ω E p v=some q→Small p q:=by
  intro v q hq
  unfold iT at hq
  split at hq
  ·obtain ⟨r,_,h2⟩:=Option.bind_eq_some_iff.1 hq
   split at h2
   ·obtain rfl:=Option.some.inj h2
    exact G8 p r
   ·cases h2
  ·cases hq
 unfold cQ at h
 split at h
 ·exact hcore _ _ h
 ·obtain ⟨y,_,h2⟩:=Option.bind_eq_some_iff.1 h
  split at h2
  ·exact hcore _ _ h2
  ·obtain rfl:=Option.some.inj h2
   exact ym fun d hd=>by rw [yn] at hd;exact List.mem_append_left _ hd
theorem AY{fr fr':List (Nat×AV)}{ks:List Nat}(h:∀ d∈ks,ax fr d=ax fr' d):iS fr ks=iS fr' ks:=
 List.map_congr_left fun d hd=>by rw [h d hd]
theorem H3{bx bx':List (Nat×List AV)}{ks:List Nat}(h:∀ d∈ks,aC bx d=aC bx' d):cB bx ks=cB bx' ks:=by
 induction ks with
 | nil=>rfl
 | cons k ks ih=>
  simp only [cB,h k (by simp),ih fun d hd=>h d (by simp [hd])]
structure G9(p:bQ)(s s':St):Prop where
 fr:∀ d∈Oy p,ax s.fr d=ax s'.fr d
 bx:∀ d∈p.vb,aC s.bx d=aC s'.bx d
 hp:p.vh=true→s.hp=s'.hp
theorem G9.patch{p:bQ}{s s':St}(h:G9 p s s'):cQ R Ω E p s=cQ R Ω E p s':=by
 have hv:view p s=view p s':=by
  unfold view
  rw [AY fun d hd=>h.fr d (List.mem_append_right _ hd),H3 h.bx]
  by_cases hh:p.vh=true
  ·simp only [hh,if_true,h.hp hh]
  ·simp only [if_neg hh]
 unfold cQ
 rw [hv]
 split
 ·rfl
 ·rename_i j want hg
  rw [h.fr j (List.mem_append_left _ (by unfold TS;rw [hg];simp))]
theorem Se.Ha{p:bQ}{s s':St}(h:Se s s'):G9 p s s':=⟨fun d _=>h.fr d,fun d _=>h.bx d,fun _=>h.hp⟩
theorem Hb{p p':bQ}{q:bB}{s:St}(hq:Small p q)(hc:vO p p'=true):G9 p' (q.app s) s:=by
 simp only [vO,Bool.and_eq_true,Bool.not_eq_true'] at hc
 obtain ⟨⟨⟨⟨⟨⟨c1,c2⟩,c3⟩,c4⟩,c5⟩,c6⟩,c7⟩:=hc
 refine ⟨fun d hd=>?_,fun d hd=>?_,fun hh=>?_⟩
 ·simp only [bB.app,gE]
  rw [if_neg]
  intro hm
  exact ka c1 (hq.fr d hm) hd
 ·simp only [bB.app,mI,oG]
  have hnb:d∉cZ q.nb:=fun hm=>by
   obtain ⟨h1,h2⟩:=hq.nb d hm
   exact ka c4 (List.mem_append_left _ (by rw [if_pos h1];exact h2)) hd
  have hwb:d∉cZ q.wb:=fun hm=>by
   obtain ⟨h1,h2⟩:=hq.wb d hm
   exact ka c4 (List.mem_append_right _ (by rw [if_pos h1];exact h2)) hd
  rw [if_neg hnb,nW hwb]
 ·simp only [bB.app]
  cases hp:q.hp with
  | none=>rfl
  | some x=>
   obtain ⟨h1,h2⟩:=hq.hp (by rw [hp];simp)
   rw [h1,h2,hh] at c7
   simp at c7
theorem Nn{p p':bQ}{q q':bB}(hq:Small p q)(hq':Small p' q')(hc:vO p p'=true):Ox q q':=by
 simp only [vO,Bool.and_eq_true,Bool.not_eq_true'] at hc
 obtain ⟨⟨⟨⟨⟨⟨c1,c2⟩,c3⟩,c4⟩,c5⟩,c6⟩,c7⟩:=hc
 have m1:∀ {p:bQ}{q:bB}{d},Small p q→d∈cZ q.nb→d∈II p:=fun hq h=>by
  obtain ⟨h1,h2⟩:=hq.nb _ h
  exact List.mem_append_left _ (by rw [if_pos h1];exact h2)
 have m2:∀ {p:bQ}{q:bB}{d},Small p q→d∈cZ q.wb→d∈II p:=fun hq h=>by
  obtain ⟨h1,h2⟩:=hq.wb _ h
  exact List.mem_append_right _ (by rw [if_pos h1];exact h2)
 refine ⟨fun d h h'=>ka c3 (hq.fr d h) (hq'.fr d h'),fun d h h'=>ka c6 (m1 hq h) (m1 hq' h'),fun d h h'=>ka c6 (m1 hq h) (m2 hq' h'),fun d h h'=>ka c6 (m2 hq h) (m1 hq' h'),fun d h h'=>ka c6 (m2 hq h) (m2 hq' h'),?_⟩
 cases h1:q.hp with
 | none=>exact .inl rfl
 | some x=>
  cases h2:q'.hp with
  | none=>exact .inr rfl
  | some y=>
   obtain ⟨h3,h4⟩:=hq.hp (by rw [h1];simp)
   obtain ⟨h5,h6⟩:=hq'.hp (by rw [h2];simp)
   rw [h3,h4,h6] at c7
   simp at c7
def mR(R:Rec)(Ω:cK)(E:Env)(gs:List bQ):List Nat→St→St→Prop
 | [],s,t=>Se s t
 | i::π,s,t=>∃ p s1 s2,gs[i]? =some p∧Se s s1∧cR R Ω E s1 p=some s2∧mR R Ω E gs π s2 t
variable {gs:List bQ}
theorem mR.se{π:List Nat}{s s' t:St}(h:mR R Ω E gs π s' t)(hs:Se s s'):mR R Ω E gs π s t:=by
 cases π with
 | nil=>exact Se.trans hs h
 | cons i π=>
  obtain ⟨p,s1,s2,h1,h2,h3,h4⟩:=h
  exact ⟨p,s1,s2,h1,hs.trans h2,h3,h4⟩
theorem mR.text:∀ (ps:List bQ)(i:Nat)(s t:St),gs.drop i=ps→n6 R Ω E s ps=some t→mR R Ω E gs (List.range' i ps.length) s t
 | [],i,s,t,_,he=>by
  obtain rfl:=Option.some.inj he
  exact Se.refl _
 | p::ps,i,s,t,hi,he=>by
  obtain ⟨s2,h1,h2⟩:=Option.bind_eq_some_iff.1 he
  rw [List.length_cons,List.range'_succ]
  refine ⟨p,s,s2,?_,Se.refl _,h1,mR.text ps (i+1) s2 t ?_ h2⟩
  ·have:(gs.drop i)[0]? =some p:=by rw [hi];rfl
   simpa using this
  ·rw [←List.drop_drop,hi];rfl
def JO(xs:List bj):List Nat:=xs.flatMap fun x=>match x with
 | .t n=>[n]
 | .c _=>[]
def Et(sl dl:List Nat):mS→Bool
 | .lk _ (.t _) (.t b) lv=>sl.contains b&&(!lv||dl.contains b)
 | _=>false
def JP:mS→Bool
 | .ln false (.t _)=>true
 | _=>false
def Eu(ow:List Nat)(q:bQ):Bool:=match q.p.o with
 | .al zs=>AV.bS zs&&!q.vh&&(match q.p.d with
  | some d=>ow.contains d&&q.vb==[d]
  | none=>false)
 | _=>false
def tN(p q:bQ):Bool:=match p.p.o with
 | .ch _ args sl dl ow=>!p.lt&&q.lt&&p.p.g.isNone&&q.p.g.isNone&&!fM q&&sY (xj q) (JO args++(sl++dl))&&sY (nX p.p.d) (xj q++q.vw)&&(q.nb.contains 1000000||Et sl dl q.p.o)&&(Eu ow q||Et sl dl q.p.o||JP q.p.o||(!pn q.p.o&&q.vb.isEmpty&&!q.vh))
 | _=>false
structure eM(p q:bQ)(f:FuncId)(args:List bj)(sl dl ow:List Nat):Prop where
 o:p.p.o= .ch f args sl dl ow
 pl:p.lt=false
 ql:q.lt=true
 pg:p.p.g=none
 qg:q.p.g=none
 nw:fM q=false
 wr:∀ d,d∈xj q→d∉JO args∧d∉sl∧d∉dl
 ds:∀ d,p.p.d=some d→d∉xj q∧d∉q.vw
 nb:(1000000:Nat)∈q.nb∨Et sl dl q.p.o=true
 kd:Eu ow q=true∨Et sl dl q.p.o=true∨JP q.p.o=true∨(pn q.p.o=false∧q.vb=[]∧q.vh=false)
theorem EV{p q:bQ}(h:tN p q=true):∃ f args sl dl ow,eM p q f args sl dl ow:=by
 unfold tN at h
 split at h
 ·rename_i f args sl dl ow ho
  simp only [Bool.and_eq_true,Bool.not_eq_true',Option.isNone_iff_eq_none,Bool.or_eq_true] at h
  obtain ⟨⟨⟨⟨⟨⟨⟨⟨h1,h2⟩,h3⟩,h4⟩,h5⟩,h6⟩,h7⟩,h8⟩,h9⟩:=h
  refine ⟨f,args,sl,dl,ow,ho,h1,h2,h3,h4,h5,fun d hd=>?_,fun d hd=>?_,h8.imp (fun h=>by simpa using h) id,?_⟩
  ·have:=ka h6 hd
   exact ⟨fun hm=>this (List.mem_append_left _ hm),fun hm=>this (List.mem_append_right _ (List.mem_append_left _ hm)),fun hm=>this (List.mem_append_right _ (List.mem_append_right _ hm))⟩
  ·have:d∈nX p.p.d:=by rw [hd];simp [nX]
   have:=ka h7 this
   exact ⟨fun hm=>this (List.mem_append_left _ hm),fun hm=>this (List.mem_append_right _ hm)⟩
  ·rcases h9 with ((h9 | h9) | h9) | h9
   ·exact .inl h9
   ·exact .inr (.inl h9)
   ·exact .inr (.inr (.inl h9))
   ·exact .inr (.inr (.inr ⟨h9.1.1,by simpa using h9.1.2,h9.2⟩))
 ·cases h
theorem Dd{ow:List Nat}{q:bQ}(h:Eu ow q=true):∃ zs d,q.p.o= .al zs∧q.p.d=some d∧AV.bS zs=true∧d∈ow∧q.vb=[d]∧q.vh=false:=by
 unfold Eu at h
 split at h
 ·rename_i zs ho
  simp only [Bool.and_eq_true,Bool.not_eq_true'] at h
  obtain ⟨⟨h1,h2⟩,h3⟩:=h
  split at h3
  ·rename_i d hd
   simp only [Bool.and_eq_true,beq_iff_eq] at h3
   exact ⟨zs,d,ho,hd,h1,by simpa using h3.1,h3.2,h2⟩
  ·cases h3
 ·cases h
theorem JQ{sl dl:List Nat}{o:mS}(h:Et sl dl o=true):∃ n m b lv,o= .lk n (.t m) (.t b) lv∧b∈sl∧(lv=true→b∈dl):=by
 unfold Et at h
 split at h
 ·rename_i n m b lv
  simp only [Bool.and_eq_true,Bool.or_eq_true,Bool.not_eq_true'] at h
  refine ⟨n,m,b,lv,rfl,by simpa using h.1,fun hl=>?_⟩
  rcases h.2 with h' | h'
  ·rw [hl] at h';cases h'
  ·simpa using h'
 ·cases h
theorem Oz{o:mS}(h:JP o=true):∃ m,o= .ln false (.t m):=by
 unfold JP at h
 split at h
 ·exact ⟨_,rfl⟩
 ·cases h
theorem eM.TT{p q:bQ}{f:FuncId}{args:List bj}{sl dl ow:List Nat}(hb:eM p q f args sl dl ow)(ha:pn q.p.o=true):Eu ow q=true:=by
 rcases hb.kd with h | h | h | h
 ·exact h
 ·obtain ⟨n,m,b,lv,e,_⟩:=JQ h
  rw [e] at ha;cases ha
 ·obtain ⟨m,e⟩:=Oz h
  rw [e] at ha;cases ha
 ·rw [h.1] at ha;cases ha
theorem Pr{z:Bool}{x:AV}{hid:Key→Bool}(h:jC hid x=false):jC hid (ew z x)=false:=by
 cases z with
 | false=>exact h
 | true=>cases x<;>first | exact h | rfl
theorem Li{hid:Key→Bool}{x:AV}(h:nv x=false):jC hid x=false:=by
 cases x with
 | r pl=>cases pl<;>first | rfl | cases h
 | v pl lo len=>cases pl<;>first | rfl | cases h
 | q pl i sz off=>cases pl<;>first | rfl | cases h
 | _=>rfl
theorem Lj{hid:Key→Bool}{x:AV}(h:x.copy=true):jC hid x=false:=by
 cases x<;>first | rfl | cases h
theorem No{fr:List (Nat×AV)}{d:Nat}(h:ax fr d≠.u):∃ y∈fr,y.2=ax fr d:=by
 induction fr with
 | nil=>exact absurd rfl h
 | cons y fr ih=>
  obtain ⟨k,x⟩:=y
  simp only [ax] at h ⊢
  split
  ·exact ⟨(k,x),by simp,rfl⟩
  ·rename_i hne
   rw [if_neg hne] at h
   obtain ⟨z,hz,e⟩:=ih h
   exact ⟨z,List.mem_cons_of_mem _ hz,e⟩
structure p9(dp:Nat)(s:St)(sl dl ow:List Nat):Prop where
 sl:∀ m∈sl,∃ k,dw dp s (ax s.fr m) false=some k∧k.dp≤dp
 dl:∀ m∈dl,yO dp ow (ax s.fr m)=false∧∃ k,dw dp s (ax s.fr m) true=some k∧k.dp≤dp
theorem p9.dp{dp:Nat}{s:St}{sl dl ow:List Nat}(h:p9 dp s sl dl ow){k:Key}(hk:fD dp s sl dl ow k=true):k.dp≤dp:=by
 unfold fD at hk
 simp only [Bool.or_eq_true,List.any_eq_true,Bool.and_eq_true,beq_iff_eq,decide_eq_true_eq] at hk
 rcases hk with (⟨n,hn,e⟩ | ⟨n,hn,_,e⟩) | ⟨e,_⟩
 ·obtain ⟨k',e',h'⟩:=h.sl n hn
  rw [e] at e';injection e' with e';subst e';exact h'
 ·obtain ⟨_,k',e',h'⟩:=h.dl n hn
  rw [e] at e';injection e' with e';subst e';exact h'
 ·omega
theorem Np{dp:Nat}{v s:St}(hbx:∀ k cs,v.box dp k=some cs→s.box dp k=some cs){y:AV}{lv:Bool}{k:Key}(h:dw dp v y lv=some k):dw dp s y lv=some k:=by
 cases y<;>first | (simp [dw] at h;done) | skip
 rename_i k' off
 cases lv with
 | false=>exact h
 | true=>
  simp only [dw,if_true] at h ⊢
  split at h
  ·rename_i k2 o2 hc
   obtain ⟨cs,hb,hcs⟩:=Option.bind_eq_some_iff.1 hc
   simp only [hbx _ cs hb,Option.bind_some,hcs]
   exact h
  ·cases h
theorem IJ(q:bQ)(s:St)(n:Nat):ax (view q s).fr n= .u∨ax (view q s).fr n=ax s.fr n:=yi s.fr q.vw n
theorem Ps(q:bQ)(s:St)(dp:Nat)(k:Key)(cs:List AV)(h:(view q s).box dp k=some cs):s.box dp k=some cs:=by
 by_cases hk:k.dp=dp
 ·simp only [St.box,hk,if_true] at h ⊢
  exact cA h
 ·simp only [St.box,if_neg hk,view] at h ⊢
  split at h
  ·exact h
  ·cases h
theorem Hc{dp:Nat}{q:bQ}{s:St}{sl dl ow:List Nat}{b:Nat}{lv:Bool}{k:Key}(hs:p9 dp s sl dl ow)(hb:b∈sl)(hl:lv=true→b∈dl)(h:dw dp (view q s) (ax (view q s).fr b) lv=some k):fD dp s sl dl ow k=true:=by
 have h1:=Np (Ps q s dp) h
 have h2:ax (view q s).fr b=ax s.fr b:=by
  rcases IJ q s b with e | e
  ·rw [e] at h1;cases h1
  ·exact e
 rw [h2] at h1
 unfold fD
 simp only [Bool.or_eq_true,List.any_eq_true,Bool.and_eq_true,beq_iff_eq,Bool.not_eq_true']
 cases lv with
 | false=>exact .inl (.inl ⟨b,hb,h1⟩)
 | true=>exact .inl (.inr ⟨b,hl rfl,(hs.dl b (hl rfl)).1,h1⟩)
structure hO(q:bQ)(qq:bB)(ow:List Nat):Prop where
 fr:∀ d,d∈cZ qq.fr→d∈xj q
 nb:qq.nb=[]∨∃ d zs,qq.nb=[(d,zs)]∧AV.bS zs=true∧d∈ow
 wb:qq.wb=[]
 hp:qq.hp=none
theorem zS{q:bQ}{r:AV×St}(hnw:fM q=false)(hal:pn q.p.o=false):effect q r=⟨gI q.p.d (ew q.p.fz r.1)++q.cs.map (fun m=>(m,.u)),[],[],none⟩:=by
 unfold effect
 split
 ·rename_i zs ho;rw [ho] at hal;cases hal
 ·rename_i ho;rw [ho] at hal;cases hal
 ·rename_i ho;simp [fM,p8,ho] at hnw
 ·rename_i ho
  have h2:(q.cs.length==2)=false:=by
   simp only [fM,kx,ho,p8,Bool.false_or] at hnw
   exact hnw
  simp only [h2,Bool.false_and,Bool.false_eq_true,if_false]
 ·rfl
theorem eM.inv{p q:bQ}{f:FuncId}{args:List bj}{sl dl ow:List Nat}(hb:eM p q f args sl dl ow){s:St}{qq:bB}(h:cQ R Ω E q s=some qq):∃ r,execOp R Ω E (view q s) q.p.d q.p.o=some r∧okB E.dp q.nb r.1=true∧qq=effect q r:=by
 unfold cQ at h
 rw [hb.qg] at h
 simp only at h
 unfold iT at h
 split at h
 ·obtain ⟨r,hr,h2⟩:=Option.bind_eq_some_iff.1 h
  split at h2
  ·rename_i hok
   exact ⟨r,hr,(Bool.and_eq_true_iff.1 hok).2,(Option.some.inj h2).symm⟩
  ·cases h2
 ·cases h
theorem eM.patch{p q:bQ}{f:FuncId}{args:List bj}{sl dl ow:List Nat}(hb:eM p q f args sl dl ow){s:St}{qq:bB}(h:cQ R Ω E q s=some qq):hO q qq ow:=by
 have hs:=rY h
 obtain ⟨r,hr,hok,rfl⟩:=hb.inv h
 by_cases hal:pn q.p.o=true
 ·obtain ⟨zs,dd,ho,hd,h1,h2,_⟩:=Dd (hb.TT hal)
  have he:effect q r=⟨[(dd,r.1)],[(dd,zs)],[],none⟩:=by
   unfold effect
   rw [ho,hd]
  rw [he] at hs ⊢
  exact ⟨hs.fr,.inr ⟨dd,zs,rfl,h1,h2⟩,rfl,rfl⟩
 ·rw [zS hb.nw (by simpa using hal)] at hs ⊢
  exact ⟨hs.fr,.inl rfl,rfl,rfl⟩
theorem eM.plain{p q:bQ}{f:FuncId}{args:List bj}{sl dl ow:List Nat}(hb:eM p q f args sl dl ow){s:St}{qq:bB}(hi:p9 E.dp s sl dl ow)(h:cQ R Ω E q s=some qq):∀ y∈qq.fr,jC (fD E.dp s sl dl ow) y.2=false:=by
 obtain ⟨r,hr,hok,rfl⟩:=hb.inv h
 have hx:jC (fD E.dp s sl dl ow) r.1=false:=by
  rcases hb.nb with hn | hl
  ·unfold okB at hok
   have h4:=(Bool.and_eq_true_iff.1 hok).2
   have h5:q.nb.contains 1000000=true:=by simpa using hn
   rw [h5] at h4
   exact Li (by simpa using h4)
  ·obtain ⟨n,m,b,lv,e,hsl,hdl⟩:=JQ hl
   rw [e] at hr
   simp only [execOp] at hr
   split at hr
   ·rename_i k off hk
    split at hr
    ·rename_i hev
     have hhid:=Hc hi hsl hdl hev
     obtain ⟨cs,_,hr1⟩:=Option.bind_eq_some_iff.1 hr
     obtain ⟨y,_,hr2⟩:=Option.bind_eq_some_iff.1 hr1
     split at hr2
     ·obtain rfl:=Option.some.inj hr2
      simp [jC,hhid]
     ·split at hr2
      ·rename_i hc
       obtain rfl:=Option.some.inj hr2
       exact Lj hc
      ·cases hr2
    ·cases hr
   ·cases hr
 by_cases hal:pn q.p.o=true
 ·obtain ⟨zs,dd,ho,hd,h1,h2,_⟩:=Dd (hb.TT hal)
  have he:effect q r=⟨[(dd,r.1)],[(dd,zs)],[],none⟩:=by
   unfold effect
   rw [ho,hd]
  rw [he]
  intro y hy
  obtain rfl:y=(dd,r.1):=by simpa using hy
  exact hx
 ·rw [zS hb.nw (by simpa using hal)]
  intro y hy
  rcases List.mem_append.1 hy with hy | hy
  ·cases hd:q.p.d with
   | none=>rw [hd] at hy;cases hy
   | some dd=>
    rw [hd] at hy
    obtain rfl:y=(dd,ew q.p.fz r.1):=by simpa [gI] using hy
    exact Pr hx
  ·obtain ⟨m,_,rfl⟩:=List.mem_map.1 hy
   rfl
theorem eM.XN{p q:bQ}{f:FuncId}{args:List bj}{sl dl ow:List Nat}(hb:eM p q f args sl dl ow){s:St}{qq:bB}(h:cQ R Ω E q s=some qq):∀ d∈cZ qq.nb,aC s.bx d=none:=by
 have hs:=rY h
 intro d hd
 obtain ⟨h1,h2⟩:=hs.nb d hd
 obtain ⟨r,hr,_,_⟩:=hb.inv h
 obtain ⟨zs,dd,ho,hdd,_,_,hvb,_⟩:=Dd (hb.TT h1)
 rw [hdd] at h2
 obtain rfl:d=dd:=by simpa [nX] using h2
 rw [ho] at hr
 simp only [execOp,hdd,Option.bind_some] at hr
 split at hr
 ·rename_i hc
  simp only [Bool.and_eq_true] at hc
  have h4:aC (cB s.bx q.vb) d=none:=by have:=hc.1.1;simp only [lg,Bool.and_eq_true] at this;simpa [view] using this.1
  rwa [vz _ _ _ (by rw [hvb];simp)] at h4
 ·cases hr
structure rZ(R:Rec)(E:Env)(s:St)(f:FuncId)(args:List AV)(sl dl ow:List Nat)(x:AV)(hp':HP):Prop where
 ro:E.ro=false
 copy:args.all AV.copy=true
 deep:∀ d cs,aC s.bx d=some cs→AV.bn E.dp cs=true
 nb:∀ y∈s.fr,jC (fD E.dp s sl dl ow) y.2=false
 pt:p9 E.dp s sl dl ow
 run:R ⟨E.dp+1,false⟩ f args (yP E.dp s sl dl ow)=some (.ret x,hp')
 pure:x.pure=true
 post:∀ d cs,aC (s.bX E.dp (db E.dp s sl dl ow hp')).bx d=some cs→d∈ow∨∀ h∈ow,AV.aJ ⟨E.dp,h⟩ cs=true
theorem vQ{dp:Nat}{o:Option Key} : xp dp o=true↔∃ k,o=some k∧k.dp≤dp:=by
 cases o with
 | none=>simp [xp]
 | some k=>simp [xp]
theorem zT{s:St}{f:FuncId}{args:List AV}{sl dl ow:List Nat}{r:AV×St}(h:tF R E s f args sl dl ow=some r):∃ hp',rZ R E s f args sl dl ow r.1 hp'∧r.2=s.bX E.dp (db E.dp s sl dl ow hp'):=by
 unfold tF at h
 split at h
 ·rename_i hc
  simp only [Bool.and_eq_true,Bool.not_eq_true'] at hc
  obtain ⟨⟨⟨⟨⟨h1,h2⟩,h3⟩,h4⟩,h5⟩,h6⟩:=hc
  obtain ⟨⟨q,hp'⟩,hq,he2⟩:=Option.bind_eq_some_iff.1 h
  cases q with
  | new cs=>cases he2
  | ret x=>?_
  simp only at he2
  split at he2
  ·rename_i hk
   obtain rfl:=Option.some.inj he2
   obtain ⟨hk1,hk2⟩:=Bool.and_eq_true_iff.1 hk
   refine ⟨hp',⟨h1,h2,sJ.1 h3,fun n hn=>?_,⟨fun m hm=>vQ.1 (List.all_eq_true.1 h5 m hm),fun m hm=>?_⟩,hq,hk1,fun d cs hd=>?_⟩,rfl⟩
   ·simpa using List.all_eq_true.1 h4 n hn
   ·have:=List.all_eq_true.1 h6 m hm
    simp only [Bool.and_eq_true,Bool.not_eq_true'] at this
    exact ⟨this.1,vQ.1 this.2⟩
   ·have:=sJ.1 hk2 d cs hd
    simpa using this
  ·cases he2
 ·cases h
theorem rZ.mk'{s:St}{f:FuncId}{args:List AV}{sl dl ow:List Nat}{x:AV}{hp':HP}(h:rZ R E s f args sl dl ow x hp') :
  tF R E s f args sl dl ow=some (x,s.bX E.dp (db E.dp s sl dl ow hp')):=by
 unfold tF
 have h4':(s.fr.all fun y=>!jC (fD E.dp s sl dl ow) y.2)=true:=by
  rw [List.all_eq_true];intro n hn;rw [h.nb n hn];rfl
 have h5':sl.all (fun n=>xp E.dp (dw E.dp s (ax s.fr n) false))=true:=by
  rw [List.all_eq_true];intro m hm
  exact vQ.2 (h.pt.sl m hm)
 have h7':dl.all (fun n=>!yO E.dp ow (ax s.fr n)&&xp E.dp (dw E.dp s (ax s.fr n) true))=true:=by
  rw [List.all_eq_true];intro m hm
  rw [(h.pt.dl m hm).1,vQ.2 (h.pt.dl m hm).2];rfl
 have h3':z7 s.bx (fun _ cs=>AV.bn E.dp cs)=true:=sJ.2 h.deep
 have h6':z7 (s.bX E.dp (db E.dp s sl dl ow hp')).bx (fun d cs=>ow.contains d||ow.all fun h=>AV.aJ ⟨E.dp,h⟩ cs)=true:=sJ.2 fun d cs hd=>by
  have:=h.post d cs hd
  simpa using this
 rw [if_pos (by rw [h.ro,h.copy,h3',h4',h5',h7'];rfl),h.run]
 simp only [Option.bind_some]
 rw [if_pos (by rw [h.pure,h6'];rfl)]
theorem gG(dp:Nat)(hp':HP):∀ (bx:List (Nat×List AV))(d:Nat),aC (iR dp hp' bx) d=(aC bx d).bind fun _=>hp' ⟨dp,d⟩
 | [],d=>rfl
 | (k,c)::r,d=>by
  simp only [iR,aC]
  by_cases h:k=d
  ·subst h
   simp only [if_true,Option.bind_some]
   cases hk:hp' ⟨dp,k⟩ with
   | some cs=>simp [aC]
   | none=>
    simp only
    rw [gG dp hp' r k,hk]
    cases aC r k<;>rfl
  ·rw [if_neg h]
   split
   ·simp only [aC,if_neg h];exact gG dp hp' r d
   ·exact gG dp hp' r d
theorem Se.ev{s s':St}(h:Se s s')(xs:List bj):xs.map s.ev=xs.map s'.ev:=by
 apply List.map_congr_left
 intro x _
 cases x with
 | c z=>rfl
 | t n=>exact h.fr n
theorem Se.yC{s s':St}(h:Se s s')(dp:Nat)(y:AV)(lv:Bool):dw dp s y lv=dw dp s' y lv:=by
 unfold dw
 simp only [h.box]
theorem Se.hid{s s':St}(h:Se s s')(dp:Nat)(sl dl ow:List Nat):fD dp s sl dl ow=fD dp s' sl dl ow:=by
 funext k
 unfold fD
 simp only [h.fr,h.yC]
theorem Se.Hd{s s':St}(h:Se s s')(dp:Nat)(sl dl ow:List Nat)(hp':HP):db dp s sl dl ow hp'=db dp s' sl dl ow hp':=by
 funext k
 unfold db
 rw [h.hid,h.box]
theorem Se.OA{s s':St}(h:Se s s')(dp:Nat)(sl dl ow:List Nat):yP dp s sl dl ow=yP dp s' sl dl ow:=by
 funext k
 unfold yP
 rw [h.hid,h.box]
theorem Se.bX{s s':St}(h:Se s s')(dp:Nat)(hp':HP):Se (s.bX dp hp') (s'.bX dp hp'):=
 ⟨h.fr,fun d=>by simp only [St.bX,gG,h.bx],rfl,h.mem⟩
theorem Se.put{s s':St}(h:Se s s')(d:Option Nat)(x:AV):Se (put s d x) (A.put s' d x):=by
 cases d with
 | none=>exact h
 | some d=>exact ⟨fun n=>by simp only [A.put,St.bT,ax];split<;>first | rfl | exact h.fr n,h.bx,h.hp,fun y=>by simp only [A.put,St.bT,List.mem_cons,h.mem y]⟩
theorem p9.se{dp:Nat}{s s':St}{sl dl ow:List Nat}(h:p9 dp s sl dl ow)(hs:Se s s'):p9 dp s' sl dl ow:=
 ⟨fun m hm=>by rw [←hs.fr,←hs.yC];exact h.sl m hm,fun m hm=>by rw [←hs.fr,←hs.yC];exact h.dl m hm⟩
theorem rZ.se{s s':St}{f:FuncId}{args:List AV}{sl dl ow:List Nat}{x:AV}{hp':HP}(h:rZ R E s f args sl dl ow x hp')(hs:Se s s'):rZ R E s' f args sl dl ow x hp':=
 ⟨h.ro,h.copy,fun d cs hd=>h.deep d cs (by rw [hs.bx];exact hd),fun y hy=>by rw [←hs.hid];exact h.nb y ((hs.mem y).2 hy),h.pt.se hs,by rw [←hs.OA];exact h.run,h.pure,
  fun d cs hd=>h.post d cs (by rw [(hs.bX _ _).bx,hs.Hd];exact hd)⟩
theorem IK{s s':St}{xs:List bj}(h:∀ n∈JO xs,ax s'.fr n=ax s.fr n):xs.map s'.ev=xs.map s.ev:=by
 apply List.map_congr_left
 intro x hx
 cases x with
 | c z=>rfl
 | t n=>exact h n (List.mem_flatMap.2 ⟨_,hx,by simp⟩)
section
variable {p q:bQ}{f:FuncId}{args:List bj}{sl dl ow:List Nat}{qq:bB}{s:St}
theorem hO.AZ(hq:hO q qq ow)(hb:eM p q f args sl dl ow){n:Nat}(hn:n∈JO args∨n∈sl∨n∈dl):ax (qq.app s).fr n=ax s.fr n:=by
 simp only [bB.app,gE]
 rw [if_neg]
 intro hm
 have:=hb.wr n (hq.fr n hm)
 rcases hn with h | h | h
 ·exact this.1 h
 ·exact this.2.1 h
 ·exact this.2.2 h
theorem hO.box(hq:hO q qq ow){dp:Nat}{k:Key}(hk:∀ d,k=⟨dp,d⟩→d∉ow):(qq.app s).box dp k=s.box dp k:=by
 unfold St.box
 split
 ·rename_i hd
  simp only [bB.app,hq.wb,n5]
  rcases hq.nb with e | ⟨d,zs,e,_,h2⟩
  ·rw [e];rfl
  ·rw [e]
   have:d≠k.d:=fun e'=>hk k.d (by rw [←hd]) (e'▸h2)
   simp [aC,this]
 ·simp only [bB.app,hq.hp,Option.getD_none]
theorem hO.yC(hq:hO q qq ow){dp:Nat}{y:AV}{lv:Bool}(h:lv=true→yO dp ow y=false):dw dp (qq.app s) y lv=dw dp s y lv:=by
 cases lv with
 | false=>cases y<;>rfl
 | true=>
  have h:=h rfl
  cases y<;>first | rfl | skip
  rename_i k off
  simp only [dw,if_true]
  rw [hq.box fun d e hd=>by subst e;simp [yO,hd] at h]
theorem hO.hid(hq:hO q qq ow)(hb:eM p q f args sl dl ow)(dp:Nat):fD dp (qq.app s) sl dl ow=fD dp s sl dl ow:=by
 funext k
 unfold fD
 have h1:(sl.any fun n=>dw dp (qq.app s) (ax (qq.app s).fr n) false==some k)=(sl.any fun n=>dw dp s (ax s.fr n) false==some k):=by
  rw [Bool.eq_iff_iff,List.any_eq_true,List.any_eq_true]
  constructor
  ·rintro ⟨n,hn,h⟩;exact ⟨n,hn,by rwa [hq.AZ hb (.inr (.inl hn)),hq.yC (fun h=>by cases h)] at h⟩
  ·rintro ⟨n,hn,h⟩;exact ⟨n,hn,by rwa [hq.AZ hb (.inr (.inl hn)),hq.yC (fun h=>by cases h)]⟩
 have h2:(dl.any fun n=>!yO dp ow (ax (qq.app s).fr n)&&dw dp (qq.app s) (ax (qq.app s).fr n) true==some k)=(dl.any fun n=>!yO dp ow (ax s.fr n)&&dw dp s (ax s.fr n) true==some k):=by
  rw [Bool.eq_iff_iff,List.any_eq_true,List.any_eq_true]
  simp only [Bool.and_eq_true,Bool.not_eq_true']
  constructor
  ·rintro ⟨n,hn,h0,h⟩
   rw [hq.AZ hb (.inr (.inr hn))] at h0 h
   exact ⟨n,hn,h0,by rwa [hq.yC (fun _=>h0)] at h⟩
  ·rintro ⟨n,hn,h0,h⟩
   rw [←hq.AZ (s:=s) hb (.inr (.inr hn))] at h0 h
   exact ⟨n,hn,h0,by rwa [hq.yC (fun _=>h0)]⟩
 rw [h1,h2]
theorem As{dp:Nat}{d:Nat}(h:d∈ow):fD dp s sl dl ow ⟨dp,d⟩=true:=by
 simp [fD,h]
theorem hO.OA(hq:hO q qq ow)(hb:eM p q f args sl dl ow)(dp:Nat):yP dp (qq.app s) sl dl ow=yP dp s sl dl ow:=by
 funext k
 unfold yP
 rw [hq.hid hb]
 split
 ·rfl
 ·rename_i hn
  exact hq.box fun d e hd=>hn (by rw [e];exact As hd)
theorem hO.Hd(hq:hO q qq ow)(hb:eM p q f args sl dl ow){dp:Nat}{hp':HP}{k:Key}(hk:∀ d,k=⟨dp,d⟩→d∉ow):db dp (qq.app s) sl dl ow hp' k=db dp s sl dl ow hp' k:=by
 unfold db
 rw [hq.hid hb,hq.box hk]
theorem Nq{dp:Nat}{hp':HP}{d:Nat}(h:d∈ow):db dp s sl dl ow hp' ⟨dp,d⟩=aC s.bx d:=by
 unfold db
 rw [if_pos (As h)]
 simp [St.box]
theorem xk(hq:hO q qq ow):(qq.app s).bx=qq.nb++s.bx:=by simp only [bB.app,hq.wb,n5]
theorem hO.YX(hq:hO q qq ow){d:Nat}(h:d∉ow):aC (qq.app s).bx d=aC s.bx d:=by
 rw [xk hq]
 rcases hq.nb with e | ⟨d',zs,e,_,h2⟩
 ·rw [e];rfl
 ·rw [e]
  have:d'≠d:=fun e'=>h (e'▸h2)
  simp [aC,this]
theorem hO.bxI(hq:hO q qq ow){d:Nat}{cs:List AV}(h:aC (qq.app s).bx d=some cs):aC s.bx d=some cs∨AV.bS cs=true:=by
 rw [xk hq] at h
 rcases hq.nb with e | ⟨d',zs,e,hz,_⟩
 ·rw [e] at h;exact .inl h
 ·rw [e] at h
  simp only [List.cons_append,List.nil_append,aC] at h
  split at h
  ·obtain rfl:=Option.some.inj h;exact .inr hz
  ·exact .inl h
theorem p9.app(h:p9 E.dp s sl dl ow)(hq:hO q qq ow)(hb:eM p q f args sl dl ow):p9 E.dp (qq.app s) sl dl ow:=
 ⟨fun m hm=>by rw [hq.AZ hb (.inr (.inl hm)),hq.yC (fun h=>by cases h)];exact h.sl m hm,
  fun m hm=>by
   have h1:=h.dl m hm
   rw [hq.AZ hb (.inr (.inr hm)),hq.yC (fun _=>h1.1)];exact h1⟩
theorem p9.XO(h:p9 E.dp (qq.app s) sl dl ow)(hq:hO q qq ow)(hb:eM p q f args sl dl ow):p9 E.dp s sl dl ow:=
 ⟨fun m hm=>by
   have h1:=h.sl m hm
   rwa [hq.AZ hb (.inr (.inl hm)),hq.yC (fun h=>by cases h)] at h1,
  fun m hm=>by
   have h1:=h.dl m hm
   rw [hq.AZ hb (.inr (.inr hm))] at h1
   rwa [hq.yC (fun _=>h1.1)] at h1⟩
theorem hO.call(hq:hO q qq ow)(hb:eM p q f args sl dl ow)(hpl:∀ y∈qq.fr,jC (fD E.dp s sl dl ow) y.2=false){vals:List AV}{x:AV}{hp':HP}(h:rZ R E s f vals sl dl ow x hp'):rZ R E (qq.app s) f vals sl dl ow x hp':=by
 refine ⟨h.ro,h.copy,fun d cs hd=>?_,fun y hy=>?_,h.pt.app hq hb,by rw [hq.OA hb];exact h.run,h.pure,fun d cs hd=>?_⟩
 ·rcases hq.bxI hd with h1 | h1
  ·exact h.deep d cs h1
  ·exact po _ h1
 ·rw [hq.hid hb]
  rcases List.mem_append.1 (show y∈qq.fr++s.fr from hy) with h1 | h1
  ·exact hpl y h1
  ·exact h.nb y h1
 ·by_cases ho:d∈ow
  ·exact .inl ho
  ·refine h.post d cs ?_
   simp only [St.bX,gG,hq.YX ho] at hd ⊢
   rwa [hq.Hd hb fun d' e=>by injection e with _ e;subst e;exact ho] at hd
theorem hO.TU(hq:hO q qq ow)(hb:eM p q f args sl dl ow){vals:List AV}{x:AV}{hp':HP}(hno:∀ d∈cZ qq.nb,aC s.bx d=none)(h:rZ R E (qq.app s) f vals sl dl ow x hp'):rZ R E s f vals sl dl ow x hp':=by
 refine ⟨h.ro,h.copy,fun d cs hd=>?_,fun y hy=>?_,h.pt.XO hq hb,by rw [←hq.OA hb];exact h.run,h.pure,fun d cs hd=>?_⟩
 ·refine h.deep d cs ?_
  rw [xk hq,mI,if_neg fun hm=>?_]
  ·exact hd
  ·rw [hno d hm] at hd;cases hd
 ·rw [←hq.hid hb]
  exact h.nb y (show y∈qq.fr++s.fr from List.mem_append_right _ hy)
 ·by_cases ho:d∈ow
  ·exact .inl ho
  ·refine h.post d cs ?_
   simp only [St.bX,gG,hq.YX ho] at hd ⊢
   rwa [hq.Hd hb fun d' e=>by injection e with _ e;subst e;exact ho]
theorem hO.comm(hq:hO q qq ow)(hb:eM p q f args sl dl ow){x:AV}{hp':HP} : Se (qq.app (put (s.bX E.dp (db E.dp s sl dl ow hp')) p.p.d x)) (put ((qq.app s).bX E.dp (db E.dp (qq.app s) sl dl ow hp')) p.p.d x):=by
 have hbx:∀ d,aC (qq.nb++n5 (s.bX E.dp (db E.dp s sl dl ow hp')).bx qq.wb) d=aC ((qq.app s).bX E.dp (db E.dp (qq.app s) sl dl ow hp')).bx d:=by
  intro d
  simp only [St.bX,xk hq,hq.wb,n5,mI,gG]
  by_cases hd:d∈cZ qq.nb
  ·rw [if_pos hd,if_pos hd]
   rcases hq.nb with e | ⟨d',zs,e,_,ho⟩
   ·rw [e] at hd;simp [cZ] at hd
   ·rw [e] at hd ⊢
    simp only [cZ,List.map_cons,List.map_nil,List.mem_singleton] at hd
    subst hd
    rw [Nq (s:=qq.app s) ho,xk hq,e]
    simp [aC]
  ·rw [if_neg hd,if_neg hd]
   by_cases ho:d∈ow
   ·rw [Nq (s:=qq.app s) ho,Nq (s:=s) ho,xk hq,mI,if_neg hd]
   ·rw [hq.Hd hb fun d' e=>by injection e with _ e;subst e;exact ho]
 have hhp:(s.bX E.dp (db E.dp s sl dl ow hp')).hp=((qq.app s).bX E.dp (db E.dp (qq.app s) sl dl ow hp')).hp:=by
  simp only [St.bX]
  funext k
  split
  ·rename_i hlt
   rw [hq.Hd hb fun d e=>by subst e;exact absurd hlt (Nat.lt_irrefl _)]
  ·rfl
 cases hd:p.p.d with
 | none=>
  refine ⟨fun n=>rfl,hbx,?_,fun y=>Iff.rfl⟩
  show qq.hp.getD _=_
  rw [hq.hp];exact hhp
 | some dd=>
  have hdd:dd∉cZ qq.fr:=fun hm=>(hb.ds dd hd).1 (hq.fr dd hm)
  refine ⟨fun n=>?_,hbx,?_,fun y=>?_⟩
  ·show ax (qq.fr++(dd,x)::s.fr) n=ax ((dd,x)::(qq.fr++s.fr)) n
   simp only [gE,ax]
   by_cases hn:dd=n
   ·subst hn;simp [hdd]
   ·simp only [if_neg hn]
  ·show qq.hp.getD _=_
   rw [hq.hp];exact hhp
  ·show y∈qq.fr++(dd,x)::s.fr↔y∈(dd,x)::(qq.fr++s.fr)
   simp only [List.mem_append,List.mem_cons]
   constructor
   ·rintro (h | h | h)
    ·exact .inr (.inl h)
    ·exact .inl h
    ·exact .inr (.inr h)
   ·rintro (h | h | h)
    ·exact .inr (.inl h)
    ·exact .inl h
    ·exact .inr (.inr h)
theorem eM.Ha(hb:eM p q f args sl dl ow){x:AV}{hp':HP}(hnb:∀ y∈s.fr,jC (fD E.dp s sl dl ow) y.2=false)(hpt:p9 E.dp s sl dl ow) :
  cQ R Ω E q (put (s.bX E.dp (db E.dp s sl dl ow hp')) p.p.d x)=cQ R Ω E q s:=by
 have hkf:iS (put (s.bX E.dp (db E.dp s sl dl ow hp')) p.p.d x).fr q.vw=iS s.fr q.vw:=by
  apply AY
  intro n hn
  cases hd:p.p.d with
  | none=>rfl
  | some dd=>
   have:dd≠n:=fun e=>(hb.ds dd hd).2 (e▸hn)
   simp only [put,St.bT,ax,if_neg this]
   rfl
 have hbx2:(put (s.bX E.dp (db E.dp s sl dl ow hp')) p.p.d x).bx=(s.bX E.dp (db E.dp s sl dl ow hp')).bx:=by cases p.p.d<;>rfl
 have hp2:(put (s.bX E.dp (db E.dp s sl dl ow hp')) p.p.d x).hp=(s.bX E.dp (db E.dp s sl dl ow hp')).hp:=by cases p.p.d<;>rfl
 have hbo:∀ d,fD E.dp s sl dl ow ⟨E.dp,d⟩=true→aC (put (s.bX E.dp (db E.dp s sl dl ow hp')) p.p.d x).bx d=aC s.bx d:=by
  intro d hd
  rw [hbx2]
  simp only [St.bX,gG]
  have:db E.dp s sl dl ow hp' ⟨E.dp,d⟩=aC s.bx d:=by
   unfold db
   rw [if_pos hd]
   simp [St.box]
  rw [this]
  cases aC s.bx d<;>rfl
 have hvfr:(view q (put (s.bX E.dp (db E.dp s sl dl ow hp')) p.p.d x)).fr=(view q s).fr:=hkf
 have hvb:∀ k,fD E.dp s sl dl ow k=true→(view q (put (s.bX E.dp (db E.dp s sl dl ow hp')) p.p.d x)).box E.dp k=(view q s).box E.dp k:=by
  intro k hk
  obtain ⟨kd,ke⟩:=k
  by_cases hkd:kd=E.dp
  ·subst hkd
   show (if E.dp=E.dp then aC (cB _ q.vb) ke else _)=(if E.dp=E.dp then aC (cB _ q.vb) ke else _)
   rw [if_pos rfl,if_pos rfl]
   have:∀ ks,aC (cB (put (s.bX E.dp (db E.dp s sl dl ow hp')) p.p.d x).bx ks) ke=aC (cB s.bx ks) ke:=by
    intro ks
    by_cases hm:ke∈ks
    ·rw [vz _ _ _ hm,vz _ _ _ hm,hbo ke hk]
    ·have h1:∀ bx:List (Nat×List AV),aC (cB bx ks) ke=none:=fun bx=>nW fun h=>hm (vP bx ks h)
     rw [h1,h1]
   exact this q.vb
  ·have hlt:kd<E.dp:=by have:(⟨kd,ke⟩:Key).dp≤E.dp:=hpt.dp hk;simp only at this;omega
   show (if kd=E.dp then _ else (view q (put (s.bX E.dp (db E.dp s sl dl ow hp')) p.p.d x)).hp ⟨kd,ke⟩)=(if kd=E.dp then _ else (view q s).hp ⟨kd,ke⟩)
   rw [if_neg hkd,if_neg hkd]
   simp only [view]
   split
   ·rw [hp2]
    simp only [St.bX]
    rw [if_pos hlt]
    unfold db
    rw [if_pos hk]
    simp [St.box,hkd]
   ·rfl
 have hkey:(Eu ow q=true∨(pn q.p.o=false∧q.vb=[]∧q.vh=false))∨∃ g:Option AV,(execOp R Ω E (view q s) q.p.d q.p.o=g.map fun y=>(y,view q s))∧(execOp R Ω E (view q (put (s.bX E.dp (db E.dp s sl dl ow hp')) p.p.d x)) q.p.d q.p.o=g.map fun y=>(y,view q (put (s.bX E.dp (db E.dp s sl dl ow hp')) p.p.d x)))∧pn q.p.o=false∧(∀ v,ic v q.p.o=true)∧∀ v,gn E.dp q v=true:=by
  rcases hb.kd with h | h | h | h
  ·exact .inl (.inl h)
  ·right
   obtain ⟨n,m,b,lv,ho,hsl,hdl⟩:=JQ h
   have e1:∀ n,(view q (put (s.bX E.dp (db E.dp s sl dl ow hp')) p.p.d x)).ev (.t n)=(view q s).ev (.t n):=fun n=>by show ax _ n=ax _ n;rw [hvfr]
   have e2:dw E.dp (view q (put (s.bX E.dp (db E.dp s sl dl ow hp')) p.p.d x)) ((view q s).ev (.t b)) lv=dw E.dp (view q s) ((view q s).ev (.t b)) lv:=by
    cases lv with
    | false=>unfold dw;cases (view q s).ev (.t b)<;>rfl
    | true=>
     cases hy:(view q s).ev (.t b)<;>first | rfl | skip
     rename_i k' off'
     have hk':fD E.dp s sl dl ow k'=true:=Hc (q:=q) (lv:=false) hpt hsl (fun h=>by cases h) (by
      show dw E.dp (view q s) ((view q s).ev (.t b)) false=some k'
      rw [hy];rfl)
     simp only [dw,if_true,hvb k' hk']
   have e3:pn q.p.o=false∧(∀ v,ic v q.p.o=true)∧∀ v,gn E.dp q v=true:=⟨by rw [ho];rfl,fun v=>by rw [ho];rfl,fun v=>by unfold gn;rw [ho]⟩
   by_cases hA:∃ k off,(view q s).ev (.t m)= .p k off∧dw E.dp (view q s) ((view q s).ev (.t b)) lv=some k
   ·obtain ⟨k,off,hA,hev⟩:=hA
    have hk:=Hc (q:=q) hpt hsl hdl hev
    refine ⟨((view q s).box E.dp k).bind fun cs=>(pick n off cs).bind fun y=>match y with
     | .o _ _=>some (.r (.c k off))
     | y=>if y.copy then some y else none,?_,?_,e3⟩
    ·rw [ho]
     simp only [execOp,hA,if_pos hev]
     cases (view q s).box E.dp k with
     | none=>rfl
     | some cs=>
      simp only [Option.bind_some]
      cases pick n off cs with
      | none=>rfl
      | some y=>
       simp only [Option.bind_some]
       cases y<;>simp only []<;>first | rfl | (split<;>rfl)
    ·rw [ho]
     simp only [execOp,e1,hA,e2,if_pos hev,hvb k hk]
     cases (view q s).box E.dp k with
     | none=>rfl
     | some cs=>
      simp only [Option.bind_some]
      cases pick n off cs with
      | none=>rfl
      | some y=>
       simp only [Option.bind_some]
       cases y<;>simp only []<;>first | rfl | (split<;>rfl)
   ·refine ⟨none,?_,?_,e3⟩
    ·rw [ho]
     simp only [execOp]
     split
     ·rename_i k off hx
      rw [if_neg fun hev=>hA ⟨k,off,hx,hev⟩];rfl
     ·rfl
    ·rw [ho]
     simp only [execOp,e1,e2]
     split
     ·rename_i k off hx
      rw [if_neg fun hev=>hA ⟨k,off,hx,hev⟩];rfl
     ·rfl
  ·right
   obtain ⟨m,ho⟩:=Oz h
   have e1:(view q (put (s.bX E.dp (db E.dp s sl dl ow hp')) p.p.d x)).ev (.t m)=(view q s).ev (.t m):=by show ax _ m=ax _ m;rw [hvfr]
   have hrow:∀ pl,jC (fD E.dp s sl dl ow) (.r pl)=false→(view q (put (s.bX E.dp (db E.dp s sl dl ow hp')) p.p.d x)).rowAt E.dp pl=(view q s).rowAt E.dp pl:=by
    intro pl hpl
    cases pl with
    | s d'=>simp only [St.rowAt,hvfr]
    | c k off=>
     have hk:fD E.dp s sl dl ow k=true:=by simpa [jC] using hpl
     simp only [St.rowAt,hvb k hk]
   have hbv:jC (fD E.dp s sl dl ow) ((view q s).ev (.t m))=false:=by
    show jC _ (ax (view q s).fr m)=false
    rcases IJ q s m with e | e
    ·rw [e];rfl
    ·rw [e]
     by_cases hu:ax s.fr m= .u
     ·rw [hu];rfl
     ·obtain ⟨y,hy,e'⟩:=No hu
      rw [←e'];exact hnb y hy
   have hel:(view q (put (s.bX E.dp (db E.dp s sl dl ow hp')) p.p.d x)).elems E.dp ((view q s).ev (.t m))=(view q s).elems E.dp ((view q s).ev (.t m)):=by
    cases hy:(view q s).ev (.t m) with
    | r pl=>rw [hy] at hbv;exact hrow pl hbv
    | v pl lo len=>
     rw [hy] at hbv
     have:jC (fD E.dp s sl dl ow) (.r pl)=false:=by cases pl<;>exact hbv
     simp only [St.elems,hrow pl this]
    | _=>rfl
   refine ⟨(match (view q s).ev (.t m) with
    | .s _=>none
    | .sp _ _ n _=>some (.i .i64 n)
    | y=>((view q s).elems E.dp y).bind fun r=>some (.i .i64 r.2.length)),?_,?_,by rw [ho];rfl,fun v=>by rw [ho];rfl,fun v=>by unfold gn;rw [ho]⟩
   ·rw [ho]
    simp only [execOp]
    cases (view q s).ev (.t m)<;>simp only []<;>first | rfl | (simp only [Bool.false_eq_true,if_false];cases (view q s).elems E.dp _<;>rfl)
   ·rw [ho]
    simp only [execOp,e1]
    cases hy:(view q s).ev (.t m)<;>rw [hy] at hel<;>simp only []<;>first | rfl | (simp only [Bool.false_eq_true,if_false,hel];cases (view q s).elems E.dp _<;>rfl)
  ·exact .inl (.inr h)
 rcases hkey with h | ⟨g,h1,h2,h3,h4,h5⟩
 ·refine G9.patch ⟨fun d hd=>?_,fun d hd=>?_,fun hv=>?_⟩
  ·have hd':d∈q.vw:=by
    have h2:=hd
    unfold Oy TS at h2
    rw [hb.qg] at h2
    simpa using h2
   have:=congrArg (fun l=>ax l d) hkf
   simpa only [ED _ _ _ hd'] using this
  ·rcases h with h | h
   ·obtain ⟨zs,dd,_,_,_,hdo,hvb',_⟩:=Dd h
    rw [hvb'] at hd
    obtain rfl:d=dd:=by simpa using hd
    exact hbo d (As hdo)
   ·rw [h.2.1] at hd;cases hd
  ·rcases h with h | h
   ·obtain ⟨_,_,_,_,_,_,_,hvh⟩:=Dd h
    rw [hvh] at hv;cases hv
   ·rw [h.2.2] at hv;cases hv
 ·unfold cQ iT
  rw [hb.qg]
  simp only [h1,h2,h4,h5]
  cases g with
  | none=>rfl
  | some y=>simp only [Option.map_some,Option.bind_some,zS hb.nw h3]
end
def JR(gs:List bQ)(i j:Nat):Prop:=∃ p q,gs[i]? =some p∧gs[j]? =some q∧((p.lt=true∧q.lt=true∧vO p q=true)∨tN p q=true∨tN q p=true)
theorem mR.swap{i j:Nat}{π:List Nat}{s t:St}(hf:JR gs i j)(h:mR R Ω E gs (i::j::π) s t):mR R Ω E gs (j::i::π) s t:=by
 obtain ⟨p,q,hp,hq,hcase⟩:=hf
 obtain ⟨p',s1,s2,h1,h2,h3,q',s3,s4,h4,h5,h6,h7⟩:=h
 obtain rfl:p=p':=by rw [hp] at h1;exact Option.some.inj h1
 obtain rfl:q=q':=by rw [hq] at h4;exact Option.some.inj h4
 rcases hcase with ⟨hpl,hql,hc⟩ | hc | hc
 rotate_left
 ·
  obtain ⟨f,args,sl,vs,ow,hb⟩:=EV hc
  simp only [cR,hb.pl,Bool.false_eq_true,if_false,fS,hb.pg,hb.o,execOp] at h3
  obtain ⟨⟨x,s2'⟩,hcall,he⟩:=Option.bind_eq_some_iff.1 h3
  obtain rfl:=Option.some.inj he
  simp only [cR,if_pos hb.ql] at h6
  obtain ⟨qq,hqq,he'⟩:=Option.bind_eq_some_iff.1 h6
  obtain rfl:=Option.some.inj he'
  have hP:=hb.patch hqq
  obtain ⟨hp',hC,e2⟩:=zT hcall
  simp only at e2 hC
  subst e2
  have hqq1:cQ R Ω E q s1=some qq:=by
   rw [←hb.Ha (x:=ew p.p.fz x) (hp':=hp') hC.nb hC.pt,(Se.Ha h5).patch];exact hqq
  have hev:=IK (s:=s1) (s':=qq.app s1) (xs:=args) fun n hn=>hP.AZ hb (.inl hn)
  have hcall':=(hP.call hb (hb.plain hC.pt hqq1) hC).mk'
  rw [←hev] at hcall'
  refine ⟨q,s1,qq.app s1,hq,h2,by simp only [cR,if_pos hb.ql,hqq1,Option.bind_some],p,qq.app s1,_,hp,Se.refl _,by simp only [cR,hb.pl,Bool.false_eq_true,if_false,fS,hb.pg,hb.o,execOp,hcall',Option.bind_some];rfl,?_⟩
  exact h7.se (Se.trans (hP.comm hb).symm (h5.app qq))
 ·
  obtain ⟨f,args,sl,vs,ow,hb⟩:=EV hc
  simp only [cR,if_pos hb.ql] at h3
  obtain ⟨qq,hqq,he'⟩:=Option.bind_eq_some_iff.1 h3
  obtain rfl:=Option.some.inj he'
  simp only [cR,hb.pl,Bool.false_eq_true,if_false,fS,hb.pg,hb.o,execOp] at h6
  obtain ⟨⟨x,s4'⟩,hcall,he⟩:=Option.bind_eq_some_iff.1 h6
  obtain rfl:=Option.some.inj he
  have hP:=hb.patch hqq
  obtain ⟨hp',hC,e2⟩:=zT hcall
  simp only at e2 hC
  subst e2
  have hev:=IK (s:=s1) (s':=qq.app s1) (xs:=args) fun n hn=>hP.AZ hb (.inl hn)
  have bL:=hC.se h5.symm
  rw [←h5.ev,hev] at bL
  have hC2:=hP.TU hb (hb.XN hqq) bL
  have hcall':=hC2.mk'
  have hqq1:cQ R Ω E p (put (s1.bX E.dp (db E.dp s1 sl vs ow hp')) q.p.d (ew q.p.fz x))=some qq:=by
   rw [hb.Ha hC2.nb hC2.pt];exact hqq
  refine ⟨q,s1,_,hq,h2,by simp only [cR,hb.pl,Bool.false_eq_true,if_false,fS,hb.pg,hb.o,execOp,hcall',Option.bind_some];rfl,p,_,_,hp,Se.refl _,by simp only [cR,if_pos hb.ql,hqq1,Option.bind_some];rfl,?_⟩
  refine h7.se (Se.trans (hP.comm hb) ?_)
  refine Se.put ?_ _ _
  rw [←h5.Hd]
  exact h5.bX _ _
 simp only [cR,if_pos hpl] at h3
 simp only [cR,if_pos hql] at h6
 obtain ⟨pp,hpp,he⟩:=Option.bind_eq_some_iff.1 h3
 obtain rfl:=Option.some.inj he
 obtain ⟨qq,hqq,he'⟩:=Option.bind_eq_some_iff.1 h6
 obtain rfl:=Option.some.inj he'
 have hc':vO q p=true:=by
  simp only [vO,Bool.and_eq_true,Bool.not_eq_true'] at hc ⊢
  obtain ⟨⟨⟨⟨⟨⟨c1,c2⟩,c3⟩,c4⟩,c5⟩,c6⟩,c7⟩:=hc
  have hsym:∀ l m,sY l m=true→sY m l=true:=fun l m h=>by
   unfold sY
   rw [List.all_eq_true]
   intro x hx
   have:x∉l:=fun hl=>ka h hl hx
   simpa using this
  refine ⟨⟨⟨⟨⟨⟨c2,c1⟩,hsym _ _ c3⟩,c5⟩,c4⟩,hsym _ _ c6⟩,?_⟩
  revert c7
  cases fM p<;>cases fM q<;>cases p.vh<;>cases q.vh<;>simp
 have sp:=rY hpp
 have sq:=rY hqq
 have e1:cQ R Ω E q s1=some qq:=by
  rw [←hqq]
  exact ((Hb sp hc).patch.symm.trans (Se.Ha h5).patch)
 have e2:cQ R Ω E p (qq.app s1)=some pp:=by
  rw [←hpp]
  exact (Hb sq hc').patch
 refine ⟨q,s1,qq.app s1,hq,h2,by simp only [cR,if_pos hql,e1,Option.bind_some],p,qq.app s1,pp.app (qq.app s1),hp,Se.refl _,by simp only [cR,if_pos hpl,e2,Option.bind_some],?_⟩
 exact h7.se ((Nl (Nn sp sq hc) s1).trans (h5.app qq))
theorem mR.front{i:Nat}{B:List Nat}{t:St} : ∀ (A:List Nat)(s:St),(∀ a∈A,JR gs a i)→mR R Ω E gs (A++i::B) s t→mR R Ω E gs (i::(A++B)) s t
 | [],_,_,h=>h
 | a::A,s,hf,h=>by
  obtain ⟨p,s1,s2,h1,h2,h3,h4⟩:=h
  exact mR.swap (hf a (by simp)) ⟨p,s1,s2,h1,h2,h3,mR.front A s2 (fun b hb=>hf b (by simp [hb])) h4⟩
end
variable [bJ]
def He:mS→Bool
 | .al _=>true
 | .ck _ _=>true
 | .bs _ _ _=>true
 | .ms _ _ _ _ _=>true
 | .ap _ _ _ _ _=>true
 | _=>false
def dR(p:bQ):Bool:=
 match p.p.o with
 | .bx _=>false
 | .c2 _ _=>false
 | .d2 _ _=>false
 | .cn _ _=>false
 | .cr _ _ _=>false
 | .ch _ _ _ _ _=>false
 | .bg _ _=>false
 | .bxg _=>false
 | .st _ _ y=>p.p.d==none&&(p.cs==[]||match y with
  | .t m=>p.cs==[m]
  | .c _=>false)
 | .ap _ _ _ x _=>match x with
  | .t m=>p.cs==[m]||p.cs==[m,m]
  | .c _=>p.cs==[]
 | _=>p.cs==[]
structure jk(dp:Nat)(s:St)(h:Nat):Prop where
 fr:∀ d,(ax s.fr d).aI ⟨dp,h⟩=true∧(ax s.fr d).bO (.s h)=false
 cs:∀ d cs,aC s.bx d=some cs→∀ c∈cs,c.aI ⟨dp,h⟩=true
theorem jk.of{dp:Nat}{s:St}{h:Nat}(hf:eG dp s h=true):jk dp s h:=by
 simp only [eG,Bool.and_eq_true] at hf
 refine ⟨fun d=>?_,fun d cs hb c hc=>gl (jZ _ hf.2 d cs hb) c hc⟩
 have:=iF (p:=fun y=>y.aI ⟨dp,h⟩&&!y.bO (.s h)) rfl _ hf.1.2 d
 simpa using this
theorem jk.se{dp:Nat}{s s':St}{h:Nat}(hf:jk dp s h)(hs:Se s s'):jk dp s' h:=
 ⟨fun d=>by rw [←hs.fr];exact hf.fr d,fun d cs hb=>hf.cs d cs (by rw [hs.bx];exact hb)⟩
def oH(dp:Nat)(s:St)(h:Nat):Prop:=∀ d,cu ⟨dp,h⟩ (ax s.fr d)=false
theorem oH.se{dp:Nat}{s s':St}{h:Nat}(hf:oH dp s h)(hs:Se s s'):oH dp s' h:=fun d=>by rw [←hs.fr];exact hf d
theorem Nr{k:Key}{off:Nat}{x:AV}(h:x.bO (.c k off)=true):cu k x=true:=by
 cases x with
 | r pl=>
   have:pl= .c k off:=by simpa [AV.bO] using h
   subst this;simp [cu]
 | v pl lo len=>
   have:pl= .c k off:=by simpa [AV.bO] using h
   subst this;simp [cu]
 | q pl i sz off'=>
   have:pl= .c k off:=by simpa [AV.bO] using h
   subst this;simp [cu]
 | _=>cases h
section
variable {C:Cx}{s:St}{a:Act}{w:World}{σ:Sp}{o:Oper}{R:Rec}{Ω:cK}
theorem Ev(p:bQ)(s:St)(dp:Nat):Le dp (view p s) s:=by
 refine ⟨yi s.fr p.vw,fun k cs hk=>?_⟩
 by_cases hd:k.dp=dp
 ·simp only [St.box,view,hd,if_true] at hk ⊢
  exact cA hk
 ·simp only [St.box,view,if_neg hd] at hk ⊢
  split at hk
  ·exact hk
  ·cases hk
theorem De{p:bQ}{r:AV×St}(h1:pn p.p.o=false)(h2:fM p=false):effect p r=⟨gI p.p.d (ew p.p.fz r.1)++p.cs.map (fun m=>(m,.u)),[],[],none⟩:=by
 unfold effect
 split
 ·rename_i ho;rw [ho] at h1;cases h1
 ·rename_i ho;rw [ho] at h1;cases h1
 ·rename_i ho;simp [fM,ho,p8] at h2
 ·rename_i ho
  have:(p.cs.length==2)=false:=by simpa [fM,kx,ho,p8] using h2
  simp [this]
 ·rfl
theorem Lk(d:Option Nat)(x:AV)(s:St)(d':Nat):ax (gI d x++s.fr) d'=ax (A.put s d x).fr d':=by cases d<;>rfl
theorem l3(cs:List Nat)(fr:List (Nat×AV))(d:Nat):ax (cs.map (fun m=>(m,AV.u))++fr) d=if d∈cs then .u else ax fr d:=by
 induction cs with
 | nil=>simp
 | cons c cs ih=>
  simp only [List.map_cons,List.cons_append,ax,List.mem_cons,ih]
  by_cases h:c=d
  ·subst h;simp
  ·have h':¬d=c:=fun e=>h e.symm
   simp [h,h']
theorem finish{p:bQ}{q:bB}{x:AV}{s':St}{K:Act→World→Prop}{Q:Exit→Act→World→Prop}(hdst:o.dst=p.p.d)(hd:∀ dd,p.p.d=some dd→dd<C.nt)(hsim:cY C o p.p.d a w σ s' x)
  (hfr:∀ d',ax (q.app s).fr d'= .u∨ax (q.app s).fr d'=ax (A.put s' p.p.d (ew p.p.fz x)).fr d') (hbx:∀ k cs,(q.app s).box C.E.dp k=some cs→s'.box C.E.dp k=some cs)
  (hhp:∀ k cs,k.dp≠C.E.dp→(q.app s).hp k=some cs→s'.hp k=some cs) (hK:∀ a' w' σ',cm C w σ w' σ'→an C (q.app s) a' w' σ'→K a' w'):o.wp C.P a w K Q:=by
 refine hsim _ _ fun cv w' σ' hop=>?_
 obtain ⟨σ'',hs,hc⟩:=hop.TR hd p.p.fz
 rw [hdst]
 refine hK _ _ _ hs (hc.Aq hfr (fun k cs hk=>?_) (fun k cs hk hc=>?_))
 ·have:=hbx k cs hk
  cases p.p.d<;>exact this
 ·have:=hhp k cs hk hc
  cases p.p.d<;>exact this
theorem BN{dp:Nat}{p:bQ}{s:St}{k:Key}{cs nw:List AV}(fr:List (Nat×AV))(hb:(view p s).box dp k=some cs) :
  (∀ k' cs',((⟨fr,[],cB ((view p s).aX dp k nw).bx p.vb,if p.vh=true then some ((view p s).aX dp k nw).hp else none⟩:bB).app s).box dp k'=some cs'→(s.aX dp k nw).box dp k'=some cs')∧
  (∀ k' cs',k'.dp≠dp→((⟨fr,[],cB ((view p s).aX dp k nw).bx p.vb,if p.vh=true then some ((view p s).aX dp k nw).hp else none⟩:bB).app s).hp k'=some cs'→(s.aX dp k nw).hp k'=some cs'):=by
 have hb':=(Ev p s dp).bx k cs hb
 refine ⟨fun k' cs' hk'=>?_,fun k' cs' hkd hk'=>?_⟩
 ·rw [kX hb']
  by_cases hkd':k'.dp=dp
  ·simp only [St.box,hkd',if_true,bB.app,List.nil_append,oG] at hk'
   by_cases hkd:k.dp=dp
   ·simp only [St.aX,hkd,if_true] at hk'
    by_cases hkk:k'=k
    ·subst hkk
     rw [if_pos rfl]
     have hvb:aC (view p s).bx k'.d=some cs:=by simpa [St.box,hkd] using hb
     have hin:k'.d∈p.vb:=by
      have:∀ ks,aC (cB s.bx ks) k'.d=some cs→k'.d∈ks:=by
       intro ks hks
       refine vP s.bx ks ?_
       apply Classical.byContradiction
       intro hno
       rw [nW hno] at hks;cases hks
      exact this p.vb hvb
     have hkeep:∀ (bx:List (Nat×List AV))(ks:List Nat)(d:Nat),d∈ks→aC (cB bx ks) d=aC bx d:=by
      intro bx ks d
      induction ks with
      | nil=>intro h;cases h
      | cons c ks ih=>
       intro hm
       simp only [cB]
       cases hc2:aC bx c with
       | none=>
        simp only
        rcases List.mem_cons.1 hm with rfl | hm
        ·cases hq2:aC (cB bx ks) d with
         | none=>exact hc2.symm
         | some z=>have:=cA hq2;rw [hc2] at this;cases this
        ·exact ih hm
       | some z=>
        simp only [aC]
        by_cases hcd:c=d
        ·subst hcd;rw [if_pos rfl,hc2]
        ·rw [if_neg hcd]
         rcases List.mem_cons.1 hm with rfl | hm
         ·exact absurd rfl hcd
         ·exact ih hm
     rw [hkeep _ _ _ hin,sH,if_pos rfl,hvb] at hk'
     have hsb:aC s.bx k'.d=some cs:=by simpa [St.box,hkd] using hb'
     rw [hsb] at hk'
     exact hk'
    ·rw [if_neg hkk]
     have hne:k'.d≠k.d:=fun e=>hkk (by cases k;cases k';simp at hkd hkd' e;rw [hkd,hkd',e])
     simp only [St.box,hkd',if_true]
     cases hq:aC (cB (iQ (view p s).bx k.d nw) p.vb) k'.d with
     | none=>rw [hq] at hk';exact hk'
     | some z=>
      rw [hq] at hk'
      have h1:=cA hq
      rw [sH,if_neg hne] at h1
      have h2:aC s.bx k'.d=some z:=cA h1
      rw [h2] at hk' ⊢
      exact hk'
   ·simp only [St.aX,if_neg hkd] at hk'
    have hkk:k'≠k:=fun e=>hkd (e▸hkd')
    rw [if_neg hkk]
    simp only [St.box,hkd',if_true]
    cases hq:aC (cB (view p s).bx p.vb) k'.d with
    | none=>rw [hq] at hk';exact hk'
    | some z=>
     rw [hq] at hk'
     have h1:=cA hq
     have h2:aC s.bx k'.d=some z:=cA h1
     rw [h2] at hk' ⊢
     exact hk'
  ·simp only [St.box,if_neg hkd',bB.app] at hk' ⊢
   by_cases hkd:k.dp=dp
   ·have hkk:k'≠k:=fun e=>hkd' (e▸hkd)
    rw [if_neg hkk]
    simp only [St.aX,hkd,if_true] at hk'
    by_cases hv:p.vh=true
    ·simp only [hv,if_true,Option.getD_some,view] at hk';exact hk'
    ·simp only [if_neg hv,Option.getD_none] at hk';exact hk'
   ·by_cases hv:p.vh=true
    ·simp only [St.aX,if_neg hkd,hv,if_true,Option.getD_some,view,ad] at hk'
     exact hk'
    ·exfalso
     simp only [St.box,if_neg hkd,view,if_neg hv] at hb
     cases hb
 ·by_cases hkd2:k.dp=dp
  ·simp only [St.aX,hkd2,if_true] at hk' ⊢
   by_cases hv:p.vh=true
   ·simp only [bB.app,hv,if_true,Option.getD_some,view] at hk';exact hk'
   ·simp only [bB.app,if_neg hv,Option.getD_none] at hk';exact hk'
  ·simp only [St.aX,if_neg hkd2] at hk' ⊢
   by_cases hv:p.vh=true
   ·simp only [bB.app,hv,if_true,Option.getD_some,view] at hk';exact hk'
   ·exfalso
    simp only [St.box,if_neg hkd2,view,if_neg hv] at hb
    cases hb
theorem an.Pt{p:bQ}{r:AV×St}{K:Act→World→Prop}{Q:Exit→Act→World→Prop}(hR:j0 C.P R)(hΩ:fB C.P Ω)(h:an C s a w σ)(hlo:bk C.P p.p.o o.op=true)(hdst:o.dst=p.p.d)(hd:∀ dd,p.p.d=some dd→dd<C.nt)
  (hk:dR p=true) (hfree:He p.p.o=true→∀ dd,p.p.d=some dd→jk C.E.dp s dd) (hlt:ic (view p s) p.p.o=true) (hls:gn C.E.dp p (view p s)=true) (hfb:rb p.p.o p.cs=true→∀ h∈p.vb,oH C.E.dp s h) (hr:execOp R Ω C.E (view p s) p.p.d p.p.o=some r)
  (hK:∀ a' w' σ',cm C w σ w' σ'→an C ((effect p r).app s) a' w' σ'→K a' w'):o.wp C.P a w K Q:=by
 have hle:=Ev p s C.E.dp
 have uS:pn p.p.o=false→fM p=false→∀ s',cY C o p.p.d a w σ s' r.1→(∀ d',d'∈p.cs∨p.p.d=some d'∨ax s.fr d'=ax s'.fr d')→(∀ k,s'.box C.E.dp k=s.box C.E.dp k)→s'.hp=s.hp→o.wp C.P a w K Q:=by
  intro h1 h2 s' he hf hb hh
  have he2:=De (r:=r) h1 h2
  rw [he2] at hK
  refine finish hdst hd he (fun d'=>?_) (fun k cs hk=>?_) (fun k cs _ hk=>?_) hK
  ·simp only [bB.app,List.append_assoc]
   rw [gE,yn]
   cases hdd:p.p.d with
   | none=>
    rw [if_neg (by simp [nX]),l3]
    by_cases hm:d'∈p.cs
    ·rw [if_pos hm];exact .inl rfl
    ·rw [if_neg hm]
     rcases hf d' with h3 | h3 | h3
     ·exact absurd h3 hm
     ·rw [hdd] at h3;cases h3
     ·exact .inr h3
   | some dd=>
    by_cases hm:d'=dd
    ·subst hm
     rw [if_pos (by simp [nX])]
     exact .inr (by simp [gI,ax,A.put,St.bT])
    ·rw [if_neg (by simp [nX,hm]),l3]
     by_cases hm2:d'∈p.cs
     ·rw [if_pos hm2];exact .inl rfl
     ·rw [if_neg hm2]
      rcases hf d' with h3 | h3 | h3
      ·exact absurd h3 hm2
      ·rw [hdd] at h3;exact absurd (Option.some.inj h3).symm hm
      ·refine .inr ?_
       simp only [A.put,St.bT,ax,if_neg (fun e=>hm (Eq.symm e))]
       exact h3
  ·rw [hb];exact hk
  ·rw [hh];exact hk
 have plain:pn p.p.o=false→fM p=false→∀ s',execOp R Ω C.E s p.p.d p.p.o=some (r.1,s')→(∀ d',d'∈p.cs∨p.p.d=some d'∨ax s.fr d'=ax s'.fr d')→(∀ k,s'.box C.E.dp k=s.box C.E.dp k)→s'.hp=s.hp→o.wp C.P a w K Q:=
  fun h1 h2 s' he hf hb hh=>uS h1 h2 s' (zO hR hΩ p.p.o h hlo he) hf hb hh
 have hdrop:∀ {dd},p.p.d=some dd→jk C.E.dp s dd→∀ d',d'∈p.cs∨p.p.d=some d'∨ax s.fr d'=ax (s.bm (.s dd)).fr d':=by
  intro dd _ hf d'
  refine .inr (.inr ?_)
  simp only [St.bm,kT,(hf.fr d').2,Bool.false_eq_true,if_false]
 cases hao:p.p.o with
 | bx x=>simp [dR,hao] at hk
 | c2 f args=>simp [dR,hao] at hk
 | d2 x args=>simp [dR,hao] at hk
 | cn f args=>simp [dR,hao] at hk
 | ch f args sl dl ow=>simp [dR,hao] at hk
 | bg zs fs=>simp [dR,hao] at hk
 | bxg x=>simp [dR,hao] at hk
 | c3 f args=>
  rw [hao] at hr hlo
  obtain ⟨_,h2⟩:=IF (d:=p.p.d) hR.h h (fun x hx=>hle.ev rfl hx) hle.bx hlo hr
  exact uS (by rw [hao];rfl) (by simp [fM,kx,hao,p8]) s h2 (fun d'=>.inr (.inr rfl)) (fun _=>rfl) rfl
 | cr t f args=>simp [dR,hao] at hk
 | as x=>
  rw [hao] at hr hlt hlo
  refine plain (by rw [hao];rfl) (by simp [fM,kx,hao,p8]) s ?_ (fun d'=>.inr (.inr rfl)) (fun _=>rfl) rfl
  rw [hao]
  have hc:((view p s).ev x).copy=true:=hlt
  have hx:=hle.ev rfl (zQ hc)
  cases x with
  | c z=>
   simp only [execOp] at hr ⊢
   split at hr
   ·rename_i hp
    obtain rfl:=Option.some.inj hr
    rw [if_pos hp]
   ·cases hr
  | t n=>
   have hx':ax s.fr n=ax (view p s).fr n:=hx
   simp only [execOp] at hr ⊢
   have hc':(ax (view p s).fr n).copy=true:=hc
   rw [hx']
   generalize ax (view p s).fr n=y at hr hc'
   cases y<;>first | (simp [AV.copy] at hc';done) | skip
   all_goals
    simp only [hc',Bool.true_or,if_true] at hr ⊢
    obtain rfl:=Option.some.inj hr
    rfl
 | bs t sz es=>
  rw [hao] at hr hlt hlo
  simp only [execOp] at hr
  obtain ⟨dd,hdd,hr1⟩:=Option.bind_eq_some_iff.1 hr
  have hf:=hfree (by rw [hao];rfl) dd hdd
  split at hr1
  ·rename_i hall
   obtain rfl:=Option.some.inj hr1
   refine plain (by rw [hao];rfl) (by simp [fM,kx,hao,p8]) (s.bm (.s dd)) ?_ (hdrop hdd hf) (fun _=>rfl) rfl
   rw [hao]
   have hm:=hle.map (xs:=es) fun x hx=>by
    have:=List.all_eq_true.1 hall _ (List.mem_map_of_mem hx)
    simp only [Bool.and_eq_true] at this
    exact Lh this.1.1
   simp only [execOp,hdd,Option.bind_some,hm,if_pos hall]
  ·cases hr1
 | ms t sz by_ z n=>
  rw [hao] at hr hlt hlo
  simp only [execOp] at hr
  obtain ⟨dd,hdd,hr1⟩:=Option.bind_eq_some_iff.1 hr
  obtain ⟨m,hm,hr2⟩:=Option.bind_eq_some_iff.1 hr1
  have hf:=hfree (by rw [hao];rfl) dd hdd
  split at hr2
  ·rename_i hc
   obtain rfl:=Option.some.inj hr2
   refine plain (by rw [hao];rfl) (by simp [fM,kx,hao,p8]) (s.bm (.s dd)) ?_ (hdrop hdd hf) (fun _=>rfl) rfl
   rw [hao]
   simp only [execOp,hdd,Option.bind_some,hle.nat hm,if_pos hc]
  ·cases hr2
 | ap t sz by_ x y=>
  rw [hao] at hr hlt hlo
  simp only [execOp] at hr
  obtain ⟨dd,hdd,hr1⟩:=Option.bind_eq_some_iff.1 hr
  obtain ⟨ys,hys,hr2⟩:=Option.bind_eq_some_iff.1 hr1
  obtain ⟨qq,hqq,hr3⟩:=Option.bind_eq_some_iff.1 hr2
  have hf:=hfree (by rw [hao];rfl) dd hdd
  split at hr3
  ·rename_i hc
   obtain rfl:=Option.some.inj hr3
   have hyu:(view p s).ev y≠.u:=by intro e;rw [e] at hys;cases hys
   by_cases hrc:Dk ((view p s).ev x)=true
   ·
    have h2:(p.cs.length==2)=true:=by
     have:=hls
     simp only [gn,hao,hrc] at this
     simpa using this
    cases x with
    | c z=>
     exfalso
     unfold A.consume at hqq
     cases z<;>first | (simp [St.ev,Dk] at hrc;done) | cases hqq
    | t m=>
     have hcs:p.cs=[m,m]:=by
      have:=hk
      simp only [dR,hao,Bool.or_eq_true,beq_iff_eq] at this
      rcases this with e | e
      ·rw [e] at h2;cases h2
      ·exact e
     have hx:∃ k off,ax (view p s).fr m= .r (.c k off):=by
      have h3:Dk (ax (view p s).fr m)=true:=hrc
      generalize ax (view p s).fr m=z at h3
      cases z<;>first | (cases h3;done) | skip
      rename_i pl
      cases pl with
      | s d=>cases h3
      | c k off=>exact ⟨k,off,rfl⟩
     obtain ⟨k,off,hx⟩:=hx
     unfold A.consume at hqq
     simp only [hx] at hqq
     split at hqq
     ·rename_i hmine
      obtain ⟨rw1,hrow,hq1⟩:=Option.bind_eq_some_iff.1 hqq
      split at hq1
      ·rename_i htt
       obtain ⟨st',hput,hq2⟩:=Option.bind_eq_some_iff.1 hq1
       obtain rfl:=Option.some.inj hq2
       simp only [St.putAt] at hput
       split at hput
       ·rename_i cs0 hb
        obtain rfl:=Option.some.inj hput
        have hb':=hle.bx k cs0 hb
        have hrow':s.rowAt C.E.dp (.c k off)=some rw1:=by
         simp only [St.rowAt,hb] at hrow
         simp only [St.rowAt,hb']
         exact hrow
        have hcon:A.consume C.E s t (.t m)=some (rw1.2,s.aX C.E.dp k (cs0.set off .u)):=by
         simp only [A.consume,hle.slot hx (by simp),if_pos hmine,hrow',Option.bind_some,if_pos htt,St.putAt,hb']
        have hex:execOp R Ω C.E s p.p.d p.p.o=some (.o t (rw1.2++ys.2),(s.aX C.E.dp k (cs0.set off .u)).bm (.s dd)):=by
         rw [hao]
         simp only [execOp,hdd,Option.bind_some,hle.ev (x:=y) rfl hyu,hle.elems hys,hcon,if_pos hc]
        have hsim:=zO hR hΩ p.p.o h (by rw [hao];exact hlo) hex
        have he:∀ r:AV×St,effect p r=⟨gI p.p.d (ew p.p.fz r.1)++p.cs.map (fun m=>(m,.u)),[],cB r.2.bx p.vb,if p.vh=true then some r.2.hp else none⟩:=by
         intro r
         unfold effect
         simp only [hao,h2,if_true,Bool.true_and]
        rw [he] at hK
        obtain ⟨sb1,sb2⟩:=BN (nw:=cs0.set off .u) (gI p.p.d (ew p.p.fz (.o t (rw1.2++ys.2)))++p.cs.map (fun m=>(m,AV.u))) hb
        refine finish hdst hd hsim (fun d'=>?_) sb1 sb2 hK
        simp only [bB.app,List.append_assoc]
        rw [gE,yn,hdd]
        by_cases hm:d'=dd
        ·subst hm
         rw [if_pos (by simp [nX])]
         exact .inr (by simp [gI,ax,A.put,St.bT])
        ·rw [if_neg (by simp [nX,hm]),l3]
         split
         ·exact .inl rfl
         ·refine .inr ?_
          simp only [A.put,St.bT,ax,if_neg (fun e=>hm (Eq.symm e)),St.bm,kT,lZ,(hf.fr d').2,Bool.false_eq_true,if_false]
       ·cases hput
      ·cases hq1
     ·cases hqq
   have hnw:fM p=false:=by
    have:=hls
    simp only [gn,hao,beq_iff_eq] at this
    simp only [fM,kx,hao,p8,Bool.false_or,←this]
    simpa using hrc
   have hcon:∃ s1:St,A.consume C.E s t x=some (qq.1,s1)∧(∀ d',d'∈p.cs∨ax s.fr d'=ax s1.fr d')∧(∀ k,s1.box C.E.dp k=s.box C.E.dp k)∧s1.hp=s.hp∧(∀ d',(ax s1.fr d').bO (.s dd)=false):=by
    unfold A.consume at hqq
    split at hqq
    ·obtain rfl:=Option.some.inj hqq
     exact ⟨s,rfl,fun _=>.inr rfl,fun _=>rfl,rfl,fun d'=>(hf.fr d').2⟩
    ·cases hqq
    ·rename_i m
     have hcs:m∈p.cs:=by
      have:=hk
      simp only [dR,hao,Bool.or_eq_true,beq_iff_eq] at this
      rcases this with e | e<;>rw [e]<;>simp
     split at hqq
     ·rename_i hx
      obtain rfl:=Option.some.inj hqq
      refine ⟨s,?_,fun _=>.inr rfl,fun _=>rfl,rfl,fun d'=>(hf.fr d').2⟩
      simp only [A.consume,hle.slot hx (by simp)]
     ·rename_i t' es hx
      split at hqq
      ·rename_i htt
       obtain rfl:=Option.some.inj hqq
       refine ⟨s.bT m .u,?_,fun d'=>?_,fun _=>rfl,rfl,fun d'=>?_⟩
       ·simp only [A.consume,hle.slot hx (by simp),if_pos htt]
       ·rw [ju]
        by_cases hm:m=d'
        ·exact .inl (hm▸hcs)
        ·exact .inr (by rw [if_neg hm])
       ·rw [ju]
        split
        ·rfl
        ·exact (hf.fr d').2
      ·cases hqq
     ·rename_i pl hx
      simp only [ic,St.ev,hx] at hlt
      simp only [Dk,St.ev,hx] at hrc
      cases pl with
      | s d=>cases hlt
      | c k off=>exact absurd rfl hrc
     ·rename_i pl lo len hx
      simp only [ic,St.ev,hx] at hlt
      cases hlt
     ·cases hqq
   obtain ⟨s1,h1,h2,h3,h4,h5⟩:=hcon
   refine plain (by rw [hao];rfl) hnw (s1.bm (.s dd)) ?_ (fun d'=>?_) (fun k=>h3 k) h4
   ·rw [hao]
    simp only [execOp,hdd,Option.bind_some,hle.ev (x:=y) rfl hyu,hle.elems hys,h1,if_pos hc]
   ·rcases h2 d' with h6 | h6
    ·exact .inl h6
    ·refine .inr (.inr ?_)
     simp only [St.bm,kT,h5 d',Bool.false_eq_true,if_false]
     exact h6
  ·cases hr3
 | al zs=>
  rw [hao] at hr hlt hlo
  simp only [execOp] at hr
  obtain ⟨dd,hdd,hr1⟩:=Option.bind_eq_some_iff.1 hr
  have hf:=hfree (by rw [hao];rfl) dd hdd
  split at hr1
  ·rename_i hcd
   have hd6:dd<1000000:=by simp only [lg,Bool.and_eq_true,decide_eq_true_eq] at hcd;exact hcd.1.1.2
   obtain rfl:=Option.some.inj hr1
   have he:effect p (.p ⟨C.E.dp,dd⟩ 0,{(view p s) with bx:=(dd,zs)::(view p s).bx})=⟨[(dd,.p ⟨C.E.dp,dd⟩ 0)],[(dd,zs)],[],none⟩:=by
    unfold effect
    rw [hao,hdd]
   rw [he] at hK
   refine finish (s:=s) hdst hd (IC (d:=p.p.d) h hd6 hlo hdd (fun d'=>(hf.fr d').1) (fun d' cs' hb c hc=>hf.cs d' cs' hb c hc)) (fun d'=>.inr ?_) (fun k cs hk=>?_) (fun k cs _ hk=>?_) hK
   ·rw [hdd]
    have:ew p.p.fz (.p ⟨C.E.dp,dd⟩ 0)= .p ⟨C.E.dp,dd⟩ 0:=by cases p.p.fz<;>rfl
    rw [this]
    rfl
   ·by_cases hkd:k.dp=C.E.dp
    ·simp only [St.box,bB.app,hkd,if_true,n5,List.cons_append,List.nil_append] at hk ⊢
     exact hk
    ·simp only [St.box,bB.app,if_neg hkd] at hk ⊢
     exact hk
   ·exact hk
  ·cases hr1
 | ck f args=>
  rw [hao] at hr hlt hlo
  simp only [execOp] at hr
  obtain ⟨dd,hdd,hr1⟩:=Option.bind_eq_some_iff.1 hr
  have hf:=hfree (by rw [hao];rfl) dd hdd
  unfold wz at hr1
  split at hr1
  ·rename_i hp
   obtain ⟨⟨q,hp'⟩,hq,hr2⟩:=Option.bind_eq_some_iff.1 hr1
   cases q with
   | ret x=>cases hr2
   | new cs=>?_
   simp only at hr2
   split at hr2
   ·rename_i hno
    have hm:=hle.map (xs:=args) fun x hx=>Lh (fm hp _ (List.mem_map_of_mem hx))
    have hd6:dd<1000000:=by simp only [pH,lg,Bool.and_eq_true,decide_eq_true_eq] at hno;exact hno.2.1.1.2
    obtain rfl:=Option.some.inj hr2
    have he:effect p (.p ⟨C.E.dp,dd⟩ 0,{(view p s) with bx:=(dd,cs)::(view p s).bx})=⟨[(dd,.p ⟨C.E.dp,dd⟩ 0)],[(dd,cs)],[],none⟩:=by
     unfold effect
     rw [hao,hdd]
     simp [aC]
    rw [he] at hK
    refine finish (s:=s) hdst hd (IG (d:=p.p.d) hR.h h hlo (by rw [hm];exact hp) (by rw [hm];exact hq) hd6 (fun d'=>(hf.fr d').1) (fun d' cs' hb c hc=>hf.cs d' cs' hb c hc)) (fun d'=>.inr ?_) (fun k cs hk=>?_) (fun k cs _ hk=>?_) hK
    ·rw [hdd]
     have:ew p.p.fz (.p ⟨C.E.dp,dd⟩ 0)= .p ⟨C.E.dp,dd⟩ 0:=by cases p.p.fz<;>rfl
     rw [this]
     rfl
    ·by_cases hkd:k.dp=C.E.dp
     ·simp only [St.box,bB.app,hkd,if_true,n5,List.cons_append,List.nil_append] at hk ⊢
      exact hk
     ·simp only [St.box,bB.app,if_neg hkd] at hk ⊢
      exact hk
    ·exact hk
   ·cases hr2
  ·cases hr1
 | st n x y=>
  rw [hao] at hr hlt hlo
  have hdn:p.p.d=none:=by
   have:=hk
   simp only [dR,hao,Bool.and_eq_true,beq_iff_eq] at this
   exact this.1
  simp only [ic,Bool.and_eq_true,Bool.or_eq_true] at hlt
  obtain ⟨hyc,hxp⟩:=hlt
  have hyu:(view p s).ev y≠.u:=by
   intro e;rw [e] at hyc;rcases hyc with h | h<;>cases h
  have hy:=hle.ev rfl hyu
  have heff:∀ r:AV×St,effect p r=⟨p.cs.map (fun m=>(m,.u)),[],cB r.2.bx p.vb,if p.vh=true then some r.2.hp else none⟩:=by
   intro r
   unfold effect
   rw [hao]
  simp only [execOp] at hr
  split at hr
  ·rename_i k off hx
   split at hr
   ·rename_i hm
    obtain ⟨cs,hb,hr1⟩:=Option.bind_eq_some_iff.1 hr
    have hb':=hle.bx k cs hb
    split at hr1
    ·rename_i t' es hyy
     have hrow:Ey ((view p s).ev y)=true:=by rw [hyy];rfl
     have hls2:=hls
     simp only [gn,hao,hrow,hx,Bool.not_true,Bool.false_or,Bool.and_eq_true,decide_eq_true_eq,beq_iff_eq] at hls2
     obtain ⟨⟨hkd,hvb⟩,hcs⟩:=hls2
     cases y with
     | c z=>cases hcs
     | t m=>
      have hcs':p.cs=[m]:=by simpa using hcs
      have hfb':oH C.E.dp s k.d:=hfb (by rw [hao];simp [rb,hcs']) k.d (by rw [hvb];simp)
      simp only at hr1
      split at hr1
      ·rename_i hc
       obtain rfl:=Option.some.inj hr1
       have hex:execOp R Ω C.E s p.p.d p.p.o=some (.u,((s.bT m .u).bm (.c k off)).aX C.E.dp k (cs.set off (.o t' es))):=by
        rw [hao]
        simp only [execOp,hle.ev hx (by simp),if_pos hm,hb',Option.bind_some,hy,hyy]
        rw [if_pos hc]
       have hsim:=zO (r:=(.u,((s.bT m .u).bm (.c k off)).aX C.E.dp k (cs.set off (.o t' es)))) hR hΩ p.p.o h (by rw [hao];exact hlo) hex
       rw [heff,hcs'] at hK
       have hbx0:∀ nw,(((view p s).bT m .u).bm (.c k off)).aX C.E.dp k nw=({((view p s).aX C.E.dp k nw) with fr:=(((view p s).bT m .u).bm (.c k off)).fr} : St):=by
        intro nw
        simp only [St.aX,hkd,if_true,St.bm,St.bT]
       rw [hbx0] at hK
       obtain ⟨sb1,sb2⟩:=BN (nw:=cs.set off (.o t' es)) [(m,.u)] hb
       have hbx1:∀ nw k',((((s.bT m .u).bm (.c k off)).aX C.E.dp k nw).box C.E.dp k')=(s.aX C.E.dp k nw).box C.E.dp k':=by
        intro nw k'
        simp only [St.aX,hkd,if_true,St.bm,St.bT,St.box]
       have hhp1:∀ nw,((((s.bT m .u).bm (.c k off)).aX C.E.dp k nw).hp)=(s.aX C.E.dp k nw).hp:=by
        intro nw
        simp only [St.aX,hkd,if_true,St.bm,St.bT]
       refine finish hdst hd hsim (fun d'=>?_) (fun k' cs' hk'=>?_) (fun k' cs' hkd' hk'=>?_) hK
       ·rw [hdn]
        simp only [bB.app,A.put,lZ,List.map_cons,List.map_nil,List.cons_append,List.nil_append,ax]
        by_cases hmd:m=d'
        ·rw [if_pos hmd];exact .inl rfl
        ·rw [if_neg hmd]
         refine .inr ?_
         simp only [St.bm,St.bT,kT,ax,if_neg hmd]
         rw [if_neg]
         intro hbor
         have:=hfb' d'
         rw [←hkd] at this
         rw [Nr hbor] at this;cases this
       ·rw [hbx1];exact sb1 k' cs' hk'
       ·rw [hhp1];exact sb2 k' cs' hkd' hk'
      ·cases hr1
    ·rename_i pl lo len hyy
     rw [hyy] at hyc;rcases hyc with h | h<;>cases h
    ·rename_i hyo hyv
     have hyc':((view p s).ev y).copy=true:=by
      rcases hyc with h | h
      ·exact h
      ·exfalso
       generalize (view p s).ev y=z at h hyo
       cases z<;>first | (exact hyo _ _ rfl) | (exact absurd rfl (hyo _ _)) | (cases h;done)
     split at hr1
     ·rename_i hc
      obtain rfl:=Option.some.inj hr1
      have hex:execOp R Ω C.E s p.p.d p.p.o=some (.u,s.aX C.E.dp k (putCells cs off ((view p s).ev y).cl)):=by
       rw [hao]
       simp only [execOp,hle.ev hx (by simp),if_pos hm,hb',Option.bind_some,hy]
       rw [if_pos hc]
      have hsim:=zO (r:=(.u,s.aX C.E.dp k (putCells cs off ((view p s).ev y).cl))) hR hΩ p.p.o h (by rw [hao];exact hlo) hex
      rw [heff] at hK
      obtain ⟨sb1,sb2⟩:=BN (nw:=putCells cs off ((view p s).ev y).cl) (p.cs.map fun m=>(m,AV.u)) hb
      refine finish hdst hd hsim (fun d'=>?_) sb1 sb2 hK
      rw [hdn]
      simp only [bB.app,A.put,lZ]
      rw [l3]
      split
      ·exact .inl rfl
      ·exact .inr rfl
     ·cases hr1
   ·cases hr
  ·rename_i hx
   rw [hx] at hxp;cases hxp
  ·cases hr
 | _=>
  have hqk:qk p.p.o=true:=by rw [hao];rfl
  obtain ⟨_,h2⟩:=XM hle hqk hlt hr
  exact plain (by rw [hao];rfl) (by simp [fM,kx,hao,p8]) s h2 (fun d'=>.inr (.inr rfl)) (fun _=>rfl) rfl
end
variable [bJ]
section
variable {C:Cx}{s:St}{a:Act}{w:World}{σ:Sp}{o:Oper}{R:Rec}{Ω:cK}
theorem an.XP{nt i:Nat}{ops:Array Oper}{p:bQ}{q:bB}{K:Act→World→Prop}{Q:Exit→Act→World→Prop}(hR:j0 C.P R)(hΩ:fB C.P Ω)(h:an C s a w σ)(ho:ops[i]? =some o)(hl:zP C.P nt ops o p.p=true)(hnt:nt≤C.nt)
  (hk:dR p=true) (hfree:He p.p.o=true→∀ dd,p.p.d=some dd→jk C.E.dp s dd) (hfb:rb p.p.o p.cs=true→∀ h∈p.vb,oH C.E.dp s h) (hq:cQ R Ω C.E p s=some q) (hK:∀ a' w' σ',cm C w σ w' σ'→an C (q.app s) a' w' σ'→K a' w'):wpOp C.P ops Q i K a w:=by
 obtain ⟨hlo,hdst,hd,hgd⟩:=BM hl hnt
 obtain ⟨hg1,hg2⟩:=h.guard hgd
 have hcore:iT R Ω C.E p (view p s)=some q→o.wp C.P a w K Q:=by
  intro hc
  unfold iT at hc
  split at hc
  ·rename_i hlt
   obtain ⟨r,hr,h2⟩:=Option.bind_eq_some_iff.1 hc
   split at h2
   ·obtain rfl:=Option.some.inj h2
    simp only [Bool.and_eq_true] at hlt
    exact h.Pt hR hΩ hlo hdst hd hk hfree hlt.1 hlt.2 hfb hr hK
   ·cases h2
  ·cases hc
 simp only [wpOp,ho]
 unfold cQ at hq
 split at hq
 ·rename_i hgn
  rw [if_pos (hg1 hgn)]
  exact .inl (hcore hq)
 ·rename_i j want hgs
  obtain ⟨y,hy,hq1⟩:=Option.bind_eq_some_iff.1 hq
  have hwt:=hg2 j want y hgs hy
  split at hq1
  ·rename_i hyt
   rw [if_pos (by rw [hwt,hyt])]
   exact .inl (hcore hq1)
  ·rename_i hyf
   rw [if_neg (by rw [hwt];exact hyf)]
   refine hK _ _ _ (.refl _ _ _) ?_
   rw [←Option.some.inj hq1,hdst]
   refine (h.Ou hd).se ⟨fun d'=>?_,fun d'=>?_,?_,fun y=>?_⟩
   ·simp only [bB.app];rw [Lk]
   ·cases p.p.d<;>rfl
   ·cases p.p.d<;>rfl
   ·cases p.p.d<;>exact Iff.rfl
theorem yp{s:St}{dp:Nat}{k:Key}{cs zs:List AV}{d:Nat}(h:aC (s.aX dp k cs).bx d=some zs):aC s.bx d=some zs∨zs=cs:=by
 unfold St.aX at h
 split at h
 ·simp only [sH] at h
  split at h
  ·rename_i e
   cases hb:aC s.bx k.d with
   | none=>rw [hb] at h;cases h
   | some z=>
    rw [hb] at h
    exact .inr (Option.some.inj h).symm
  ·exact .inl h
 ·exact .inl h
theorem TV{k:Key}{y:AV}(h:y.aI k=true):∀ c∈y.cl,c.aI k=true:=by
 intro c hc
 cases y<;>simp only [AV.cl,List.mem_singleton] at hc<;>first | (subst hc;exact h) | skip
 exact gl (by simpa [AV.aI] using h) c hc
theorem jk.step{p:bQ}{q:bB}{h:Nat}{op:Op}(hf:jk C.E.dp s h)(hlo:bk C.P p.p.o op=true)(hk:dR p=true)(hn:h∈p.nk)(hq:cQ R Ω C.E p s=some q):jk C.E.dp (q.app s) h:=by
 have hle:=Ev p s C.E.dp
 have hvf:∀ d,(ax (view p s).fr d).aI ⟨C.E.dp,h⟩=true:=fun d=>by
  rcases hle.fr d with e | e
  ·rw [e];rfl
  ·rw [e];exact (hf.fr d).1
 have hgen:∀ (x:AV)(cs:List Nat),x.aI ⟨C.E.dp,h⟩=true→x.bO (.s h)=false→jk C.E.dp ((⟨gI p.p.d x++cs.map (fun m=>(m,.u)),[],[],none⟩:bB).app s) h:=by
  intro x cs hx hb
  refine ⟨fun d=>?_,hf.cs⟩
  simp only [bB.app,List.append_assoc]
  rw [gE]
  split
  ·rename_i hm
   cases hd:p.p.d with
   | none=>rw [hd] at hm;simp [gI,cZ] at hm
   | some dd=>
    rw [hd] at hm
    simp only [gI,cZ,List.map_cons,List.map_nil,List.mem_singleton] at hm
    subst hm
    simp [gI,ax,hx,hb]
  ·rw [l3]
   split
   ·exact ⟨rfl,rfl⟩
   ·exact hf.fr d
 have hcore:iT R Ω C.E p (view p s)=some q→jk C.E.dp (q.app s) h:=by
  intro hc
  unfold iT at hc
  split at hc
  ·rename_i hlt2
   have hlt:=(Bool.and_eq_true_iff.1 hlt2).1
   obtain ⟨r,hr,h2⟩:=Option.bind_eq_some_iff.1 hc
   split at h2
   ·rename_i hok2
    have hok:=(Bool.and_eq_true_iff.1 hok2).1
    obtain rfl:=Option.some.inj h2
    have hx:r.1.aI ⟨C.E.dp,h⟩=true∧r.1.bO (.s h)=false:=by
     have:=List.all_eq_true.1 hok h hn
     simpa using this
    have hfz:(ew p.p.fz r.1).aI ⟨C.E.dp,h⟩=true∧(ew p.p.fz r.1).bO (.s h)=false:=by
     cases p.p.fz with
     | false=>simpa [ew] using hx
     | true=>cases hr1:r.1<;>rw [hr1] at hx<;>first | exact hx | exact ⟨rfl,rfl⟩
    by_cases hal:pn p.p.o=true
    ·cases hao:p.p.o<;>rw [hao] at hal<;>simp [pn] at hal
     case al zs=>
      rw [hao] at hr hlo
      simp only [execOp] at hr
      obtain ⟨dd,hdd,hr1⟩:=Option.bind_eq_some_iff.1 hr
      split at hr1
      ·obtain rfl:=Option.some.inj hr1
       have he:effect p (.p ⟨C.E.dp,dd⟩ 0,{(view p s) with bx:=(dd,zs)::(view p s).bx})=⟨[(dd,.p ⟨C.E.dp,dd⟩ 0)],[(dd,zs)],[],none⟩:=by
        unfold effect
        rw [hao,hdd]
       rw [he]
       refine ⟨fun d=>?_,fun d cs hb c hc=>?_⟩
       ·simp only [bB.app,List.cons_append,List.nil_append,ax]
        split
        ·exact hx
        ·exact hf.fr d
       ·simp only [bB.app,List.cons_append,List.nil_append,aC,n5] at hb
        split at hb
        ·obtain rfl:=Option.some.inj hb
         exact gm c (Pj hlo c hc)
        ·exact hf.cs d cs hb c hc
      ·cases hr1
     case ck f args=>
      rw [hao] at hr hlo
      simp only [execOp] at hr
      obtain ⟨dd,hdd,hr1⟩:=Option.bind_eq_some_iff.1 hr
      unfold wz at hr1
      split at hr1
      ·obtain ⟨⟨q,hp'⟩,hq,hr2⟩:=Option.bind_eq_some_iff.1 hr1
       cases q with
       | ret x=>cases hr2
       | new cs=>?_
       simp only at hr2
       split at hr2
       ·rename_i hno
        obtain rfl:=Option.some.inj hr2
        have he:effect p (.p ⟨C.E.dp,dd⟩ 0,{(view p s) with bx:=(dd,cs)::(view p s).bx})=⟨[(dd,.p ⟨C.E.dp,dd⟩ 0)],[(dd,cs)],[],none⟩:=by
         unfold effect
         rw [hao,hdd]
         simp [aC]
        rw [he]
        refine ⟨fun d=>?_,fun d cs' hb c hc=>?_⟩
        ·simp only [bB.app,List.cons_append,List.nil_append,ax]
         split
         ·exact hx
         ·exact hf.fr d
        ·simp only [bB.app,List.cons_append,List.nil_append,aC,n5] at hb
         split at hb
         ·obtain rfl:=Option.some.inj hb
          have:=List.all_eq_true.1 (Bool.and_eq_true_iff.1 hno).1 c hc
          cases c<;>first | rfl | exact gm _ this
         ·exact hf.cs d cs' hb c hc
       ·cases hr2
      ·cases hr1
    ·by_cases hst:p8 p.p.o=true
     ·cases hao:p.p.o<;>rw [hao] at hst<;>simp [p8] at hst
      rename_i n x y
      rw [hao] at hr hlo hlt
      simp only [ic,Bool.and_eq_true,Bool.or_eq_true] at hlt
      obtain ⟨hyc,hxp⟩:=hlt
      have hyk:((view p s).ev y).aI ⟨C.E.dp,h⟩=true:=by
       cases y with
       | t m=>exact hvf m
       | c z=>
        have hp:z.pure=true:=by
         simp only [bk] at hlo
         split at hlo
         ·simp only [Bool.and_eq_true] at hlo
          exact nU hlo.1.2
         ·cases hlo
        exact gm z hp
      have hcs:∀ d cs,aC r.2.bx d=some cs→∀ c∈cs,c.aI ⟨C.E.dp,h⟩=true:=by
       simp only [execOp] at hr
       split at hr
       ·rename_i k off hx'
        split at hr
        ·rename_i hm
         obtain ⟨cs0,hb0,hr1⟩:=Option.bind_eq_some_iff.1 hr
         split at hr1
         ·rename_i t' es hyy
          split at hr1
          ·rename_i m
           split at hr1
           ·obtain rfl:=Option.some.inj hr1
            intro d cs hb c hc
            rcases yp hb with h3 | rfl
            ·exact hf.cs d cs (cA h3) c hc
            ·rcases List.mem_or_eq_of_mem_set hc with hc | rfl
             ·by_cases hkd:k.dp=C.E.dp
              ·have h4:aC (view p s).bx k.d=some cs0:=by simpa [St.box,hkd] using hb0
               exact hf.cs k.d cs0 (cA h4) c hc
              ·simp only [St.aX,if_neg hkd] at hb
               exact hf.cs d _ (cA hb) c (by rcases List.mem_or_eq_of_mem_set ‹c∈_› with h | h<;>first | exact ‹_› | assumption)
             ·rfl
           ·cases hr1
          ·cases hr1
         ·rename_i pl lo len hyy
          rw [hyy] at hyc;rcases hyc with h | h<;>cases h
         ·split at hr1
          ·obtain rfl:=Option.some.inj hr1
           intro d cs hb c hc
           rcases yp hb with h3 | rfl
           ·exact hf.cs d cs (cA h3) c hc
           ·
            by_cases hkd:k.dp=C.E.dp
            ·rcases uP hc with hc | hc
             ·have h4:aC (view p s).bx k.d=some cs0:=by simpa [St.box,hkd] using hb0
              exact hf.cs k.d cs0 (cA h4) c hc
             ·exact TV hyk c hc
            ·simp only [St.aX,if_neg hkd] at hb
             exact hf.cs d _ (cA hb) c hc
          ·cases hr1
        ·cases hr
       ·rename_i hx'
        rw [hx'] at hxp;cases hxp
       ·cases hr
      have he:effect p r=⟨p.cs.map (fun m=>(m,.u)),[],cB r.2.bx p.vb,if p.vh=true then some r.2.hp else none⟩:=by
       unfold effect
       rw [hao]
      rw [he]
      refine ⟨fun d=>?_,fun d cs hb c hc=>?_⟩
      ·simp only [bB.app]
       rw [l3]
       split
       ·exact ⟨rfl,rfl⟩
       ·exact hf.fr d
      simp only [bB.app,List.nil_append,oG] at hb
      split at hb
      ·rename_i zs hz
       cases hb2:aC s.bx d with
       | none=>rw [hb2] at hb;cases hb
       | some z=>
        rw [hb2] at hb
        obtain rfl:=Option.some.inj hb
        exact hcs d _ (cA hz) c hc
      ·exact hf.cs d cs hb c hc
     ·by_cases hra:kx p=true
      ·unfold kx at hra
       split at hra
       ·rename_i t sz by_ x y hao
        rw [hao] at hr hlt
        have he:effect p r=⟨gI p.p.d (ew p.p.fz r.1)++p.cs.map (fun m=>(m,.u)),[],cB r.2.bx p.vb,if p.vh=true then some r.2.hp else none⟩:=by
         unfold effect
         simp only [hao,hra,if_true,Bool.true_and]
        rw [he]
        simp only [execOp] at hr
        obtain ⟨dd,hdd,hr1⟩:=Option.bind_eq_some_iff.1 hr
        obtain ⟨ys,hys,hr2⟩:=Option.bind_eq_some_iff.1 hr1
        obtain ⟨qq,hqq,hr3⟩:=Option.bind_eq_some_iff.1 hr2
        have hcs:∀ d cs,aC qq.2.bx d=some cs→∀ c∈cs,c.aI ⟨C.E.dp,h⟩=true:=by
         unfold A.consume at hqq
         split at hqq
         ·obtain rfl:=Option.some.inj hqq
          exact fun d cs hb c hc=>hf.cs d cs (cA hb) c hc
         ·cases hqq
         ·rename_i m
          split at hqq
          ·obtain rfl:=Option.some.inj hqq
           exact fun d cs hb c hc=>hf.cs d cs (cA hb) c hc
          ·split at hqq
           ·obtain rfl:=Option.some.inj hqq
            exact fun d cs hb c hc=>hf.cs d cs (cA hb) c hc
           ·cases hqq
          ·rename_i pl hx
           split at hqq
           ·obtain ⟨rw1,hrow,hq1⟩:=Option.bind_eq_some_iff.1 hqq
            split at hq1
            ·obtain ⟨st',hput,hq2⟩:=Option.bind_eq_some_iff.1 hq1
             obtain rfl:=Option.some.inj hq2
             cases pl with
             | s d'=>simp only [ic,St.ev,hx] at hlt;cases hlt
             | c k off=>
              simp only [St.putAt] at hput
              split at hput
              ·rename_i cs0 hb0
               obtain rfl:=Option.some.inj hput
               intro d cs hb c hc
               rcases yp hb with h3 | rfl
               ·exact hf.cs d cs (cA h3) c hc
               ·rcases List.mem_or_eq_of_mem_set hc with hc | rfl
                ·by_cases hkd:k.dp=C.E.dp
                 ·have h4:aC (view p s).bx k.d=some cs0:=by simpa [St.box,hkd] using hb0
                  exact hf.cs k.d cs0 (cA h4) c hc
                 ·simp only [St.aX,if_neg hkd] at hb
                  exact hf.cs d _ (cA hb) c (by rcases List.mem_or_eq_of_mem_set ‹c∈_› with h | h<;>first | exact ‹_› | assumption)
                ·rfl
              ·cases hput
            ·cases hq1
           ·cases hqq
          ·rename_i pl lo len hx
           simp only [ic,St.ev,hx] at hlt
           cases hlt
          ·cases hqq
        have hbx:r.2.bx=qq.2.bx:=by
         split at hr3
         ·obtain rfl:=Option.some.inj hr3;rfl
         ·cases hr3
        refine ⟨fun d=>(hgen _ _ hfz.1 hfz.2).fr d,fun d cs hb c hc=>?_⟩
        simp only [bB.app,List.nil_append,oG] at hb
        split at hb
        ·rename_i zs hz
         cases hb2:aC s.bx d with
         | none=>rw [hb2] at hb;cases hb
         | some z=>
          rw [hb2] at hb
          obtain rfl:=Option.some.inj hb
          rw [hbx] at hz
          exact hcs d _ (cA hz) c hc
        ·exact hf.cs d cs hb c hc
       ·cases hra
      ·rw [De (by simpa using hal) (by simp only [fM,Bool.or_eq_false_iff];exact ⟨by simpa using hst,by simpa using hra⟩)]
       exact hgen _ _ hfz.1 hfz.2
   ·cases h2
  ·cases hc
 unfold cQ at hq
 split at hq
 ·exact hcore hq
 ·obtain ⟨y,hy,hq1⟩:=Option.bind_eq_some_iff.1 hq
  split at hq1
  ·exact hcore hq1
  ·obtain rfl:=Option.some.inj hq1
   have:=hgen .sk [] rfl rfl
   simpa using this
end
theorem oH.step{dp:Nat}{ro:Bool}{s:St}{R:Rec}{Ω:cK}{p:bQ}{q:bB}{h:Nat}(hf:oH dp s h)(hn:h∈p.nb)(hq:cQ R Ω ⟨dp,ro⟩ p s=some q):oH dp (q.app s) h:=by
 have hput:∀ (x:AV)(cs:List Nat)(nb wb:List (Nat×List AV))(hp:Option HP),cu ⟨dp,h⟩ x=false→oH dp ((⟨gI p.p.d x++cs.map (fun m=>(m,.u)),nb,wb,hp⟩:bB).app s) h:=by
  intro x cs nb wb hp hx d
  simp only [bB.app,List.append_assoc]
  rw [gE]
  split
  ·rename_i hm
   cases hd:p.p.d with
   | none=>rw [hd] at hm;simp [gI,cZ] at hm
   | some dd=>
    rw [hd] at hm
    simp only [gI,cZ,List.map_cons,List.map_nil,List.mem_singleton] at hm
    subst hm
    simp [gI,ax,hx]
  ·rw [l3]
   split
   ·rfl
   ·exact hf d
 have hcore:iT R Ω ⟨dp,ro⟩ p (view p s)=some q→oH dp (q.app s) h:=by
  intro hc
  unfold iT at hc
  split at hc
  ·obtain ⟨r,hr,h2⟩:=Option.bind_eq_some_iff.1 hc
   split at h2
   ·rename_i hok2
    have hok:=(Bool.and_eq_true_iff.1 hok2).2
    obtain rfl:=Option.some.inj h2
    have hx:cu ⟨dp,h⟩ r.1=false:=by
     have:=List.all_eq_true.1 (Bool.and_eq_true_iff.1 hok).1 h hn
     simpa using this
    have hfz:cu ⟨dp,h⟩ (ew p.p.fz r.1)=false:=by
     cases p.p.fz with
     | false=>simpa [ew] using hx
     | true=>cases hr1:r.1<;>rw [hr1] at hx<;>first | exact hx | rfl
    unfold effect
    split
    ·split
     ·rename_i dd hd
      intro d
      simp only [bB.app,List.cons_append,List.nil_append,ax]
      split
      ·exact hx
      ·exact hf d
     ·intro d;exact hf d
    ·split
     ·rename_i dd hd
      intro d
      simp only [bB.app,List.cons_append,List.nil_append,ax]
      split
      ·exact hx
      ·exact hf d
     ·intro d;exact hf d
    ·intro d
     simp only [bB.app]
     rw [l3]
     split
     ·rfl
     ·exact hf d
    ·exact hput _ _ _ _ _ hfz
    ·exact hput _ _ _ _ _ hfz
   ·cases h2
  ·cases hc
 unfold cQ at hq
 split at hq
 ·exact hcore hq
 ·obtain ⟨y,hy,hq1⟩:=Option.bind_eq_some_iff.1 hq
  split at hq1
  ·exact hcore hq1
  ·obtain rfl:=Option.some.inj hq1
   have:=hput .sk [] [] [] none rfl
   simpa using this
def ga(o:Oper):List Nat:=(o.after.toList.filter fun e=>Region.binds .any e).map (·.on)
def Ll(acc:List Nat)(l:List Nat):Nat:=l.foldl (fun s e=>s|||(1 <<< e)|||acc.getD e 0) 0
def vR(acc:List Nat):List (List Nat)→List Nat
 | []=>acc
 | l::r=>vR (acc++[Ll acc l]) r
theorem Hf(f:Nat→Nat)(i:Nat):∀ (l:List Nat)(s:Nat),(l.foldl (fun s e=>s|||(1 <<< e)|||f e) s).testBit i=true→s.testBit i=true∨∃ e∈l,e=i∨(f e).testBit i=true
 | [],s,h=>.inl h
 | e::l,s,h=>by
  simp only [List.foldl_cons] at h
  rcases Hf f i l _ h with h | ⟨e',he',h⟩
  ·simp only [Nat.testBit_or,Bool.or_eq_true] at h
   rcases h with (h | h) | h
   ·exact .inl h
   ·refine .inr ⟨e,by simp,.inl ?_⟩
    rw [Nat.one_shiftLeft,Nat.testBit_two_pow] at h
    simpa using h
   ·exact .inr ⟨e,by simp,.inr h⟩
  ·exact .inr ⟨e',by simp [he'],h⟩
theorem Hg:∀ (L:List (List Nat))(acc:List Nat)(A:List (List Nat)),acc.length=A.length→
  (∀ j i,j<acc.length→(acc.getD j 0).testBit i=true→i∈A.getD j []∨∃ e∈A.getD j [],e<j∧(acc.getD e 0).testBit i=true)→
  ∀ j i,((vR acc L).getD j 0).testBit i=true→i∈(A++L).getD j []∨∃ e∈(A++L).getD j [],e<j∧((vR acc L).getD e 0).testBit i=true
 | [],acc,A,hl,h,j,i,hb=>by
  rw [List.append_nil]
  simp only [vR] at hb ⊢
  by_cases hj:j<acc.length
  ·exact h j i hj hb
  ·rw [List.getD_eq_getElem?_getD,List.getElem?_eq_none (by omega)] at hb
   simp at hb
 | l::L,acc,A,hl,h,j,i,hb=>by
  have:=Hg L (acc++[Ll acc l]) (A++[l]) (by simp [hl]) (fun j i hj hb=>?_) j i hb
  ·simpa [vR] using this
  ·simp only [List.length_append,List.length_singleton] at hj
   simp only [List.getD_eq_getElem?_getD] at hb ⊢
   by_cases hlt:j<acc.length
   ·rw [List.getElem?_append_left hlt] at hb
    rw [List.getElem?_append_left (by omega)]
    rcases h j i hlt (by simpa [List.getD_eq_getElem?_getD] using hb) with h1 | ⟨e,he,h2,h3⟩
    ·exact .inl (by simpa [List.getD_eq_getElem?_getD] using h1)
    ·refine .inr ⟨e,by simpa [List.getD_eq_getElem?_getD] using he,h2,?_⟩
     rw [List.getElem?_append_left (by omega)]
     simpa [List.getD_eq_getElem?_getD] using h3
   ·have hje:j=acc.length:=by omega
    subst hje
    rw [List.getElem?_append_right (Nat.le_refl _)] at hb
    rw [List.getElem?_append_right (by omega),hl]
    simp only [Nat.sub_self,List.getElem?_cons_zero,Option.getD_some] at hb ⊢
    rcases Hf (fun e=>acc.getD e 0) i l 0 hb with h1 | ⟨e,he,h1 | h1⟩
    ·simp at h1
    ·exact .inl (h1▸he)
    ·have hea:e<acc.length:=by
      apply Classical.byContradiction
      intro hn
      rw [List.getD_eq_getElem?_getD,List.getElem?_eq_none (by omega)] at h1
      simp at h1
     refine .inr ⟨e,he,by omega,?_⟩
     rw [List.getElem?_append_left hea]
     simpa [List.getD_eq_getElem?_getD] using h1
def Lm(gs:List bQ)(i j:Nat):Bool:=
 match gs[i]?,gs[j]? with
 | some p,some q=>(p.lt&&q.lt&&vO p q)||tN p q||tN q p
 | _,_=>false
def yq(P:Program)(nt:Nat)(ops:Array Oper):List Oper→List bQ→Bool
 | [],[]=>true
 | o::os,g::gs=>zP P nt ops o g.p&&(!g.lt||dR g)&&yq P nt ops os gs
 | _,_=>false
def Hh(q:bQ)(dd:Nat):Bool:=match q.p.o with
 | .ch _ _ _ _ ow=>!q.lt&&q.p.g.isNone&&ow.contains dd
 | _=>false
theorem jk.XQ{R:Rec}{Ω:cK}{E:Env}{s s2:St}{p:bQ}{h:Nat}(hf:jk E.dp s h)(hc:Hh p h=true)(he:cR R Ω E s p=some s2):jk E.dp s2 h:=by
 unfold Hh at hc
 split at hc
 ·rename_i f args sl dl ow ho
  simp only [Bool.and_eq_true,Bool.not_eq_true',Option.isNone_iff_eq_none] at hc
  obtain ⟨⟨h1,h2⟩,h3⟩:=hc
  have h3':h∈ow:=by simpa using h3
  simp only [cR,h1,Bool.false_eq_true,if_false,fS,h2,ho,execOp] at he
  obtain ⟨⟨x,s'⟩,hcall,he⟩:=Option.bind_eq_some_iff.1 he
  obtain rfl:=Option.some.inj he
  obtain ⟨hp',hC,e2⟩:=zT hcall
  simp only at e2 hC
  subst e2
  have hx:ew p.p.fz x=x:=by
   have:=hC.pure
   cases p.p.fz with
   | false=>rfl
   | true=>cases x<;>first | rfl | cases this
  have hxb:x.aI ⟨E.dp,h⟩=true∧x.bO (.s h)=false:=by
   have:=hC.pure
   refine ⟨gm x this,?_⟩
   cases x<;>first | rfl | cases this
  have hb1:=hf.fr
  have hb2:∀ d cs,aC (s.bX E.dp (db E.dp s sl dl ow hp')).bx d=some cs→∀ c∈cs,c.aI ⟨E.dp,h⟩=true:=by
   intro d cs hd c hc
   rcases hC.post d cs hd with ho' | ho'
   ·refine hf.cs d cs ?_ c hc
    simp only [St.bX,gG] at hd
    have hm:db E.dp s sl dl ow hp' ⟨E.dp,d⟩=aC s.bx d:=by
     unfold db
     rw [if_pos (As ho')]
     simp [St.box]
    rw [hm] at hd
    obtain ⟨_,_,e⟩:=Option.bind_eq_some_iff.1 hd
    exact e
   ·exact gl (ho' h h3') c hc
  rw [hx]
  cases p.p.d with
  | none=>exact ⟨hb1,hb2⟩
  | some dd=>
   refine ⟨fun d=>?_,hb2⟩
   simp only [put,St.bT,ax]
   split
   ·exact hxb
   ·exact hb1 d
 ·cases hc
def aae(M:List Nat)(gs:List bQ)(n k dd:Nat):Bool:=
 (List.range n).all fun i=>i==k||(M.getD i 0).testBit k||(match gs[i]? with
  | some q=>(q.lt&&q.nk.contains dd)||Hh q dd
  | none=>true)
def OB(M:List Nat)(gs:List bQ)(mks:List Nat)(n:Nat):Bool:=
 (List.range n).all fun k=>match gs[k]? with
  | some p=>!p.lt||!He p.p.o||(match p.p.d with
   | some dd=>mks.contains dd&&aae M gs n k dd
   | none=>true)
  | none=>true
def IL(M:List Nat)(gs:List bQ)(n:Nat):Bool:=(List.range n).all fun j=>(List.range j).all fun i=>(M.getD j 0).testBit i||Lm gs i j
def TW(M:List Nat)(gs:List bQ)(n:Nat):Bool:=
 (List.range n).all fun k=>match gs[k]? with
  | some p=>!p.lt||!rb p.p.o p.cs||p.vb.all fun h=>(List.range n).all fun i=>i==k||(M.getD i 0).testBit k||(match gs[i]? with
   | some q=>q.lt&&q.nb.contains h
   | none=>true)
  | none=>true
def Df(P:Program)(nt:Nat)(ops:Array Oper)(mks:List Nat)(gs:List bQ):Bool:=
 P.follows .mixedOrders&&yq P nt ops ops.toList gs&&((List.range ops.size).all fun i=>match ops[i]? with
  | some o=>(ga o).all fun e=>decide (e<i)
  | none=>true)&&
 IL (vR [] (ops.toList.map ga)) gs ops.size&&OB (vR [] (ops.toList.map ga)) gs mks ops.size&&TW (vR [] (ops.toList.map ga)) gs ops.size
theorem zU{P:Program}{nt:Nat}{ops:Array Oper} : ∀ {os:List Oper}{gs:List bQ},yq P nt ops os gs=true→os.length=gs.length∧∀ (i:Nat)(o:Oper)(p:bQ),os[i]? =some o→gs[i]? =some p→zP P nt ops o p.p=true∧(p.lt=true→dR p=true)
 | [],[],_=>⟨rfl,fun i o p h=>by simp at h⟩
 | o::os,g::gs,h=>by
  simp only [yq,Bool.and_eq_true] at h
  obtain ⟨h1,h2⟩:=zU h.2
  refine ⟨by simp [h1],fun i o' p ho hp=>?_⟩
  cases i with
  | zero=>
   obtain rfl:o=o':=by simpa using ho
   obtain rfl:g=p:=by simpa using hp
   refine ⟨h.1.1,fun hl=>?_⟩
   have:=h.1.2
   rw [hl] at this
   simpa using this
  | succ i=>exact h2 i o' p (by simpa using ho) (by simpa using hp)
 | [],_::_,h=>by simp [yq] at h
 | _::_,[],h=>by simp [yq] at h
section
variable {C:Cx}{st:St}{a:Act}{w:World}{σ:Sp}{R:Rec}{Ω:cK}
def kc(n:Nat)(listed:Array Bool):List Nat:=(List.range n).filter fun i=>!listed.getD i true
theorem JS{ops:Array Oper}{listed:Array Bool}(hback:∀ i o,ops[i]? =some o→∀ e∈ga o,e<i)(hcl:∀ j o,ops[j]? =some o→listed.getD j false=true→∀ e∈ga o,listed.getD e false=true) :
  ∀ (j:Nat)(o:Oper),ops[j]? =some o→(∀ e∈ga o,listed.getD e false=true)→∀ i,((vR [] (ops.toList.map ga)).getD j 0).testBit i=true→listed.getD i false=true:=by
 intro j
 induction j using Nat.strongRecOn with
 | _ j ih=>
  intro o ho haft i hb
  have hspec:=Hg (ops.toList.map ga) [] [] rfl (fun j i hj=>by simp at hj) j i hb
  rw [List.nil_append] at hspec
  have hget:(ops.toList.map ga).getD j []=ga o:=by
   rw [List.getD_eq_getElem?_getD,List.getElem?_map,Array.getElem?_toList,ho];rfl
  rw [hget] at hspec
  rcases hspec with h1 | ⟨e,he,hej,h2⟩
  ·exact haft i h1
  ·have hel:=haft e he
   have hes:e<ops.size:=by have:=Array.getElem?_eq_some_iff.1 ho;obtain ⟨h3,_⟩:=this;omega
   have hoe:ops[e]? =some ops[e]:=Array.getElem?_eq_getElem hes
   exact ih e hej ops[e] hoe (hcl e _ hoe hel) i h2
theorem EW{o:Oper}{listed:Array Bool} : (o.after.all fun e=>!Region.binds .any e||listed.getD e.on false)=true↔∀ e∈ga o,listed.getD e false=true:=by
 rw [Array.all_eq_true_iff_forall_mem]
 constructor
 ·intro h e he
  obtain ⟨x,hx,rfl⟩:=List.mem_map.1 he
  obtain ⟨h1,h2⟩:=List.mem_filter.1 hx
  have:=h x (by simpa using h1)
  simpa [h2] using this
 ·intro h x hx
  by_cases hb:Region.binds .any x=true
  ·have:=h x.on (List.mem_map.2 ⟨x,List.mem_filter.2 ⟨by simpa using hx,hb⟩,rfl⟩)
   simp [this]
  ·simp [hb]
theorem mem_ready{ops:Array Oper}{listed:Array Bool}{i:Nat} : i∈Region.ready .any ops listed↔∃ o,ops[i]? =some o∧listed.getD i true=false∧∀ e∈ga o,listed.getD e false=true:=by
 unfold Region.ready
 rw [List.mem_filter]
 constructor
 ·rintro ⟨h1,h2⟩
  have hi:i<ops.size:=by simpa using h1
  refine ⟨ops[i],Array.getElem?_eq_getElem hi,?_⟩
  simp only [Array.getElem?_eq_getElem hi,Option.map_some,Option.getD_some,Bool.and_eq_true,Bool.not_eq_true'] at h2
  exact ⟨h2.1,EW.1 h2.2⟩
 ·rintro ⟨o,ho,h1,h2⟩
  have hi:i<ops.size:=(Array.getElem?_eq_some_iff.1 ho).1
  refine ⟨by simpa using hi,?_⟩
  simp only [ho,Option.map_some,Option.getD_some,Bool.and_eq_true,Bool.not_eq_true']
  exact ⟨h1,EW.2 h2⟩
theorem EX{listed:Array Bool}{n i:Nat}(hs:listed.size=n)(hi:i<n)(x y:Bool):listed.getD i x=listed.getD i y:=by
 have:i<listed.size:=by omega
 simp [this]
theorem an.any{nt:Nat}{ops:Array Oper}{Q:Exit→Act→World→Prop}{gs:List bQ}{t:St}(hR:j0 C.P R)(hΩ:fB C.P Ω)(hnt:nt≤C.nt)
  (hds:yq C.P nt ops ops.toList gs=true) (hback:∀ i o,ops[i]? =some o→∀ e∈ga o,e<i) (hpairs:IL (vR [] (ops.toList.map ga)) gs ops.size=true) {mks:List Nat} (hmks:OB (vR [] (ops.toList.map ga)) gs mks ops.size=true) (hrws:TW (vR [] (ops.toList.map ga)) gs ops.size=true) :
  ∀ (fuel:Nat)(listed:Array Bool)(s:St)(a:Act)(w:World)(σ:Sp),listed.size=ops.size→fuel=(kc ops.size listed).length→(∀ j o,ops[j]? =some o→listed.getD j false=true→∀ e∈ga o,listed.getD e false=true)→
   mR R Ω C.E gs (kc ops.size listed) s t→an C s a w σ→(∀ k p dd,k∈kc ops.size listed→gs[k]? =some p→p.lt=true→He p.p.o=true→p.p.d=some dd→jk C.E.dp s dd)→(∀ k p,k∈kc ops.size listed→gs[k]? =some p→p.lt=true→rb p.p.o p.cs=true→∀ h∈p.vb,oH C.E.dp s h)→
   (∀ a' w' σ',cm C w σ w' σ'→an C t a' w' σ'→Q .normal a' w')→wpAny C.P .any ops Q fuel listed a w:=by
 have hremm:∀ listed i,i∈kc ops.size listed↔i<ops.size∧listed.getD i true=false:=by
  intro listed i;unfold kc;simp [List.mem_filter]
 have hready:∀ listed i,i∈Region.ready .any ops listed→i∈kc ops.size listed:=by
  intro listed i hi
  obtain ⟨o,ho,h1,_⟩:=mem_ready.1 hi
  exact (hremm _ _).2 ⟨(Array.getElem?_eq_some_iff.1 ho).1,h1⟩
 intro fuel
 induction fuel with
 | zero=>
  intro listed s a w σ hsz hfu hcl hg h hfr hfB hK
  have hrem:kc ops.size listed=[]:=List.eq_nil_of_length_eq_zero hfu.symm
  rw [hrem] at hg
  refine ⟨?_,hK a w σ (.refl _ _ _) (h.se hg)⟩
  apply List.eq_nil_iff_forall_not_mem.2
  intro i hi
  have:=hready _ _ hi
  rw [hrem] at this;cases this
 | succ fuel ih=>
  intro listed s a w σ hsz hfu hcl hg h hfr hfB hK
  refine ⟨fun hnil=>?_,fun i hi=>?_⟩
  ·exfalso
   cases hrem:kc ops.size listed with
   | nil=>rw [hrem] at hfu;simp at hfu
   | cons i0 rest=>
    have hi0:i0∈kc ops.size listed:=by rw [hrem];simp
    obtain ⟨h1,h2⟩:=(hremm _ _).1 hi0
    have hsorted:(kc ops.size listed).Pairwise (· < ·):=(List.pairwise_lt_range (n:=ops.size)).filter _
    have:i0∈Region.ready .any ops listed:=by
     refine mem_ready.2 ⟨ops[i0],Array.getElem?_eq_getElem h1,h2,fun e he=>?_⟩
     have hlt:=hback i0 _ (Array.getElem?_eq_getElem h1) e he
     apply Classical.byContradiction
     intro hne
     have hem:e∈kc ops.size listed:=(hremm _ _).2 ⟨by omega,by rw [EX hsz (by omega) true false];simpa using hne⟩
     rw [hrem] at hem hsorted
     rcases List.mem_cons.1 hem with rfl | hem
     ·omega
     ·have:=(List.pairwise_cons.1 hsorted).1 e hem
      omega
    rw [hnil] at this;cases this
  ·obtain ⟨o,ho,hun,haft⟩:=mem_ready.1 hi
   have hin:i<ops.size:=(Array.getElem?_eq_some_iff.1 ho).1
   have hir:=hready _ _ hi
   obtain ⟨A,B,hAB⟩:=List.append_of_mem hir
   have hsorted:(kc ops.size listed).Pairwise (· < ·):=(List.pairwise_lt_range (n:=ops.size)).filter _
   have hnb:∀ k,k∈kc ops.size listed→((vR [] (ops.toList.map ga)).getD i 0).testBit k=false:=by
    intro k hk
    cases hb:((vR [] (ops.toList.map ga)).getD i 0).testBit k with
    | false=>rfl
    | true=>
     have:=JS hback hcl i o ho haft k hb
     obtain ⟨h1,h2⟩:=(hremm _ _).1 hk
     rw [EX hsz h1 true false,this] at h2;cases h2
   rw [hAB] at hsorted
   have hsp:=List.pairwise_append.1 hsorted
   have hA:∀ x∈A,JR gs x i:=by
    intro x hx
    have hlt:x<i:=hsp.2.2 x hx i (by simp)
    have h1:=List.all_eq_true.1 (List.all_eq_true.1 hpairs i (by simpa using hin)) x (by simpa using hlt)
    rw [hnb x (by rw [hAB];simp [hx]),Bool.false_or] at h1
    unfold Lm at h1
    split at h1
    ·rename_i p q hp hq
     simp only [Bool.and_eq_true,Bool.or_eq_true] at h1
     refine ⟨p,q,hp,hq,?_⟩
     rcases h1 with (h1 | h1) | h1
     ·exact .inl ⟨h1.1.1,h1.1.2,h1.2⟩
     ·exact .inr (.inl h1)
     ·exact .inr (.inr h1)
    ·cases h1
   rw [hAB] at hg
   obtain ⟨p,s1,s2,hp,hse,hex,hgo⟩:=mR.front A s hA hg
   obtain ⟨hlen,hlow⟩:=zU hds
   obtain ⟨hlg,hlk⟩:=hlow i o p (by simpa using ho) hp
   have hnd:i∉A∧i∉B:=by
    refine ⟨fun hm=>?_,fun hm=>?_⟩
    ·have:=hsp.2.2 i hm i (by simp);omega
    ·have:=(List.pairwise_cons.1 hsp.2.1).1 i hm;omega
   have hrem':kc ops.size (listed.setIfInBounds i true)=A++B:=by
    have hget:∀ j,j<ops.size→(listed.setIfInBounds i true).getD j true=(if i=j then true else listed.getD j true):=by
     intro j hj
     have hjs:j<listed.size:=by omega
     by_cases hij:i=j
     ·subst hij;simp [hjs]
     ·simp [Array.getElem?_setIfInBounds,hij]
    have e1:kc ops.size (listed.setIfInBounds i true)=(kc ops.size listed).filter (fun j=>j !=i):=by
     unfold kc
     rw [List.filter_filter]
     apply List.filter_congr
     intro j hj
     rw [hget j (by simpa using hj)]
     by_cases hij:i=j
     ·subst hij;simp
     ·have:(j !=i)=true:=by simpa using fun e=>hij e.symm
      simp [hij,this]
    rw [e1,hAB,List.filter_append,List.filter_cons]
    have f1:A.filter (fun j=>j !=i)=A:=List.filter_eq_self.2 fun x hx=>by
     have:x≠i:=fun e=>hnd.1 (e▸hx)
     simpa using this
    have f2:B.filter (fun j=>j !=i)=B:=List.filter_eq_self.2 fun x hx=>by
     have:x≠i:=fun e=>hnd.2 (e▸hx)
     simpa using this
    rw [f1,f2]
    simp
   have hmk:∀ k p' dd,k∈A++B→gs[k]? =some p'→p'.lt=true→He p'.p.o=true→p'.p.d=some dd→jk C.E.dp s dd∧((p.lt=true∧dd∈p.nk)∨Hh p dd=true):=by
    intro k p' dd hk hp' hlt hm hdd
    have hkr:k∈kc ops.size listed:=by
     rw [hAB]
     rcases List.mem_append.1 hk with h1 | h1
     ·exact List.mem_append_left _ h1
     ·exact List.mem_append_right _ (List.mem_cons_of_mem _ h1)
    refine ⟨hfr k p' dd hkr hp' hlt hm hdd,?_⟩
    have hki:k≠i:=fun e=>by
     rw [e] at hk
     rcases List.mem_append.1 hk with h1 | h1
     ·exact hnd.1 h1
     ·exact hnd.2 h1
    have h1:=List.all_eq_true.1 hmks k (by simpa using ((hremm _ _).1 hkr).1)
    simp only [hp',hlt,hm,hdd,Bool.not_true,Bool.false_or,Bool.and_eq_true] at h1
    have h2:=List.all_eq_true.1 h1.2 i (by simpa using hin)
    have e1:(i==k)=false:=by simpa using fun e=>hki (Eq.symm e)
    simp only [e1,hnb k hkr,hp,Bool.false_or,Bool.and_eq_true,Bool.or_eq_true] at h2
    exact h2.imp (fun h2=>⟨h2.1,by simpa using h2.2⟩) id
   have hrw:∀ k p',k∈A++B→gs[k]? =some p'→p'.lt=true→rb p'.p.o p'.cs=true→∀ hh∈p'.vb,oH C.E.dp s hh∧(p.lt=true∧hh∈p.nb):=by
    intro k p' hk hp' hlt hm hh hhm
    have hkr:k∈kc ops.size listed:=by
     rw [hAB]
     rcases List.mem_append.1 hk with h1 | h1
     ·exact List.mem_append_left _ h1
     ·exact List.mem_append_right _ (List.mem_cons_of_mem _ h1)
    refine ⟨hfB k p' hkr hp' hlt hm hh hhm,?_⟩
    have hki:k≠i:=fun e=>by
     rw [e] at hk
     rcases List.mem_append.1 hk with h1 | h1
     ·exact hnd.1 h1
     ·exact hnd.2 h1
    have h1:=List.all_eq_true.1 hrws k (by simpa using ((hremm _ _).1 hkr).1)
    simp only [hp',hlt,hm,Bool.not_true,Bool.false_or] at h1
    have h2:=List.all_eq_true.1 (List.all_eq_true.1 h1 hh hhm) i (by simpa using hin)
    have e1:(i==k)=false:=by simpa using fun e=>hki (Eq.symm e)
    simp only [e1,hnb k hkr,hp,Bool.false_or,Bool.and_eq_true] at h2
    exact ⟨h2.1,by simpa using h2.2⟩
   have hsz':(listed.setIfInBounds i true).size=ops.size:=by simpa using hsz
   have hcl':∀ j o',ops[j]? =some o'→(listed.setIfInBounds i true).getD j false=true→∀ e∈ga o',(listed.setIfInBounds i true).getD e false=true:=by
    have hmono:∀ e,listed.getD e false=true→(listed.setIfInBounds i true).getD e false=true:=by
     intro e he
     simp only [Array.getD_eq_getD_getElem?,Array.getElem?_setIfInBounds] at he ⊢
     split
     ·split
      ·rfl
      ·rename_i h3 h4
       subst h3
       rw [Array.getElem?_eq_none (by omega)] at he;cases he
     ·exact he
    intro j o' hj hl e he
    by_cases hij:i=j
    ·subst hij
     obtain rfl:o=o':=by rw [ho] at hj;exact Option.some.inj hj
     exact hmono e (haft e he)
    ·have:listed.getD j false=true:=by
      simpa [Array.getD_eq_getD_getElem?,Array.getElem?_setIfInBounds,hij] using hl
     exact hmono e (hcl j o' hj this e he)
   have hfu':fuel=(kc ops.size (listed.setIfInBounds i true)).length:=by
    rw [hrem']
    rw [hAB] at hfu
    simp only [List.length_append,List.length_cons] at hfu ⊢
    omega
   have h1:=h.se hse
   by_cases hlt:p.lt=true
   ·simp only [cR,if_pos hlt] at hex
    obtain ⟨q,hq,he2⟩:=Option.bind_eq_some_iff.1 hex
    obtain rfl:=Option.some.inj he2
    refine h1.XP hR hΩ ho hlg hnt (hlk hlt) (fun hm dd hdd=>(hfr i p dd hir hp hlt hm hdd).se hse) (fun hm hh hhm=>(hfB i p hir hp hlt hm hh hhm).se hse) hq fun a' w' σ' hs' hc'=>?_
    refine ih _ _ a' w' σ' hsz' hfu' hcl' (by rw [hrem'];exact hgo) hc' (fun k p' dd hk hp' hl' hm hdd=>?_) (fun k p' hk hp' hl' hm hh hhm=>?_) fun a'' w'' σ'' hs'' hc''=>hK a'' w'' σ'' (hs'.trans hs'') hc''
    ·rw [hrem'] at hk
     obtain ⟨h3,⟨_,h4⟩ | h4⟩:=hmk k p' dd hk hp' hl' hm hdd
     ·exact (h3.se hse).step (BM hlg hnt).1 (hlk hlt) h4 hq
     ·exfalso
      unfold Hh at h4
      split at h4
      ·rw [hlt] at h4;simp at h4
      ·cases h4
    ·rw [hrem'] at hk
     obtain ⟨h3,_,h4⟩:=hrw k p' hk hp' hl' hm hh hhm
     exact (h3.se hse).step h4 hq
   ·have hex0:=hex
    simp only [cR,if_neg hlt] at hex
    refine h1.Ov hR hΩ ho hlg hnt hex fun a' w' σ' hs' hc'=>?_
    refine ih _ _ a' w' σ' hsz' hfu' hcl' (by rw [hrem'];exact hgo) hc' (fun k p' dd hk hp' hl' hm hdd=>?_) (fun k p' hk hp' hl' hm hh hhm=>?_) fun a'' w'' σ'' hs'' hc''=>hK a'' w'' σ'' (hs'.trans hs'') hc''
    ·rw [hrem'] at hk
     obtain ⟨h3,h4 | h4⟩:=hmk k p' dd hk hp' hl' hm hdd
     ·exact absurd h4.1 hlt
     ·exact (h3.se hse).XQ h4 hex0
    ·rw [hrem'] at hk
     exact absurd (hrw k p' hk hp' hl' hm hh hhm).2.1 hlt
theorem an.Hi{nt:Nat}{ops:Array Oper}{Q:Exit→Act→World→Prop}{mks:List Nat}{gs:List bQ}{st':St}(hR:j0 C.P R)(hΩ:fB C.P Ω)(hnt:nt≤C.nt)(hl:Df C.P nt ops mks gs=true)(h:an C st a w σ)
  (hm:(mks.all (eG C.E.dp st)&&gs.all (rJ C.E.dp st))=true) (he:n6 R Ω C.E st gs=some st') (hK:∀ a' w' σ',cm C w σ w' σ'→an C st' a' w' σ'→Q .normal a' w'):C.P.follows .mixedOrders=true∧wpAny C.P .any ops Q ops.size (Array.replicate ops.size false) a {w with drawn:=w.drawn+1}:=by
 simp only [Df,Bool.and_eq_true] at hl
 obtain ⟨⟨⟨⟨⟨hfol,hds⟩,hback⟩,hpairs⟩,hmks⟩,hrws⟩:=hl
 obtain ⟨hm,hfb⟩:=Bool.and_eq_true_iff.1 hm
 have hback':∀ i o,ops[i]? =some o→∀ e∈ga o,e<i:=by
  intro i o ho e he
  have h1:=List.all_eq_true.1 hback i (by simpa using (Array.getElem?_eq_some_iff.1 ho).1)
  simp only [ho] at h1
  simpa using List.all_eq_true.1 h1 e he
 have hrem:kc ops.size (Array.replicate ops.size false)=List.range ops.size:=by
  unfold kc
  apply List.filter_eq_self.2
  intro i hi
  have:i<ops.size:=by simpa using hi
  simp [this]
 obtain ⟨hlen,_⟩:=zU hds
 have hd:an C st a {w with drawn:=w.drawn+1} σ:=h.drew
 refine ⟨hfol,an.any hR hΩ hnt hds hback' hpairs hmks hrws ops.size _ st a _ σ (by simp) (by rw [hrem];simp) (fun j o ho hl=>?_) ?_ hd (fun k p dd hk hp hlt hmk hdd=>?_) (fun k p hk hp hlt hmk hh hhm=>?_) fun a' w' σ' hs hc=>hK a' w' σ' (cm.drew (w:=w) hs) hc⟩
 ·exfalso
  by_cases hj:j<ops.size<;>simp [hj] at hl
 ·rw [hrem]
  have:=mR.text (R:=R) (Ω:=Ω) (E:=C.E) gs 0 st st' rfl he
  have hl2:gs.length=ops.size:=by simpa using hlen.symm
  rwa [hl2,←List.range_eq_range'] at this
 ·have h1:=List.all_eq_true.1 hmks k (by rw [hrem] at hk;exact hk)
  simp only [hp,hlt,hmk,hdd,Bool.not_true,Bool.false_or,Bool.and_eq_true] at h1
  exact jk.of (List.all_eq_true.1 hm dd (by simpa using h1.1))
 ·have h1:=List.all_eq_true.1 hfb p (List.mem_of_getElem? hp)
  simp only [rJ,hmk,Bool.not_true,Bool.false_or] at h1
  intro d
  have h2:=List.all_eq_true.1 h1 hh hhm
  have:=iF (p:=fun y=>!cu ⟨C.E.dp,hh⟩ y) rfl _ h2 d
  simpa using this
theorem an.drawn{nt id:Nat}{ops:Array Oper}{Q:Exit→Act→World→Prop}{mks:List Nat}{gs:List bQ}{st':St}(hR:j0 C.P R)(hΩ:fB C.P Ω)(hnt:nt≤C.nt)(hl:Df C.P nt ops mks gs=true)(h:an C st a w σ)
  (hm:(mks.all (eG C.E.dp st)&&gs.all (rJ C.E.dp st))=true) (he:n6 R Ω C.E st gs=some st') (hK:∀ a' w' σ',cm C w σ w' σ'→an C st' a' w' σ'→Q .normal a' w'):(Code.region id ops true).wp C.P Q a w:=by
 obtain ⟨h1,h2⟩:=h.Hi hR hΩ hnt hl hm he hK
 exact wp_region_any h1 h2
end
end Go.Proofs.YtdpjofmmokaobaaGreat.A
