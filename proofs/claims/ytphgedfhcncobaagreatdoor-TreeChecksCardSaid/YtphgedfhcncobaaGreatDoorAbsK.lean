/- Regions whose order is drawn: whatever the order, what the order of the text gives. -/
import Derived.Test.YtphgedfhcncobaaGreatDoorAbsI
import Derived.Orders
set_option linter.unusedSectionVars false
set_option linter.unusedVariables false
set_option linter.unusedSimpArgs false
set_option linter.constructorNameAsVariable false
namespace Go.Proofs.YtphgedfhcncobaaGreatDoor.A
open Go
variable [bg]
structure Se(s s':St):Prop where
 fr:∀ d,ag s.fr d=ag s'.fr d
 bx:∀ d,an s.bx d=an s'.bx d
 hp:s.hp=s'.hp
 mem:∀ y,y∈s.fr↔y∈s'.fr
theorem Se.refl(s:St):Se s s:=⟨fun _=>rfl,fun _=>rfl,rfl,fun _=>Iff.rfl⟩
theorem Se.symm{s s':St}(h:Se s s'):Se s' s:=⟨fun d=>(h.fr d).symm,fun d=>(h.bx d).symm,h.hp.symm,fun y=>(h.mem y).symm⟩
theorem Se.trans{s s' s'':St}(h:Se s s')(h':Se s' s''):Se s s'':=⟨fun d=>(h.fr d).trans (h'.fr d),fun d=>(h.bx d).trans (h'.bx d),h.hp.trans h'.hp,fun y=>(h.mem y).trans (h'.mem y)⟩
theorem Se.box{s s':St}(h:Se s s')(dp:Nat)(k:Key):s.box dp k=s'.box dp k:=by
 simp only [St.box,h.bx,h.hp]
theorem af.se{C:Cx}{s s':St}{a:Act}{w:World}{σ:Sp}(h:af C s a w σ)(hs:Se s s'):af C s' a w σ:=
 h.ud (fun d=>.inr (hs.fr d).symm) (fun k cs hk=>by rw [hs.box];exact hk) (fun _ _ _ h=>by rw [hs.hp];exact h)
def cg{α:Type}(l:List (Nat×α)):List Nat:=l.map (·.1)
theorem eB(l r:List (Nat×AV))(d:Nat):ag (l++r) d=if d∈cg l then ag l d else ag r d:=by
 induction l with
 | nil=>simp [cg]
 | cons x l ih=>
  obtain ⟨k,y⟩:=x
  simp only [List.cons_append,ag,cg,List.map_cons,List.mem_cons]
  by_cases h:k=d
  ·subst h;simp
  ·have h':¬d=k:=fun e=>h e.symm
   simp only [if_neg h,h',false_or]
   exact ih
theorem jm(l r:List (Nat×List AV))(d:Nat):an (l++r) d=if d∈cg l then an l d else an r d:=by
 induction l with
 | nil=>simp [cg]
 | cons x l ih=>
  obtain ⟨k,y⟩:=x
  simp only [List.cons_append,an,cg,List.map_cons,List.mem_cons]
  by_cases h:k=d
  ·subst h;simp
  ·have h':¬d=k:=fun e=>h e.symm
   simp only [if_neg h,h',false_or]
   exact ih
theorem kQ(bx wb:List (Nat×List AV))(d:Nat):an (mG bx wb) d=match an wb d with
  | some cs=>(an bx d).map fun _=>cs
  | none=>an bx d:=by
 induction wb with
 | nil=>rfl
 | cons x wb ih=>
  obtain ⟨k,y⟩:=x
  simp only [mG,oB,an]
  by_cases h:k=d
  ·subst h
   simp only [if_true,ih]
   cases an wb k with
   | none=>rfl
   | some cs=>cases an bx k<;>rfl
  ·rw [if_neg h,if_neg (fun e=>h e.symm),ih]
theorem j3{l:List (Nat×List AV)}{d:Nat}(h:d∉cg l):an l d=none:=by
 induction l with
 | nil=>rfl
 | cons x l ih=>
  obtain ⟨k,y⟩:=x
  simp only [cg,List.map_cons,List.mem_cons,not_or] at h
  simp only [an,if_neg (fun e=>h.1 (Eq.symm e))]
  exact ih h.2
theorem Se.app{s s':St}(q:aX)(h:Se s s'):Se (q.app s) (q.app s'):=by
 refine ⟨fun d=>?_,fun d=>?_,?_,fun y=>by simp only [aX.app,List.mem_append,h.mem y]⟩
 ·simp only [aX.app,eB,h.fr]
 ·simp only [aX.app,jm,kQ,h.bx]
 ·simp only [aX.app,h.hp]
structure Gz(q q':aX):Prop where
 fr:∀ d,d∈cg q.fr→d∉cg q'.fr
 nn:∀ d,d∈cg q.nb→d∉cg q'.nb
 nw:∀ d,d∈cg q.nb→d∉cg q'.wb
 wn:∀ d,d∈cg q.wb→d∉cg q'.nb
 ww:∀ d,d∈cg q.wb→d∉cg q'.wb
 hp:q.hp=none∨q'.hp=none
theorem Fm{q q':aX}(h:Gz q q')(s:St):Se (q.app (q'.app s)) (q'.app (q.app s)):=by
 refine ⟨fun d=>?_,fun d=>?_,?_,fun y=>by simp only [aX.app,List.mem_append];constructor<;>rintro (h | h | h)<;>simp [h]⟩
 ·simp only [aX.app,eB]
  by_cases h1:d∈cg q.fr
  ·simp [h1,h.fr d h1]
  ·simp [h1]
 ·simp only [aX.app,jm,kQ]
  by_cases h1:d∈cg q.nb
  ·have h2:=j3 (h.nw d h1)
   simp [h1,h.nn d h1,h2]
  ·by_cases h3:d∈cg q'.nb
   ·have h4:an q.wb d=none:=j3 fun h5=>h.wn d h5 h3
    simp [h1,h3,h4]
   ·simp only [if_neg h1,if_neg h3]
    by_cases h5:d∈cg q.wb
    ·have:=j3 (h.ww d h5)
     rw [this]
    ·rw [j3 h5]
 ·simp only [aX.app]
  rcases h.hp with e | e<;>rw [e]<;>cases q.hp<;>cases q'.hp<;>first | rfl | cases e
def lD:jx→Bool
 | .st _ _ _=>true
 | _=>false
def fT(p:bh):Bool:=match p.p.o with
 | .ap _ _ _ _ _=>p.cs.length==2
 | _=>false
def dH(p:bh):Bool:=lD p.p.o||fT p
def lE:jx→Bool
 | .al _=>true
 | _=>false
def mn(d:Option Nat):List Nat:=match d with
 | some d=>[d]
 | none=>[]
def JX(p:bh):List Nat:=match p.p.g with
 | some (j,_)=>[j]
 | none=>[]
def sQ(p:bh):List Nat:=mn p.p.d++p.cs
def GA(p:bh):List Nat:=JX p++p.vw
def CD(p:bh):List Nat:=(if lE p.p.o=true then mn p.p.d else [])++(if dH p=true then p.vb else [])
def oR(l m:List Nat):Bool:=l.all fun x=>!m.contains x
def qG(p q:bh):Bool:=oR (sQ p) (GA q)&&oR (sQ q) (GA p)&&oR (sQ p) (sQ q)&&oR (CD p) q.vb&&oR (CD q) p.vb&&oR (CD p) (CD q)&&!((dH p||dH q)&&p.vh&&q.vh)
theorem gk{l m:List Nat}(h:oR l m=true){x:Nat}(hx:x∈l):x∉m:=by
 have:=List.all_eq_true.1 h x hx
 simpa using this
theorem qH(bx:List (Nat×List AV))(ks:List Nat){d:Nat}(h:d∈cg (bG bx ks)):d∈ks:=by
 induction ks with
 | nil=>simp [bG,cg] at h
 | cons k ks ih=>
  simp only [bG] at h
  split at h
  ·simp only [cg,List.map_cons,List.mem_cons] at h
   rcases h with rfl | h
   ·simp
   ·exact List.mem_cons_of_mem _ (ih h)
  ·exact List.mem_cons_of_mem _ (ih h)
section
variable {R:Rec}{Ω:bR}{E:Env}
structure Small(p:bh)(q:aX):Prop where
 fr:∀ d,d∈cg q.fr→d∈sQ p
 nb:∀ d,d∈cg q.nb→lE p.p.o=true∧d∈mn p.p.d
 wb:∀ d,d∈cg q.wb→dH p=true∧d∈p.vb
 hp:q.hp≠none→dH p=true∧p.vh=true
theorem vf{p:bh}{fr:List (Nat×AV)}(h:∀ d,d∈cg fr→d∈sQ p):Small p ⟨fr,[],[],none⟩:=
 ⟨h,fun d hd=>by simp [cg] at hd,fun d hd=>by simp [cg] at hd,fun h=>absurd rfl h⟩
theorem sA(d:Option Nat)(x:AV):cg (eF d x)=mn d:=by cases d<;>rfl
theorem Bt(p:bh)(r:AV×St):Small p (effect p r):=by
 have hgen:Small p ⟨eF p.p.d (db p.p.fz r.1)++p.cs.map (fun m=>(m,.u)),[],[],none⟩:=vf fun d hd=>by
  simp only [cg,List.map_append,List.map_map] at hd
  rcases List.mem_append.1 hd with hd | hd
  ·have:d∈cg (eF p.p.d (db p.p.fz r.1)):=hd
   rw [sA] at this
   exact List.mem_append_left _ this
  ·obtain ⟨m,hm,rfl⟩:=List.mem_map.1 hd
   exact List.mem_append_right _ hm
 unfold effect
 split
 ·rename_i zs ho
  split
  ·rename_i dd hd
   refine ⟨fun d h=>?_,fun d h=>⟨by rw [ho];rfl,?_⟩,fun d h=>by simp [cg] at h,fun h=>absurd rfl h⟩
   ·simp only [cg,List.map_cons,List.map_nil,List.mem_singleton] at h
    subst h;unfold sQ;rw [hd];simp [mn]
   ·simp only [cg,List.map_cons,List.map_nil,List.mem_singleton] at h
    subst h;rw [hd];simp [mn]
  ·exact vf fun d h=>by simp [cg] at h
 ·rename_i ho
  refine ⟨fun d h=>?_,fun d h=>by simp [cg] at h,fun d h=>⟨by simp [dH,ho,lD],qH _ _ h⟩,fun h=>⟨by simp [dH,ho,lD],?_⟩⟩
  ·simp only [cg,List.map_map] at h
   obtain ⟨m,hm,rfl⟩:=List.mem_map.1 h
   exact List.mem_append_right _ hm
  by_cases hv:p.vh=true
  ·exact hv
  ·simp [hv] at h
 ·rename_i ho
  by_cases h2:(p.cs.length==2)=true
  ·have hw:dH p=true:=by simp only [dH,fT,ho,h2,Bool.or_true]
   rw [if_pos h2]
   refine ⟨hgen.fr,fun d h=>by simp [cg] at h,fun d h=>⟨hw,qH _ _ h⟩,fun h=>⟨hw,?_⟩⟩
   by_cases hv:p.vh=true
   ·exact hv
   ·simp [hv] at h
  ·simp only [h2,Bool.false_and,Bool.false_eq_true,if_false]
   exact hgen
 ·exact hgen
theorem om{p:bh}{s:St}{q:aX}(h:bS R Ω E p s=some q):Small p q:=by
 have hcore:∀ v q,fi R Ω E p v=some q→Small p q:=by
  intro v q hq
  unfold fi at hq
  split at hq
  ·obtain ⟨r,_,h2⟩:=Option.bind_eq_some_iff.1 hq
   split at h2
   ·obtain rfl:=Option.some.inj h2
    exact Bt p r
   ·cases h2
  ·cases hq
 unfold bS at h
 split at h
 ·exact hcore _ _ h
 ·obtain ⟨y,_,h2⟩:=Option.bind_eq_some_iff.1 h
  split at h2
  ·exact hcore _ _ h2
  ·obtain rfl:=Option.some.inj h2
   exact vf fun d hd=>by rw [sA] at hd;exact List.mem_append_left _ hd
theorem uE{fr fr':List (Nat×AV)}{ks:List Nat}(h:∀ d∈ks,ag fr d=ag fr' d):fh fr ks=fh fr' ks:=
 List.map_congr_left fun d hd=>by rw [h d hd]
theorem B8{bx bx':List (Nat×List AV)}{ks:List Nat}(h:∀ d∈ks,an bx d=an bx' d):bG bx ks=bG bx' ks:=by
 induction ks with
 | nil=>rfl
 | cons k ks ih=>
  simp only [bG,h k (by simp),ih fun d hd=>h d (by simp [hd])]
structure Bu(p:bh)(s s':St):Prop where
 fr:∀ d∈GA p,ag s.fr d=ag s'.fr d
 bx:∀ d∈p.vb,an s.bx d=an s'.bx d
 hp:p.vh=true→s.hp=s'.hp
theorem Bu.patch{p:bh}{s s':St}(h:Bu p s s'):bS R Ω E p s=bS R Ω E p s':=by
 have hv:view p s=view p s':=by
  unfold view
  rw [uE fun d hd=>h.fr d (List.mem_append_right _ hd),B8 h.bx]
  by_cases hh:p.vh=true
  ·simp only [hh,if_true,h.hp hh]
  ·simp only [if_neg hh]
 unfold bS
 rw [hv]
 split
 ·rfl
 ·rename_i j want hg
  rw [h.fr j (List.mem_append_left _ (by unfold JX;rw [hg];simp))]
theorem Se.Bv{p:bh}{s s':St}(h:Se s s'):Bu p s s':=⟨fun d _=>h.fr d,fun d _=>h.bx d,fun _=>h.hp⟩
theorem Bw{p p':bh}{q:aX}{s:St}(hq:Small p q)(hc:qG p p'=true):Bu p' (q.app s) s:=by
 simp only [qG,Bool.and_eq_true,Bool.not_eq_true'] at hc
 obtain ⟨⟨⟨⟨⟨⟨c1,c2⟩,c3⟩,c4⟩,c5⟩,c6⟩,c7⟩:=hc
 refine ⟨fun d hd=>?_,fun d hd=>?_,fun hh=>?_⟩
 ·simp only [aX.app,eB]
  rw [if_neg]
  intro hm
  exact gk c1 (hq.fr d hm) hd
 ·simp only [aX.app,jm,kQ]
  have hnb:d∉cg q.nb:=fun hm=>by
   obtain ⟨h1,h2⟩:=hq.nb d hm
   exact gk c4 (List.mem_append_left _ (by rw [if_pos h1];exact h2)) hd
  have hwb:d∉cg q.wb:=fun hm=>by
   obtain ⟨h1,h2⟩:=hq.wb d hm
   exact gk c4 (List.mem_append_right _ (by rw [if_pos h1];exact h2)) hd
  rw [if_neg hnb,j3 hwb]
 ·simp only [aX.app]
  cases hp:q.hp with
  | none=>rfl
  | some x=>
   obtain ⟨h1,h2⟩:=hq.hp (by rw [hp];simp)
   rw [h1,h2,hh] at c7
   simp at c7
theorem Fo{p p':bh}{q q':aX}(hq:Small p q)(hq':Small p' q')(hc:qG p p'=true):Gz q q':=by
 simp only [qG,Bool.and_eq_true,Bool.not_eq_true'] at hc
 obtain ⟨⟨⟨⟨⟨⟨c1,c2⟩,c3⟩,c4⟩,c5⟩,c6⟩,c7⟩:=hc
 have m1:∀ {p:bh}{q:aX}{d},Small p q→d∈cg q.nb→d∈CD p:=fun hq h=>by
  obtain ⟨h1,h2⟩:=hq.nb _ h
  exact List.mem_append_left _ (by rw [if_pos h1];exact h2)
 have m2:∀ {p:bh}{q:aX}{d},Small p q→d∈cg q.wb→d∈CD p:=fun hq h=>by
  obtain ⟨h1,h2⟩:=hq.wb _ h
  exact List.mem_append_right _ (by rw [if_pos h1];exact h2)
 refine ⟨fun d h h'=>gk c3 (hq.fr d h) (hq'.fr d h'),fun d h h'=>gk c6 (m1 hq h) (m1 hq' h'),fun d h h'=>gk c6 (m1 hq h) (m2 hq' h'),fun d h h'=>gk c6 (m2 hq h) (m1 hq' h'),fun d h h'=>gk c6 (m2 hq h) (m2 hq' h'),?_⟩
 cases h1:q.hp with
 | none=>exact .inl rfl
 | some x=>
  cases h2:q'.hp with
  | none=>exact .inr rfl
  | some y=>
   obtain ⟨h3,h4⟩:=hq.hp (by rw [h1];simp)
   obtain ⟨h5,h6⟩:=hq'.hp (by rw [h2];simp)
   rw [h3,h4,h6] at c7
   simp at c7
def jv(R:Rec)(Ω:bR)(E:Env)(gs:List bh):List Nat→St→St→Prop
 | [],s,t=>Se s t
 | i::π,s,t=>∃ p s1 s2,gs[i]? =some p∧Se s s1∧bT R Ω E s1 p=some s2∧jv R Ω E gs π s2 t
variable {gs:List bh}
theorem jv.se{π:List Nat}{s s' t:St}(h:jv R Ω E gs π s' t)(hs:Se s s'):jv R Ω E gs π s t:=by
 cases π with
 | nil=>exact Se.trans hs h
 | cons i π=>
  obtain ⟨p,s1,s2,h1,h2,h3,h4⟩:=h
  exact ⟨p,s1,s2,h1,hs.trans h2,h3,h4⟩
theorem jv.text:∀ (ps:List bh)(i:Nat)(s t:St),gs.drop i=ps→lW R Ω E s ps=some t→jv R Ω E gs (List.range' i ps.length) s t
 | [],i,s,t,_,he=>by
  obtain rfl:=Option.some.inj he
  exact Se.refl _
 | p::ps,i,s,t,hi,he=>by
  obtain ⟨s2,h1,h2⟩:=Option.bind_eq_some_iff.1 he
  rw [List.length_cons,List.range'_succ]
  refine ⟨p,s,s2,?_,Se.refl _,h1,jv.text ps (i+1) s2 t ?_ h2⟩
  ·have:(gs.drop i)[0]? =some p:=by rw [hi];rfl
   simpa using this
  ·rw [←List.drop_drop,hi];rfl
def Dx(xs:List aC):List Nat:=xs.flatMap fun x=>match x with
 | .t n=>[n]
 | .c _=>[]
def yF(sl dl:List Nat):jx→Bool
 | .lk _ (.t _) (.t b) lv=>sl.contains b&&(!lv||dl.contains b)
 | _=>false
def Dy:jx→Bool
 | .ln false (.t _)=>true
 | _=>false
def yG(ow:List Nat)(q:bh):Bool:=match q.p.o with
 | .al zs=>AV.bB zs&&!q.vh&&(match q.p.d with
  | some d=>ow.contains d&&q.vb==[d]
  | none=>false)
 | _=>false
def ph(p q:bh):Bool:=match p.p.o with
 | .ch _ args sl dl ow=>!p.lt&&q.lt&&p.p.g.isNone&&q.p.g.isNone&&!dH q&&oR (sQ q) (Dx args++(sl++dl))&&oR (mn p.p.d) (sQ q++q.vw)&&(q.nb.contains 1000000||yF sl dl q.p.o)&&(yG ow q||yF sl dl q.p.o||Dy q.p.o||(!lE q.p.o&&q.vb.isEmpty&&!q.vh))
 | _=>false
structure de(p q:bh)(f:FuncId)(args:List aC)(sl dl ow:List Nat):Prop where
 o:p.p.o= .ch f args sl dl ow
 pl:p.lt=false
 ql:q.lt=true
 pg:p.p.g=none
 qg:q.p.g=none
 nw:dH q=false
 wr:∀ d,d∈sQ q→d∉Dx args∧d∉sl∧d∉dl
 ds:∀ d,p.p.d=some d→d∉sQ q∧d∉q.vw
 nb:(1000000:Nat)∈q.nb∨yF sl dl q.p.o=true
 kd:yG ow q=true∨yF sl dl q.p.o=true∨Dy q.p.o=true∨(lE q.p.o=false∧q.vb=[]∧q.vh=false)
theorem ze{p q:bh}(h:ph p q=true):∃ f args sl dl ow,de p q f args sl dl ow:=by
 unfold ph at h
 split at h
 ·rename_i f args sl dl ow ho
  simp only [Bool.and_eq_true,Bool.not_eq_true',Option.isNone_iff_eq_none,Bool.or_eq_true] at h
  obtain ⟨⟨⟨⟨⟨⟨⟨⟨h1,h2⟩,h3⟩,h4⟩,h5⟩,h6⟩,h7⟩,h8⟩,h9⟩:=h
  refine ⟨f,args,sl,dl,ow,ho,h1,h2,h3,h4,h5,fun d hd=>?_,fun d hd=>?_,h8.imp (fun h=>by simpa using h) id,?_⟩
  ·have:=gk h6 hd
   exact ⟨fun hm=>this (List.mem_append_left _ hm),fun hm=>this (List.mem_append_right _ (List.mem_append_left _ hm)),fun hm=>this (List.mem_append_right _ (List.mem_append_right _ hm))⟩
  ·have:d∈mn p.p.d:=by rw [hd];simp [mn]
   have:=gk h7 this
   exact ⟨fun hm=>this (List.mem_append_left _ hm),fun hm=>this (List.mem_append_right _ hm)⟩
  ·rcases h9 with ((h9 | h9) | h9) | h9
   ·exact .inl h9
   ·exact .inr (.inl h9)
   ·exact .inr (.inr (.inl h9))
   ·exact .inr (.inr (.inr ⟨h9.1.1,by simpa using h9.1.2,h9.2⟩))
 ·cases h
theorem wC{ow:List Nat}{q:bh}(h:yG ow q=true):∃ zs d,q.p.o= .al zs∧q.p.d=some d∧AV.bB zs=true∧d∈ow∧q.vb=[d]∧q.vh=false:=by
 unfold yG at h
 split at h
 ·rename_i zs ho
  simp only [Bool.and_eq_true,Bool.not_eq_true'] at h
  obtain ⟨⟨h1,h2⟩,h3⟩:=h
  split at h3
  ·rename_i d hd
   simp only [Bool.and_eq_true,beq_iff_eq] at h3
   exact ⟨zs,d,ho,hd,h1,by simpa using h3.1,h3.2,h2⟩
  ·cases h3
 ·cases h
theorem Dz{sl dl:List Nat}{o:jx}(h:yF sl dl o=true):∃ n m b lv,o= .lk n (.t m) (.t b) lv∧b∈sl∧(lv=true→b∈dl):=by
 unfold yF at h
 split at h
 ·rename_i n m b lv
  simp only [Bool.and_eq_true,Bool.or_eq_true,Bool.not_eq_true'] at h
  refine ⟨n,m,b,lv,rfl,by simpa using h.1,fun hl=>?_⟩
  rcases h.2 with h' | h'
  ·rw [hl] at h';cases h'
  ·simpa using h'
 ·cases h
theorem GB{o:jx}(h:Dy o=true):∃ m,o= .ln false (.t m):=by
 unfold Dy at h
 split at h
 ·exact ⟨_,rfl⟩
 ·cases h
theorem de.JY{p q:bh}{f:FuncId}{args:List aC}{sl dl ow:List Nat}(hb:de p q f args sl dl ow)(ha:lE q.p.o=true):yG ow q=true:=by
 rcases hb.kd with h | h | h | h
 ·exact h
 ·obtain ⟨n,m,b,lv,e,_⟩:=Dz h
  rw [e] at ha;cases ha
 ·obtain ⟨m,e⟩:=GB h
  rw [e] at ha;cases ha
 ·rw [h.1] at ha;cases ha
theorem G7{z:Bool}{x:AV}{hid:Key→Bool}(h:fV hid x=false):fV hid (db z x)=false:=by
 cases z with
 | false=>exact h
 | true=>cases x<;>first | exact h | rfl
theorem Ep{hid:Key→Bool}{x:AV}(h:pq x=false):fV hid x=false:=by
 cases x with
 | r pl=>cases pl<;>first | rfl | cases h
 | v pl lo len=>cases pl<;>first | rfl | cases h
 | q pl i sz off=>cases pl<;>first | rfl | cases h
 | _=>rfl
theorem Er{hid:Key→Bool}{x:AV}(h:x.copy=true):fV hid x=false:=by
 cases x<;>first | rfl | cases h
theorem Fp{fr:List (Nat×AV)}{d:Nat}(h:ag fr d≠.u):∃ y∈fr,y.2=ag fr d:=by
 induction fr with
 | nil=>exact absurd rfl h
 | cons y fr ih=>
  obtain ⟨k,x⟩:=y
  simp only [ag] at h ⊢
  split
  ·exact ⟨(k,x),by simp,rfl⟩
  ·rename_i hne
   rw [if_neg hne] at h
   obtain ⟨z,hz,e⟩:=ih h
   exact ⟨z,List.mem_cons_of_mem _ hz,e⟩
structure mo(dp:Nat)(s:St)(sl dl ow:List Nat):Prop where
 sl:∀ m∈sl,∃ k,cj dp s (ag s.fr m) false=some k∧k.dp≤dp
 dl:∀ m∈dl,sV dp ow (ag s.fr m)=false∧∃ k,cj dp s (ag s.fr m) true=some k∧k.dp≤dp
theorem mo.dp{dp:Nat}{s:St}{sl dl ow:List Nat}(h:mo dp s sl dl ow){k:Key}(hk:dM dp s sl dl ow k=true):k.dp≤dp:=by
 unfold dM at hk
 simp only [Bool.or_eq_true,List.any_eq_true,Bool.and_eq_true,beq_iff_eq,decide_eq_true_eq] at hk
 rcases hk with (⟨n,hn,e⟩ | ⟨n,hn,_,e⟩) | ⟨e,_⟩
 ·obtain ⟨k',e',h'⟩:=h.sl n hn
  rw [e] at e';injection e' with e';subst e';exact h'
 ·obtain ⟨_,k',e',h'⟩:=h.dl n hn
  rw [e] at e';injection e' with e';subst e';exact h'
 ·omega
theorem Fq{dp:Nat}{v s:St}(hbx:∀ k cs,v.box dp k=some cs→s.box dp k=some cs){y:AV}{lv:Bool}{k:Key}(h:cj dp v y lv=some k):cj dp s y lv=some k:=by
 cases y<;>first | (simp [cj] at h;done) | skip
 rename_i k' off
 cases lv with
 | false=>exact h
 | true=>
  simp only [cj,if_true] at h ⊢
  split at h
  ·rename_i k2 o2 hc
   obtain ⟨cs,hb,hcs⟩:=Option.bind_eq_some_iff.1 hc
   simp only [hbx _ cs hb,Option.bind_some,hcs]
   exact h
  ·cases h
theorem CE(q:bh)(s:St)(n:Nat):ag (view q s).fr n= .u∨ag (view q s).fr n=ag s.fr n:=so s.fr q.vw n
theorem Ha(q:bh)(s:St)(dp:Nat)(k:Key)(cs:List AV)(h:(view q s).box dp k=some cs):s.box dp k=some cs:=by
 by_cases hk:k.dp=dp
 ·simp only [St.box,hk,if_true] at h ⊢
  exact bE h
 ·simp only [St.box,if_neg hk,view] at h ⊢
  split at h
  ·exact h
  ·cases h
theorem Bx{dp:Nat}{q:bh}{s:St}{sl dl ow:List Nat}{b:Nat}{lv:Bool}{k:Key}(hs:mo dp s sl dl ow)(hb:b∈sl)(hl:lv=true→b∈dl)(h:cj dp (view q s) (ag (view q s).fr b) lv=some k):dM dp s sl dl ow k=true:=by
 have h1:=Fq (Ha q s dp) h
 have h2:ag (view q s).fr b=ag s.fr b:=by
  rcases CE q s b with e | e
  ·rw [e] at h1;cases h1
  ·exact e
 rw [h2] at h1
 unfold dM
 simp only [Bool.or_eq_true,List.any_eq_true,Bool.and_eq_true,beq_iff_eq,Bool.not_eq_true']
 cases lv with
 | false=>exact .inl (.inl ⟨b,hb,h1⟩)
 | true=>exact .inl (.inr ⟨b,hl rfl,(hs.dl b (hl rfl)).1,h1⟩)
structure eO(q:bh)(qq:aX)(ow:List Nat):Prop where
 fr:∀ d,d∈cg qq.fr→d∈sQ q
 nb:qq.nb=[]∨∃ d zs,qq.nb=[(d,zs)]∧AV.bB zs=true∧d∈ow
 wb:qq.wb=[]
 hp:qq.hp=none
theorem tK{q:bh}{r:AV×St}(hnw:dH q=false)(hal:lE q.p.o=false):effect q r=⟨eF q.p.d (db q.p.fz r.1)++q.cs.map (fun m=>(m,.u)),[],[],none⟩:=by
 unfold effect
 split
 ·rename_i zs ho;rw [ho] at hal;cases hal
 ·rename_i ho;simp [dH,lD,ho] at hnw
 ·rename_i ho
  have h2:(q.cs.length==2)=false:=by
   simp only [dH,fT,ho,lD,Bool.false_or] at hnw
   exact hnw
  simp only [h2,Bool.false_and,Bool.false_eq_true,if_false]
 ·rfl
theorem de.inv{p q:bh}{f:FuncId}{args:List aC}{sl dl ow:List Nat}(hb:de p q f args sl dl ow){s:St}{qq:aX}(h:bS R Ω E q s=some qq):∃ r,execOp R Ω E (view q s) q.p.d q.p.o=some r∧okB E.dp q.nb r.1=true∧qq=effect q r:=by
 unfold bS at h
 rw [hb.qg] at h
 simp only at h
 unfold fi at h
 split at h
 ·obtain ⟨r,hr,h2⟩:=Option.bind_eq_some_iff.1 h
  split at h2
  ·rename_i hok
   exact ⟨r,hr,(Bool.and_eq_true_iff.1 hok).2,(Option.some.inj h2).symm⟩
  ·cases h2
 ·cases h
theorem de.patch{p q:bh}{f:FuncId}{args:List aC}{sl dl ow:List Nat}(hb:de p q f args sl dl ow){s:St}{qq:aX}(h:bS R Ω E q s=some qq):eO q qq ow:=by
 have hs:=om h
 obtain ⟨r,hr,hok,rfl⟩:=hb.inv h
 by_cases hal:lE q.p.o=true
 ·obtain ⟨zs,dd,ho,hd,h1,h2,_⟩:=wC (hb.JY hal)
  have he:effect q r=⟨[(dd,r.1)],[(dd,zs)],[],none⟩:=by
   unfold effect
   rw [ho,hd]
  rw [he] at hs ⊢
  exact ⟨hs.fr,.inr ⟨dd,zs,rfl,h1,h2⟩,rfl,rfl⟩
 ·rw [tK hb.nw (by simpa using hal)] at hs ⊢
  exact ⟨hs.fr,.inl rfl,rfl,rfl⟩
theorem de.plain{p q:bh}{f:FuncId}{args:List aC}{sl dl ow:List Nat}(hb:de p q f args sl dl ow){s:St}{qq:aX}(hi:mo E.dp s sl dl ow)(h:bS R Ω E q s=some qq):∀ y∈qq.fr,fV (dM E.dp s sl dl ow) y.2=false:=by
 obtain ⟨r,hr,hok,rfl⟩:=hb.inv h
 have hx:fV (dM E.dp s sl dl ow) r.1=false:=by
  rcases hb.nb with hn | hl
  ·unfold okB at hok
   have h4:=(Bool.and_eq_true_iff.1 hok).2
   have h5:q.nb.contains 1000000=true:=by simpa using hn
   rw [h5] at h4
   exact Ep (by simpa using h4)
  ·obtain ⟨n,m,b,lv,e,hsl,hdl⟩:=Dz hl
   rw [e] at hr
   simp only [execOp] at hr
   split at hr
   ·rename_i k off hk
    split at hr
    ·rename_i hev
     have hhid:=Bx hi hsl hdl hev
     obtain ⟨cs,_,hr1⟩:=Option.bind_eq_some_iff.1 hr
     obtain ⟨y,_,hr2⟩:=Option.bind_eq_some_iff.1 hr1
     split at hr2
     ·obtain rfl:=Option.some.inj hr2
      simp [fV,hhid]
     ·split at hr2
      ·rename_i hc
       obtain rfl:=Option.some.inj hr2
       exact Er hc
      ·cases hr2
    ·cases hr
   ·cases hr
 by_cases hal:lE q.p.o=true
 ·obtain ⟨zs,dd,ho,hd,h1,h2,_⟩:=wC (hb.JY hal)
  have he:effect q r=⟨[(dd,r.1)],[(dd,zs)],[],none⟩:=by
   unfold effect
   rw [ho,hd]
  rw [he]
  intro y hy
  obtain rfl:y=(dd,r.1):=by simpa using hy
  exact hx
 ·rw [tK hb.nw (by simpa using hal)]
  intro y hy
  rcases List.mem_append.1 hy with hy | hy
  ·cases hd:q.p.d with
   | none=>rw [hd] at hy;cases hy
   | some dd=>
    rw [hd] at hy
    obtain rfl:y=(dd,db q.p.fz r.1):=by simpa [eF] using hy
    exact G7 hx
  ·obtain ⟨m,_,rfl⟩:=List.mem_map.1 hy
   rfl
theorem de.NN{p q:bh}{f:FuncId}{args:List aC}{sl dl ow:List Nat}(hb:de p q f args sl dl ow){s:St}{qq:aX}(h:bS R Ω E q s=some qq):∀ d∈cg qq.nb,an s.bx d=none:=by
 have hs:=om h
 intro d hd
 obtain ⟨h1,h2⟩:=hs.nb d hd
 obtain ⟨r,hr,_,_⟩:=hb.inv h
 obtain ⟨zs,dd,ho,hdd,_,_,hvb,_⟩:=wC (hb.JY h1)
 rw [hdd] at h2
 obtain rfl:d=dd:=by simpa [mn] using h2
 rw [ho] at hr
 simp only [execOp,hdd,Option.bind_some] at hr
 split at hr
 ·rename_i hc
  simp only [Bool.and_eq_true] at hc
  have h4:an (bG s.bx q.vb) d=none:=by simpa [view] using hc.1.1
  rwa [qi _ _ _ (by rw [hvb];simp)] at h4
 ·cases hr
structure oo(R:Rec)(E:Env)(s:St)(f:FuncId)(args:List AV)(sl dl ow:List Nat)(x:AV)(hp':HP):Prop where
 ro:E.ro=false
 copy:args.all AV.copy=true
 deep:∀ d cs,an s.bx d=some cs→AV.dk E.dp cs=true
 nb:∀ y∈s.fr,fV (dM E.dp s sl dl ow) y.2=false
 pt:mo E.dp s sl dl ow
 run:R ⟨E.dp+1,false⟩ f args (sW E.dp s sl dl ow)=some (.ret x,hp')
 pure:x.pure=true
 post:∀ d cs,an (s.bk E.dp (bW E.dp s sl dl ow hp')).bx d=some cs→d∈ow∨∀ h∈ow,AV.dL ⟨E.dp,h⟩ cs=true
theorem qI{dp:Nat}{o:Option Key} : rP dp o=true↔∃ k,o=some k∧k.dp≤dp:=by
 cases o with
 | none=>simp [rP]
 | some k=>simp [rP]
theorem tL{s:St}{f:FuncId}{args:List AV}{sl dl ow:List Nat}{r:AV×St}(h:pb R E s f args sl dl ow=some r):∃ hp',oo R E s f args sl dl ow r.1 hp'∧r.2=s.bk E.dp (bW E.dp s sl dl ow hp'):=by
 unfold pb at h
 split at h
 ·rename_i hc
  simp only [Bool.and_eq_true,Bool.not_eq_true'] at hc
  obtain ⟨⟨⟨⟨⟨h1,h2⟩,h3⟩,h4⟩,h5⟩,h6⟩:=hc
  obtain ⟨⟨q,hp'⟩,hq,he2⟩:=Option.bind_eq_some_iff.1 h
  cases q with
  | new cs=>cases he2
  | ret x=>?_
  simp only at he2
  split at he2
  ·rename_i hk
   obtain rfl:=Option.some.inj he2
   obtain ⟨hk1,hk2⟩:=Bool.and_eq_true_iff.1 hk
   refine ⟨hp',⟨h1,h2,oE.1 h3,fun n hn=>?_,⟨fun m hm=>qI.1 (List.all_eq_true.1 h5 m hm),fun m hm=>?_⟩,hq,hk1,fun d cs hd=>?_⟩,rfl⟩
   ·simpa using List.all_eq_true.1 h4 n hn
   ·have:=List.all_eq_true.1 h6 m hm
    simp only [Bool.and_eq_true,Bool.not_eq_true'] at this
    exact ⟨this.1,qI.1 this.2⟩
   ·have:=oE.1 hk2 d cs hd
    simpa using this
  ·cases he2
 ·cases h
theorem oo.mk'{s:St}{f:FuncId}{args:List AV}{sl dl ow:List Nat}{x:AV}{hp':HP}(h:oo R E s f args sl dl ow x hp') :
  pb R E s f args sl dl ow=some (x,s.bk E.dp (bW E.dp s sl dl ow hp')):=by
 unfold pb
 have h4':(s.fr.all fun y=>!fV (dM E.dp s sl dl ow) y.2)=true:=by
  rw [List.all_eq_true];intro n hn;rw [h.nb n hn];rfl
 have h5':sl.all (fun n=>rP E.dp (cj E.dp s (ag s.fr n) false))=true:=by
  rw [List.all_eq_true];intro m hm
  exact qI.2 (h.pt.sl m hm)
 have h7':dl.all (fun n=>!sV E.dp ow (ag s.fr n)&&rP E.dp (cj E.dp s (ag s.fr n) true))=true:=by
  rw [List.all_eq_true];intro m hm
  rw [(h.pt.dl m hm).1,qI.2 (h.pt.dl m hm).2];rfl
 have h3':tQ s.bx (fun _ cs=>AV.dk E.dp cs)=true:=oE.2 h.deep
 have h6':tQ (s.bk E.dp (bW E.dp s sl dl ow hp')).bx (fun d cs=>ow.contains d||ow.all fun h=>AV.dL ⟨E.dp,h⟩ cs)=true:=oE.2 fun d cs hd=>by
  have:=h.post d cs hd
  simpa using this
 rw [if_pos (by rw [h.ro,h.copy,h3',h4',h5',h7'];rfl),h.run]
 simp only [Option.bind_some]
 rw [if_pos (by rw [h.pure,h6'];rfl)]
theorem eC(dp:Nat)(hp':HP):∀ (bx:List (Nat×List AV))(d:Nat),an (iS dp hp' bx) d=(an bx d).bind fun _=>hp' ⟨dp,d⟩
 | [],d=>rfl
 | (k,c)::r,d=>by
  simp only [iS,an]
  by_cases h:k=d
  ·subst h
   simp only [if_true,Option.bind_some]
   cases hk:hp' ⟨dp,k⟩ with
   | some cs=>simp [an]
   | none=>
    simp only
    rw [eC dp hp' r k,hk]
    cases an r k<;>rfl
  ·rw [if_neg h]
   split
   ·simp only [an,if_neg h];exact eC dp hp' r d
   ·exact eC dp hp' r d
theorem Se.ev{s s':St}(h:Se s s')(xs:List aC):xs.map s.ev=xs.map s'.ev:=by
 apply List.map_congr_left
 intro x _
 cases x with
 | c z=>rfl
 | t n=>exact h.fr n
theorem Se.sR{s s':St}(h:Se s s')(dp:Nat)(y:AV)(lv:Bool):cj dp s y lv=cj dp s' y lv:=by
 unfold cj
 simp only [h.box]
theorem Se.hid{s s':St}(h:Se s s')(dp:Nat)(sl dl ow:List Nat):dM dp s sl dl ow=dM dp s' sl dl ow:=by
 funext k
 unfold dM
 simp only [h.fr,h.sR]
theorem Se.By{s s':St}(h:Se s s')(dp:Nat)(sl dl ow:List Nat)(hp':HP):bW dp s sl dl ow hp'=bW dp s' sl dl ow hp':=by
 funext k
 unfold bW
 rw [h.hid,h.box]
theorem Se.GC{s s':St}(h:Se s s')(dp:Nat)(sl dl ow:List Nat):sW dp s sl dl ow=sW dp s' sl dl ow:=by
 funext k
 unfold sW
 rw [h.hid,h.box]
theorem Se.bk{s s':St}(h:Se s s')(dp:Nat)(hp':HP):Se (s.bk dp hp') (s'.bk dp hp'):=
 ⟨h.fr,fun d=>by simp only [St.bk,eC,h.bx],rfl,h.mem⟩
theorem Se.put{s s':St}(h:Se s s')(d:Option Nat)(x:AV):Se (put s d x) (A.put s' d x):=by
 cases d with
 | none=>exact h
 | some d=>exact ⟨fun n=>by simp only [A.put,St.bA,ag];split<;>first | rfl | exact h.fr n,h.bx,h.hp,fun y=>by simp only [A.put,St.bA,List.mem_cons,h.mem y]⟩
theorem mo.se{dp:Nat}{s s':St}{sl dl ow:List Nat}(h:mo dp s sl dl ow)(hs:Se s s'):mo dp s' sl dl ow:=
 ⟨fun m hm=>by rw [←hs.fr,←hs.sR];exact h.sl m hm,fun m hm=>by rw [←hs.fr,←hs.sR];exact h.dl m hm⟩
theorem oo.se{s s':St}{f:FuncId}{args:List AV}{sl dl ow:List Nat}{x:AV}{hp':HP}(h:oo R E s f args sl dl ow x hp')(hs:Se s s'):oo R E s' f args sl dl ow x hp':=
 ⟨h.ro,h.copy,fun d cs hd=>h.deep d cs (by rw [hs.bx];exact hd),fun y hy=>by rw [←hs.hid];exact h.nb y ((hs.mem y).2 hy),h.pt.se hs,by rw [←hs.GC];exact h.run,h.pure,
  fun d cs hd=>h.post d cs (by rw [(hs.bk _ _).bx,hs.By];exact hd)⟩
theorem CF{s s':St}{xs:List aC}(h:∀ n∈Dx xs,ag s'.fr n=ag s.fr n):xs.map s'.ev=xs.map s.ev:=by
 apply List.map_congr_left
 intro x hx
 cases x with
 | c z=>rfl
 | t n=>exact h n (List.mem_flatMap.2 ⟨_,hx,by simp⟩)
section
variable {p q:bh}{f:FuncId}{args:List aC}{sl dl ow:List Nat}{qq:aX}{s:St}
theorem eO.uF(hq:eO q qq ow)(hb:de p q f args sl dl ow){n:Nat}(hn:n∈Dx args∨n∈sl∨n∈dl):ag (qq.app s).fr n=ag s.fr n:=by
 simp only [aX.app,eB]
 rw [if_neg]
 intro hm
 have:=hb.wr n (hq.fr n hm)
 rcases hn with h | h | h
 ·exact this.1 h
 ·exact this.2.1 h
 ·exact this.2.2 h
theorem eO.box(hq:eO q qq ow){dp:Nat}{k:Key}(hk:∀ d,k=⟨dp,d⟩→d∉ow):(qq.app s).box dp k=s.box dp k:=by
 unfold St.box
 split
 ·rename_i hd
  simp only [aX.app,hq.wb,mG]
  rcases hq.nb with e | ⟨d,zs,e,_,h2⟩
  ·rw [e];rfl
  ·rw [e]
   have:d≠k.d:=fun e'=>hk k.d (by rw [←hd]) (e'▸h2)
   simp [an,this]
 ·simp only [aX.app,hq.hp,Option.getD_none]
theorem eO.sR(hq:eO q qq ow){dp:Nat}{y:AV}{lv:Bool}(h:lv=true→sV dp ow y=false):cj dp (qq.app s) y lv=cj dp s y lv:=by
 cases lv with
 | false=>cases y<;>rfl
 | true=>
  have h:=h rfl
  cases y<;>first | rfl | skip
  rename_i k off
  simp only [cj,if_true]
  rw [hq.box fun d e hd=>by subst e;simp [sV,hd] at h]
theorem eO.hid(hq:eO q qq ow)(hb:de p q f args sl dl ow)(dp:Nat):dM dp (qq.app s) sl dl ow=dM dp s sl dl ow:=by
 funext k
 unfold dM
 have h1:(sl.any fun n=>cj dp (qq.app s) (ag (qq.app s).fr n) false==some k)=(sl.any fun n=>cj dp s (ag s.fr n) false==some k):=by
  rw [Bool.eq_iff_iff,List.any_eq_true,List.any_eq_true]
  constructor
  ·rintro ⟨n,hn,h⟩;exact ⟨n,hn,by rwa [hq.uF hb (.inr (.inl hn)),hq.sR (fun h=>by cases h)] at h⟩
  ·rintro ⟨n,hn,h⟩;exact ⟨n,hn,by rwa [hq.uF hb (.inr (.inl hn)),hq.sR (fun h=>by cases h)]⟩
 have h2:(dl.any fun n=>!sV dp ow (ag (qq.app s).fr n)&&cj dp (qq.app s) (ag (qq.app s).fr n) true==some k)=(dl.any fun n=>!sV dp ow (ag s.fr n)&&cj dp s (ag s.fr n) true==some k):=by
  rw [Bool.eq_iff_iff,List.any_eq_true,List.any_eq_true]
  simp only [Bool.and_eq_true,Bool.not_eq_true']
  constructor
  ·rintro ⟨n,hn,h0,h⟩
   rw [hq.uF hb (.inr (.inr hn))] at h0 h
   exact ⟨n,hn,h0,by rwa [hq.sR (fun _=>h0)] at h⟩
  ·rintro ⟨n,hn,h0,h⟩
   rw [←hq.uF (s:=s) hb (.inr (.inr hn))] at h0 h
   exact ⟨n,hn,h0,by rwa [hq.sR (fun _=>h0)]⟩
 rw [h1,h2]
theorem ue{dp:Nat}{d:Nat}(h:d∈ow):dM dp s sl dl ow ⟨dp,d⟩=true:=by
 simp [dM,h]
theorem eO.GC(hq:eO q qq ow)(hb:de p q f args sl dl ow)(dp:Nat):sW dp (qq.app s) sl dl ow=sW dp s sl dl ow:=by
 funext k
 unfold sW
 rw [hq.hid hb]
 split
 ·rfl
 ·rename_i hn
  exact hq.box fun d e hd=>hn (by rw [e];exact ue hd)
theorem eO.By(hq:eO q qq ow)(hb:de p q f args sl dl ow){dp:Nat}{hp':HP}{k:Key}(hk:∀ d,k=⟨dp,d⟩→d∉ow):bW dp (qq.app s) sl dl ow hp' k=bW dp s sl dl ow hp' k:=by
 unfold bW
 rw [hq.hid hb,hq.box hk]
theorem Fs{dp:Nat}{hp':HP}{d:Nat}(h:d∈ow):bW dp s sl dl ow hp' ⟨dp,d⟩=an s.bx d:=by
 unfold bW
 rw [if_pos (ue h)]
 simp [St.box]
theorem rJ(hq:eO q qq ow):(qq.app s).bx=qq.nb++s.bx:=by simp only [aX.app,hq.wb,mG]
theorem eO.PJ(hq:eO q qq ow){d:Nat}(h:d∉ow):an (qq.app s).bx d=an s.bx d:=by
 rw [rJ hq]
 rcases hq.nb with e | ⟨d',zs,e,_,h2⟩
 ·rw [e];rfl
 ·rw [e]
  have:d'≠d:=fun e'=>h (e'▸h2)
  simp [an,this]
theorem eO.Rg(hq:eO q qq ow){d:Nat}{cs:List AV}(h:an (qq.app s).bx d=some cs):an s.bx d=some cs∨AV.bB cs=true:=by
 rw [rJ hq] at h
 rcases hq.nb with e | ⟨d',zs,e,hz,_⟩
 ·rw [e] at h;exact .inl h
 ·rw [e] at h
  simp only [List.cons_append,List.nil_append,an] at h
  split at h
  ·obtain rfl:=Option.some.inj h;exact .inr hz
  ·exact .inl h
theorem mo.app(h:mo E.dp s sl dl ow)(hq:eO q qq ow)(hb:de p q f args sl dl ow):mo E.dp (qq.app s) sl dl ow:=
 ⟨fun m hm=>by rw [hq.uF hb (.inr (.inl hm)),hq.sR (fun h=>by cases h)];exact h.sl m hm,
  fun m hm=>by
   have h1:=h.dl m hm
   rw [hq.uF hb (.inr (.inr hm)),hq.sR (fun _=>h1.1)];exact h1⟩
theorem mo.NO(h:mo E.dp (qq.app s) sl dl ow)(hq:eO q qq ow)(hb:de p q f args sl dl ow):mo E.dp s sl dl ow:=
 ⟨fun m hm=>by
   have h1:=h.sl m hm
   rwa [hq.uF hb (.inr (.inl hm)),hq.sR (fun h=>by cases h)] at h1,
  fun m hm=>by
   have h1:=h.dl m hm
   rw [hq.uF hb (.inr (.inr hm))] at h1
   rwa [hq.sR (fun _=>h1.1)] at h1⟩
theorem eO.call(hq:eO q qq ow)(hb:de p q f args sl dl ow)(hpl:∀ y∈qq.fr,fV (dM E.dp s sl dl ow) y.2=false){vals:List AV}{x:AV}{hp':HP}(h:oo R E s f vals sl dl ow x hp'):oo R E (qq.app s) f vals sl dl ow x hp':=by
 refine ⟨h.ro,h.copy,fun d cs hd=>?_,fun y hy=>?_,h.pt.app hq hb,by rw [hq.GC hb];exact h.run,h.pure,fun d cs hd=>?_⟩
 ·rcases hq.Rg hd with h1 | h1
  ·exact h.deep d cs h1
  ·exact lF _ h1
 ·rw [hq.hid hb]
  rcases List.mem_append.1 (show y∈qq.fr++s.fr from hy) with h1 | h1
  ·exact hpl y h1
  ·exact h.nb y h1
 ·by_cases ho:d∈ow
  ·exact .inl ho
  ·refine h.post d cs ?_
   simp only [St.bk,eC,hq.PJ ho] at hd ⊢
   rwa [hq.By hb fun d' e=>by injection e with _ e;subst e;exact ho] at hd
theorem eO.JZ(hq:eO q qq ow)(hb:de p q f args sl dl ow){vals:List AV}{x:AV}{hp':HP}(hno:∀ d∈cg qq.nb,an s.bx d=none)(h:oo R E (qq.app s) f vals sl dl ow x hp'):oo R E s f vals sl dl ow x hp':=by
 refine ⟨h.ro,h.copy,fun d cs hd=>?_,fun y hy=>?_,h.pt.NO hq hb,by rw [←hq.GC hb];exact h.run,h.pure,fun d cs hd=>?_⟩
 ·refine h.deep d cs ?_
  rw [rJ hq,jm,if_neg fun hm=>?_]
  ·exact hd
  ·rw [hno d hm] at hd;cases hd
 ·rw [←hq.hid hb]
  exact h.nb y (show y∈qq.fr++s.fr from List.mem_append_right _ hy)
 ·by_cases ho:d∈ow
  ·exact .inl ho
  ·refine h.post d cs ?_
   simp only [St.bk,eC,hq.PJ ho] at hd ⊢
   rwa [hq.By hb fun d' e=>by injection e with _ e;subst e;exact ho]
theorem eO.comm(hq:eO q qq ow)(hb:de p q f args sl dl ow){x:AV}{hp':HP} : Se (qq.app (put (s.bk E.dp (bW E.dp s sl dl ow hp')) p.p.d x)) (put ((qq.app s).bk E.dp (bW E.dp (qq.app s) sl dl ow hp')) p.p.d x):=by
 have hbx:∀ d,an (qq.nb++mG (s.bk E.dp (bW E.dp s sl dl ow hp')).bx qq.wb) d=an ((qq.app s).bk E.dp (bW E.dp (qq.app s) sl dl ow hp')).bx d:=by
  intro d
  simp only [St.bk,rJ hq,hq.wb,mG,jm,eC]
  by_cases hd:d∈cg qq.nb
  ·rw [if_pos hd,if_pos hd]
   rcases hq.nb with e | ⟨d',zs,e,_,ho⟩
   ·rw [e] at hd;simp [cg] at hd
   ·rw [e] at hd ⊢
    simp only [cg,List.map_cons,List.map_nil,List.mem_singleton] at hd
    subst hd
    rw [Fs (s:=qq.app s) ho,rJ hq,e]
    simp [an]
  ·rw [if_neg hd,if_neg hd]
   by_cases ho:d∈ow
   ·rw [Fs (s:=qq.app s) ho,Fs (s:=s) ho,rJ hq,jm,if_neg hd]
   ·rw [hq.By hb fun d' e=>by injection e with _ e;subst e;exact ho]
 have hhp:(s.bk E.dp (bW E.dp s sl dl ow hp')).hp=((qq.app s).bk E.dp (bW E.dp (qq.app s) sl dl ow hp')).hp:=by
  simp only [St.bk]
  funext k
  split
  ·rename_i hlt
   rw [hq.By hb fun d e=>by subst e;exact absurd hlt (Nat.lt_irrefl _)]
  ·rfl
 cases hd:p.p.d with
 | none=>
  refine ⟨fun n=>rfl,hbx,?_,fun y=>Iff.rfl⟩
  show qq.hp.getD _=_
  rw [hq.hp];exact hhp
 | some dd=>
  have hdd:dd∉cg qq.fr:=fun hm=>(hb.ds dd hd).1 (hq.fr dd hm)
  refine ⟨fun n=>?_,hbx,?_,fun y=>?_⟩
  ·show ag (qq.fr++(dd,x)::s.fr) n=ag ((dd,x)::(qq.fr++s.fr)) n
   simp only [eB,ag]
   by_cases hn:dd=n
   ·subst hn;simp [hdd]
   ·simp only [if_neg hn]
  ·show qq.hp.getD _=_
   rw [hq.hp];exact hhp
  ·show y∈qq.fr++(dd,x)::s.fr↔y∈(dd,x)::(qq.fr++s.fr)
   simp only [List.mem_append,List.mem_cons]
   constructor
   ·rintro (h | h | h)
    ·exact .inr (.inl h)
    ·exact .inl h
    ·exact .inr (.inr h)
   ·rintro (h | h | h)
    ·exact .inr (.inl h)
    ·exact .inl h
    ·exact .inr (.inr h)
theorem de.Bv(hb:de p q f args sl dl ow){x:AV}{hp':HP}(hnb:∀ y∈s.fr,fV (dM E.dp s sl dl ow) y.2=false)(hpt:mo E.dp s sl dl ow) :
  bS R Ω E q (put (s.bk E.dp (bW E.dp s sl dl ow hp')) p.p.d x)=bS R Ω E q s:=by
 have hkf:fh (put (s.bk E.dp (bW E.dp s sl dl ow hp')) p.p.d x).fr q.vw=fh s.fr q.vw:=by
  apply uE
  intro n hn
  cases hd:p.p.d with
  | none=>rfl
  | some dd=>
   have:dd≠n:=fun e=>(hb.ds dd hd).2 (e▸hn)
   simp only [put,St.bA,ag,if_neg this]
   rfl
 have hbx2:(put (s.bk E.dp (bW E.dp s sl dl ow hp')) p.p.d x).bx=(s.bk E.dp (bW E.dp s sl dl ow hp')).bx:=by cases p.p.d<;>rfl
 have hp2:(put (s.bk E.dp (bW E.dp s sl dl ow hp')) p.p.d x).hp=(s.bk E.dp (bW E.dp s sl dl ow hp')).hp:=by cases p.p.d<;>rfl
 have hbo:∀ d,dM E.dp s sl dl ow ⟨E.dp,d⟩=true→an (put (s.bk E.dp (bW E.dp s sl dl ow hp')) p.p.d x).bx d=an s.bx d:=by
  intro d hd
  rw [hbx2]
  simp only [St.bk,eC]
  have:bW E.dp s sl dl ow hp' ⟨E.dp,d⟩=an s.bx d:=by
   unfold bW
   rw [if_pos hd]
   simp [St.box]
  rw [this]
  cases an s.bx d<;>rfl
 have hvfr:(view q (put (s.bk E.dp (bW E.dp s sl dl ow hp')) p.p.d x)).fr=(view q s).fr:=hkf
 have hvb:∀ k,dM E.dp s sl dl ow k=true→(view q (put (s.bk E.dp (bW E.dp s sl dl ow hp')) p.p.d x)).box E.dp k=(view q s).box E.dp k:=by
  intro k hk
  obtain ⟨kd,ke⟩:=k
  by_cases hkd:kd=E.dp
  ·subst hkd
   show (if E.dp=E.dp then an (bG _ q.vb) ke else _)=(if E.dp=E.dp then an (bG _ q.vb) ke else _)
   rw [if_pos rfl,if_pos rfl]
   have:∀ ks,an (bG (put (s.bk E.dp (bW E.dp s sl dl ow hp')) p.p.d x).bx ks) ke=an (bG s.bx ks) ke:=by
    intro ks
    by_cases hm:ke∈ks
    ·rw [qi _ _ _ hm,qi _ _ _ hm,hbo ke hk]
    ·have h1:∀ bx:List (Nat×List AV),an (bG bx ks) ke=none:=fun bx=>j3 fun h=>hm (qH bx ks h)
     rw [h1,h1]
   exact this q.vb
  ·have hlt:kd<E.dp:=by have:(⟨kd,ke⟩:Key).dp≤E.dp:=hpt.dp hk;simp only at this;omega
   show (if kd=E.dp then _ else (view q (put (s.bk E.dp (bW E.dp s sl dl ow hp')) p.p.d x)).hp ⟨kd,ke⟩)=(if kd=E.dp then _ else (view q s).hp ⟨kd,ke⟩)
   rw [if_neg hkd,if_neg hkd]
   simp only [view]
   split
   ·rw [hp2]
    simp only [St.bk]
    rw [if_pos hlt]
    unfold bW
    rw [if_pos hk]
    simp [St.box,hkd]
   ·rfl
 have hkey:(yG ow q=true∨(lE q.p.o=false∧q.vb=[]∧q.vh=false))∨∃ g:Option AV,(execOp R Ω E (view q s) q.p.d q.p.o=g.map fun y=>(y,view q s))∧(execOp R Ω E (view q (put (s.bk E.dp (bW E.dp s sl dl ow hp')) p.p.d x)) q.p.d q.p.o=g.map fun y=>(y,view q (put (s.bk E.dp (bW E.dp s sl dl ow hp')) p.p.d x)))∧lE q.p.o=false∧(∀ v,eP v q.p.o=true)∧∀ v,iB E.dp q v=true:=by
  rcases hb.kd with h | h | h | h
  ·exact .inl (.inl h)
  ·right
   obtain ⟨n,m,b,lv,ho,hsl,hdl⟩:=Dz h
   have e1:∀ n,(view q (put (s.bk E.dp (bW E.dp s sl dl ow hp')) p.p.d x)).ev (.t n)=(view q s).ev (.t n):=fun n=>by show ag _ n=ag _ n;rw [hvfr]
   have e2:cj E.dp (view q (put (s.bk E.dp (bW E.dp s sl dl ow hp')) p.p.d x)) ((view q s).ev (.t b)) lv=cj E.dp (view q s) ((view q s).ev (.t b)) lv:=by
    cases lv with
    | false=>unfold cj;cases (view q s).ev (.t b)<;>rfl
    | true=>
     cases hy:(view q s).ev (.t b)<;>first | rfl | skip
     rename_i k' off'
     have hk':dM E.dp s sl dl ow k'=true:=Bx (q:=q) (lv:=false) hpt hsl (fun h=>by cases h) (by
      show cj E.dp (view q s) ((view q s).ev (.t b)) false=some k'
      rw [hy];rfl)
     simp only [cj,if_true,hvb k' hk']
   have e3:lE q.p.o=false∧(∀ v,eP v q.p.o=true)∧∀ v,iB E.dp q v=true:=⟨by rw [ho];rfl,fun v=>by rw [ho];rfl,fun v=>by unfold iB;rw [ho]⟩
   by_cases hA:∃ k off,(view q s).ev (.t m)= .p k off∧cj E.dp (view q s) ((view q s).ev (.t b)) lv=some k
   ·obtain ⟨k,off,hA,hev⟩:=hA
    have hk:=Bx (q:=q) hpt hsl hdl hev
    refine ⟨((view q s).box E.dp k).bind fun cs=>(pick n off cs).bind fun y=>match y with
     | .o _ _=>some (.r (.c k off))
     | y=>if y.copy then some y else none,?_,?_,e3⟩
    ·rw [ho]
     simp only [execOp,hA,if_pos hev]
     cases (view q s).box E.dp k with
     | none=>rfl
     | some cs=>
      simp only [Option.bind_some]
      cases pick n off cs with
      | none=>rfl
      | some y=>
       simp only [Option.bind_some]
       cases y<;>simp only []<;>first | rfl | (split<;>rfl)
    ·rw [ho]
     simp only [execOp,e1,hA,e2,if_pos hev,hvb k hk]
     cases (view q s).box E.dp k with
     | none=>rfl
     | some cs=>
      simp only [Option.bind_some]
      cases pick n off cs with
      | none=>rfl
      | some y=>
       simp only [Option.bind_some]
       cases y<;>simp only []<;>first | rfl | (split<;>rfl)
   ·refine ⟨none,?_,?_,e3⟩
    ·rw [ho]
     simp only [execOp]
     split
     ·rename_i k off hx
      rw [if_neg fun hev=>hA ⟨k,off,hx,hev⟩];rfl
     ·rfl
    ·rw [ho]
     simp only [execOp,e1,e2]
     split
     ·rename_i k off hx
      rw [if_neg fun hev=>hA ⟨k,off,hx,hev⟩];rfl
     ·rfl
  ·right
   obtain ⟨m,ho⟩:=GB h
   have e1:(view q (put (s.bk E.dp (bW E.dp s sl dl ow hp')) p.p.d x)).ev (.t m)=(view q s).ev (.t m):=by show ag _ m=ag _ m;rw [hvfr]
   have hrow:∀ pl,fV (dM E.dp s sl dl ow) (.r pl)=false→(view q (put (s.bk E.dp (bW E.dp s sl dl ow hp')) p.p.d x)).rowAt E.dp pl=(view q s).rowAt E.dp pl:=by
    intro pl hpl
    cases pl with
    | s d'=>simp only [St.rowAt,hvfr]
    | c k off=>
     have hk:dM E.dp s sl dl ow k=true:=by simpa [fV] using hpl
     simp only [St.rowAt,hvb k hk]
   have hbv:fV (dM E.dp s sl dl ow) ((view q s).ev (.t m))=false:=by
    show fV _ (ag (view q s).fr m)=false
    rcases CE q s m with e | e
    ·rw [e];rfl
    ·rw [e]
     by_cases hu:ag s.fr m= .u
     ·rw [hu];rfl
     ·obtain ⟨y,hy,e'⟩:=Fp hu
      rw [←e'];exact hnb y hy
   have hel:(view q (put (s.bk E.dp (bW E.dp s sl dl ow hp')) p.p.d x)).elems E.dp ((view q s).ev (.t m))=(view q s).elems E.dp ((view q s).ev (.t m)):=by
    cases hy:(view q s).ev (.t m) with
    | r pl=>rw [hy] at hbv;exact hrow pl hbv
    | v pl lo len=>
     rw [hy] at hbv
     have:fV (dM E.dp s sl dl ow) (.r pl)=false:=by cases pl<;>exact hbv
     simp only [St.elems,hrow pl this]
    | _=>rfl
   refine ⟨(match (view q s).ev (.t m) with
    | .s _=>none
    | y=>((view q s).elems E.dp y).bind fun r=>some (.i .i64 r.2.length)),?_,?_,by rw [ho];rfl,fun v=>by rw [ho];rfl,fun v=>by unfold iB;rw [ho]⟩
   ·rw [ho]
    simp only [execOp]
    cases (view q s).ev (.t m)<;>simp only []<;>first | rfl | (simp only [Bool.false_eq_true,if_false];cases (view q s).elems E.dp _<;>rfl)
   ·rw [ho]
    simp only [execOp,e1]
    cases hy:(view q s).ev (.t m)<;>rw [hy] at hel<;>simp only []<;>first | rfl | (simp only [Bool.false_eq_true,if_false,hel];cases (view q s).elems E.dp _<;>rfl)
  ·exact .inl (.inr h)
 rcases hkey with h | ⟨g,h1,h2,h3,h4,h5⟩
 ·refine Bu.patch ⟨fun d hd=>?_,fun d hd=>?_,fun hv=>?_⟩
  ·have hd':d∈q.vw:=by
    have h2:=hd
    unfold GA JX at h2
    rw [hb.qg] at h2
    simpa using h2
   have:=congrArg (fun l=>ag l d) hkf
   simpa only [yO _ _ _ hd'] using this
  ·rcases h with h | h
   ·obtain ⟨zs,dd,_,_,_,hdo,hvb',_⟩:=wC h
    rw [hvb'] at hd
    obtain rfl:d=dd:=by simpa using hd
    exact hbo d (ue hdo)
   ·rw [h.2.1] at hd;cases hd
  ·rcases h with h | h
   ·obtain ⟨_,_,_,_,_,_,_,hvh⟩:=wC h
    rw [hvh] at hv;cases hv
   ·rw [h.2.2] at hv;cases hv
 ·unfold bS fi
  rw [hb.qg]
  simp only [h1,h2,h4,h5]
  cases g with
  | none=>rfl
  | some y=>simp only [Option.map_some,Option.bind_some,tK hb.nw h3]
end
def DA(gs:List bh)(i j:Nat):Prop:=∃ p q,gs[i]? =some p∧gs[j]? =some q∧((p.lt=true∧q.lt=true∧qG p q=true)∨ph p q=true∨ph q p=true)
theorem jv.swap{i j:Nat}{π:List Nat}{s t:St}(hf:DA gs i j)(h:jv R Ω E gs (i::j::π) s t):jv R Ω E gs (j::i::π) s t:=by
 obtain ⟨p,q,hp,hq,hcase⟩:=hf
 obtain ⟨p',s1,s2,h1,h2,h3,q',s3,s4,h4,h5,h6,h7⟩:=h
 obtain rfl:p=p':=by rw [hp] at h1;exact Option.some.inj h1
 obtain rfl:q=q':=by rw [hq] at h4;exact Option.some.inj h4
 rcases hcase with ⟨hpl,hql,hc⟩ | hc | hc
 rotate_left
 ·
  obtain ⟨f,args,sl,vs,ow,hb⟩:=ze hc
  simp only [bT,hb.pl,Bool.false_eq_true,if_false,dZ,hb.pg,hb.o,execOp] at h3
  obtain ⟨⟨x,s2'⟩,hcall,he⟩:=Option.bind_eq_some_iff.1 h3
  obtain rfl:=Option.some.inj he
  simp only [bT,if_pos hb.ql] at h6
  obtain ⟨qq,hqq,he'⟩:=Option.bind_eq_some_iff.1 h6
  obtain rfl:=Option.some.inj he'
  have hP:=hb.patch hqq
  obtain ⟨hp',hC,e2⟩:=tL hcall
  simp only at e2 hC
  subst e2
  have hqq1:bS R Ω E q s1=some qq:=by
   rw [←hb.Bv (x:=db p.p.fz x) (hp':=hp') hC.nb hC.pt,(Se.Bv h5).patch];exact hqq
  have hev:=CF (s:=s1) (s':=qq.app s1) (xs:=args) fun n hn=>hP.uF hb (.inl hn)
  have hcall':=(hP.call hb (hb.plain hC.pt hqq1) hC).mk'
  rw [←hev] at hcall'
  refine ⟨q,s1,qq.app s1,hq,h2,by simp only [bT,if_pos hb.ql,hqq1,Option.bind_some],p,qq.app s1,_,hp,Se.refl _,by simp only [bT,hb.pl,Bool.false_eq_true,if_false,dZ,hb.pg,hb.o,execOp,hcall',Option.bind_some];rfl,?_⟩
  exact h7.se (Se.trans (hP.comm hb).symm (h5.app qq))
 ·
  obtain ⟨f,args,sl,vs,ow,hb⟩:=ze hc
  simp only [bT,if_pos hb.ql] at h3
  obtain ⟨qq,hqq,he'⟩:=Option.bind_eq_some_iff.1 h3
  obtain rfl:=Option.some.inj he'
  simp only [bT,hb.pl,Bool.false_eq_true,if_false,dZ,hb.pg,hb.o,execOp] at h6
  obtain ⟨⟨x,s4'⟩,hcall,he⟩:=Option.bind_eq_some_iff.1 h6
  obtain rfl:=Option.some.inj he
  have hP:=hb.patch hqq
  obtain ⟨hp',hC,e2⟩:=tL hcall
  simp only at e2 hC
  subst e2
  have hev:=CF (s:=s1) (s':=qq.app s1) (xs:=args) fun n hn=>hP.uF hb (.inl hn)
  have hC1:=hC.se h5.symm
  rw [←h5.ev,hev] at hC1
  have hC2:=hP.JZ hb (hb.NN hqq) hC1
  have hcall':=hC2.mk'
  have hqq1:bS R Ω E p (put (s1.bk E.dp (bW E.dp s1 sl vs ow hp')) q.p.d (db q.p.fz x))=some qq:=by
   rw [hb.Bv hC2.nb hC2.pt];exact hqq
  refine ⟨q,s1,_,hq,h2,by simp only [bT,hb.pl,Bool.false_eq_true,if_false,dZ,hb.pg,hb.o,execOp,hcall',Option.bind_some];rfl,p,_,_,hp,Se.refl _,by simp only [bT,if_pos hb.ql,hqq1,Option.bind_some];rfl,?_⟩
  refine h7.se (Se.trans (hP.comm hb) ?_)
  refine Se.put ?_ _ _
  rw [←h5.By]
  exact h5.bk _ _
 simp only [bT,if_pos hpl] at h3
 simp only [bT,if_pos hql] at h6
 obtain ⟨pp,hpp,he⟩:=Option.bind_eq_some_iff.1 h3
 obtain rfl:=Option.some.inj he
 obtain ⟨qq,hqq,he'⟩:=Option.bind_eq_some_iff.1 h6
 obtain rfl:=Option.some.inj he'
 have hc':qG q p=true:=by
  simp only [qG,Bool.and_eq_true,Bool.not_eq_true'] at hc ⊢
  obtain ⟨⟨⟨⟨⟨⟨c1,c2⟩,c3⟩,c4⟩,c5⟩,c6⟩,c7⟩:=hc
  have hsym:∀ l m,oR l m=true→oR m l=true:=fun l m h=>by
   unfold oR
   rw [List.all_eq_true]
   intro x hx
   have:x∉l:=fun hl=>gk h hl hx
   simpa using this
  refine ⟨⟨⟨⟨⟨⟨c2,c1⟩,hsym _ _ c3⟩,c5⟩,c4⟩,hsym _ _ c6⟩,?_⟩
  revert c7
  cases dH p<;>cases dH q<;>cases p.vh<;>cases q.vh<;>simp
 have sp:=om hpp
 have sq:=om hqq
 have e1:bS R Ω E q s1=some qq:=by
  rw [←hqq]
  exact ((Bw sp hc).patch.symm.trans (Se.Bv h5).patch)
 have e2:bS R Ω E p (qq.app s1)=some pp:=by
  rw [←hpp]
  exact (Bw sq hc').patch
 refine ⟨q,s1,qq.app s1,hq,h2,by simp only [bT,if_pos hql,e1,Option.bind_some],p,qq.app s1,pp.app (qq.app s1),hp,Se.refl _,by simp only [bT,if_pos hpl,e2,Option.bind_some],?_⟩
 exact h7.se ((Fm (Fo sp sq hc) s1).trans (h5.app qq))
theorem jv.front{i:Nat}{B:List Nat}{t:St} : ∀ (A:List Nat)(s:St),(∀ a∈A,DA gs a i)→jv R Ω E gs (A++i::B) s t→jv R Ω E gs (i::(A++B)) s t
 | [],_,_,h=>h
 | a::A,s,hf,h=>by
  obtain ⟨p,s1,s2,h1,h2,h3,h4⟩:=h
  exact jv.swap (hf a (by simp)) ⟨p,s1,s2,h1,h2,h3,jv.front A s2 (fun b hb=>hf b (by simp [hb])) h4⟩
end
end Go.Proofs.YtphgedfhcncobaaGreatDoor.A
