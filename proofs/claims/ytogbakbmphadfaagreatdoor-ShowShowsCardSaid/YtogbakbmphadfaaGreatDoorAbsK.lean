/- Regions whose order is drawn: whatever the order, what the order of the text gives. -/
import Derived.Test.YtogbakbmphadfaaGreatDoorAbsI
import Derived.Orders
set_option linter.unusedSectionVars false
set_option linter.unusedVariables false
set_option linter.unusedSimpArgs false
set_option linter.constructorNameAsVariable false
namespace Go.Proofs.YtogbakbmphadfaaGreatDoor.A
open Go
variable [bJ]
structure Se(s s':St):Prop where
 fr:∀ d,an s.fr d=an s'.fr d
 bx:∀ d,az s.bx d=az s'.bx d
 hp:s.hp=s'.hp
 mem:∀ y,y∈s.fr↔y∈s'.fr
theorem Se.refl(s:St):Se s s:=⟨fun _=>rfl,fun _=>rfl,rfl,fun _=>Iff.rfl⟩
theorem Se.symm{s s':St}(h:Se s s'):Se s' s:=⟨fun d=>(h.fr d).symm,fun d=>(h.bx d).symm,h.hp.symm,fun y=>(h.mem y).symm⟩
theorem Se.trans{s s' s'':St}(h:Se s s')(h':Se s' s''):Se s s'':=⟨fun d=>(h.fr d).trans (h'.fr d),fun d=>(h.bx d).trans (h'.bx d),h.hp.trans h'.hp,fun y=>(h.mem y).trans (h'.mem y)⟩
theorem Se.box{s s':St}(h:Se s s')(dp:Nat)(k:Key):s.box dp k=s'.box dp k:=by
 simp only [St.box,h.bx,h.hp]
theorem ah.se{C:Cx}{s s':St}{a:Act}{w:World}{σ:Sp}(h:ah C s a w σ)(hs:Se s s'):ah C s' a w σ:=
 h.yA (fun d=>.inr (hs.fr d).symm) (fun k cs hk=>by rw [hs.box];exact hk) (fun _ _ _ h=>by rw [hs.hp];exact h)
def dh{α:Type}(l:List (Nat×α)):List Nat:=l.map (·.1)
theorem fW(l r:List (Nat×AV))(d:Nat):an (l++r) d=if d∈dh l then an l d else an r d:=by
 induction l with
 | nil=>simp [dh]
 | cons x l ih=>
  obtain ⟨k,y⟩:=x
  simp only [List.cons_append,an,dh,List.map_cons,List.mem_cons]
  by_cases h:k=d
  ·subst h;simp
  ·have h':¬d=k:=fun e=>h e.symm
   simp only [if_neg h,h',false_or]
   exact ih
theorem lu(l r:List (Nat×List AV))(d:Nat):az (l++r) d=if d∈dh l then az l d else az r d:=by
 induction l with
 | nil=>simp [dh]
 | cons x l ih=>
  obtain ⟨k,y⟩:=x
  simp only [List.cons_append,az,dh,List.map_cons,List.mem_cons]
  by_cases h:k=d
  ·subst h;simp
  ·have h':¬d=k:=fun e=>h e.symm
   simp only [if_neg h,h',false_or]
   exact ih
theorem nz(bx wb:List (Nat×List AV))(d:Nat):az (pB bx wb) d=match az wb d with
  | some cs=>(az bx d).map fun _=>cs
  | none=>az bx d:=by
 induction wb with
 | nil=>rfl
 | cons x wb ih=>
  obtain ⟨k,y⟩:=x
  simp only [pB,rk,az]
  by_cases h:k=d
  ·subst h
   simp only [if_true,ih]
   cases az wb k with
   | none=>rfl
   | some cs=>cases az bx k<;>rfl
  ·rw [if_neg h,if_neg (fun e=>h e.symm),ih]
theorem mu{l:List (Nat×List AV)}{d:Nat}(h:d∉dh l):az l d=none:=by
 induction l with
 | nil=>rfl
 | cons x l ih=>
  obtain ⟨k,y⟩:=x
  simp only [dh,List.map_cons,List.mem_cons,not_or] at h
  simp only [az,if_neg (fun e=>h.1 (Eq.symm e))]
  exact ih h.2
theorem Se.app{s s':St}(q:bm)(h:Se s s'):Se (q.app s) (q.app s'):=by
 refine ⟨fun d=>?_,fun d=>?_,?_,fun y=>by simp only [bm.app,List.mem_append,h.mem y]⟩
 ·simp only [bm.app,fW,h.fr]
 ·simp only [bm.app,lu,nz,h.bx]
 ·simp only [bm.app,h.hp]
structure MK(q q':bm):Prop where
 fr:∀ d,d∈dh q.fr→d∉dh q'.fr
 nn:∀ d,d∈dh q.nb→d∉dh q'.nb
 nw:∀ d,d∈dh q.nb→d∉dh q'.wb
 wn:∀ d,d∈dh q.wb→d∉dh q'.nb
 ww:∀ d,d∈dh q.wb→d∉dh q'.wb
 hp:q.hp=none∨q'.hp=none
theorem Lg{q q':bm}(h:MK q q')(s:St):Se (q.app (q'.app s)) (q'.app (q.app s)):=by
 refine ⟨fun d=>?_,fun d=>?_,?_,fun y=>by simp only [bm.app,List.mem_append];constructor<;>rintro (h | h | h)<;>simp [h]⟩
 ·simp only [bm.app,fW]
  by_cases h1:d∈dh q.fr
  ·simp [h1,h.fr d h1]
  ·simp [h1]
 ·simp only [bm.app,lu,nz]
  by_cases h1:d∈dh q.nb
  ·have h2:=mu (h.nw d h1)
   simp [h1,h.nn d h1,h2]
  ·by_cases h3:d∈dh q'.nb
   ·have h4:az q.wb d=none:=mu fun h5=>h.wn d h5 h3
    simp [h1,h3,h4]
   ·simp only [if_neg h1,if_neg h3]
    by_cases h5:d∈dh q.wb
    ·have:=mu (h.ww d h5)
     rw [this]
    ·rw [mu h5]
 ·simp only [bm.app]
  rcases h.hp with e | e<;>rw [e]<;>cases q.hp<;>cases q'.hp<;>first | rfl | cases e
def n6:lJ→Bool
 | .st _ _ _=>true
 | _=>false
def iQ(p:bI):Bool:=match p.p.o with
 | .ap _ _ _ _ _=>p.cs.length==2
 | _=>false
def eU(p:bI):Bool:=n6 p.p.o||iQ p
def n7:lJ→Bool
 | .al _=>true
 | _=>false
def o7(d:Option Nat):List Nat:=match d with
 | some d=>[d]
 | none=>[]
def Rm(p:bI):List Nat:=match p.p.g with
 | some (j,_)=>[j]
 | none=>[]
def wN(p:bI):List Nat:=o7 p.p.d++p.cs
def ML(p:bI):List Nat:=Rm p++p.vw
def HL(p:bI):List Nat:=(if n7 p.p.o=true then o7 p.p.d else [])++(if eU p=true then p.vb else [])
def rM(l m:List Nat):Bool:=l.all fun x=>!m.contains x
def uj(p q:bI):Bool:=rM (wN p) (ML q)&&rM (wN q) (ML p)&&rM (wN p) (wN q)&&rM (HL p) q.vb&&rM (HL q) p.vb&&rM (HL p) (HL q)&&!((eU p||eU q)&&p.vh&&q.vh)
theorem jl{l m:List Nat}(h:rM l m=true){x:Nat}(hx:x∈l):x∉m:=by
 have:=List.all_eq_true.1 h x hx
 simpa using this
theorem uk(bx:List (Nat×List AV))(ks:List Nat){d:Nat}(h:d∈dh (cg bx ks)):d∈ks:=by
 induction ks with
 | nil=>simp [cg,dh] at h
 | cons k ks ih=>
  simp only [cg] at h
  split at h
  ·simp only [dh,List.map_cons,List.mem_cons] at h
   rcases h with rfl | h
   ·simp
   ·exact List.mem_cons_of_mem _ (ih h)
  ·exact List.mem_cons_of_mem _ (ih h)
section
variable {R:Rec}{Ω:cI}{E:Env}
structure Small(p:bI)(q:bm):Prop where
 fr:∀ d,d∈dh q.fr→d∈wN p
 nb:∀ d,d∈dh q.nb→n7 p.p.o=true∧d∈o7 p.p.d
 wb:∀ d,d∈dh q.wb→eU p=true∧d∈p.vb
 hp:q.hp≠none→eU p=true∧p.vh=true
theorem zX{p:bI}{fr:List (Nat×AV)}(h:∀ d,d∈dh fr→d∈wN p):Small p ⟨fr,[],[],none⟩:=
 ⟨h,fun d hd=>by simp [dh] at hd,fun d hd=>by simp [dh] at hd,fun h=>absurd rfl h⟩
theorem wu(d:Option Nat)(x:AV):dh (fZ d x)=o7 d:=by cases d<;>rfl
theorem Gr(p:bI)(r:AV×St):Small p (effect p r):=by
 have hgen:Small p ⟨fZ p.p.d (eh p.p.fz r.1)++p.cs.map (fun m=>(m,.u)),[],[],none⟩:=zX fun d hd=>by
  simp only [dh,List.map_append,List.map_map] at hd
  rcases List.mem_append.1 hd with hd | hd
  ·have:d∈dh (fZ p.p.d (eh p.p.fz r.1)):=hd
   rw [wu] at this
   exact List.mem_append_left _ this
  ·obtain ⟨m,hm,rfl⟩:=List.mem_map.1 hd
   exact List.mem_append_right _ hm
 unfold effect
 split
 ·rename_i zs ho
  split
  ·rename_i dd hd
   refine ⟨fun d h=>?_,fun d h=>⟨by rw [ho];rfl,?_⟩,fun d h=>by simp [dh] at h,fun h=>absurd rfl h⟩
   ·simp only [dh,List.map_cons,List.map_nil,List.mem_singleton] at h
    subst h;unfold wN;rw [hd];simp [o7]
   ·simp only [dh,List.map_cons,List.map_nil,List.mem_singleton] at h
    subst h;rw [hd];simp [o7]
  ·exact zX fun d h=>by simp [dh] at h
 ·rename_i ho
  refine ⟨fun d h=>?_,fun d h=>by simp [dh] at h,fun d h=>⟨by simp [eU,ho,n6],uk _ _ h⟩,fun h=>⟨by simp [eU,ho,n6],?_⟩⟩
  ·simp only [dh,List.map_map] at h
   obtain ⟨m,hm,rfl⟩:=List.mem_map.1 h
   exact List.mem_append_right _ hm
  by_cases hv:p.vh=true
  ·exact hv
  ·simp [hv] at h
 ·rename_i ho
  by_cases h2:(p.cs.length==2)=true
  ·have hw:eU p=true:=by simp only [eU,iQ,ho,h2,Bool.or_true]
   rw [if_pos h2]
   refine ⟨hgen.fr,fun d h=>by simp [dh] at h,fun d h=>⟨hw,uk _ _ h⟩,fun h=>⟨hw,?_⟩⟩
   by_cases hv:p.vh=true
   ·exact hv
   ·simp [hv] at h
  ·simp only [h2,Bool.false_and,Bool.false_eq_true,if_false]
   exact hgen
 ·exact hgen
theorem q5{p:bI}{s:St}{q:bm}(h:cM R Ω E p s=some q):Small p q:=by
 have hcore:∀ v q,ib R Ω E p v=some q→Small p q:=by
  intro v q hq
  unfold ib at hq
  split at hq
  ·obtain ⟨r,_,h2⟩:=Option.bind_eq_some_iff.1 hq
   split at h2
   ·obtain rfl:=Option.some.inj h2
    exact Gr p r
   ·cases h2
  ·cases hq
 unfold cM at h
 split at h
 ·exact hcore _ _ h
 ·obtain ⟨y,_,h2⟩:=Option.bind_eq_some_iff.1 h
  split at h2
  ·exact hcore _ _ h2
  ·obtain rfl:=Option.some.inj h2
   exact zX fun d hd=>by rw [wu] at hd;exact List.mem_append_left _ hd
theorem zb{fr fr':List (Nat×AV)}{ks:List Nat}(h:∀ d∈ks,an fr d=an fr' d):hZ fr ks=hZ fr' ks:=
 List.map_congr_left fun d hd=>by rw [h d hd]
theorem Hi{bx bx':List (Nat×List AV)}{ks:List Nat}(h:∀ d∈ks,az bx d=az bx' d):cg bx ks=cg bx' ks:=by
 induction ks with
 | nil=>rfl
 | cons k ks ih=>
  simp only [cg,h k (by simp),ih fun d hd=>h d (by simp [hd])]
structure Gs(p:bI)(s s':St):Prop where
 fr:∀ d∈ML p,an s.fr d=an s'.fr d
 bx:∀ d∈p.vb,az s.bx d=az s'.bx d
 hp:p.vh=true→s.hp=s'.hp
theorem Gs.patch{p:bI}{s s':St}(h:Gs p s s'):cM R Ω E p s=cM R Ω E p s':=by
 have hv:view p s=view p s':=by
  unfold view
  rw [zb fun d hd=>h.fr d (List.mem_append_right _ hd),Hi h.bx]
  by_cases hh:p.vh=true
  ·simp only [hh,if_true,h.hp hh]
  ·simp only [if_neg hh]
 unfold cM
 rw [hv]
 split
 ·rfl
 ·rename_i j want hg
  rw [h.fr j (List.mem_append_left _ (by unfold Rm;rw [hg];simp))]
theorem Se.Gt{p:bI}{s s':St}(h:Se s s'):Gs p s s':=⟨fun d _=>h.fr d,fun d _=>h.bx d,fun _=>h.hp⟩
theorem Gu{p p':bI}{q:bm}{s:St}(hq:Small p q)(hc:uj p p'=true):Gs p' (q.app s) s:=by
 simp only [uj,Bool.and_eq_true,Bool.not_eq_true'] at hc
 obtain ⟨⟨⟨⟨⟨⟨c1,c2⟩,c3⟩,c4⟩,c5⟩,c6⟩,c7⟩:=hc
 refine ⟨fun d hd=>?_,fun d hd=>?_,fun hh=>?_⟩
 ·simp only [bm.app,fW]
  rw [if_neg]
  intro hm
  exact jl c1 (hq.fr d hm) hd
 ·simp only [bm.app,lu,nz]
  have hnb:d∉dh q.nb:=fun hm=>by
   obtain ⟨h1,h2⟩:=hq.nb d hm
   exact jl c4 (List.mem_append_left _ (by rw [if_pos h1];exact h2)) hd
  have hwb:d∉dh q.wb:=fun hm=>by
   obtain ⟨h1,h2⟩:=hq.wb d hm
   exact jl c4 (List.mem_append_right _ (by rw [if_pos h1];exact h2)) hd
  rw [if_neg hnb,mu hwb]
 ·simp only [bm.app]
  cases hp:q.hp with
  | none=>rfl
  | some x=>
   obtain ⟨h1,h2⟩:=hq.hp (by rw [hp];simp)
   rw [h1,h2,hh] at c7
   simp at c7
theorem Lh{p p':bI}{q q':bm}(hq:Small p q)(hq':Small p' q')(hc:uj p p'=true):MK q q':=by
 simp only [uj,Bool.and_eq_true,Bool.not_eq_true'] at hc
 obtain ⟨⟨⟨⟨⟨⟨c1,c2⟩,c3⟩,c4⟩,c5⟩,c6⟩,c7⟩:=hc
 have m1:∀ {p:bI}{q:bm}{d},Small p q→d∈dh q.nb→d∈HL p:=fun hq h=>by
  obtain ⟨h1,h2⟩:=hq.nb _ h
  exact List.mem_append_left _ (by rw [if_pos h1];exact h2)
 have m2:∀ {p:bI}{q:bm}{d},Small p q→d∈dh q.wb→d∈HL p:=fun hq h=>by
  obtain ⟨h1,h2⟩:=hq.wb _ h
  exact List.mem_append_right _ (by rw [if_pos h1];exact h2)
 refine ⟨fun d h h'=>jl c3 (hq.fr d h) (hq'.fr d h'),fun d h h'=>jl c6 (m1 hq h) (m1 hq' h'),fun d h h'=>jl c6 (m1 hq h) (m2 hq' h'),fun d h h'=>jl c6 (m2 hq h) (m1 hq' h'),fun d h h'=>jl c6 (m2 hq h) (m2 hq' h'),?_⟩
 cases h1:q.hp with
 | none=>exact .inl rfl
 | some x=>
  cases h2:q'.hp with
  | none=>exact .inr rfl
  | some y=>
   obtain ⟨h3,h4⟩:=hq.hp (by rw [h1];simp)
   obtain ⟨h5,h6⟩:=hq'.hp (by rw [h2];simp)
   rw [h3,h4,h6] at c7
   simp at c7
def lH(R:Rec)(Ω:cI)(E:Env)(gs:List bI):List Nat→St→St→Prop
 | [],s,t=>Se s t
 | i::π,s,t=>∃ p s1 s2,gs[i]? =some p∧Se s s1∧cN R Ω E s1 p=some s2∧lH R Ω E gs π s2 t
variable {gs:List bI}
theorem lH.se{π:List Nat}{s s' t:St}(h:lH R Ω E gs π s' t)(hs:Se s s'):lH R Ω E gs π s t:=by
 cases π with
 | nil=>exact Se.trans hs h
 | cons i π=>
  obtain ⟨p,s1,s2,h1,h2,h3,h4⟩:=h
  exact ⟨p,s1,s2,h1,hs.trans h2,h3,h4⟩
theorem lH.text:∀ (ps:List bI)(i:Nat)(s t:St),gs.drop i=ps→oy R Ω E s ps=some t→lH R Ω E gs (List.range' i ps.length) s t
 | [],i,s,t,_,he=>by
  obtain rfl:=Option.some.inj he
  exact Se.refl _
 | p::ps,i,s,t,hi,he=>by
  obtain ⟨s2,h1,h2⟩:=Option.bind_eq_some_iff.1 he
  rw [List.length_cons,List.range'_succ]
  refine ⟨p,s,s2,?_,Se.refl _,h1,lH.text ps (i+1) s2 t ?_ h2⟩
  ·have:(gs.drop i)[0]? =some p:=by rw [hi];rfl
   simpa using this
  ·rw [←List.drop_drop,hi];rfl
def IL(xs:List aP):List Nat:=xs.flatMap fun x=>match x with
 | .t n=>[n]
 | .c _=>[]
def Dc(sl dl:List Nat):lJ→Bool
 | .lk _ (.t _) (.t b) lv=>sl.contains b&&(!lv||dl.contains b)
 | _=>false
def IM:lJ→Bool
 | .ln false (.t _)=>true
 | _=>false
def Dd(ow:List Nat)(q:bI):Bool:=match q.p.o with
 | .al zs=>AV.b7 zs&&!q.vh&&(match q.p.d with
  | some d=>ow.contains d&&q.vb==[d]
  | none=>false)
 | _=>false
def sC(p q:bI):Bool:=match p.p.o with
 | .ch _ args sl dl ow=>!p.lt&&q.lt&&p.p.g.isNone&&q.p.g.isNone&&!eU q&&rM (wN q) (IL args++(sl++dl))&&rM (o7 p.p.d) (wN q++q.vw)&&(q.nb.contains 1000000||Dc sl dl q.p.o)&&(Dd ow q||Dc sl dl q.p.o||IM q.p.o||(!n7 q.p.o&&q.vb.isEmpty&&!q.vh))
 | _=>false
structure ek(p q:bI)(f:FuncId)(args:List aP)(sl dl ow:List Nat):Prop where
 o:p.p.o= .ch f args sl dl ow
 pl:p.lt=false
 ql:q.lt=true
 pg:p.p.g=none
 qg:q.p.g=none
 nw:eU q=false
 wr:∀ d,d∈wN q→d∉IL args∧d∉sl∧d∉dl
 ds:∀ d,p.p.d=some d→d∉wN q∧d∉q.vw
 nb:(1000000:Nat)∈q.nb∨Dc sl dl q.p.o=true
 kd:Dd ow q=true∨Dc sl dl q.p.o=true∨IM q.p.o=true∨(n7 q.p.o=false∧q.vb=[]∧q.vh=false)
theorem DJ{p q:bI}(h:sC p q=true):∃ f args sl dl ow,ek p q f args sl dl ow:=by
 unfold sC at h
 split at h
 ·rename_i f args sl dl ow ho
  simp only [Bool.and_eq_true,Bool.not_eq_true',Option.isNone_iff_eq_none,Bool.or_eq_true] at h
  obtain ⟨⟨⟨⟨⟨⟨⟨⟨h1,h2⟩,h3⟩,h4⟩,h5⟩,h6⟩,h7⟩,h8⟩,h9⟩:=h
  refine ⟨f,args,sl,dl,ow,ho,h1,h2,h3,h4,h5,fun d hd=>?_,fun d hd=>?_,h8.imp (fun h=>by simpa using h) id,?_⟩
  ·have:=jl h6 hd
   exact ⟨fun hm=>this (List.mem_append_left _ hm),fun hm=>this (List.mem_append_right _ (List.mem_append_left _ hm)),fun hm=>this (List.mem_append_right _ (List.mem_append_right _ hm))⟩
  ·have:d∈o7 p.p.d:=by rw [hd];simp [o7]
   have:=jl h7 this
   exact ⟨fun hm=>this (List.mem_append_left _ hm),fun hm=>this (List.mem_append_right _ hm)⟩
  ·rcases h9 with ((h9 | h9) | h9) | h9
   ·exact .inl h9
   ·exact .inr (.inl h9)
   ·exact .inr (.inr (.inl h9))
   ·exact .inr (.inr (.inr ⟨h9.1.1,by simpa using h9.1.2,h9.2⟩))
 ·cases h
theorem Bm{ow:List Nat}{q:bI}(h:Dd ow q=true):∃ zs d,q.p.o= .al zs∧q.p.d=some d∧AV.b7 zs=true∧d∈ow∧q.vb=[d]∧q.vh=false:=by
 unfold Dd at h
 split at h
 ·rename_i zs ho
  simp only [Bool.and_eq_true,Bool.not_eq_true'] at h
  obtain ⟨⟨h1,h2⟩,h3⟩:=h
  split at h3
  ·rename_i d hd
   simp only [Bool.and_eq_true,beq_iff_eq] at h3
   exact ⟨zs,d,ho,hd,h1,by simpa using h3.1,h3.2,h2⟩
  ·cases h3
 ·cases h
theorem IN{sl dl:List Nat}{o:lJ}(h:Dc sl dl o=true):∃ n m b lv,o= .lk n (.t m) (.t b) lv∧b∈sl∧(lv=true→b∈dl):=by
 unfold Dc at h
 split at h
 ·rename_i n m b lv
  simp only [Bool.and_eq_true,Bool.or_eq_true,Bool.not_eq_true'] at h
  refine ⟨n,m,b,lv,rfl,by simpa using h.1,fun hl=>?_⟩
  rcases h.2 with h' | h'
  ·rw [hl] at h';cases h'
  ·simpa using h'
 ·cases h
theorem MM{o:lJ}(h:IM o=true):∃ m,o= .ln false (.t m):=by
 unfold IM at h
 split at h
 ·exact ⟨_,rfl⟩
 ·cases h
theorem ek.Rn{p q:bI}{f:FuncId}{args:List aP}{sl dl ow:List Nat}(hb:ek p q f args sl dl ow)(ha:n7 q.p.o=true):Dd ow q=true:=by
 rcases hb.kd with h | h | h | h
 ·exact h
 ·obtain ⟨n,m,b,lv,e,_⟩:=IN h
  rw [e] at ha;cases ha
 ·obtain ⟨m,e⟩:=MM h
  rw [e] at ha;cases ha
 ·rw [h.1] at ha;cases ha
theorem Nl{z:Bool}{x:AV}{hid:Key→Bool}(h:iR hid x=false):iR hid (eh z x)=false:=by
 cases z with
 | false=>exact h
 | true=>cases x<;>first | exact h | rfl
theorem JU{hid:Key→Bool}{x:AV}(h:sF x=false):iR hid x=false:=by
 cases x with
 | r pl=>cases pl<;>first | rfl | cases h
 | v pl lo len=>cases pl<;>first | rfl | cases h
 | q pl i sz off=>cases pl<;>first | rfl | cases h
 | _=>rfl
theorem JV{hid:Key→Bool}{x:AV}(h:x.copy=true):iR hid x=false:=by
 cases x<;>first | rfl | cases h
theorem Li{fr:List (Nat×AV)}{d:Nat}(h:an fr d≠.u):∃ y∈fr,y.2=an fr d:=by
 induction fr with
 | nil=>exact absurd rfl h
 | cons y fr ih=>
  obtain ⟨k,x⟩:=y
  simp only [an] at h ⊢
  split
  ·exact ⟨(k,x),by simp,rfl⟩
  ·rename_i hne
   rw [if_neg hne] at h
   obtain ⟨z,hz,e⟩:=ih h
   exact ⟨z,List.mem_cons_of_mem _ hz,e⟩
structure o8(dp:Nat)(s:St)(sl dl ow:List Nat):Prop where
 sl:∀ m∈sl,∃ k,di dp s (an s.fr m) false=some k∧k.dp≤dp
 dl:∀ m∈dl,wV dp ow (an s.fr m)=false∧∃ k,di dp s (an s.fr m) true=some k∧k.dp≤dp
theorem o8.dp{dp:Nat}{s:St}{sl dl ow:List Nat}(h:o8 dp s sl dl ow){k:Key}(hk:eW dp s sl dl ow k=true):k.dp≤dp:=by
 unfold eW at hk
 simp only [Bool.or_eq_true,List.any_eq_true,Bool.and_eq_true,beq_iff_eq,decide_eq_true_eq] at hk
 rcases hk with (⟨n,hn,e⟩ | ⟨n,hn,_,e⟩) | ⟨e,_⟩
 ·obtain ⟨k',e',h'⟩:=h.sl n hn
  rw [e] at e';injection e' with e';subst e';exact h'
 ·obtain ⟨_,k',e',h'⟩:=h.dl n hn
  rw [e] at e';injection e' with e';subst e';exact h'
 ·omega
theorem Lj{dp:Nat}{v s:St}(hbx:∀ k cs,v.box dp k=some cs→s.box dp k=some cs){y:AV}{lv:Bool}{k:Key}(h:di dp v y lv=some k):di dp s y lv=some k:=by
 cases y<;>first | (simp [di] at h;done) | skip
 rename_i k' off
 cases lv with
 | false=>exact h
 | true=>
  simp only [di,if_true] at h ⊢
  split at h
  ·rename_i k2 o2 hc
   obtain ⟨cs,hb,hcs⟩:=Option.bind_eq_some_iff.1 hc
   simp only [hbx _ cs hb,Option.bind_some,hcs]
   exact h
  ·cases h
theorem HM(q:bI)(s:St)(n:Nat):an (view q s).fr n= .u∨an (view q s).fr n=an s.fr n:=wi s.fr q.vw n
theorem Nn(q:bI)(s:St)(dp:Nat)(k:Key)(cs:List AV)(h:(view q s).box dp k=some cs):s.box dp k=some cs:=by
 by_cases hk:k.dp=dp
 ·simp only [St.box,hk,if_true] at h ⊢
  exact b8 h
 ·simp only [St.box,if_neg hk,view] at h ⊢
  split at h
  ·exact h
  ·cases h
theorem Gv{dp:Nat}{q:bI}{s:St}{sl dl ow:List Nat}{b:Nat}{lv:Bool}{k:Key}(hs:o8 dp s sl dl ow)(hb:b∈sl)(hl:lv=true→b∈dl)(h:di dp (view q s) (an (view q s).fr b) lv=some k):eW dp s sl dl ow k=true:=by
 have h1:=Lj (Nn q s dp) h
 have h2:an (view q s).fr b=an s.fr b:=by
  rcases HM q s b with e | e
  ·rw [e] at h1;cases h1
  ·exact e
 rw [h2] at h1
 unfold eW
 simp only [Bool.or_eq_true,List.any_eq_true,Bool.and_eq_true,beq_iff_eq,Bool.not_eq_true']
 cases lv with
 | false=>exact .inl (.inl ⟨b,hb,h1⟩)
 | true=>exact .inl (.inr ⟨b,hl rfl,(hs.dl b (hl rfl)).1,h1⟩)
structure gw(q:bI)(qq:bm)(ow:List Nat):Prop where
 fr:∀ d,d∈dh qq.fr→d∈wN q
 nb:qq.nb=[]∨∃ d zs,qq.nb=[(d,zs)]∧AV.b7 zs=true∧d∈ow
 wb:qq.wb=[]
 hp:qq.hp=none
theorem xY{q:bI}{r:AV×St}(hnw:eU q=false)(hal:n7 q.p.o=false):effect q r=⟨fZ q.p.d (eh q.p.fz r.1)++q.cs.map (fun m=>(m,.u)),[],[],none⟩:=by
 unfold effect
 split
 ·rename_i zs ho;rw [ho] at hal;cases hal
 ·rename_i ho;simp [eU,n6,ho] at hnw
 ·rename_i ho
  have h2:(q.cs.length==2)=false:=by
   simp only [eU,iQ,ho,n6,Bool.false_or] at hnw
   exact hnw
  simp only [h2,Bool.false_and,Bool.false_eq_true,if_false]
 ·rfl
theorem ek.inv{p q:bI}{f:FuncId}{args:List aP}{sl dl ow:List Nat}(hb:ek p q f args sl dl ow){s:St}{qq:bm}(h:cM R Ω E q s=some qq):∃ r,execOp R Ω E (view q s) q.p.d q.p.o=some r∧okB E.dp q.nb r.1=true∧qq=effect q r:=by
 unfold cM at h
 rw [hb.qg] at h
 simp only at h
 unfold ib at h
 split at h
 ·obtain ⟨r,hr,h2⟩:=Option.bind_eq_some_iff.1 h
  split at h2
  ·rename_i hok
   exact ⟨r,hr,(Bool.and_eq_true_iff.1 hok).2,(Option.some.inj h2).symm⟩
  ·cases h2
 ·cases h
theorem ek.patch{p q:bI}{f:FuncId}{args:List aP}{sl dl ow:List Nat}(hb:ek p q f args sl dl ow){s:St}{qq:bm}(h:cM R Ω E q s=some qq):gw q qq ow:=by
 have hs:=q5 h
 obtain ⟨r,hr,hok,rfl⟩:=hb.inv h
 by_cases hal:n7 q.p.o=true
 ·obtain ⟨zs,dd,ho,hd,h1,h2,_⟩:=Bm (hb.Rn hal)
  have he:effect q r=⟨[(dd,r.1)],[(dd,zs)],[],none⟩:=by
   unfold effect
   rw [ho,hd]
  rw [he] at hs ⊢
  exact ⟨hs.fr,.inr ⟨dd,zs,rfl,h1,h2⟩,rfl,rfl⟩
 ·rw [xY hb.nw (by simpa using hal)] at hs ⊢
  exact ⟨hs.fr,.inl rfl,rfl,rfl⟩
theorem ek.plain{p q:bI}{f:FuncId}{args:List aP}{sl dl ow:List Nat}(hb:ek p q f args sl dl ow){s:St}{qq:bm}(hi:o8 E.dp s sl dl ow)(h:cM R Ω E q s=some qq):∀ y∈qq.fr,iR (eW E.dp s sl dl ow) y.2=false:=by
 obtain ⟨r,hr,hok,rfl⟩:=hb.inv h
 have hx:iR (eW E.dp s sl dl ow) r.1=false:=by
  rcases hb.nb with hn | hl
  ·unfold okB at hok
   have h4:=(Bool.and_eq_true_iff.1 hok).2
   have h5:q.nb.contains 1000000=true:=by simpa using hn
   rw [h5] at h4
   exact JU (by simpa using h4)
  ·obtain ⟨n,m,b,lv,e,hsl,hdl⟩:=IN hl
   rw [e] at hr
   simp only [execOp] at hr
   split at hr
   ·rename_i k off hk
    split at hr
    ·rename_i hev
     have hhid:=Gv hi hsl hdl hev
     obtain ⟨cs,_,hr1⟩:=Option.bind_eq_some_iff.1 hr
     obtain ⟨y,_,hr2⟩:=Option.bind_eq_some_iff.1 hr1
     split at hr2
     ·obtain rfl:=Option.some.inj hr2
      simp [iR,hhid]
     ·split at hr2
      ·rename_i hc
       obtain rfl:=Option.some.inj hr2
       exact JV hc
      ·cases hr2
    ·cases hr
   ·cases hr
 by_cases hal:n7 q.p.o=true
 ·obtain ⟨zs,dd,ho,hd,h1,h2,_⟩:=Bm (hb.Rn hal)
  have he:effect q r=⟨[(dd,r.1)],[(dd,zs)],[],none⟩:=by
   unfold effect
   rw [ho,hd]
  rw [he]
  intro y hy
  obtain rfl:y=(dd,r.1):=by simpa using hy
  exact hx
 ·rw [xY hb.nw (by simpa using hal)]
  intro y hy
  rcases List.mem_append.1 hy with hy | hy
  ·cases hd:q.p.d with
   | none=>rw [hd] at hy;cases hy
   | some dd=>
    rw [hd] at hy
    obtain rfl:y=(dd,eh q.p.fz r.1):=by simpa [fZ] using hy
    exact Nl hx
  ·obtain ⟨m,_,rfl⟩:=List.mem_map.1 hy
   rfl
theorem ek.W4{p q:bI}{f:FuncId}{args:List aP}{sl dl ow:List Nat}(hb:ek p q f args sl dl ow){s:St}{qq:bm}(h:cM R Ω E q s=some qq):∀ d∈dh qq.nb,az s.bx d=none:=by
 have hs:=q5 h
 intro d hd
 obtain ⟨h1,h2⟩:=hs.nb d hd
 obtain ⟨r,hr,_,_⟩:=hb.inv h
 obtain ⟨zs,dd,ho,hdd,_,_,hvb,_⟩:=Bm (hb.Rn h1)
 rw [hdd] at h2
 obtain rfl:d=dd:=by simpa [o7] using h2
 rw [ho] at hr
 simp only [execOp,hdd,Option.bind_some] at hr
 split at hr
 ·rename_i hc
  simp only [Bool.and_eq_true] at hc
  have h4:az (cg s.bx q.vb) d=none:=by simpa [view] using hc.1.1
  rwa [tP _ _ _ (by rw [hvb];simp)] at h4
 ·cases hr
structure q6(R:Rec)(E:Env)(s:St)(f:FuncId)(args:List AV)(sl dl ow:List Nat)(x:AV)(hp':HP):Prop where
 ro:E.ro=false
 copy:args.all AV.copy=true
 deep:∀ d cs,az s.bx d=some cs→AV.dB E.dp cs=true
 nb:∀ y∈s.fr,iR (eW E.dp s sl dl ow) y.2=false
 pt:o8 E.dp s sl dl ow
 run:R ⟨E.dp+1,false⟩ f args (wW E.dp s sl dl ow)=some (.ret x,hp')
 pure:x.pure=true
 post:∀ d cs,az (s.bL E.dp (cQ E.dp s sl dl ow hp')).bx d=some cs→d∈ow∨∀ h∈ow,AV.bY ⟨E.dp,h⟩ cs=true
theorem um{dp:Nat}{o:Option Key} : vE dp o=true↔∃ k,o=some k∧k.dp≤dp:=by
 cases o with
 | none=>simp [vE]
 | some k=>simp [vE]
theorem xZ{s:St}{f:FuncId}{args:List AV}{sl dl ow:List Nat}{r:AV×St}(h:sr R E s f args sl dl ow=some r):∃ hp',q6 R E s f args sl dl ow r.1 hp'∧r.2=s.bL E.dp (cQ E.dp s sl dl ow hp'):=by
 unfold sr at h
 split at h
 ·rename_i hc
  simp only [Bool.and_eq_true,Bool.not_eq_true'] at hc
  obtain ⟨⟨⟨⟨⟨h1,h2⟩,h3⟩,h4⟩,h5⟩,h6⟩:=hc
  obtain ⟨⟨q,hp'⟩,hq,he2⟩:=Option.bind_eq_some_iff.1 h
  cases q with
  | new cs=>cases he2
  | ret x=>?_
  simp only at he2
  split at he2
  ·rename_i hk
   obtain rfl:=Option.some.inj he2
   obtain ⟨hk1,hk2⟩:=Bool.and_eq_true_iff.1 hk
   refine ⟨hp',⟨h1,h2,rn.1 h3,fun n hn=>?_,⟨fun m hm=>um.1 (List.all_eq_true.1 h5 m hm),fun m hm=>?_⟩,hq,hk1,fun d cs hd=>?_⟩,rfl⟩
   ·simpa using List.all_eq_true.1 h4 n hn
   ·have:=List.all_eq_true.1 h6 m hm
    simp only [Bool.and_eq_true,Bool.not_eq_true'] at this
    exact ⟨this.1,um.1 this.2⟩
   ·have:=rn.1 hk2 d cs hd
    simpa using this
  ·cases he2
 ·cases h
theorem q6.mk'{s:St}{f:FuncId}{args:List AV}{sl dl ow:List Nat}{x:AV}{hp':HP}(h:q6 R E s f args sl dl ow x hp') :
  sr R E s f args sl dl ow=some (x,s.bL E.dp (cQ E.dp s sl dl ow hp')):=by
 unfold sr
 have h4':(s.fr.all fun y=>!iR (eW E.dp s sl dl ow) y.2)=true:=by
  rw [List.all_eq_true];intro n hn;rw [h.nb n hn];rfl
 have h5':sl.all (fun n=>vE E.dp (di E.dp s (an s.fr n) false))=true:=by
  rw [List.all_eq_true];intro m hm
  exact um.2 (h.pt.sl m hm)
 have h7':dl.all (fun n=>!wV E.dp ow (an s.fr n)&&vE E.dp (di E.dp s (an s.fr n) true))=true:=by
  rw [List.all_eq_true];intro m hm
  rw [(h.pt.dl m hm).1,um.2 (h.pt.dl m hm).2];rfl
 have h3':yf s.bx (fun _ cs=>AV.dB E.dp cs)=true:=rn.2 h.deep
 have h6':yf (s.bL E.dp (cQ E.dp s sl dl ow hp')).bx (fun d cs=>ow.contains d||ow.all fun h=>AV.bY ⟨E.dp,h⟩ cs)=true:=rn.2 fun d cs hd=>by
  have:=h.post d cs hd
  simpa using this
 rw [if_pos (by rw [h.ro,h.copy,h3',h4',h5',h7'];rfl),h.run]
 simp only [Option.bind_some]
 rw [if_pos (by rw [h.pure,h6'];rfl)]
theorem fX(dp:Nat)(hp':HP):∀ (bx:List (Nat×List AV))(d:Nat),az (kJ dp hp' bx) d=(az bx d).bind fun _=>hp' ⟨dp,d⟩
 | [],d=>rfl
 | (k,c)::r,d=>by
  simp only [kJ,az]
  by_cases h:k=d
  ·subst h
   simp only [if_true,Option.bind_some]
   cases hk:hp' ⟨dp,k⟩ with
   | some cs=>simp [az]
   | none=>
    simp only
    rw [fX dp hp' r k,hk]
    cases az r k<;>rfl
  ·rw [if_neg h]
   split
   ·simp only [az,if_neg h];exact fX dp hp' r d
   ·exact fX dp hp' r d
theorem Se.ev{s s':St}(h:Se s s')(xs:List aP):xs.map s.ev=xs.map s'.ev:=by
 apply List.map_congr_left
 intro x _
 cases x with
 | c z=>rfl
 | t n=>exact h.fr n
theorem Se.wO{s s':St}(h:Se s s')(dp:Nat)(y:AV)(lv:Bool):di dp s y lv=di dp s' y lv:=by
 unfold di
 simp only [h.box]
theorem Se.hid{s s':St}(h:Se s s')(dp:Nat)(sl dl ow:List Nat):eW dp s sl dl ow=eW dp s' sl dl ow:=by
 funext k
 unfold eW
 simp only [h.fr,h.wO]
theorem Se.Gw{s s':St}(h:Se s s')(dp:Nat)(sl dl ow:List Nat)(hp':HP):cQ dp s sl dl ow hp'=cQ dp s' sl dl ow hp':=by
 funext k
 unfold cQ
 rw [h.hid,h.box]
theorem Se.MN{s s':St}(h:Se s s')(dp:Nat)(sl dl ow:List Nat):wW dp s sl dl ow=wW dp s' sl dl ow:=by
 funext k
 unfold wW
 rw [h.hid,h.box]
theorem Se.bL{s s':St}(h:Se s s')(dp:Nat)(hp':HP):Se (s.bL dp hp') (s'.bL dp hp'):=
 ⟨h.fr,fun d=>by simp only [St.bL,fX,h.bx],rfl,h.mem⟩
theorem Se.put{s s':St}(h:Se s s')(d:Option Nat)(x:AV):Se (put s d x) (A.put s' d x):=by
 cases d with
 | none=>exact h
 | some d=>exact ⟨fun n=>by simp only [A.put,St.b5,an];split<;>first | rfl | exact h.fr n,h.bx,h.hp,fun y=>by simp only [A.put,St.b5,List.mem_cons,h.mem y]⟩
theorem o8.se{dp:Nat}{s s':St}{sl dl ow:List Nat}(h:o8 dp s sl dl ow)(hs:Se s s'):o8 dp s' sl dl ow:=
 ⟨fun m hm=>by rw [←hs.fr,←hs.wO];exact h.sl m hm,fun m hm=>by rw [←hs.fr,←hs.wO];exact h.dl m hm⟩
theorem q6.se{s s':St}{f:FuncId}{args:List AV}{sl dl ow:List Nat}{x:AV}{hp':HP}(h:q6 R E s f args sl dl ow x hp')(hs:Se s s'):q6 R E s' f args sl dl ow x hp':=
 ⟨h.ro,h.copy,fun d cs hd=>h.deep d cs (by rw [hs.bx];exact hd),fun y hy=>by rw [←hs.hid];exact h.nb y ((hs.mem y).2 hy),h.pt.se hs,by rw [←hs.MN];exact h.run,h.pure,
  fun d cs hd=>h.post d cs (by rw [(hs.bL _ _).bx,hs.Gw];exact hd)⟩
theorem HN{s s':St}{xs:List aP}(h:∀ n∈IL xs,an s'.fr n=an s.fr n):xs.map s'.ev=xs.map s.ev:=by
 apply List.map_congr_left
 intro x hx
 cases x with
 | c z=>rfl
 | t n=>exact h n (List.mem_flatMap.2 ⟨_,hx,by simp⟩)
section
variable {p q:bI}{f:FuncId}{args:List aP}{sl dl ow:List Nat}{qq:bm}{s:St}
theorem gw.zc(hq:gw q qq ow)(hb:ek p q f args sl dl ow){n:Nat}(hn:n∈IL args∨n∈sl∨n∈dl):an (qq.app s).fr n=an s.fr n:=by
 simp only [bm.app,fW]
 rw [if_neg]
 intro hm
 have:=hb.wr n (hq.fr n hm)
 rcases hn with h | h | h
 ·exact this.1 h
 ·exact this.2.1 h
 ·exact this.2.2 h
theorem gw.box(hq:gw q qq ow){dp:Nat}{k:Key}(hk:∀ d,k=⟨dp,d⟩→d∉ow):(qq.app s).box dp k=s.box dp k:=by
 unfold St.box
 split
 ·rename_i hd
  simp only [bm.app,hq.wb,pB]
  rcases hq.nb with e | ⟨d,zs,e,_,h2⟩
  ·rw [e];rfl
  ·rw [e]
   have:d≠k.d:=fun e'=>hk k.d (by rw [←hd]) (e'▸h2)
   simp [az,this]
 ·simp only [bm.app,hq.hp,Option.getD_none]
theorem gw.wO(hq:gw q qq ow){dp:Nat}{y:AV}{lv:Bool}(h:lv=true→wV dp ow y=false):di dp (qq.app s) y lv=di dp s y lv:=by
 cases lv with
 | false=>cases y<;>rfl
 | true=>
  have h:=h rfl
  cases y<;>first | rfl | skip
  rename_i k off
  simp only [di,if_true]
  rw [hq.box fun d e hd=>by subst e;simp [wV,hd] at h]
theorem gw.hid(hq:gw q qq ow)(hb:ek p q f args sl dl ow)(dp:Nat):eW dp (qq.app s) sl dl ow=eW dp s sl dl ow:=by
 funext k
 unfold eW
 have h1:(sl.any fun n=>di dp (qq.app s) (an (qq.app s).fr n) false==some k)=(sl.any fun n=>di dp s (an s.fr n) false==some k):=by
  rw [Bool.eq_iff_iff,List.any_eq_true,List.any_eq_true]
  constructor
  ·rintro ⟨n,hn,h⟩;exact ⟨n,hn,by rwa [hq.zc hb (.inr (.inl hn)),hq.wO (fun h=>by cases h)] at h⟩
  ·rintro ⟨n,hn,h⟩;exact ⟨n,hn,by rwa [hq.zc hb (.inr (.inl hn)),hq.wO (fun h=>by cases h)]⟩
 have h2:(dl.any fun n=>!wV dp ow (an (qq.app s).fr n)&&di dp (qq.app s) (an (qq.app s).fr n) true==some k)=(dl.any fun n=>!wV dp ow (an s.fr n)&&di dp s (an s.fr n) true==some k):=by
  rw [Bool.eq_iff_iff,List.any_eq_true,List.any_eq_true]
  simp only [Bool.and_eq_true,Bool.not_eq_true']
  constructor
  ·rintro ⟨n,hn,h0,h⟩
   rw [hq.zc hb (.inr (.inr hn))] at h0 h
   exact ⟨n,hn,h0,by rwa [hq.wO (fun _=>h0)] at h⟩
  ·rintro ⟨n,hn,h0,h⟩
   rw [←hq.zc (s:=s) hb (.inr (.inr hn))] at h0 h
   exact ⟨n,hn,h0,by rwa [hq.wO (fun _=>h0)]⟩
 rw [h1,h2]
theorem yB{dp:Nat}{d:Nat}(h:d∈ow):eW dp s sl dl ow ⟨dp,d⟩=true:=by
 simp [eW,h]
theorem gw.MN(hq:gw q qq ow)(hb:ek p q f args sl dl ow)(dp:Nat):wW dp (qq.app s) sl dl ow=wW dp s sl dl ow:=by
 funext k
 unfold wW
 rw [hq.hid hb]
 split
 ·rfl
 ·rename_i hn
  exact hq.box fun d e hd=>hn (by rw [e];exact yB hd)
theorem gw.Gw(hq:gw q qq ow)(hb:ek p q f args sl dl ow){dp:Nat}{hp':HP}{k:Key}(hk:∀ d,k=⟨dp,d⟩→d∉ow):cQ dp (qq.app s) sl dl ow hp' k=cQ dp s sl dl ow hp' k:=by
 unfold cQ
 rw [hq.hid hb,hq.box hk]
theorem Lk{dp:Nat}{hp':HP}{d:Nat}(h:d∈ow):cQ dp s sl dl ow hp' ⟨dp,d⟩=az s.bx d:=by
 unfold cQ
 rw [if_pos (yB h)]
 simp [St.box]
theorem vz(hq:gw q qq ow):(qq.app s).bx=qq.nb++s.bx:=by simp only [bm.app,hq.wb,pB]
theorem gw.YZ(hq:gw q qq ow){d:Nat}(h:d∉ow):az (qq.app s).bx d=az s.bx d:=by
 rw [vz hq]
 rcases hq.nb with e | ⟨d',zs,e,_,h2⟩
 ·rw [e];rfl
 ·rw [e]
  have:d'≠d:=fun e'=>h (e'▸h2)
  simp [az,this]
theorem gw.bxI(hq:gw q qq ow){d:Nat}{cs:List AV}(h:az (qq.app s).bx d=some cs):az s.bx d=some cs∨AV.b7 cs=true:=by
 rw [vz hq] at h
 rcases hq.nb with e | ⟨d',zs,e,hz,_⟩
 ·rw [e] at h;exact .inl h
 ·rw [e] at h
  simp only [List.cons_append,List.nil_append,az] at h
  split at h
  ·obtain rfl:=Option.some.inj h;exact .inr hz
  ·exact .inl h
theorem o8.app(h:o8 E.dp s sl dl ow)(hq:gw q qq ow)(hb:ek p q f args sl dl ow):o8 E.dp (qq.app s) sl dl ow:=
 ⟨fun m hm=>by rw [hq.zc hb (.inr (.inl hm)),hq.wO (fun h=>by cases h)];exact h.sl m hm,
  fun m hm=>by
   have h1:=h.dl m hm
   rw [hq.zc hb (.inr (.inr hm)),hq.wO (fun _=>h1.1)];exact h1⟩
theorem o8.W5(h:o8 E.dp (qq.app s) sl dl ow)(hq:gw q qq ow)(hb:ek p q f args sl dl ow):o8 E.dp s sl dl ow:=
 ⟨fun m hm=>by
   have h1:=h.sl m hm
   rwa [hq.zc hb (.inr (.inl hm)),hq.wO (fun h=>by cases h)] at h1,
  fun m hm=>by
   have h1:=h.dl m hm
   rw [hq.zc hb (.inr (.inr hm))] at h1
   rwa [hq.wO (fun _=>h1.1)] at h1⟩
theorem gw.call(hq:gw q qq ow)(hb:ek p q f args sl dl ow)(hpl:∀ y∈qq.fr,iR (eW E.dp s sl dl ow) y.2=false){vals:List AV}{x:AV}{hp':HP}(h:q6 R E s f vals sl dl ow x hp'):q6 R E (qq.app s) f vals sl dl ow x hp':=by
 refine ⟨h.ro,h.copy,fun d cs hd=>?_,fun y hy=>?_,h.pt.app hq hb,by rw [hq.MN hb];exact h.run,h.pure,fun d cs hd=>?_⟩
 ·rcases hq.bxI hd with h1 | h1
  ·exact h.deep d cs h1
  ·exact n8 _ h1
 ·rw [hq.hid hb]
  rcases List.mem_append.1 (show y∈qq.fr++s.fr from hy) with h1 | h1
  ·exact hpl y h1
  ·exact h.nb y h1
 ·by_cases ho:d∈ow
  ·exact .inl ho
  ·refine h.post d cs ?_
   simp only [St.bL,fX,hq.YZ ho] at hd ⊢
   rwa [hq.Gw hb fun d' e=>by injection e with _ e;subst e;exact ho] at hd
theorem gw.Ro(hq:gw q qq ow)(hb:ek p q f args sl dl ow){vals:List AV}{x:AV}{hp':HP}(hno:∀ d∈dh qq.nb,az s.bx d=none)(h:q6 R E (qq.app s) f vals sl dl ow x hp'):q6 R E s f vals sl dl ow x hp':=by
 refine ⟨h.ro,h.copy,fun d cs hd=>?_,fun y hy=>?_,h.pt.W5 hq hb,by rw [←hq.MN hb];exact h.run,h.pure,fun d cs hd=>?_⟩
 ·refine h.deep d cs ?_
  rw [vz hq,lu,if_neg fun hm=>?_]
  ·exact hd
  ·rw [hno d hm] at hd;cases hd
 ·rw [←hq.hid hb]
  exact h.nb y (show y∈qq.fr++s.fr from List.mem_append_right _ hy)
 ·by_cases ho:d∈ow
  ·exact .inl ho
  ·refine h.post d cs ?_
   simp only [St.bL,fX,hq.YZ ho] at hd ⊢
   rwa [hq.Gw hb fun d' e=>by injection e with _ e;subst e;exact ho]
theorem gw.comm(hq:gw q qq ow)(hb:ek p q f args sl dl ow){x:AV}{hp':HP} : Se (qq.app (put (s.bL E.dp (cQ E.dp s sl dl ow hp')) p.p.d x)) (put ((qq.app s).bL E.dp (cQ E.dp (qq.app s) sl dl ow hp')) p.p.d x):=by
 have hbx:∀ d,az (qq.nb++pB (s.bL E.dp (cQ E.dp s sl dl ow hp')).bx qq.wb) d=az ((qq.app s).bL E.dp (cQ E.dp (qq.app s) sl dl ow hp')).bx d:=by
  intro d
  simp only [St.bL,vz hq,hq.wb,pB,lu,fX]
  by_cases hd:d∈dh qq.nb
  ·rw [if_pos hd,if_pos hd]
   rcases hq.nb with e | ⟨d',zs,e,_,ho⟩
   ·rw [e] at hd;simp [dh] at hd
   ·rw [e] at hd ⊢
    simp only [dh,List.map_cons,List.map_nil,List.mem_singleton] at hd
    subst hd
    rw [Lk (s:=qq.app s) ho,vz hq,e]
    simp [az]
  ·rw [if_neg hd,if_neg hd]
   by_cases ho:d∈ow
   ·rw [Lk (s:=qq.app s) ho,Lk (s:=s) ho,vz hq,lu,if_neg hd]
   ·rw [hq.Gw hb fun d' e=>by injection e with _ e;subst e;exact ho]
 have hhp:(s.bL E.dp (cQ E.dp s sl dl ow hp')).hp=((qq.app s).bL E.dp (cQ E.dp (qq.app s) sl dl ow hp')).hp:=by
  simp only [St.bL]
  funext k
  split
  ·rename_i hlt
   rw [hq.Gw hb fun d e=>by subst e;exact absurd hlt (Nat.lt_irrefl _)]
  ·rfl
 cases hd:p.p.d with
 | none=>
  refine ⟨fun n=>rfl,hbx,?_,fun y=>Iff.rfl⟩
  show qq.hp.getD _=_
  rw [hq.hp];exact hhp
 | some dd=>
  have hdd:dd∉dh qq.fr:=fun hm=>(hb.ds dd hd).1 (hq.fr dd hm)
  refine ⟨fun n=>?_,hbx,?_,fun y=>?_⟩
  ·show an (qq.fr++(dd,x)::s.fr) n=an ((dd,x)::(qq.fr++s.fr)) n
   simp only [fW,an]
   by_cases hn:dd=n
   ·subst hn;simp [hdd]
   ·simp only [if_neg hn]
  ·show qq.hp.getD _=_
   rw [hq.hp];exact hhp
  ·show y∈qq.fr++(dd,x)::s.fr↔y∈(dd,x)::(qq.fr++s.fr)
   simp only [List.mem_append,List.mem_cons]
   constructor
   ·rintro (h | h | h)
    ·exact .inr (.inl h)
    ·exact .inl h
    ·exact .inr (.inr h)
   ·rintro (h | h | h)
    ·exact .inr (.inl h)
    ·exact .inl h
    ·exact .inr (.inr h)
theorem ek.Gt(hb:ek p q f args sl dl ow){x:AV}{hp':HP}(hnb:∀ y∈s.fr,iR (eW E.dp s sl dl ow) y.2=false)(hpt:o8 E.dp s sl dl ow) :
  cM R Ω E q (put (s.bL E.dp (cQ E.dp s sl dl ow hp')) p.p.d x)=cM R Ω E q s:=by
 have hkf:hZ (put (s.bL E.dp (cQ E.dp s sl dl ow hp')) p.p.d x).fr q.vw=hZ s.fr q.vw:=by
  apply zb
  intro n hn
  cases hd:p.p.d with
  | none=>rfl
  | some dd=>
   have:dd≠n:=fun e=>(hb.ds dd hd).2 (e▸hn)
   simp only [put,St.b5,an,if_neg this]
   rfl
 have hbx2:(put (s.bL E.dp (cQ E.dp s sl dl ow hp')) p.p.d x).bx=(s.bL E.dp (cQ E.dp s sl dl ow hp')).bx:=by cases p.p.d<;>rfl
 have hp2:(put (s.bL E.dp (cQ E.dp s sl dl ow hp')) p.p.d x).hp=(s.bL E.dp (cQ E.dp s sl dl ow hp')).hp:=by cases p.p.d<;>rfl
 have hbo:∀ d,eW E.dp s sl dl ow ⟨E.dp,d⟩=true→az (put (s.bL E.dp (cQ E.dp s sl dl ow hp')) p.p.d x).bx d=az s.bx d:=by
  intro d hd
  rw [hbx2]
  simp only [St.bL,fX]
  have:cQ E.dp s sl dl ow hp' ⟨E.dp,d⟩=az s.bx d:=by
   unfold cQ
   rw [if_pos hd]
   simp [St.box]
  rw [this]
  cases az s.bx d<;>rfl
 have hvfr:(view q (put (s.bL E.dp (cQ E.dp s sl dl ow hp')) p.p.d x)).fr=(view q s).fr:=hkf
 have hvb:∀ k,eW E.dp s sl dl ow k=true→(view q (put (s.bL E.dp (cQ E.dp s sl dl ow hp')) p.p.d x)).box E.dp k=(view q s).box E.dp k:=by
  intro k hk
  obtain ⟨kd,ke⟩:=k
  by_cases hkd:kd=E.dp
  ·subst hkd
   show (if E.dp=E.dp then az (cg _ q.vb) ke else _)=(if E.dp=E.dp then az (cg _ q.vb) ke else _)
   rw [if_pos rfl,if_pos rfl]
   have:∀ ks,az (cg (put (s.bL E.dp (cQ E.dp s sl dl ow hp')) p.p.d x).bx ks) ke=az (cg s.bx ks) ke:=by
    intro ks
    by_cases hm:ke∈ks
    ·rw [tP _ _ _ hm,tP _ _ _ hm,hbo ke hk]
    ·have h1:∀ bx:List (Nat×List AV),az (cg bx ks) ke=none:=fun bx=>mu fun h=>hm (uk bx ks h)
     rw [h1,h1]
   exact this q.vb
  ·have hlt:kd<E.dp:=by have:(⟨kd,ke⟩:Key).dp≤E.dp:=hpt.dp hk;simp only at this;omega
   show (if kd=E.dp then _ else (view q (put (s.bL E.dp (cQ E.dp s sl dl ow hp')) p.p.d x)).hp ⟨kd,ke⟩)=(if kd=E.dp then _ else (view q s).hp ⟨kd,ke⟩)
   rw [if_neg hkd,if_neg hkd]
   simp only [view]
   split
   ·rw [hp2]
    simp only [St.bL]
    rw [if_pos hlt]
    unfold cQ
    rw [if_pos hk]
    simp [St.box,hkd]
   ·rfl
 have hkey:(Dd ow q=true∨(n7 q.p.o=false∧q.vb=[]∧q.vh=false))∨∃ g:Option AV,(execOp R Ω E (view q s) q.p.d q.p.o=g.map fun y=>(y,view q s))∧(execOp R Ω E (view q (put (s.bL E.dp (cQ E.dp s sl dl ow hp')) p.p.d x)) q.p.d q.p.o=g.map fun y=>(y,view q (put (s.bL E.dp (cQ E.dp s sl dl ow hp')) p.p.d x)))∧n7 q.p.o=false∧(∀ v,gx v q.p.o=true)∧∀ v,kj E.dp q v=true:=by
  rcases hb.kd with h | h | h | h
  ·exact .inl (.inl h)
  ·right
   obtain ⟨n,m,b,lv,ho,hsl,hdl⟩:=IN h
   have e1:∀ n,(view q (put (s.bL E.dp (cQ E.dp s sl dl ow hp')) p.p.d x)).ev (.t n)=(view q s).ev (.t n):=fun n=>by show an _ n=an _ n;rw [hvfr]
   have e2:di E.dp (view q (put (s.bL E.dp (cQ E.dp s sl dl ow hp')) p.p.d x)) ((view q s).ev (.t b)) lv=di E.dp (view q s) ((view q s).ev (.t b)) lv:=by
    cases lv with
    | false=>unfold di;cases (view q s).ev (.t b)<;>rfl
    | true=>
     cases hy:(view q s).ev (.t b)<;>first | rfl | skip
     rename_i k' off'
     have hk':eW E.dp s sl dl ow k'=true:=Gv (q:=q) (lv:=false) hpt hsl (fun h=>by cases h) (by
      show di E.dp (view q s) ((view q s).ev (.t b)) false=some k'
      rw [hy];rfl)
     simp only [di,if_true,hvb k' hk']
   have e3:n7 q.p.o=false∧(∀ v,gx v q.p.o=true)∧∀ v,kj E.dp q v=true:=⟨by rw [ho];rfl,fun v=>by rw [ho];rfl,fun v=>by unfold kj;rw [ho]⟩
   by_cases hA:∃ k off,(view q s).ev (.t m)= .p k off∧di E.dp (view q s) ((view q s).ev (.t b)) lv=some k
   ·obtain ⟨k,off,hA,hev⟩:=hA
    have hk:=Gv (q:=q) hpt hsl hdl hev
    refine ⟨((view q s).box E.dp k).bind fun cs=>(pick n off cs).bind fun y=>match y with
     | .o _ _=>some (.r (.c k off))
     | y=>if y.copy then some y else none,?_,?_,e3⟩
    ·rw [ho]
     simp only [execOp,hA,if_pos hev]
     cases (view q s).box E.dp k with
     | none=>rfl
     | some cs=>
      simp only [Option.bind_some]
      cases pick n off cs with
      | none=>rfl
      | some y=>
       simp only [Option.bind_some]
       cases y<;>simp only []<;>first | rfl | (split<;>rfl)
    ·rw [ho]
     simp only [execOp,e1,hA,e2,if_pos hev,hvb k hk]
     cases (view q s).box E.dp k with
     | none=>rfl
     | some cs=>
      simp only [Option.bind_some]
      cases pick n off cs with
      | none=>rfl
      | some y=>
       simp only [Option.bind_some]
       cases y<;>simp only []<;>first | rfl | (split<;>rfl)
   ·refine ⟨none,?_,?_,e3⟩
    ·rw [ho]
     simp only [execOp]
     split
     ·rename_i k off hx
      rw [if_neg fun hev=>hA ⟨k,off,hx,hev⟩];rfl
     ·rfl
    ·rw [ho]
     simp only [execOp,e1,e2]
     split
     ·rename_i k off hx
      rw [if_neg fun hev=>hA ⟨k,off,hx,hev⟩];rfl
     ·rfl
  ·right
   obtain ⟨m,ho⟩:=MM h
   have e1:(view q (put (s.bL E.dp (cQ E.dp s sl dl ow hp')) p.p.d x)).ev (.t m)=(view q s).ev (.t m):=by show an _ m=an _ m;rw [hvfr]
   have hrow:∀ pl,iR (eW E.dp s sl dl ow) (.r pl)=false→(view q (put (s.bL E.dp (cQ E.dp s sl dl ow hp')) p.p.d x)).rowAt E.dp pl=(view q s).rowAt E.dp pl:=by
    intro pl hpl
    cases pl with
    | s d'=>simp only [St.rowAt,hvfr]
    | c k off=>
     have hk:eW E.dp s sl dl ow k=true:=by simpa [iR] using hpl
     simp only [St.rowAt,hvb k hk]
   have hbv:iR (eW E.dp s sl dl ow) ((view q s).ev (.t m))=false:=by
    show iR _ (an (view q s).fr m)=false
    rcases HM q s m with e | e
    ·rw [e];rfl
    ·rw [e]
     by_cases hu:an s.fr m= .u
     ·rw [hu];rfl
     ·obtain ⟨y,hy,e'⟩:=Li hu
      rw [←e'];exact hnb y hy
   have hel:(view q (put (s.bL E.dp (cQ E.dp s sl dl ow hp')) p.p.d x)).elems E.dp ((view q s).ev (.t m))=(view q s).elems E.dp ((view q s).ev (.t m)):=by
    cases hy:(view q s).ev (.t m) with
    | r pl=>rw [hy] at hbv;exact hrow pl hbv
    | v pl lo len=>
     rw [hy] at hbv
     have:iR (eW E.dp s sl dl ow) (.r pl)=false:=by cases pl<;>exact hbv
     simp only [St.elems,hrow pl this]
    | _=>rfl
   refine ⟨(match (view q s).ev (.t m) with
    | .s _=>none
    | y=>((view q s).elems E.dp y).bind fun r=>some (.i .i64 r.2.length)),?_,?_,by rw [ho];rfl,fun v=>by rw [ho];rfl,fun v=>by unfold kj;rw [ho]⟩
   ·rw [ho]
    simp only [execOp]
    cases (view q s).ev (.t m)<;>simp only []<;>first | rfl | (simp only [Bool.false_eq_true,if_false];cases (view q s).elems E.dp _<;>rfl)
   ·rw [ho]
    simp only [execOp,e1]
    cases hy:(view q s).ev (.t m)<;>rw [hy] at hel<;>simp only []<;>first | rfl | (simp only [Bool.false_eq_true,if_false,hel];cases (view q s).elems E.dp _<;>rfl)
  ·exact .inl (.inr h)
 rcases hkey with h | ⟨g,h1,h2,h3,h4,h5⟩
 ·refine Gs.patch ⟨fun d hd=>?_,fun d hd=>?_,fun hv=>?_⟩
  ·have hd':d∈q.vw:=by
    have h2:=hd
    unfold ML Rm at h2
    rw [hb.qg] at h2
    simpa using h2
   have:=congrArg (fun l=>an l d) hkf
   simpa only [Dm _ _ _ hd'] using this
  ·rcases h with h | h
   ·obtain ⟨zs,dd,_,_,_,hdo,hvb',_⟩:=Bm h
    rw [hvb'] at hd
    obtain rfl:d=dd:=by simpa using hd
    exact hbo d (yB hdo)
   ·rw [h.2.1] at hd;cases hd
  ·rcases h with h | h
   ·obtain ⟨_,_,_,_,_,_,_,hvh⟩:=Bm h
    rw [hvh] at hv;cases hv
   ·rw [h.2.2] at hv;cases hv
 ·unfold cM ib
  rw [hb.qg]
  simp only [h1,h2,h4,h5]
  cases g with
  | none=>rfl
  | some y=>simp only [Option.map_some,Option.bind_some,xY hb.nw h3]
end
def IP(gs:List bI)(i j:Nat):Prop:=∃ p q,gs[i]? =some p∧gs[j]? =some q∧((p.lt=true∧q.lt=true∧uj p q=true)∨sC p q=true∨sC q p=true)
theorem lH.swap{i j:Nat}{π:List Nat}{s t:St}(hf:IP gs i j)(h:lH R Ω E gs (i::j::π) s t):lH R Ω E gs (j::i::π) s t:=by
 obtain ⟨p,q,hp,hq,hcase⟩:=hf
 obtain ⟨p',s1,s2,h1,h2,h3,q',s3,s4,h4,h5,h6,h7⟩:=h
 obtain rfl:p=p':=by rw [hp] at h1;exact Option.some.inj h1
 obtain rfl:q=q':=by rw [hq] at h4;exact Option.some.inj h4
 rcases hcase with ⟨hpl,hql,hc⟩ | hc | hc
 rotate_left
 ·
  obtain ⟨f,args,sl,vs,ow,hb⟩:=DJ hc
  simp only [cN,hb.pl,Bool.false_eq_true,if_false,fu,hb.pg,hb.o,execOp] at h3
  obtain ⟨⟨x,s2'⟩,hcall,he⟩:=Option.bind_eq_some_iff.1 h3
  obtain rfl:=Option.some.inj he
  simp only [cN,if_pos hb.ql] at h6
  obtain ⟨qq,hqq,he'⟩:=Option.bind_eq_some_iff.1 h6
  obtain rfl:=Option.some.inj he'
  have hP:=hb.patch hqq
  obtain ⟨hp',hC,e2⟩:=xZ hcall
  simp only at e2 hC
  subst e2
  have hqq1:cM R Ω E q s1=some qq:=by
   rw [←hb.Gt (x:=eh p.p.fz x) (hp':=hp') hC.nb hC.pt,(Se.Gt h5).patch];exact hqq
  have hev:=HN (s:=s1) (s':=qq.app s1) (xs:=args) fun n hn=>hP.zc hb (.inl hn)
  have hcall':=(hP.call hb (hb.plain hC.pt hqq1) hC).mk'
  rw [←hev] at hcall'
  refine ⟨q,s1,qq.app s1,hq,h2,by simp only [cN,if_pos hb.ql,hqq1,Option.bind_some],p,qq.app s1,_,hp,Se.refl _,by simp only [cN,hb.pl,Bool.false_eq_true,if_false,fu,hb.pg,hb.o,execOp,hcall',Option.bind_some];rfl,?_⟩
  exact h7.se (Se.trans (hP.comm hb).symm (h5.app qq))
 ·
  obtain ⟨f,args,sl,vs,ow,hb⟩:=DJ hc
  simp only [cN,if_pos hb.ql] at h3
  obtain ⟨qq,hqq,he'⟩:=Option.bind_eq_some_iff.1 h3
  obtain rfl:=Option.some.inj he'
  simp only [cN,hb.pl,Bool.false_eq_true,if_false,fu,hb.pg,hb.o,execOp] at h6
  obtain ⟨⟨x,s4'⟩,hcall,he⟩:=Option.bind_eq_some_iff.1 h6
  obtain rfl:=Option.some.inj he
  have hP:=hb.patch hqq
  obtain ⟨hp',hC,e2⟩:=xZ hcall
  simp only at e2 hC
  subst e2
  have hev:=HN (s:=s1) (s':=qq.app s1) (xs:=args) fun n hn=>hP.zc hb (.inl hn)
  have hC1:=hC.se h5.symm
  rw [←h5.ev,hev] at hC1
  have hC2:=hP.Ro hb (hb.W4 hqq) hC1
  have hcall':=hC2.mk'
  have hqq1:cM R Ω E p (put (s1.bL E.dp (cQ E.dp s1 sl vs ow hp')) q.p.d (eh q.p.fz x))=some qq:=by
   rw [hb.Gt hC2.nb hC2.pt];exact hqq
  refine ⟨q,s1,_,hq,h2,by simp only [cN,hb.pl,Bool.false_eq_true,if_false,fu,hb.pg,hb.o,execOp,hcall',Option.bind_some];rfl,p,_,_,hp,Se.refl _,by simp only [cN,if_pos hb.ql,hqq1,Option.bind_some];rfl,?_⟩
  refine h7.se (Se.trans (hP.comm hb) ?_)
  refine Se.put ?_ _ _
  rw [←h5.Gw]
  exact h5.bL _ _
 simp only [cN,if_pos hpl] at h3
 simp only [cN,if_pos hql] at h6
 obtain ⟨pp,hpp,he⟩:=Option.bind_eq_some_iff.1 h3
 obtain rfl:=Option.some.inj he
 obtain ⟨qq,hqq,he'⟩:=Option.bind_eq_some_iff.1 h6
 obtain rfl:=Option.some.inj he'
 have hc':uj q p=true:=by
  simp only [uj,Bool.and_eq_true,Bool.not_eq_true'] at hc ⊢
  obtain ⟨⟨⟨⟨⟨⟨c1,c2⟩,c3⟩,c4⟩,c5⟩,c6⟩,c7⟩:=hc
  have hsym:∀ l m,rM l m=true→rM m l=true:=fun l m h=>by
   unfold rM
   rw [List.all_eq_true]
   intro x hx
   have:x∉l:=fun hl=>jl h hl hx
   simpa using this
  refine ⟨⟨⟨⟨⟨⟨c2,c1⟩,hsym _ _ c3⟩,c5⟩,c4⟩,hsym _ _ c6⟩,?_⟩
  revert c7
  cases eU p<;>cases eU q<;>cases p.vh<;>cases q.vh<;>simp
 have sp:=q5 hpp
 have sq:=q5 hqq
 have e1:cM R Ω E q s1=some qq:=by
  rw [←hqq]
  exact ((Gu sp hc).patch.symm.trans (Se.Gt h5).patch)
 have e2:cM R Ω E p (qq.app s1)=some pp:=by
  rw [←hpp]
  exact (Gu sq hc').patch
 refine ⟨q,s1,qq.app s1,hq,h2,by simp only [cN,if_pos hql,e1,Option.bind_some],p,qq.app s1,pp.app (qq.app s1),hp,Se.refl _,by simp only [cN,if_pos hpl,e2,Option.bind_some],?_⟩
 exact h7.se ((Lg (Lh sp sq hc) s1).trans (h5.app qq))
theorem lH.front{i:Nat}{B:List Nat}{t:St} : ∀ (A:List Nat)(s:St),(∀ a∈A,IP gs a i)→lH R Ω E gs (A++i::B) s t→lH R Ω E gs (i::(A++B)) s t
 | [],_,_,h=>h
 | a::A,s,hf,h=>by
  obtain ⟨p,s1,s2,h1,h2,h3,h4⟩:=h
  exact lH.swap (hf a (by simp)) ⟨p,s1,s2,h1,h2,h3,lH.front A s2 (fun b hb=>hf b (by simp [hb])) h4⟩
end
end Go.Proofs.YtogbakbmphadfaaGreatDoor.A
