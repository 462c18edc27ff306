/- Regions whose order is drawn: whatever the order, what the order of the text gives. -/
import Derived.Test.YtndeklbmglgonaaGreatAbsI
import Derived.Orders
set_option linter.unusedSectionVars false
set_option linter.unusedVariables false
set_option linter.unusedSimpArgs false
set_option linter.constructorNameAsVariable false
namespace Go.Proofs.YtndeklbmglgonaaGreat.A
open Go
variable [bR]
structure Se(s s':St):Prop where
 fr:∀ d,aC s.fr d=aC s'.fr d
 bx:∀ d,aP s.bx d=aP s'.bx d
 hp:s.hp=s'.hp
theorem Se.refl(s:St):Se s s:=⟨fun _=>rfl,fun _=>rfl,rfl⟩
theorem Se.symm{s s':St}(h:Se s s'):Se s' s:=⟨fun d=>(h.fr d).symm,fun d=>(h.bx d).symm,h.hp.symm⟩
theorem Se.trans{s s' s'':St}(h:Se s s')(h':Se s' s''):Se s s'':=⟨fun d=>(h.fr d).trans (h'.fr d),fun d=>(h.bx d).trans (h'.bx d),h.hp.trans h'.hp⟩
theorem Se.box{s s':St}(h:Se s s')(dp:Nat)(k:Key):s.box dp k=s'.box dp k:=by
 simp only [St.box,h.bx,h.hp]
theorem av.se{C:Cx}{s s':St}{a:Act}{w:World}{σ:Sp}(h:av C s a w σ)(hs:Se s s'):av C s' a w σ:=
 h.zx (fun d=>.inr (hs.fr d).symm) (fun k cs hk=>by rw [hs.box];exact hk) (fun _ _ _ h=>by rw [hs.hp];exact h)
def dT{α:Type}(l:List (Nat×α)):List Nat:=l.map (·.1)
theorem kt(l r:List (Nat×AV))(d:Nat):aC (l++r) d=if d∈dT l then aC l d else aC r d:=by
 induction l with
 | nil=>simp [dT]
 | cons x l ih=>
  obtain ⟨k,y⟩:=x
  simp only [List.cons_append,aC,dT,List.map_cons,List.mem_cons]
  by_cases h:k=d
  ·subst h;simp
  ·have h':¬d=k:=fun e=>h e.symm
   simp only [if_neg h,h',false_or]
   exact ih
theorem uI(l r:List (Nat×List AV))(d:Nat):aP (l++r) d=if d∈dT l then aP l d else aP r d:=by
 induction l with
 | nil=>simp [dT]
 | cons x l ih=>
  obtain ⟨k,y⟩:=x
  simp only [List.cons_append,aP,dT,List.map_cons,List.mem_cons]
  by_cases h:k=d
  ·subst h;simp
  ·have h':¬d=k:=fun e=>h e.symm
   simp only [if_neg h,h',false_or]
   exact ih
theorem nP(bx wb:List (Nat×List AV))(d:Nat):aP (vo bx wb) d=match aP wb d with
  | some cs=>(aP bx d).map fun _=>cs
  | none=>aP bx d:=by
 induction wb with
 | nil=>rfl
 | cons x wb ih=>
  obtain ⟨k,y⟩:=x
  simp only [vo,rq,aP]
  by_cases h:k=d
  ·subst h
   simp only [if_true,ih]
   cases aP wb k with
   | none=>rfl
   | some cs=>cases aP bx k<;>rfl
  ·rw [if_neg h,if_neg (fun e=>h e.symm),ih]
theorem pt{l:List (Nat×List AV)}{d:Nat}(h:d∉dT l):aP l d=none:=by
 induction l with
 | nil=>rfl
 | cons x l ih=>
  obtain ⟨k,y⟩:=x
  simp only [dT,List.map_cons,List.mem_cons,not_or] at h
  simp only [aP,if_neg (fun e=>h.1 (Eq.symm e))]
  exact ih h.2
theorem Se.app{s s':St}(q:bT)(h:Se s s'):Se (q.app s) (q.app s'):=by
 refine ⟨fun d=>?_,fun d=>?_,?_⟩
 ·simp only [bT.app,kt,h.fr]
 ·simp only [bT.app,uI,nP,h.bx]
 ·simp only [bT.app,h.hp]
structure MG(q q':bT):Prop where
 fr:∀ d,d∈dT q.fr→d∉dT q'.fr
 nn:∀ d,d∈dT q.nb→d∉dT q'.nb
 nw:∀ d,d∈dT q.nb→d∉dT q'.wb
 wn:∀ d,d∈dT q.wb→d∉dT q'.nb
 ww:∀ d,d∈dT q.wb→d∉dT q'.wb
 hp:q.hp=none∨q'.hp=none
theorem K6{q q':bT}(h:MG q q')(s:St):Se (q.app (q'.app s)) (q'.app (q.app s)):=by
 refine ⟨fun d=>?_,fun d=>?_,?_⟩
 ·simp only [bT.app,kt]
  by_cases h1:d∈dT q.fr
  ·simp [h1,h.fr d h1]
  ·simp [h1]
 ·simp only [bT.app,uI,nP]
  by_cases h1:d∈dT q.nb
  ·have h2:=pt (h.nw d h1)
   simp [h1,h.nn d h1,h2]
  ·by_cases h3:d∈dT q'.nb
   ·have h4:aP q.wb d=none:=pt fun h5=>h.wn d h5 h3
    simp [h1,h3,h4]
   ·simp only [if_neg h1,if_neg h3]
    by_cases h5:d∈dT q.wb
    ·have:=pt (h.ww d h5)
     rw [this]
    ·rw [pt h5]
 ·simp only [bT.app]
  rcases h.hp with e | e<;>rw [e]<;>cases q.hp<;>cases q'.hp<;>first | rfl | cases e
def pY:pe→Bool
 | .st _ _ _=>true
 | _=>false
def jE(p:cp):Bool:=match p.p.o with
 | .ap _ _ _ _ _=>p.cs.length==2
 | _=>false
def gR(p:cp):Bool:=pY p.p.o||jE p
def BG:pe→Bool
 | .al _=>true
 | _=>false
def tq(d:Option Nat):List Nat:=match d with
 | some d=>[d]
 | none=>[]
def ZV(p:cp):List Nat:=match p.p.g with
 | some (j,_)=>[j]
 | none=>[]
def GN(p:cp):List Nat:=tq p.p.d++p.cs
def Rv(p:cp):List Nat:=ZV p++p.vw
def Ip(p:cp):List Nat:=(if BG p.p.o=true then tq p.p.d else [])++(if gR p=true then p.vb else [])
def uJ(l m:List Nat):Bool:=l.all fun x=>!m.contains x
def uh(p q:cp):Bool:=uJ (GN p) (Rv q)&&uJ (GN q) (Rv p)&&uJ (GN p) (GN q)&&uJ (Ip p) q.vb&&uJ (Ip q) p.vb&&uJ (Ip p) (Ip q)&&!((gR p||gR q)&&p.vh&&q.vh)
theorem lu{l m:List Nat}(h:uJ l m=true){x:Nat}(hx:x∈l):x∉m:=by
 have:=List.all_eq_true.1 h x hx
 simpa using this
theorem za(bx:List (Nat×List AV))(ks:List Nat){d:Nat}(h:d∈dT (cL bx ks)):d∈ks:=by
 induction ks with
 | nil=>simp [cL,dT] at h
 | cons k ks ih=>
  simp only [cL] at h
  split at h
  ·simp only [dT,List.map_cons,List.mem_cons] at h
   rcases h with rfl | h
   ·simp
   ·exact List.mem_cons_of_mem _ (ih h)
  ·exact List.mem_cons_of_mem _ (ih h)
section
variable {R:Rec}{Ω:cP}{E:Env}
structure Small(p:cp)(q:bT):Prop where
 fr:∀ d,d∈dT q.fr→d∈GN p
 nb:∀ d,d∈dT q.nb→BG p.p.o=true∧d∈tq p.p.d
 wb:∀ d,d∈dT q.wb→gR p=true∧d∈p.vb
 hp:q.hp≠none→gR p=true∧p.vh=true
theorem BH{p:cp}{fr:List (Nat×AV)}(h:∀ d,d∈dT fr→d∈GN p):Small p ⟨fr,[],[],none⟩:=
 ⟨h,fun d hd=>by simp [dT] at hd,fun d hd=>by simp [dT] at hd,fun h=>absurd rfl h⟩
theorem wq(d:Option Nat)(x:AV):dT (ij d x)=tq d:=by cases d<;>rfl
theorem GO(p:cp)(r:AV×St):Small p (effect p r):=by
 have hgen:Small p ⟨ij p.p.d (fk p.p.fz r.1)++p.cs.map (fun m=>(m,.u)),[],[],none⟩:=BH fun d hd=>by
  simp only [dT,List.map_append,List.map_map] at hd
  rcases List.mem_append.1 hd with hd | hd
  ·have:d∈dT (ij p.p.d (fk p.p.fz r.1)):=hd
   rw [wq] at this
   exact List.mem_append_left _ this
  ·obtain ⟨m,hm,rfl⟩:=List.mem_map.1 hd
   exact List.mem_append_right _ hm
 unfold effect
 split
 ·rename_i zs ho
  split
  ·rename_i dd hd
   refine ⟨fun d h=>?_,fun d h=>⟨by rw [ho];rfl,?_⟩,fun d h=>by simp [dT] at h,fun h=>absurd rfl h⟩
   ·simp only [dT,List.map_cons,List.map_nil,List.mem_singleton] at h
    subst h;unfold GN;rw [hd];simp [tq]
   ·simp only [dT,List.map_cons,List.map_nil,List.mem_singleton] at h
    subst h;rw [hd];simp [tq]
  ·exact BH fun d h=>by simp [dT] at h
 ·rename_i ho
  refine ⟨fun d h=>?_,fun d h=>by simp [dT] at h,fun d h=>⟨by simp [gR,ho,pY],za _ _ h⟩,fun h=>⟨by simp [gR,ho,pY],?_⟩⟩
  ·simp only [dT,List.map_map] at h
   obtain ⟨m,hm,rfl⟩:=List.mem_map.1 h
   exact List.mem_append_right _ hm
  by_cases hv:p.vh=true
  ·exact hv
  ·simp [hv] at h
 ·rename_i ho
  by_cases h2:(p.cs.length==2)=true
  ·have hw:gR p=true:=by simp only [gR,jE,ho,h2,Bool.or_true]
   rw [if_pos h2]
   refine ⟨hgen.fr,fun d h=>by simp [dT] at h,fun d h=>⟨hw,za _ _ h⟩,fun h=>⟨hw,?_⟩⟩
   by_cases hv:p.vh=true
   ·exact hv
   ·simp [hv] at h
  ·simp only [h2,Bool.false_and,Bool.false_eq_true,if_false]
   exact hgen
 ·exact hgen
theorem Ax{p:cp}{s:St}{q:bT}(h:eU R Ω E p s=some q):Small p q:=by
 have hcore:∀ v q,jH R Ω E p v=some q→Small p q:=by
  intro v q hq
  unfold jH at hq
  split at hq
  ·obtain ⟨r,_,h2⟩:=Option.bind_eq_some_iff.1 hq
   split at h2
   ·obtain rfl:=Option.some.inj h2
    exact GO p r
   ·cases h2
  ·cases hq
 unfold eU at h
 split at h
 ·exact hcore _ _ h
 ·obtain ⟨y,_,h2⟩:=Option.bind_eq_some_iff.1 h
  split at h2
  ·exact hcore _ _ h2
  ·obtain rfl:=Option.some.inj h2
   exact BH fun d hd=>by rw [wq] at hd;exact List.mem_append_left _ hd
theorem HK{fr fr':List (Nat×AV)}{ks:List Nat}(h:∀ d∈ks,aC fr d=aC fr' d):jG fr ks=jG fr' ks:=
 List.map_congr_left fun d hd=>by rw [h d hd]
theorem HL{bx bx':List (Nat×List AV)}{ks:List Nat}(h:∀ d∈ks,aP bx d=aP bx' d):cL bx ks=cL bx' ks:=by
 induction ks with
 | nil=>rfl
 | cons k ks ih=>
  simp only [cL,h k (by simp),ih fun d hd=>h d (by simp [hd])]
structure I3(p:cp)(s s':St):Prop where
 fr:∀ d∈Rv p,aC s.fr d=aC s'.fr d
 bx:∀ d∈p.vb,aP s.bx d=aP s'.bx d
 hp:p.vh=true→s.hp=s'.hp
theorem I3.patch{p:cp}{s s':St}(h:I3 p s s'):eU R Ω E p s=eU R Ω E p s':=by
 have hv:view p s=view p s':=by
  unfold view
  rw [HK fun d hd=>h.fr d (List.mem_append_right _ hd),HL h.bx]
  by_cases hh:p.vh=true
  ·simp only [hh,if_true,h.hp hh]
  ·simp only [if_neg hh]
 unfold eU
 rw [hv]
 split
 ·rfl
 ·rename_i j want hg
  rw [h.fr j (List.mem_append_left _ (by unfold ZV;rw [hg];simp))]
theorem Se.aaM{p:cp}{s s':St}(h:Se s s'):I3 p s s':=⟨fun d _=>h.fr d,fun d _=>h.bx d,fun _=>h.hp⟩
theorem GP{p p':cp}{q:bT}{s:St}(hq:Small p q)(hc:uh p p'=true):I3 p' (q.app s) s:=by
 simp only [uh,Bool.and_eq_true,Bool.not_eq_true'] at hc
 obtain ⟨⟨⟨⟨⟨⟨c1,c2⟩,c3⟩,c4⟩,c5⟩,c6⟩,c7⟩:=hc
 refine ⟨fun d hd=>?_,fun d hd=>?_,fun hh=>?_⟩
 ·simp only [bT.app,kt]
  rw [if_neg]
  intro hm
  exact lu c1 (hq.fr d hm) hd
 ·simp only [bT.app,uI,nP]
  have hnb:d∉dT q.nb:=fun hm=>by
   obtain ⟨h1,h2⟩:=hq.nb d hm
   exact lu c4 (List.mem_append_left _ (by rw [if_pos h1];exact h2)) hd
  have hwb:d∉dT q.wb:=fun hm=>by
   obtain ⟨h1,h2⟩:=hq.wb d hm
   exact lu c4 (List.mem_append_right _ (by rw [if_pos h1];exact h2)) hd
  rw [if_neg hnb,pt hwb]
 ·simp only [bT.app]
  cases hp:q.hp with
  | none=>rfl
  | some x=>
   obtain ⟨h1,h2⟩:=hq.hp (by rw [hp];simp)
   rw [h1,h2,hh] at c7
   simp at c7
theorem K7{p p':cp}{q q':bT}(hq:Small p q)(hq':Small p' q')(hc:uh p p'=true):MG q q':=by
 simp only [uh,Bool.and_eq_true,Bool.not_eq_true'] at hc
 obtain ⟨⟨⟨⟨⟨⟨c1,c2⟩,c3⟩,c4⟩,c5⟩,c6⟩,c7⟩:=hc
 have m1:∀ {p:cp}{q:bT}{d},Small p q→d∈dT q.nb→d∈Ip p:=fun hq h=>by
  obtain ⟨h1,h2⟩:=hq.nb _ h
  exact List.mem_append_left _ (by rw [if_pos h1];exact h2)
 have m2:∀ {p:cp}{q:bT}{d},Small p q→d∈dT q.wb→d∈Ip p:=fun hq h=>by
  obtain ⟨h1,h2⟩:=hq.wb _ h
  exact List.mem_append_right _ (by rw [if_pos h1];exact h2)
 refine ⟨fun d h h'=>lu c3 (hq.fr d h) (hq'.fr d h'),fun d h h'=>lu c6 (m1 hq h) (m1 hq' h'),fun d h h'=>lu c6 (m1 hq h) (m2 hq' h'),fun d h h'=>lu c6 (m2 hq h) (m1 hq' h'),fun d h h'=>lu c6 (m2 hq h) (m2 hq' h'),?_⟩
 cases h1:q.hp with
 | none=>exact .inl rfl
 | some x=>
  cases h2:q'.hp with
  | none=>exact .inr rfl
  | some y=>
   obtain ⟨h3,h4⟩:=hq.hp (by rw [h1];simp)
   obtain ⟨h5,h6⟩:=hq'.hp (by rw [h2];simp)
   rw [h3,h4,h6] at c7
   simp at c7
def lR(R:Rec)(Ω:cP)(E:Env)(gs:List cp):List Nat→St→St→Prop
 | [],s,t=>Se s t
 | i::π,s,t=>∃ p s1 s2,gs[i]? =some p∧Se s s1∧eV R Ω E s1 p=some s2∧lR R Ω E gs π s2 t
variable {gs:List cp}
theorem lR.se{π:List Nat}{s s' t:St}(h:lR R Ω E gs π s' t)(hs:Se s s'):lR R Ω E gs π s t:=by
 cases π with
 | nil=>exact Se.trans hs h
 | cons i π=>
  obtain ⟨p,s1,s2,h1,h2,h3,h4⟩:=h
  exact ⟨p,s1,s2,h1,hs.trans h2,h3,h4⟩
theorem lR.text:∀ (ps:List cp)(i:Nat)(s t:St),gs.drop i=ps→oJ R Ω E s ps=some t→lR R Ω E gs (List.range' i ps.length) s t
 | [],i,s,t,_,he=>by
  obtain rfl:=Option.some.inj he
  exact Se.refl _
 | p::ps,i,s,t,hi,he=>by
  obtain ⟨s2,h1,h2⟩:=Option.bind_eq_some_iff.1 he
  rw [List.length_cons,List.range'_succ]
  refine ⟨p,s,s2,?_,Se.refl _,h1,lR.text ps (i+1) s2 t ?_ h2⟩
  ·have:(gs.drop i)[0]? =some p:=by rw [hi];rfl
   simpa using this
  ·rw [←List.drop_drop,hi];rfl
def I4(gs:List cp)(i j:Nat):Prop:=∃ p q,gs[i]? =some p∧gs[j]? =some q∧p.lt=true∧q.lt=true∧uh p q=true
theorem lR.swap{i j:Nat}{π:List Nat}{s t:St}(hf:I4 gs i j)(h:lR R Ω E gs (i::j::π) s t):lR R Ω E gs (j::i::π) s t:=by
 obtain ⟨p,q,hp,hq,hpl,hql,hc⟩:=hf
 obtain ⟨p',s1,s2,h1,h2,h3,q',s3,s4,h4,h5,h6,h7⟩:=h
 obtain rfl:p=p':=by rw [hp] at h1;exact Option.some.inj h1
 obtain rfl:q=q':=by rw [hq] at h4;exact Option.some.inj h4
 simp only [eV,if_pos hpl] at h3
 simp only [eV,if_pos hql] at h6
 obtain ⟨pp,hpp,he⟩:=Option.bind_eq_some_iff.1 h3
 obtain rfl:=Option.some.inj he
 obtain ⟨qq,hqq,he'⟩:=Option.bind_eq_some_iff.1 h6
 obtain rfl:=Option.some.inj he'
 have hc':uh q p=true:=by
  simp only [uh,Bool.and_eq_true,Bool.not_eq_true'] at hc ⊢
  obtain ⟨⟨⟨⟨⟨⟨c1,c2⟩,c3⟩,c4⟩,c5⟩,c6⟩,c7⟩:=hc
  have hsym:∀ l m,uJ l m=true→uJ m l=true:=fun l m h=>by
   unfold uJ
   rw [List.all_eq_true]
   intro x hx
   have:x∉l:=fun hl=>lu h hl hx
   simpa using this
  refine ⟨⟨⟨⟨⟨⟨c2,c1⟩,hsym _ _ c3⟩,c5⟩,c4⟩,hsym _ _ c6⟩,?_⟩
  revert c7
  cases gR p<;>cases gR q<;>cases p.vh<;>cases q.vh<;>simp
 have sp:=Ax hpp
 have sq:=Ax hqq
 have e1:eU R Ω E q s1=some qq:=by
  rw [←hqq]
  exact ((GP sp hc).patch.symm.trans (Se.aaM h5).patch)
 have e2:eU R Ω E p (qq.app s1)=some pp:=by
  rw [←hpp]
  exact (GP sq hc').patch
 refine ⟨q,s1,qq.app s1,hq,h2,by simp only [eV,if_pos hql,e1,Option.bind_some],p,qq.app s1,pp.app (qq.app s1),hp,Se.refl _,by simp only [eV,if_pos hpl,e2,Option.bind_some],?_⟩
 exact h7.se ((K6 (K7 sp sq hc) s1).trans (h5.app qq))
theorem lR.front{i:Nat}{B:List Nat}{t:St} : ∀ (A:List Nat)(s:St),(∀ a∈A,I4 gs a i)→lR R Ω E gs (A++i::B) s t→lR R Ω E gs (i::(A++B)) s t
 | [],_,_,h=>h
 | a::A,s,hf,h=>by
  obtain ⟨p,s1,s2,h1,h2,h3,h4⟩:=h
  exact lR.swap (hf a (by simp)) ⟨p,s1,s2,h1,h2,h3,lR.front A s2 (fun b hb=>hf b (by simp [hb])) h4⟩
end
end Go.Proofs.YtndeklbmglgonaaGreat.A
