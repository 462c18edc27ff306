/- infer.Raw as a plain function. -/
import Derived.Test.YtkkkkondjclcnaaGreatListF
set_option maxRecDepth 100000
set_option linter.unusedSectionVars false
set_option linter.unusedVariables false
set_option linter.unusedSimpArgs false
set_option linter.constructorNameAsVariable false
namespace Go.Proofs.YtkkkkondjclcnaaGreat.A
open Go
variable [Lp]
attribute [local simp] gp execOp okB k7 cY iS tE jr jc fM St.end_ St.ir List.filter
structure cy where
 V:List Level
 F:List Level
 ch:Bool
noncomputable def yQ(p:Program)(s:cy)(f:cb):Option cy:=
 (dG f.To).bind fun j=>
  if f.Func=true then (s.F[j]?).bind fun t=>(df f.Level t).bind fun b=>if b=true then some s else (cE t f.Level).bind fun u=>some ⟨s.V,s.F.set j u,true⟩
  else (p.Vars[j]?).bind fun v=>if v.Known=true then some s else (s.V[j]?).bind fun t=>(df f.Level t).bind fun b=>if b=true then some s else (cE t f.Level).bind fun u=>some ⟨s.V.set j u,s.F,true⟩
noncomputable def yd(p:Program):List cb→cy→Option cy
 | [],s=>some s
 | f::r,s=>(yQ p s f).bind fun t=>yd p r t
noncomputable def q8(p:Program)(a:Nat)(st:Stmt)(pl:Level)(s:cy):Option cy:=(fw p s.V st pl).bind fun l=>if l.length≤2000 then yd p l s else none
def As(H:HP)(k:Key)(x:AV)(ls:List Level):Prop:=(x= .l 45 []∧ls=[])∨(x= .sp k 0 ls.length 2∧H k=some (dD ls))
theorem As.rd{H:HP}{k:Key}{x:AV}{ls:List Level}(h:As H k x ls)(hk:k=kV∨k=kF):yb H x ls:=by
 rcases h with ⟨rfl,rfl⟩ | ⟨rfl,h⟩
 ·exact .l _ []
 ·exact .sp k ls h hk
theorem As.ext{H H':HP}{k:Key}{x:AV}{ls:List Level}(h:As H k x ls)(e:H' k=H k):As H' k x ls:=h.imp id fun h=>⟨h.1,by rw [e];exact h.2⟩
abbrev pC:List AV:=[.p ⟨0,7⟩ 0,.p ⟨0,3⟩ 0,.p ⟨0,1⟩ 0,.p ⟨0,8⟩ 0]
structure qH(p:Program)(x y:AV)(a:Nat)(s:cy)(H:HP):Prop where
 h1:H ⟨0,1⟩=some (ar p)
 h2:H ⟨0,2⟩=some [.l 45 [],.l 45 []]
 h3:H ⟨0,3⟩=some [x,y]
 h7:H ⟨0,7⟩=some [.p ⟨0,50⟩ 0]
 h8:H ⟨0,8⟩=some [.b s.ch]
 hw:H ⟨0,50⟩=some (bA p x y (.f 97 pC) a [])
 hx:As H kV x s.V
 hy:As H kF y s.F
theorem HO{u:Level} : ∀ {ls:List Level}{j:Nat},j<ls.length→List.take (j*2) (dD ls)++(av u++List.drop (j*2+2) (dD ls))=dD (ls.set j u)
 | [],j,h=>by simp at h
 | l::r,0,h=>rfl
 | l::r,j+1,h=>by
  have h2:=HO (u:=u) (ls:=r) (j:=j) (by simpa using h)
  rw [show (j+1)*2=j*2+2 by omega]
  show .l _ _::.l _ _::(_++_)= .l _ _::.l _ _::dD (r.set j u)
  rw [←h2]
  rfl
abbrev GG(f:cb):List AV:=[(.l 4 (f.Level.Readers.map AV.b)),(.l 4 (f.Level.Writers.map AV.b)),(I f.To),(.b f.Func)]
def nD(fs:List cb)(k:Nat)(H:HP):St:=⟨[(4,.p ⟨0,3⟩ 0),(5,.p ⟨0,1⟩ 0),(6,.p ⟨0,8⟩ 0),(16,.l 96 (fs.map cp)),(17,I fs.length),(18,I k)],[],H⟩
def nQ(dp:Nat)(fs:List cb)(k:Nat)(f:cb)(w:AV)(H:HP):St:=⟨[(4,.p ⟨0,3⟩ 0),(5,.p ⟨0,1⟩ 0),(6,.p ⟨0,8⟩ 0),(11,.p ⟨dp,11⟩ 0),(12,w),(16,.l 96 (fs.map cp)),(17,I fs.length),(18,I k)],[(11,GG f)],H⟩
set_option maxHeartbeats 8000000 in
theorem Ka(dp:Nat)(hd:0<dp)(H:HP)(fs:List cb)(k:Nat)(f:cb)(kk:Key)(hk:kk=kV∨kk=kF)(c:Bool)(h8:H ⟨0,8⟩=some [.b c])(ls:List Level)(hH:H kk=some (dD ls))(j:Nat)(hj:f.To=j)(t:Level)(ht:ls[j]? =some t)(b:Bool)(hb:df f.Level t=some b)(u:Level)
  (hu:b=false→cE t f.Level=some u) :
  run G Ω0 ⟨dp,false⟩ QE (nQ dp fs k f (.sp kk 0 ls.length 2) H)=some (.nrm,if b=true then ⟨[(4,.p ⟨0,3⟩ 0),(5,.p ⟨0,1⟩ 0),(6,.p ⟨0,8⟩ 0),(11,.p ⟨dp,11⟩ 0),(12,.sp kk 0 ls.length 2),(16,.l 96 (fs.map cp)),(17,I fs.length),(18,I k),(44,.b false)],[(11,GG f)],H⟩ else nD fs k (ab (ab H kk (dD (ls.set j u))) ⟨0,8⟩ [.b true])):=by
 have ek:kk.dp=0:=by rcases hk with rfl | rfl<;>rfl
 have ek2:kk≠⟨0,8⟩:=by rcases hk with rfl | rfl<;>decide
 have e0:¬kk.dp=dp:=by omega
 have e1:¬0=dp:=by omega
 have e2:∀ d,¬kk=⟨dp,d⟩:=fun d=>aP (by omega)
 obtain ⟨f1,f2⟩:=Aq ht
 have f3:j<ls.length:=(List.getElem?_eq_some_iff.1 ht).1
 have f4:=HO (u:=u) f3
 have hA:=cR (E:=⟨dp,false⟩) (il f.Level t b hb) (by simp) (by simp)
 apply fG
 apply ae
 ·apply kv 4
  ·rfl
  ·simp [nQ]
  ·simp [nQ,e2]
   rfl
  ·simp [-bk,e0,e1,e2,hj,hH,f1,f2,f3,hA]
   rfl
  ·simp
   rfl
 cases b with
 | true=>
  apply bS (by simp)
  exact bU _ _
 | false=>
  apply dE (by simp)
  have hB:=cR (E:=⟨dp,false⟩) (fW t f.Level u (hu rfl)) (by simp) (by simp)
  have hh:(ab H kk (dD (ls.set j u))) ⟨0,8⟩=some [.b c]:=by rw [la (Ne.symm ek2)];exact h8
  refine ae (st1:=nD fs k (ab H kk (dD (ls.set j u)))) ?_ ?_
  ·apply kv 6
   ·rfl
   ·simp
   ·simp [e2,hj]
    rfl
   ·simp [-bk,e0,e1,e2,hj,hH,f1,f2,f3,hB]
    rfl
   ·simp [nD,←f4]
  simp [nD,e1,hh]
theorem QR{E:Env}{kf kb:List Nat}{x:AC}{st st':St}(h:st.aH kf kb=st'.aH kf kb):run G Ω0 E (.kp kf kb x) st=run G Ω0 E (.kp kf kb x) st':=by rw [iD,h,iD]
theorem FA{H:HP}{k:Key}{x:AV}{ls:List Level}(h:As H k x ls):x= .l 45 []∨x= .sp k 0 ls.length 2:=h.imp (·.1) (·.1)
theorem Kb{H:HP}{k:Key}{x:AV}{ls:List Level}{j:Nat}{t:Level}(h:As H k x ls)(ht:ls[j]? =some t):x= .sp k 0 ls.length 2∧H k=some (dD ls):=by
 rcases h with ⟨_,rfl⟩ | h
 ·simp at ht
 ·exact h
set_option maxHeartbeats 8000000 in
theorem Nc(p:Program)(x y:AV)(a:Nat)(s s':cy)(dp:Nat)(hd:0<dp)(H:HP)(hz:ax dp H)(r:qH p x y a s H)(fs:List cb)(hl:fs.length≤2000)(k:Nat)(f:cb)(hg:fs[k]? =some f)(hs:yQ p s f=some s') :
  ∃ H',run G Ω0 ⟨dp,false⟩ GD (nD fs k H)=some (.nrm,nD fs (k+1) H')∧qH p x y a s' H'∧ax dp H'∧∀ k:Key,k.dp≠0→H' k=H k:=by
 have hlt:k<fs.length:=(List.getElem?_eq_some_iff.1 hg).1
 have hk:((k:Int)<(fs.length:Int)):=by omega
 have hwr:=qA k (by omega)
 have e1:¬0=dp:=by omega
 obtain ⟨j,hj,hs⟩:=Option.bind_eq_some_iff.1 hs
 have hj:=jQ hj
 have r3:=r.h3
 have r1:=r.h1
 have hR2:run G Ω0 ⟨dp,false⟩ (.rg [] [gp 22 (.fa 1 (.t 4)),gp 23 (.ld none (.t 22)),gp 12 (.as (.t 23))] [4,5,6,11,12,16,17,18] [4,5,6,11]) ⟨[(4,.p ⟨0,3⟩ 0),(5,.p ⟨0,1⟩ 0),(6,.p ⟨0,8⟩ 0),(11,.p ⟨dp,11⟩ 0),(16,.l 96 (fs.map cp)),(17,I fs.length),(18,I k)],[(11,GG f)],H⟩=some (.nrm,nQ dp fs k f y H):=by
  have hy:=r.hy
  clear r
  rcases FA hy with rfl | rfl<;>simp [e1,r3,nQ]
 have hR3:run G Ω0 ⟨dp,false⟩ (.rg [] [gp 27 (.fa 0 (.t 4)),gp 28 (.ld none (.t 27)),gp 12 (.as (.t 28))] [4,5,6,11,12,16,17,18] [4,5,6,11]) ⟨[(4,.p ⟨0,3⟩ 0),(5,.p ⟨0,1⟩ 0),(6,.p ⟨0,8⟩ 0),(11,.p ⟨dp,11⟩ 0),(12,y),(16,.l 96 (fs.map cp)),(17,I fs.length),(18,I k),(26,.b (!f.Func))],[(11,GG f)],H⟩=some (.nrm,nQ dp fs k f x H):=by
  have hx:=r.hx
  clear r hR2
  rcases FA hx with rfl | rfl<;>simp [e1,r3,nQ]
 have fin:∀ (st:St)(H':HP),st.aH [4,5,6,16,17,18] [4,5,6]=nD fs k H'→run G Ω0 ⟨dp,false⟩ (.rg [] [gp 57 (.bo .add false (.t 18) (.c (.i .i64 1))),gp 18 (.mv (.t 57))] [4,5,6,16,17,18] [4,5,6]) st=some (.nrm,nD fs (k+1) H'):=by
  intro st H' h
  have h4:aj st.fr 4= .p ⟨0,3⟩ 0:=congrArg (fun z=>aj z.fr 4) h
  have h5:aj st.fr 5= .p ⟨0,1⟩ 0:=congrArg (fun z=>aj z.fr 5) h
  have h6:aj st.fr 6= .p ⟨0,8⟩ 0:=congrArg (fun z=>aj z.fr 6) h
  have h16:aj st.fr 16= .l 96 (fs.map cp):=congrArg (fun z=>aj z.fr 16) h
  have h17:aj st.fr 17=I fs.length:=congrArg (fun z=>aj z.fr 17) h
  have h18:aj st.fr 18=I k:=congrArg (fun z=>aj z.fr 18) h
  have hb:bT st.bx [4,5,6]=[]:=congrArg St.bx h
  have hh:st.hp=H':=congrArg St.hp h
  simp [h4,h5,h6,h16,h17,h18,hwr,nD,hh,-bT,hb]
 by_cases hf:f.Func=true
 ·rw [if_pos hf] at hs
  obtain ⟨t,ht,hs⟩:=Option.bind_eq_some_iff.1 hs
  obtain ⟨b,hb,hs⟩:=Option.bind_eq_some_iff.1 hs
  obtain ⟨hy1,hy2⟩:=Kb r.hy ht
  have hu:∃ u,(b=false→cE t f.Level=some u)∧s'=if b=true then s else ⟨s.V,s.F.set j u,true⟩:=by
   cases b with
   | true=>exact ⟨t,fun h=>(by cases h),(Option.some.inj hs).symm⟩
   | false=>
    obtain ⟨u,hu,hs⟩:=Option.bind_eq_some_iff.1 hs
    exact ⟨u,fun _=>hu,(Option.some.inj hs).symm⟩
  obtain ⟨u,hu,rfl⟩:=hu
  subst hy1
  have hk3:kF≠kV:=by decide
  refine ⟨if b=true then H else ab (ab H kF (dD (s.F.set j u))) ⟨0,8⟩ [.b true],?_,?_⟩
  ·apply ae (by simp [nD,hk];rfl)
   apply ae
   ·apply dE (by simp [hk])
    exact bU _ _
   apply fG
   apply ae
   ·apply ku
    apply ae (by simp [hg,cp];rfl)
    apply ae hR2
    apply ae
    ·apply ae (by simp [nQ];rfl)
     apply bS (by simp [hf])
     exact bU _ _
    refine Eq.trans (QR (st':=nQ dp fs k f (.sp kF 0 s.F.length 2) H) ?_) (Ka dp hd H fs k f kF (.inr rfl) s.ch r.h8 s.F hy2 j hj t ht b hb u hu)
    rfl
   exact fin _ _ (by cases b<;>rfl)
  ·cases b with
   | true=>exact ⟨r,hz,fun _ _=>rfl⟩
   | false=>
    refine ⟨⟨r.h1,r.h2,r.h3,r.h7,rfl,r.hw,r.hx.ext rfl,.inr ⟨?_,rfl⟩⟩,aF hd (aF hd hz),fun q hq=>?_⟩
    ·show AV.sp kF 0 s.F.length 2=AV.sp kF 0 (s.F.set j u).length 2
     rw [List.length_set]
    ·simp only [Bool.false_eq_true,if_false]
     rw [la (fun e=>hq (by rw [e])),la (fun e=>hq (by rw [e]))]
 ·rw [if_neg hf] at hs
  obtain ⟨v,hv,hs⟩:=Option.bind_eq_some_iff.1 hs
  by_cases hv2:v.Known=true
  ·rw [if_pos hv2] at hs
   obtain rfl:=Option.some.inj hs
   refine ⟨H,?_,r,hz,fun _ _=>rfl⟩
   apply ae (by simp [nD,hk];rfl)
   apply ae
   ·apply dE (by simp [hk])
    exact bU _ _
   apply fG
   apply ae
   ·apply qc
    apply ae (by simp [hg,cp];rfl)
    apply ae hR2
    apply rq
    apply ae (by simp [nQ];rfl)
    apply dE (by simp [hf])
    apply ae hR3
    apply ae (by simp [nQ,e1,r1,hj,hv,aW];rfl)
    apply dE (by simp [hv2])
    exact iC _ _ _
   exact fin _ _ rfl
  ·rw [if_neg hv2] at hs
   obtain ⟨t,ht,hs⟩:=Option.bind_eq_some_iff.1 hs
   obtain ⟨b,hb,hs⟩:=Option.bind_eq_some_iff.1 hs
   obtain ⟨hx1,hx2⟩:=Kb r.hx ht
   have hu:∃ u,(b=false→cE t f.Level=some u)∧s'=if b=true then s else ⟨s.V.set j u,s.F,true⟩:=by
    cases b with
    | true=>exact ⟨t,fun h=>(by cases h),(Option.some.inj hs).symm⟩
    | false=>
     obtain ⟨u,hu,hs⟩:=Option.bind_eq_some_iff.1 hs
     exact ⟨u,fun _=>hu,(Option.some.inj hs).symm⟩
   obtain ⟨u,hu,rfl⟩:=hu
   subst hx1
   refine ⟨if b=true then H else ab (ab H kV (dD (s.V.set j u))) ⟨0,8⟩ [.b true],?_,?_⟩
   ·apply ae (by simp [nD,hk];rfl)
    apply ae
    ·apply dE (by simp [hk])
     exact bU _ _
    apply fG
    apply ae
    ·apply ku
     apply ae (by simp [hg,cp];rfl)
     apply ae hR2
     apply ae
     ·apply ae (by simp [nQ];rfl)
      apply dE (by simp [hf])
      apply ae hR3
      apply ae (by simp [nQ,e1,r1,hj,hv,aW];rfl)
      apply bS (by simp [hv2])
      exact bU _ _
     refine Eq.trans (QR (st':=nQ dp fs k f (.sp kV 0 s.V.length 2) H) ?_) (Ka dp hd H fs k f kV (.inl rfl) s.ch r.h8 s.V hx2 j hj t ht b hb u hu)
     rfl
    exact fin _ _ (by cases b<;>rfl)
   ·cases b with
    | true=>exact ⟨r,hz,fun _ _=>rfl⟩
    | false=>
     refine ⟨⟨r.h1,r.h2,r.h3,r.h7,rfl,r.hw,.inr ⟨?_,rfl⟩,r.hy.ext rfl⟩,aF hd (aF hd hz),fun q hq=>?_⟩
     ·show AV.sp kV 0 s.V.length 2=AV.sp kV 0 (s.V.set j u).length 2
      rw [List.length_set]
     ·simp only [Bool.false_eq_true,if_false]
      rw [la (fun e=>hq (by rw [e])),la (fun e=>hq (by rw [e]))]
theorem DF(p:Program)(x y:AV)(a:Nat)(s':cy)(dp:Nat)(hd:0<dp)(fs:List cb)(hl:fs.length≤2000):∀ (rest:List cb)(k:Nat)(s:cy)(H:HP),fs.drop k=rest→ax dp H→qH p x y a s H→yd p rest s=some s'→
  ∃ z,ju G Ω0 ⟨dp,false⟩ QF (nD fs k H)=some (.ex 0,z)∧qH p x y a s' z.hp∧ax dp z.hp∧∀ k:Key,k.dp≠0→z.hp k=H k
 | [],k,s,H,hd2,hz,hr,hs=>by
  have hk:¬((k:Int)<(fs.length:Int)):=by
   have:=List.drop_eq_nil_iff.1 hd2;omega
  obtain rfl:=Option.some.inj hs
  have hz2:∃ z,run G Ω0 ⟨dp,false⟩ GD (nD fs k H)=some (.ex 0,z)∧z.hp=H:=by
   apply Exists.intro
   apply And.intro
   ·apply ae (by simp [nD,hk];rfl)
    apply rq
    apply bS (by simp [hk])
    exact iC _ _ _
   ·rfl
  obtain ⟨z,h1,rfl⟩:=hz2
  exact ⟨z,ig h1 (by simp),hr,hz,fun _ _=>rfl⟩
 | f::rest,k,s,H,hd2,hz,hr,hs=>by
  obtain ⟨s1,h1,h2⟩:=Option.bind_eq_some_iff.1 hs
  have hg:fs[k]? =some f:=by
   have:=congrArg (fun l=>l[0]?) hd2
   simpa using this
  have hd3:fs.drop (k+1)=rest:=by
   have:=congrArg List.tail hd2
   simpa using this
  obtain ⟨H1,r1,r2,r3,r4⟩:=Nc p x y a s s1 dp hd H hz hr fs hl k f hg h1
  obtain ⟨z,q1,q2,q3,q4⟩:=DF p x y a s' dp hd fs hl rest (k+1) s1 H1 hd3 r3 r2 h2
  refine ⟨z,?_,q2,q3,fun k hk=>(q4 k hk).trans (r4 k hk)⟩
  rw [iE]
  exact q1
  show (run G Ω0 _ GD (nD fs k H)).bind _=_
  rw [r1];rfl
theorem qH.ext{p:Program}{x y:AV}{a:Nat}{s:cy}{H H':HP}(r:qH p x y a s H)(h:∀ k:Key,k.dp=0→H' k=H k):qH p x y a s H':=
 ⟨(h _ rfl).trans r.h1,(h _ rfl).trans r.h2,(h _ rfl).trans r.h3,(h _ rfl).trans r.h7,(h _ rfl).trans r.h8,(h _ rfl).trans r.hw,r.hx.ext (h _ rfl),r.hy.ext (h _ rfl)⟩
set_option maxHeartbeats 8000000 in
theorem Pz(p:Program)(x y:AV){a:Nat}{st:Stmt}{pl:Level}{s s':cy}{dp:Nat}{H:HP}(h:q8 p a st pl s=some s')(hA:st.Args.length≤1000)(hd:0<dp)(hz:ax dp H)(r:qH p x y a s H) :
  ∃ H',call G Ω0 ⟨dp,false⟩ 97 (I (a:Nat)::.a (aw st)::.a (av pl)::pC) H=some (.ret (.tp []),H')∧qH p x y a s' H'∧∀ k:Key,k.dp≠0→H' k=H k:=by
 obtain ⟨fs,h1,h2⟩:=Option.bind_eq_some_iff.1 h
 split at h2
 ·rename_i hl
  have e1:¬0=dp:=by omega
  have r7:=r.h7
  have hc:=DE (dp+1) (fun k=>if k.dp=dp then (if 8=k.d then some (aw st) else if 9=k.d then some (av pl) else none) else H k) ⟨0,50⟩ (by show 0<dp+1;omega) p x y (.f 97 pC) a [] s.V (by simp only [if_neg (show ¬(0:Nat)=dp by omega)];exact r.hw) ((r.ext fun q hq=>by simp only [if_neg (show ¬q.dp=dp by omega)]).hx.rd (.inl rfl)) st pl fs hA h1
  have hb:(fun k:Key=>if k.dp<dp then (if k.dp=dp then (if 8=k.d then some (aw st) else if 9=k.d then some (av pl) else none) else H k) else none)=H:=by
   funext q
   by_cases hq:q.dp<dp
   ·rw [if_pos hq,if_neg (by omega)]
   ·rw [if_neg hq,hz q hq]
  obtain ⟨z,z1,z2,z3,z4⟩:=DF p x y a s' dp hd fs hl fs 0 s H rfl hz r h2
  refine ⟨z.hp,?_,z2,z4⟩
  apply mz G97
  ·apply ae (by simp [e1];rfl)
   refine ae (st1:=nD fs 0 H) ?_ ?_
   ·simp [nD,e1,r7,bj,AV.cj,hc,St.back,bC,hb]
   apply qc
   rw [ey]
   exact z1
  ·rfl
  ·rfl
 ·cases h2
theorem GH(p:Program)(x y:AV):r9 p cy.V cy.F (q8 p) ⟨0,50⟩ x y 97 pC (qH p x y) where
 kw0:=rfl
 fL:=rfl
 copy:=rfl
 copy':=rfl
 box r:=⟨[],r.hw⟩
 vx r:=r.hx.rd (.inl rfl)
 fy r:=r.hy.rd (.inr rfl)
 ext r h:=r.ext h
 bump r h h1 hw:=⟨(h _ (by decide) rfl).trans r.h1,(h _ (by decide) rfl).trans r.h2,(h _ (by decide) rfl).trans r.h3,(h _ (by decide) rfl).trans r.h7,(h _ (by decide) rfl).trans r.h8,hw.trans (by rw [r.hw] at h1;injection (Option.some.inj h1) with _ e;injection e with _ e;injection e with _ e;injection e with _ e;injection e with _ e;injection e with _ e;injection e with _ e;injection e with _ e;injection e with _ e;injection e with _ e;injection e with _ e;injection e with _ e;rw [←e]),r.hx.ext (h _ (by decide) rfl),r.hy.ext (h _ (by decide) rfl)⟩
 call h hA hd hz r:=Pz p x y h hA hd hz r
variable [Lp]
attribute [local simp] gp execOp okB k7 cY iS tE jr jc fM St.end_ St.ir List.filter
noncomputable def Bi(p:Program):List Var→List Level→Option (List Level)
 | [],o=>some o
 | v::r,o=>(fu p.aa).bind fun b=>(if v.Known=true then jD p.aa v.Label else some b).bind fun x=>Bi p r (o++[x])
noncomputable def Bj(p:Program):List Func→List Level→Option (List Level)
 | [],o=>some o
 | _::r,o=>(fu p.aa).bind fun b=>Bj p r (o++[b])
noncomputable def yR(p:Program)(s:cy):Option (cy⊕cy):=if s.ch=true then (vO p cy.V cy.F (q8 p) ⟨s.V,s.F,false⟩).bind fun r=>some (.inl r.2) else some (.inr s)
noncomputable def jL(p:Program):Option fp:=
 if p.Vars.length≤1000∧p.Funcs.length≤1000 then (Bi p p.Vars []).bind fun V=>(Bj p p.Funcs []).bind fun F=>(lp (yR p) ⟨V,F,true⟩).bind fun s=>some ⟨s.V,s.F⟩ else none
abbrev rC:List AV:=[.l 45 [],.l 45 []]
def wS(p:Program)(k:Nat)(V:List Level):St:=⟨[(1,.p ⟨0,1⟩ 0),(2,.p ⟨0,2⟩ 0),(3,.p ⟨0,3⟩ 0),(10,.l 83 (p.Vars.map aW)),(11,I p.Vars.length),(12,I k)],[(1,ar p),(2,rC),(3,[.o 45 (V.map aE),.o 45 []])],H0⟩
set_option maxHeartbeats 8000000 in
theorem Ly(p:Program)(hl:p.Vars.length≤1000)(k:Nat)(V:List Level)(hV:V.length=k)(v:Var)(hg:p.Vars[k]? =some v)(b x:Level)(hb:fu p.aa=some b)(hx:(if v.Known=true then jD p.aa v.Label else some b)=some x) :
  run G Ω0 E0 Gy (wS p k V)=some (.nrm,wS p (k+1) (V++[x])):=by
 have hlt:k<p.Vars.length:=(List.getElem?_eq_some_iff.1 hg).1
 have hk:((k:Int)<(p.Vars.length:Int)):=by omega
 have hwr:=qA k (by omega)
 have hB:=cR (E:=E0) (lV p.aa b hb) (by simp) (by simp)
 have hm:k+1≤maxLen:=Nat.le_trans (show k+1≤1001 by omega) (by decide)
 have hm2:(k+1)*48≤140737488355328:=by omega
 apply ae (by simp [wS,hk];rfl)
 apply ae
 ·apply dE (by simp [hk])
  exact bU _ _
 apply fG
 apply ae
 ·apply ku
  apply ae (by simp [hg,aW];rfl)
  apply ae (by simp [-bk,hB];rfl)
  have tail:∀ st:St,st.aH [1,2,3,6,10,11,12] [1,2,3,6,1045000,1045001]=⟨[(1,.p ⟨0,1⟩ 0),(2,.p ⟨0,2⟩ 0),(3,.p ⟨0,3⟩ 0),(6,.p ⟨0,6⟩ 0),(10,.l 83 (p.Vars.map aW)),(11,I p.Vars.length),(12,I k)],[(1,ar p),(2,rC),(3,[.o 45 (V.map aE),.o 45 []]),(6,av x)],H0⟩→
    run G Ω0 E0 Ql st=some (.nrm,⟨[(1,.p ⟨0,1⟩ 0),(2,.p ⟨0,2⟩ 0),(3,.p ⟨0,3⟩ 0),(10,.l 83 (p.Vars.map aW)),(11,I p.Vars.length),(12,I k)],[(1,ar p),(2,rC),(3,[.o 45 ((V++[x]).map aE),.o 45 []])],H0⟩):=by
   intro st hst
   apply fG
   rw [hst]
   simp [Qk,hV,hm,hm2,aE]
  cases hkn:v.Known with
  | true=>
   rw [if_pos hkn] at hx
   have hA:=cR (E:=E0) (qT p.aa v.Label x hx) (by simp) (by simp)
   apply ae
   ·apply ae (by simp;rfl)
    apply dE (by simp [hkn])
    simp [-bk,hA]
    rfl
   exact tail _ rfl
  | false=>
   rw [if_neg (by simp [hkn])] at hx
   obtain rfl:=Option.some.inj hx
   apply ae
   ·apply ae (by simp;rfl)
    apply bS (by simp [hkn])
    exact bU _ _
   exact tail _ rfl
 simp [wS,hwr]
theorem FB(p:Program)(hl:p.Vars.length≤1000):∀ (rest:List Var)(k:Nat)(V V':List Level),p.Vars.drop k=rest→V.length=k→Bi p rest V=some V'→
  ∃ z,ju G Ω0 E0 Qm (wS p k V)=some (.ex 0,z)∧z.aH [1,2,3] [1,2,3,1045000,1045001]=⟨[(1,.p ⟨0,1⟩ 0),(2,.p ⟨0,2⟩ 0),(3,.p ⟨0,3⟩ 0)],[(1,ar p),(2,rC),(3,[.o 45 (V'.map aE),.o 45 []])],H0⟩
 | [],k,V,V',hd,hV,h=>by
  obtain rfl:=Option.some.inj h
  have hk:¬((k:Int)<(p.Vars.length:Int)):=by
   have:=List.drop_eq_nil_iff.1 hd;omega
  apply Exists.intro
  apply And.intro
  ·refine ig (r:=(.ex 0,?_)) ?_ (by simp)
   rotate_left
   ·show run G Ω0 _ Gy (wS p k V)=_
    apply ae (by simp [wS,hk];rfl)
    apply rq
    apply bS (by simp [hk])
    exact iC _ _ _
  ·simp
 | v::rest,k,V,V',hd,hV,h=>by
  obtain ⟨b,hb,h⟩:=Option.bind_eq_some_iff.1 h
  obtain ⟨x,hx,h⟩:=Option.bind_eq_some_iff.1 h
  have hg:p.Vars[k]? =some v:=by
   have:=congrArg (fun l=>l[0]?) hd
   simpa using this
  have hd2:p.Vars.drop (k+1)=rest:=by
   have:=congrArg List.tail hd
   simpa using this
  obtain ⟨z,h1,h2⟩:=FB p hl rest (k+1) (V++[x]) V' hd2 (by simp [hV]) h
  refine ⟨z,?_,h2⟩
  rw [iE]
  exact h1
  show (run G Ω0 _ Gy (wS p k V)).bind _=_
  rw [Ly p hl k V hV v hg b x hb hx];rfl
def tS(p:Program)(k:Nat)(V F:List Level):St:=⟨[(1,.p ⟨0,1⟩ 0),(2,.p ⟨0,2⟩ 0),(3,.p ⟨0,3⟩ 0),(35,I p.Funcs.length),(36,I k)],[(1,ar p),(2,rC),(3,[.o 45 (V.map aE),.o 45 (F.map aE)])],H0⟩
set_option maxHeartbeats 8000000 in
theorem DG(p:Program)(hl:p.Funcs.length≤1000)(V:List Level):∀ (rest:List Func)(k:Nat)(F F':List Level),p.Funcs.drop k=rest→F.length=k→Bj p rest F=some F'→
  ∃ z,ju G Ω0 E0 Qn (tS p k V F)=some (.ex 2,z)∧z.aH [1,2,3] [1,2,3,1045000,1045001]=⟨[(1,.p ⟨0,1⟩ 0),(2,.p ⟨0,2⟩ 0),(3,.p ⟨0,3⟩ 0)],[(1,ar p),(2,rC),(3,[.o 45 (V.map aE),.o 45 (F'.map aE)])],H0⟩
 | [],k,F,F',hd,hF,h=>by
  obtain rfl:=Option.some.inj h
  have hk:¬((k:Int)<(p.Funcs.length:Int)):=by
   have:=List.drop_eq_nil_iff.1 hd;omega
  apply Exists.intro
  apply And.intro
  ·refine ig (r:=(.ex 2,?_)) ?_ (by simp)
   rotate_left
   ·show run G Ω0 _ Gz (tS p k V F)=_
    apply ae (by simp [tS,hk];rfl)
    apply rq
    apply bS (by simp [hk])
    exact iC _ _ _
  ·simp
 | f::rest,k,F,F',hd,hF,h=>by
  obtain ⟨b,hb,h⟩:=Option.bind_eq_some_iff.1 h
  have hlt:k<p.Funcs.length:=by
   have h1:=congrArg List.length hd
   simp only [List.length_drop,List.length_cons] at h1
   omega
  have hd2:p.Funcs.drop (k+1)=rest:=by
   have:=congrArg List.tail hd
   simpa using this
  have hk:((k:Int)<(p.Funcs.length:Int)):=by omega
  have hwr:=qA k (by omega)
  have hB:=cR (E:=E0) (lV p.aa b hb) (by simp) (by simp)
  have hm:k+1≤maxLen:=Nat.le_trans (show k+1≤1001 by omega) (by decide)
  have hm2:(k+1)*48≤140737488355328:=by omega
  obtain ⟨z,h1,h2⟩:=DG p hl V rest (k+1) (F++[b]) F' hd2 (by simp [hF]) h
  refine ⟨z,?_,h2⟩
  rw [iE]
  exact h1
  show (run G Ω0 _ Gz (tS p k V F)).bind _=_
  have:run G Ω0 E0 Gz (tS p k V F)=some (.nrm,tS p (k+1) V (F++[b])):=by
   apply ae (by simp [tS,hk];rfl)
   apply ae
   ·apply dE (by simp [hk])
    exact bU _ _
   apply fG
   apply ae
   ·apply ku
    simp [-bk,hB,hF,hm,hm2]
    rfl
   simp [tS,hwr,aE]
  rw [this];rfl
@[simp] theorem PA (k:Key):∀ V:List Level,AV.bM k (dD V)=true
 | []=>rfl
 | l::r=>by
  have ih:=PA k r
  show AV.bM k (.l _ _::.l _ _::dD r)=true
  simp only [AV.bM,AV.bb,ih,Bool.and_self]
@[simp] theorem Nd (dp:Nat):∀ V:List Level,AV.bP dp (dD V)=true
 | []=>rfl
 | l::r=>by
  have ih:=Nd dp r
  show AV.bP dp (.l _ _::.l _ _::dD r)=true
  simp only [AV.bP,AV.deep,ih,Bool.and_self]
theorem FC(V:List Level):(V.map aE).flatMap AV.cl=dD V:=by
 rw [List.flatMap_map];rfl
abbrev Au(b:Bool)(k:Key)(n:Nat):AV:=if b=true then .sp k 0 n 2 else .l 45 []
def cG(p:Program)(bV bF:Bool)(nV nF:Nat)(s:cy)(d:AV)(a:Nat):St:=
 ⟨[(1,.p ⟨0,1⟩ 0),(2,.p ⟨0,2⟩ 0),(3,.p ⟨0,3⟩ 0),(7,.p ⟨0,7⟩ 0),(8,.p ⟨0,8⟩ 0),(50,.p ⟨0,50⟩ 0)],(1,ar p)::(2,rC)::(3,[Au bV kV nV,Au bF kF nF])::(7,[.p ⟨0,50⟩ 0])::(8,[.b s.ch])::(50,bA p (Au bV kV nV) (Au bF kF nF) d a [])::((if bV=true then [(1045000,dD s.V)] else [])++(if bF=true then [(1045001,dD s.F)] else [])),H0⟩
theorem Kc(V:List Level):((V.map aE).all fun e=>e.nc==2)=true:=acn aE _ (fun _=>rfl) V
set_option maxHeartbeats 8000000 in
theorem pins(p:Program)(V F:List Level):∃ st,run G Ω0 E0 (.rg [.iq 3 0 1045000 2,.iq 3 1 1045001 2] [gp 47 (.ld (some 8) (.t 1)),gp 48 (.ld (some 2) (.t 3)),gp 49 (.bd [(.i .i64 0),(.l 166 []),(.l 3 []),(.l 81 []),(.l 81 []),(.l 83 []),(.l 101 []),(.l 92 []),(.l 45 []),(.l 45 []),.nf,(.i .i64 0)] [(0,8,(.t 47)),(8,2,(.t 48))]),gp 50 (.bx (.t 49)),gp 7 (.al [.z]),⟨none,.st 1 (.t 7) (.t 50),none,false⟩] [1,2,3,7,50] [1,2,3,7,50,1045000,1045001])
  ⟨[(1,.p ⟨0,1⟩ 0),(2,.p ⟨0,2⟩ 0),(3,.p ⟨0,3⟩ 0)],[(1,ar p),(2,rC),(3,[.o 45 (V.map aE),.o 45 (F.map aE)])],H0⟩=some (.nrm,st)∧
  run G Ω0 E0 (.rg [] [gp 8 (.al [(.b false)]),⟨none,.st 1 (.t 8) (.c (.b true)),none,false⟩] [1,2,3,7,8,50] [1,2,3,7,8,50,1045000,1045001]) st=some (.nrm,cG p (!V.isEmpty) (!F.isEmpty) V.length F.length ⟨V,F,true⟩ .nf 0):=by
 have h1:=FC V
 have h2:=FC F
 have h3:=Kc V
 have h4:=Kc F
 simp only [List.all_map] at h3 h4
 by_cases hV:V=[]
 ·subst hV
  by_cases hF:F=[]
  ·subst hF
   apply Exists.intro
   apply And.intro
   ·simp
    rfl
   simp [cG]
  ·have hF2:F.isEmpty=false:=by simp [hF]
   apply Exists.intro
   apply And.intro
   ·simp [hF,h2,tc,aE]
    rfl
   simp [cG,hF2]
 ·have hV2:V.isEmpty=false:=by simp [hV]
  by_cases hF:F=[]
  ·subst hF
   apply Exists.intro
   apply And.intro
   ·simp [hV,h1,tc,aE]
    rfl
   simp [cG,hV2]
  ·have hF2:F.isEmpty=false:=by simp [hF]
   apply Exists.intro
   apply And.intro
   ·simp [hV,hF,h1,h2,tc,aE]
    rfl
   simp [cG,hV2,hF2]
structure ye(bV bF:Bool)(nV nF:Nat)(s:cy):Prop where
 v1:bV=true→s.V.length=nV∧0<nV
 v0:bV=false→s.V=[]
 f1:bF=true→s.F.length=nF∧0<nF
 f0:bF=false→s.F=[]
theorem Bk{H:HP}{k k':Key}{n:Nat}{ls:List Level}(h:As H k (.sp k' 0 n 2) ls):ls.length=n∧H k=some (dD ls):=by
 rcases h with ⟨h,_⟩ | ⟨h,h2⟩
 ·cases h
 ·injection h with _ _ h _;exact ⟨h.symm,h2⟩
theorem Bl{H:HP}{k:Key}{ls:List Level}(h:As H k (.l 45 []) ls):ls=[]:=by
 rcases h with ⟨_,h⟩ | ⟨h,_⟩
 ·exact h
 ·cases h
set_option maxHeartbeats 16000000 in
theorem Lz(p:Program)(bV bF:Bool)(nV nF:Nat)(s s':cy)(d:AV)(a a':Nat)(hch:s.ch=true)(hI:ye bV bF nV nF s)(hs:vO p cy.V cy.F (q8 p) ⟨s.V,s.F,false⟩=some (a',s'))(hd:d= .nf∨d= .u) :
  ye bV bF nV nF s'∧∃ st,run G Ω0 E0 CX (cG p bV bF nV nF s d a)=some (.nrm,st)∧st.aH [1,2,3,7,8,50] [1,2,3,7,8,50,1045000,1045001]=cG p bV bF nV nF s' .u a':=by
 have low:ax 1 (fun k=>(cG p bV bF nV nF ⟨s.V,s.F,false⟩ (.f 97 pC) a).box 0 k):=fun k hk=>by
  show (if k.dp=0 then _ else none)=none
  rw [if_neg (by omega)]
 cases bV with
 | true=>
  cases bF with
  | true=>
   obtain ⟨H',c1,r,c3,c4⟩:=yc (GH p (.sp kV 0 nV 2) (.sp kF 0 nF 2)) (dp:=1) (a:=a) (H:=fun k=>(cG p true true nV nF ⟨s.V,s.F,false⟩ (.f 97 pC) a).box 0 k) (by decide) low ⟨rfl,rfl,rfl,rfl,rfl,rfl,.inr ⟨by rw [(hI.v1 rfl).1],rfl⟩,.inr ⟨by rw [(hI.f1 rfl).1],rfl⟩⟩ hs
   have g1:=r.h1
   have g2:=r.h2
   have g3:=r.h3
   have g7:=r.h7
   have g8:=r.h8
   have g50:=r.hw
   have gV:=Bk r.hx
   have gF:=Bk r.hy
   refine ⟨⟨fun _=>⟨gV.1,(hI.v1 rfl).2⟩,fun h=>(by cases h),fun _=>⟨gF.1,(hI.f1 rfl).2⟩,fun h=>(by cases h)⟩,?_⟩
   simp [cG] at c1
   apply Exists.intro
   apply And.intro
   ·apply ae
    ·apply ae (by simp [cG];rfl)
     apply dE (by simp [hch])
     exact bU _ _
    apply fG
    apply ae
    ·apply ku
     apply ae (by simp;rfl)
     apply ae (by simp;rfl)
     simp [bj,AV.cj,c1,St.back,bC,g1,g2,g3,g7,g8,g50,gV.2,gF.2]
     rfl
    apply ae (by simp;rfl)
    simp
    rfl
   ·simp [cG]
  | false=>
   obtain ⟨H',c1,r,c3,c4⟩:=yc (GH p (.sp kV 0 nV 2) (.l 45 [])) (dp:=1) (a:=a) (H:=fun k=>(cG p true false nV nF ⟨s.V,s.F,false⟩ (.f 97 pC) a).box 0 k) (by decide) low ⟨rfl,rfl,rfl,rfl,rfl,rfl,.inr ⟨by rw [(hI.v1 rfl).1],rfl⟩,.inl ⟨rfl,hI.f0 rfl⟩⟩ hs
   have g1:=r.h1
   have g2:=r.h2
   have g3:=r.h3
   have g7:=r.h7
   have g8:=r.h8
   have g50:=r.hw
   have gV:=Bk r.hx
   have gF:=Bl r.hy
   refine ⟨⟨fun _=>⟨gV.1,(hI.v1 rfl).2⟩,fun h=>(by cases h),fun h=>(by cases h),fun _=>gF⟩,?_⟩
   simp [cG] at c1
   apply Exists.intro
   apply And.intro
   ·apply ae
    ·apply ae (by simp [cG];rfl)
     apply dE (by simp [hch])
     exact bU _ _
    apply fG
    apply ae
    ·apply ku
     apply ae (by simp;rfl)
     apply ae (by simp;rfl)
     simp [bj,AV.cj,c1,St.back,bC,g1,g2,g3,g7,g8,g50,gV.2]
     rfl
    apply ae (by simp;rfl)
    simp
    rfl
   ·simp [cG]
 | false=>
  cases bF with
  | true=>
   obtain ⟨H',c1,r,c3,c4⟩:=yc (GH p (.l 45 []) (.sp kF 0 nF 2)) (dp:=1) (a:=a) (H:=fun k=>(cG p false true nV nF ⟨s.V,s.F,false⟩ (.f 97 pC) a).box 0 k) (by decide) low ⟨rfl,rfl,rfl,rfl,rfl,rfl,.inl ⟨rfl,hI.v0 rfl⟩,.inr ⟨by rw [(hI.f1 rfl).1],rfl⟩⟩ hs
   have g1:=r.h1
   have g2:=r.h2
   have g3:=r.h3
   have g7:=r.h7
   have g8:=r.h8
   have g50:=r.hw
   have gV:=Bl r.hx
   have gF:=Bk r.hy
   refine ⟨⟨fun h=>(by cases h),fun _=>gV,fun _=>⟨gF.1,(hI.f1 rfl).2⟩,fun h=>(by cases h)⟩,?_⟩
   simp [cG] at c1
   apply Exists.intro
   apply And.intro
   ·apply ae
    ·apply ae (by simp [cG];rfl)
     apply dE (by simp [hch])
     exact bU _ _
    apply fG
    apply ae
    ·apply ku
     apply ae (by simp;rfl)
     apply ae (by simp;rfl)
     simp [bj,AV.cj,c1,St.back,bC,g1,g2,g3,g7,g8,g50,gF.2]
     rfl
    apply ae (by simp;rfl)
    simp
    rfl
   ·simp [cG]
  | false=>
   obtain ⟨H',c1,r,c3,c4⟩:=yc (GH p (.l 45 []) (.l 45 [])) (dp:=1) (a:=a) (H:=fun k=>(cG p false false nV nF ⟨s.V,s.F,false⟩ (.f 97 pC) a).box 0 k) (by decide) low ⟨rfl,rfl,rfl,rfl,rfl,rfl,.inl ⟨rfl,hI.v0 rfl⟩,.inl ⟨rfl,hI.f0 rfl⟩⟩ hs
   have g1:=r.h1
   have g2:=r.h2
   have g3:=r.h3
   have g7:=r.h7
   have g8:=r.h8
   have g50:=r.hw
   have gV:=Bl r.hx
   have gF:=Bl r.hy
   refine ⟨⟨fun h=>(by cases h),fun _=>gV,fun h=>(by cases h),fun _=>gF⟩,?_⟩
   simp [cG] at c1
   apply Exists.intro
   apply And.intro
   ·apply ae
    ·apply ae (by simp [cG];rfl)
     apply dE (by simp [hch])
     exact bU _ _
    apply fG
    apply ae
    ·apply ku
     apply ae (by simp;rfl)
     apply ae (by simp;rfl)
     simp [bj,AV.cj,c1,St.back,bC,g1,g2,g3,g7,g8,g50]
     rfl
    apply ae (by simp;rfl)
    simp
    rfl
   ·simp [cG]
set_option maxHeartbeats 8000000 in
theorem PB(p:Program)(bV bF:Bool)(nV nF:Nat)(s:cy)(d:AV)(a:Nat)(hch:s.ch=false)(hI:ye bV bF nV nF s):∃ st,run G Ω0 E0 CX (cG p bV bF nV nF s d a)=some (.ex 4,st)∧
  run G Ω0 E0 (.rg [.unp 3 0,.unp 3 1] [gp 59 (.ld (some 2) (.t 3)),⟨none,.st 2 (.t 2) (.t 59),none,false⟩] [2] [2]) st=some (.nrm,⟨[(2,.p ⟨0,2⟩ 0)],[(2,[.l 45 (s.V.map aE),.l 45 (s.F.map aE)])],H0⟩):=by
 have c1:=tr s.V
 have c2:=tr s.F
 have p1:=Ap s.V
 have p2:=Ap s.F
 have l1:=tR s.V
 have l2:=tR s.F
 cases bV with
 | true=>
  have hV:=(hI.v1 rfl).1
  rw [hV] at c1 l1
  cases bF with
  | true=>
   have hF:=(hI.f1 rfl).1
   rw [hF] at c2 l2
   apply Exists.intro
   apply And.intro
   ·apply rq
    apply ae (by simp [cG];rfl)
    apply bS (by simp [hch])
    exact iC _ _ _
   simp [p1,p2,l1,l2,c1,c2,od,Au,Nat.mul_comm]
  | false=>
   have hF:=hI.f0 rfl
   apply Exists.intro
   apply And.intro
   ·apply rq
    apply ae (by simp [cG];rfl)
    apply bS (by simp [hch])
    exact iC _ _ _
   simp [p1,l1,c1,hF,od,Au,Nat.mul_comm]
 | false=>
  have hV:=hI.v0 rfl
  cases bF with
  | true=>
   have hF:=(hI.f1 rfl).1
   rw [hF] at c2 l2
   apply Exists.intro
   apply And.intro
   ·apply rq
    apply ae (by simp [cG];rfl)
    apply bS (by simp [hch])
    exact iC _ _ _
   simp [p2,l2,c2,hV,od,Au,Nat.mul_comm]
  | false=>
   have hF:=hI.f0 rfl
   apply Exists.intro
   apply And.intro
   ·apply rq
    apply ae (by simp [cG];rfl)
    apply bS (by simp [hch])
    exact iC _ _ _
   simp [hV,hF,Au]
theorem FD(p:Program)(bV bF:Bool)(nV nF:Nat):∀ (n:Nat)(s s':cy)(d:AV)(a:Nat),ye bV bF nV nF s→(d= .nf∨d= .u)→qB (yR p) n s=some s'→
  ∃ st,ju G Ω0 E0 Qo (cG p bV bF nV nF s d a)=some (.ex 4,st)∧
   run G Ω0 E0 (.rg [.unp 3 0,.unp 3 1] [gp 59 (.ld (some 2) (.t 3)),⟨none,.st 2 (.t 2) (.t 59),none,false⟩] [2] [2]) st=some (.nrm,⟨[(2,.p ⟨0,2⟩ 0)],[(2,[.l 45 (s'.V.map aE),.l 45 (s'.F.map aE)])],H0⟩)
 | 0,s,s',d,a,hI,hd,h=>by cases h
 | n+1,s,s',d,a,hI,hd,h=>by
  have hkeep:(cG p bV bF nV nF s d a).aH [1,2,3,7,8,50] [1,2,3,7,8,50,1045000,1045001]=cG p bV bF nV nF s d a:=by
   cases bV<;>cases bF<;>rfl
  rw [qB] at h
  cases hch:s.ch with
  | true=>
   have hB:yR p s=(vO p cy.V cy.F (q8 p) ⟨s.V,s.F,false⟩).bind fun r=>some (.inl r.2):=by unfold yR;rw [if_pos hch]
   rw [hB] at h
   cases hg:vO p cy.V cy.F (q8 p) ⟨s.V,s.F,false⟩ with
   | none=>rw [hg] at h;cases h
   | some r=>
    obtain ⟨a',s1⟩:=r
    rw [hg] at h
    obtain ⟨hI1,st,r1,r2⟩:=Lz p bV bF nV nF s s1 d a a' hch hI hg hd
    obtain ⟨st2,q1,q2⟩:=FD p bV bF nV nF n s1 s' .u a' hI1 (.inr rfl) h
    refine ⟨st2,?_,q2⟩
    rw [iE]
    exact q1
    show (run G Ω0 _ CX ((cG p bV bF nV nF s d a).aH [1,2,3,7,8,50] [1,2,3,7,8,50,1045000,1045001])).bind _=_
    rw [hkeep,r1]
    exact congrArg some r2
  | false=>
   have hB:yR p s=some (.inr s):=by unfold yR;rw [if_neg (by simp [hch])]
   rw [hB] at h
   obtain rfl:=Option.some.inj h
   obtain ⟨st,r1,r2⟩:=PB p bV bF nV nF s d a hch hI
   refine ⟨st,ig ?_ (by simp),r2⟩
   show run G Ω0 _ CX ((cG p bV bF nV nF s d a).aH [1,2,3,7,8,50] [1,2,3,7,8,50,1045000,1045001])=_
   rw [hkeep,r1]
abbrev Jn(a0:Program)(r:fp):Prop:=call G Ω0 E0 37 [.a (ar a0)] H0=some (.ret (.a [.l 45 (r.Vars.map aE),.l 45 (r.Funcs.map aE)]),H0)
set_option maxHeartbeats 8000000 in
theorem yf(a0:Program)(r:fp)(h:jL a0=some r):Jn a0 r:=by
 unfold jL at h
 split at h
 ·rename_i hl
  obtain ⟨V,hV,h⟩:=Option.bind_eq_some_iff.1 h
  obtain ⟨F,hF,h⟩:=Option.bind_eq_some_iff.1 h
  obtain ⟨s,hs,h⟩:=Option.bind_eq_some_iff.1 h
  obtain rfl:=Option.some.inj h
  obtain ⟨n,hn⟩:=yE hs
  obtain ⟨z1,a1,a2⟩:=FB a0 hl.1 a0.Vars 0 [] V rfl rfl hV
  obtain ⟨z2,b1,b2⟩:=DG a0 hl.2 V a0.Funcs 0 [] F rfl rfl hF
  obtain ⟨z3,c1,c2⟩:=pins a0 V F
  have hI:ye (!V.isEmpty) (!F.isEmpty) V.length F.length ⟨V,F,true⟩:=by
   refine ⟨fun h=>⟨rfl,?_⟩,fun h=>?_,fun h=>⟨rfl,?_⟩,fun h=>?_⟩
   ·cases V with
    | nil=>cases h
    | cons=>simp
   ·simpa using h
   ·cases F with
    | nil=>cases h
    | cons=>simp
   ·simpa using h
  obtain ⟨z4,d1,d2⟩:=FD a0 _ _ _ _ n ⟨V,F,true⟩ s .nf 0 hI (.inl rfl) hn
  show call G Ω0 E0 37 _ _=_
  apply gU G37
  ·apply ae (by simp;rfl)
   apply ae (by simp;rfl)
   apply ae
   ·apply ae (by simp;rfl)
    apply qc
    rw [ey]
    exact a1
   show run G Ω0 _ (.kp _ _ Qq) z1=_
   rw [iD,a2]
   apply ae
   ·apply ae (by simp;rfl)
    apply qc
    rw [ey]
    exact b1
   show run G Ω0 _ (.kp _ _ Qp) z2=_
   rw [iD,b2]
   apply ae c1
   apply ae
   ·apply ae c2
    apply qc
    rw [ey]
    show ju _ _ _ _ ((cG _ _ _ _ _ _ _ _).aH [1,2,3,7,8,50] [1,2,3,7,8,50,1045000,1045001])=_
    rw [show ∀ bV bF nV nF s d a,(cG a0 bV bF nV nF s d a).aH [1,2,3,7,8,50] [1,2,3,7,8,50,1045000,1045001]=cG a0 bV bF nV nF s d a from fun bV bF _ _ _ _ _=>by cases bV<;>cases bF<;>rfl]
    exact d1
   apply ae d2
   exact db _ _
  ·simp [Qr]
  ·rfl
 ·cases h
end Go.Proofs.YtkkkkondjclcnaaGreat.A
