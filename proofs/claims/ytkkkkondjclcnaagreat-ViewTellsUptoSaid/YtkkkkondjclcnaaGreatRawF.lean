/- infer.Raw as a plain function. -/
import Derived.Test.YtkkkkondjclcnaaGreatListF
set_option linter.all false
set_option maxRecDepth 100000
namespace Go.Proofs.YtkkkkondjclcnaaGreat.A
open Go
variable [Lp]
attribute [local simp] gp execOp okB jK eG jf uE lV jR iK St.end_ St.k9 List.filter
structure bW where
 V:List Level
 F:List Level
 ch:Bool
noncomputable def qM(p:Program)(s:bW)(f:dL):Option bW:=
 (ed f.To).bind fun j=>
  if f.Func=true then (s.F[j]?).bind fun t=>(mo f.Level t).bind fun b=>if b=true then some s else (ez t f.Level).bind fun u=>some ⟨s.V,s.F.set j u,true⟩
  else (p.Vars[j]?).bind fun v=>if v.Known=true then some s else (s.V[j]?).bind fun t=>(mo f.Level t).bind fun b=>if b=true then some s else (ez t f.Level).bind fun u=>some ⟨s.V.set j u,s.F,true⟩
noncomputable def vg(p:Program):List dL→bW→Option bW
 | [],s=>some s
 | f::r,s=>(qM p s f).bind fun t=>vg p r t
noncomputable def rE(p:Program)(a:Nat)(st:Stmt)(pl:Level)(s:bW):Option bW:=(rC p s.V st pl).bind fun l=>if l.length≤2000 then vg p l s else none
def Dr(H:HP)(k:Key)(x:AV)(ls:List Level):Prop:=(x= .l 45 []∧ls=[])∨(x= .sp k 0 ls.length 2∧H k=some (dA ls))
theorem Dr.rd{H:HP}{k:Key}{x:AV}{ls:List Level}(h:Dr H k x ls)(hk:k=kV∨k=kF):AO H x ls:=by
 rcases h with ⟨rfl,rfl⟩ | ⟨rfl,h⟩
 ·exact .l _ []
 ·exact .sp k ls h hk
theorem Dr.ext{H H':HP}{k:Key}{x:AV}{ls:List Level}(h:Dr H k x ls)(e:H' k=H k):Dr H' k x ls:=h.imp id fun h=>⟨h.1,by rw [e];exact h.2⟩
abbrev rF:List AV:=[.p ⟨0,7⟩ 0,.p ⟨0,3⟩ 0,.p ⟨0,1⟩ 0,.p ⟨0,8⟩ 0]
structure sE(p:Program)(x y:AV)(a:Nat)(s:bW)(H:HP):Prop where
 h1:H ⟨0,1⟩=some (ar p)
 h2:H ⟨0,2⟩=some [.l 45 [],.l 45 []]
 h3:H ⟨0,3⟩=some [x,y]
 h7:H ⟨0,7⟩=some [.p ⟨0,50⟩ 0]
 h8:H ⟨0,8⟩=some [.b s.ch]
 hw:H ⟨0,50⟩=some (nK p x y (.f 97 rF) a [])
 hx:Dr H kV x s.V
 hy:Dr H kF y s.F
theorem BF{u:Level} : ∀ {ls:List Level}{j:Nat},j<ls.length→List.take (j*2) (dA ls)++(aN u++List.drop (j*2+2) (dA ls))=dA (ls.set j u)
 | [],j,h=>by simp at h
 | l::r,0,h=>rfl
 | l::r,j+1,h=>by
  have h2:=BF (u:=u) (ls:=r) (j:=j) (by simpa using h)
  rw [show (j+1)*2=j*2+2 by omega]
  show .l _ _::.l _ _::(_++_)= .l _ _::.l _ _::dA (r.set j u)
  rw [←h2]
  rfl
abbrev K6(f:dL):List AV:=[(.l 4 (f.Level.Readers.map AV.b)),(.l 4 (f.Level.Writers.map AV.b)),(I f.To),(.b f.Func)]
def po(fs:List dL)(k:Nat)(H:HP):St:=⟨[(4,.p ⟨0,3⟩ 0),(5,.p ⟨0,1⟩ 0),(6,.p ⟨0,8⟩ 0),(16,.l 96 (fs.map eL)),(17,I fs.length),(18,I k)],[],H⟩
def pK(dp:Nat)(fs:List dL)(k:Nat)(f:dL)(w:AV)(H:HP):St:=⟨[(4,.p ⟨0,3⟩ 0),(5,.p ⟨0,1⟩ 0),(6,.p ⟨0,8⟩ 0),(11,.p ⟨dp,11⟩ 0),(12,w),(16,.l 96 (fs.map eL)),(17,I fs.length),(18,I k)],[(11,K6 f)],H⟩
set_option maxHeartbeats 8000000 in
theorem Oo(dp:Nat)(hd:0<dp)(H:HP)(fs:List dL)(k:Nat)(f:dL)(kk:Key)(hk:kk=kV∨kk=kF)(c:Bool)(h8:H ⟨0,8⟩=some [.b c])(ls:List Level)(hH:H kk=some (dA ls))(j:Nat)(hj:f.To=j)(t:Level)(ht:ls[j]? =some t)(b:Bool)(hb:mo f.Level t=some b)(u:Level)
  (hu:b=false→ez t f.Level=some u) :
  run G Ω0 ⟨dp,false⟩ VB (pK dp fs k f (.sp kk 0 ls.length 2) H)=some (.nrm,if b=true then ⟨[(4,.p ⟨0,3⟩ 0),(5,.p ⟨0,1⟩ 0),(6,.p ⟨0,8⟩ 0),(11,.p ⟨dp,11⟩ 0),(12,.sp kk 0 ls.length 2),(16,.l 96 (fs.map eL)),(17,I fs.length),(18,I k),(44,.b false)],[(11,K6 f)],H⟩ else po fs k (aF (aF H kk (dA (ls.set j u))) ⟨0,8⟩ [.b true])):=by
 have ek:kk.dp=0:=by rcases hk with rfl | rfl<;>rfl
 have ek2:kk≠⟨0,8⟩:=by rcases hk with rfl | rfl<;>decide
 have e0:¬kk.dp=dp:=by omega
 have e1:¬0=dp:=by omega
 have e2:∀ d,¬kk=⟨dp,d⟩:=fun d=>cP (by omega)
 obtain ⟨f1,f2⟩:=wi ht
 have f3:j<ls.length:=(dh.1 ht).1
 have f4:=BF (u:=u) f3
 have hA:=cw (E:=⟨dp,false⟩) (FE f.Level t b hb) (by simp) (by simp)
 apply dU
 apply ak
 ·apply eZ 4
  ·rfl
  ·simp [pK]
  ·simp [pK,e2]
   rfl
  ·simp [-aU,e0,e1,e2,hj,hH,f1,f2,f3,hA]
   rfl
  ·simp
   rfl
 cases b with
 | true=>
  apply cg (by simp)
  exact bM _ _
 | false=>
  apply cX (by simp)
  have hB:=cw (E:=⟨dp,false⟩) (mR t f.Level u (hu rfl)) (by simp) (by simp)
  have hh:(aF H kk (dA (ls.set j u))) ⟨0,8⟩=some [.b c]:=by rw [oY (p8 ek2)];exact h8
  refine ak (st1:=po fs k (aF H kk (dA (ls.set j u)))) ?_ ?_
  ·apply eZ 6
   ·rfl
   ·simp
   ·simp [e2,hj]
    rfl
   ·simp [-aU,e0,e1,e2,hj,hH,f1,f2,f3,hB]
    rfl
   ·simp [po,←f4]
  simp [po,e1,hh]
theorem K7{E:Env}{kf kb:List Nat}{x:AC}{st st':St}(h:st.aP kf kb=st'.aP kf kb):run G Ω0 E (.kp kf kb x) st=run G Ω0 E (.kp kf kb x) st':=by rw [kN,h,kN]
theorem JU{H:HP}{k:Key}{x:AV}{ls:List Level}(h:Dr H k x ls):x= .l 45 []∨x= .sp k 0 ls.length 2:=h.imp (·.1) (·.1)
theorem Oq{H:HP}{k:Key}{x:AV}{ls:List Level}{j:Nat}{t:Level}(h:Dr H k x ls)(ht:ls[j]? =some t):x= .sp k 0 ls.length 2∧H k=some (dA ls):=by
 rcases h with ⟨_,rfl⟩ | h
 ·simp at ht
 ·exact h
set_option maxHeartbeats 8000000 in
theorem RD(p:Program)(x y:AV)(a:Nat)(s s':bW)(dp:Nat)(hd:0<dp)(H:HP)(hz:cF dp H)(r:sE p x y a s H)(fs:List dL)(hl:fs.length≤2000)(k:Nat)(f:dL)(hg:fs[k]? =some f)(hs:qM p s f=some s') :
  ∃ H',run G Ω0 ⟨dp,false⟩ KU (po fs k H)=some (.nrm,po fs (k+1) H')∧sE p x y a s' H'∧cF dp H'∧∀ k:Key,k.dp≠0→H' k=H k:=by
 have hlt:k<fs.length:=(dh.1 hg).1
 have hk:((k:Int)<(fs.length:Int)):=by omega
 have hwr:=gZ k (by omega)
 have e1:¬0=dp:=by omega
 obtain ⟨j,hj,hs⟩:=ah.1 hs
 have hj:=pb hj
 have r3:=r.h3
 have r1:=r.h1
 have hR2:run G Ω0 ⟨dp,false⟩ (.rg [] [gp 22 (.fa 1 (.t 4)),gp 23 (.ld none (.t 22)),gp 12 (.as (.t 23))] [4,5,6,11,12,16,17,18] [4,5,6,11]) ⟨[(4,.p ⟨0,3⟩ 0),(5,.p ⟨0,1⟩ 0),(6,.p ⟨0,8⟩ 0),(11,.p ⟨dp,11⟩ 0),(16,.l 96 (fs.map eL)),(17,I fs.length),(18,I k)],[(11,K6 f)],H⟩=some (.nrm,pK dp fs k f y H):=by
  have hy:=r.hy
  clear r
  rcases JU hy with rfl | rfl<;>simp [e1,r3,pK]
 have hR3:run G Ω0 ⟨dp,false⟩ (.rg [] [gp 27 (.fa 0 (.t 4)),gp 28 (.ld none (.t 27)),gp 12 (.as (.t 28))] [4,5,6,11,12,16,17,18] [4,5,6,11]) ⟨[(4,.p ⟨0,3⟩ 0),(5,.p ⟨0,1⟩ 0),(6,.p ⟨0,8⟩ 0),(11,.p ⟨dp,11⟩ 0),(12,y),(16,.l 96 (fs.map eL)),(17,I fs.length),(18,I k),(26,.b (!f.Func))],[(11,K6 f)],H⟩=some (.nrm,pK dp fs k f x H):=by
  have hx:=r.hx
  clear r hR2
  rcases JU hx with rfl | rfl<;>simp [e1,r3,pK]
 have fin:∀ (st:St)(H':HP),st.aP [4,5,6,16,17,18] [4,5,6]=po fs k H'→run G Ω0 ⟨dp,false⟩ (.rg [] [gp 57 (.bo .add false (.t 18) (.c (.i .i64 1))),gp 18 (.mv (.t 57))] [4,5,6,16,17,18] [4,5,6]) st=some (.nrm,po fs (k+1) H'):=by
  intro st H' h
  have h4:ax st.fr 4= .p ⟨0,3⟩ 0:=an (fun z=>ax z.fr 4) h
  have h5:ax st.fr 5= .p ⟨0,1⟩ 0:=an (fun z=>ax z.fr 5) h
  have h6:ax st.fr 6= .p ⟨0,8⟩ 0:=an (fun z=>ax z.fr 6) h
  have h16:ax st.fr 16= .l 96 (fs.map eL):=an (fun z=>ax z.fr 16) h
  have h17:ax st.fr 17=I fs.length:=an (fun z=>ax z.fr 17) h
  have h18:ax st.fr 18=I k:=an (fun z=>ax z.fr 18) h
  have hb:dk st.bx [4,5,6]=[]:=an St.bx h
  have hh:st.hp=H':=an St.hp h
  simp [h4,h5,h6,h16,h17,h18,hwr,po,hh,-dk,hb]
 by_cases hf:f.Func=true
 ·rw [ab hf] at hs
  obtain ⟨t,ht,hs⟩:=ah.1 hs
  obtain ⟨b,hb,hs⟩:=ah.1 hs
  obtain ⟨hy1,hy2⟩:=Oq r.hy ht
  have hu:∃ u,(b=false→ez t f.Level=some u)∧s'=if b=true then s else ⟨s.V,s.F.set j u,true⟩:=by
   cases b with
   | true=>exact ⟨t,fun h=>(by cases h),(aa hs).symm⟩
   | false=>
    obtain ⟨u,hu,hs⟩:=ah.1 hs
    exact ⟨u,fun _=>hu,(aa hs).symm⟩
  obtain ⟨u,hu,rfl⟩:=hu
  subst hy1
  have hk3:kF≠kV:=by decide
  refine ⟨if b=true then H else aF (aF H kF (dA (s.F.set j u))) ⟨0,8⟩ [.b true],?_,?_⟩
  ·apply ak (by simp [po,hk];rfl)
   apply ak
   ·apply cX (by simp [hk])
    exact bM _ _
   apply dU
   apply ak
   ·apply eY
    apply ak (by simp [hg,eL];rfl)
    apply ak hR2
    apply ak
    ·apply ak (by simp [pK];rfl)
     apply cg (by simp [hf])
     exact bM _ _
    refine Eq.trans (K7 (st':=pK dp fs k f (.sp kF 0 s.F.length 2) H) ?_) (Oo dp hd H fs k f kF (.inr rfl) s.ch r.h8 s.F hy2 j hj t ht b hb u hu)
    rfl
   exact fin _ _ (by cases b<;>rfl)
  ·cases b with
   | true=>exact ⟨r,hz,fun _ _=>rfl⟩
   | false=>
    refine ⟨⟨r.h1,r.h2,r.h3,r.h7,rfl,r.hw,r.hx.ext rfl,.inr ⟨?_,rfl⟩⟩,cu hd (cu hd hz),fun q hq=>?_⟩
    ·show AV.sp kF 0 s.F.length 2=AV.sp kF 0 (s.F.set j u).length 2
     rw [tG]
    ·simp only [bB,aM]
     rw [oY (fun e=>hq (by rw [e])),oY (fun e=>hq (by rw [e]))]
 ·rw [ad hf] at hs
  obtain ⟨v,hv,hs⟩:=ah.1 hs
  by_cases hv2:v.Known=true
  ·rw [ab hv2] at hs
   obtain rfl:=aa hs
   refine ⟨H,?_,r,hz,fun _ _=>rfl⟩
   apply ak (by simp [po,hk];rfl)
   apply ak
   ·apply cX (by simp [hk])
    exact bM _ _
   apply dU
   apply ak
   ·apply ny
    apply ak (by simp [hg,eL];rfl)
    apply ak hR2
    apply iQ
    apply ak (by simp [pK];rfl)
    apply cX (by simp [hf])
    apply ak hR3
    apply ak (by simp [pK,e1,r1,hj,hv,cJ];rfl)
    apply cX (by simp [hv2])
    exact dN _ _ _
   exact fin _ _ rfl
  ·rw [ad hv2] at hs
   obtain ⟨t,ht,hs⟩:=ah.1 hs
   obtain ⟨b,hb,hs⟩:=ah.1 hs
   obtain ⟨hx1,hx2⟩:=Oq r.hx ht
   have hu:∃ u,(b=false→ez t f.Level=some u)∧s'=if b=true then s else ⟨s.V.set j u,s.F,true⟩:=by
    cases b with
    | true=>exact ⟨t,fun h=>(by cases h),(aa hs).symm⟩
    | false=>
     obtain ⟨u,hu,hs⟩:=ah.1 hs
     exact ⟨u,fun _=>hu,(aa hs).symm⟩
   obtain ⟨u,hu,rfl⟩:=hu
   subst hx1
   refine ⟨if b=true then H else aF (aF H kV (dA (s.V.set j u))) ⟨0,8⟩ [.b true],?_,?_⟩
   ·apply ak (by simp [po,hk];rfl)
    apply ak
    ·apply cX (by simp [hk])
     exact bM _ _
    apply dU
    apply ak
    ·apply eY
     apply ak (by simp [hg,eL];rfl)
     apply ak hR2
     apply ak
     ·apply ak (by simp [pK];rfl)
      apply cX (by simp [hf])
      apply ak hR3
      apply ak (by simp [pK,e1,r1,hj,hv,cJ];rfl)
      apply cg (by simp [hv2])
      exact bM _ _
     refine Eq.trans (K7 (st':=pK dp fs k f (.sp kV 0 s.V.length 2) H) ?_) (Oo dp hd H fs k f kV (.inl rfl) s.ch r.h8 s.V hx2 j hj t ht b hb u hu)
     rfl
    exact fin _ _ (by cases b<;>rfl)
   ·cases b with
    | true=>exact ⟨r,hz,fun _ _=>rfl⟩
    | false=>
     refine ⟨⟨r.h1,r.h2,r.h3,r.h7,rfl,r.hw,.inr ⟨?_,rfl⟩,r.hy.ext rfl⟩,cu hd (cu hd hz),fun q hq=>?_⟩
     ·show AV.sp kV 0 s.V.length 2=AV.sp kV 0 (s.V.set j u).length 2
      rw [tG]
     ·simp only [bB,aM]
      rw [oY (fun e=>hq (by rw [e])),oY (fun e=>hq (by rw [e]))]
theorem Hr(p:Program)(x y:AV)(a:Nat)(s':bW)(dp:Nat)(hd:0<dp)(fs:List dL)(hl:fs.length≤2000):∀ (rest:List dL)(k:Nat)(s:bW)(H:HP),fs.drop k=rest→cF dp H→sE p x y a s H→vg p rest s=some s'→
  ∃ z,gY G Ω0 ⟨dp,false⟩ VC (po fs k H)=some (.ex 0,z)∧sE p x y a s' z.hp∧cF dp z.hp∧∀ k:Key,k.dp≠0→z.hp k=H k
 | [],k,s,H,hd2,hz,hr,hs=>by
  have hk:¬((k:Int)<(fs.length:Int)):=by
   have:=eW.1 hd2;omega
  obtain rfl:=aa hs
  have hz2:∃ z,run G Ω0 ⟨dp,false⟩ KU (po fs k H)=some (.ex 0,z)∧z.hp=H:=by
   apply Exists.intro
   apply And.intro
   ·apply ak (by simp [po,hk];rfl)
    apply iQ
    apply cg (by simp [hk])
    exact dN _ _ _
   ·rfl
  obtain ⟨z,h1,rfl⟩:=hz2
  exact ⟨z,di h1 (by simp),hr,hz,fun _ _=>rfl⟩
 | f::rest,k,s,H,hd2,hz,hr,hs=>by
  obtain ⟨s1,h1,h2⟩:=ah.1 hs
  have hg:fs[k]? =some f:=by
   have:=an (fun l=>l[0]?) hd2
   simpa using this
  have hd3:fs.drop (k+1)=rest:=by
   have:=an List.tail hd2
   simpa using this
  obtain ⟨H1,r1,r2,r3,r4⟩:=RD p x y a s s1 dp hd H hz hr fs hl k f hg h1
  obtain ⟨z,q1,q2,q3,q4⟩:=Hr p x y a s' dp hd fs hl rest (k+1) s1 H1 hd3 r3 r2 h2
  refine ⟨z,?_,q2,q3,fun k hk=>(q4 k hk).trans (r4 k hk)⟩
  rw [c8]
  exact q1
  show (run G Ω0 _ KU (po fs k H)).bind _=_
  rw [r1];rfl
theorem sE.ext{p:Program}{x y:AV}{a:Nat}{s:bW}{H H':HP}(r:sE p x y a s H)(h:∀ k:Key,k.dp=0→H' k=H k):sE p x y a s H':=
 ⟨(h _ rfl).trans r.h1,(h _ rfl).trans r.h2,(h _ rfl).trans r.h3,(h _ rfl).trans r.h7,(h _ rfl).trans r.h8,(h _ rfl).trans r.hw,r.hx.ext (h _ rfl),r.hy.ext (h _ rfl)⟩
set_option maxHeartbeats 8000000 in
theorem TQ(p:Program)(x y:AV){a:Nat}{st:Stmt}{pl:Level}{s s':bW}{dp:Nat}{H:HP}(h:rE p a st pl s=some s')(hA:st.Args.length≤1000)(hd:0<dp)(hz:cF dp H)(r:sE p x y a s H) :
  ∃ H',call G Ω0 ⟨dp,false⟩ 97 (I (a:Nat)::.a (bN st)::.a (aN pl)::rF) H=some (.ret (.tp []),H')∧sE p x y a s' H'∧∀ k:Key,k.dp≠0→H' k=H k:=by
 obtain ⟨fs,h1,h2⟩:=ah.1 h
 split at h2
 ·rename_i hl
  have e1:¬0=dp:=by omega
  have r7:=r.h7
  have hc:=PN (dp+1) (fun k=>if k.dp=dp then (if 8=k.d then some (bN st) else if 9=k.d then some (aN pl) else none) else H k) ⟨0,50⟩ (by show 0<dp+1;omega) p x y (.f 97 rF) a [] s.V (by simp only [ad (show ¬(0:Nat)=dp by omega)];exact r.hw) ((r.ext fun q hq=>by simp only [ad (show ¬q.dp=dp by omega)]).hx.rd (.inl rfl)) st pl fs hA h1
  have hb:(fun k:Key=>if k.dp<dp then (if k.dp=dp then (if 8=k.d then some (bN st) else if 9=k.d then some (aN pl) else none) else H k) else none)=H:=by
   funext q
   by_cases hq:q.dp<dp
   ·rw [ab hq,ad (by omega)]
   ·rw [ad hq,hz q hq]
  obtain ⟨z,z1,z2,z3,z4⟩:=Hr p x y a s' dp hd fs hl fs 0 s H rfl hz r h2
  refine ⟨z.hp,?_,z2,z4⟩
  apply LU G97
  ·apply ak (by simp [e1];rfl)
   refine ak (st1:=po fs 0 H) ?_ ?_
   ·simp [po,e1,r7,dH,AV.mG,hc,St.back,ib,hb]
   apply ny
   rw [eg]
   exact z1
  ·rfl
  ·rfl
 ·cases h2
theorem K8(p:Program)(x y:AV):wk p bW.V bW.F (rE p) ⟨0,50⟩ x y 97 rF (sE p x y) where
 kw0:=rfl
 iD:=rfl
 copy:=rfl
 copy':=rfl
 box r:=⟨[],r.hw⟩
 vx r:=r.hx.rd (.inl rfl)
 fy r:=r.hy.rd (.inr rfl)
 ext r h:=r.ext h
 bump r h h1 hw:=⟨(h _ (by decide) rfl).trans r.h1,(h _ (by decide) rfl).trans r.h2,(h _ (by decide) rfl).trans r.h3,(h _ (by decide) rfl).trans r.h7,(h _ (by decide) rfl).trans r.h8,hw.trans (by rw [r.hw] at h1;injection (aa h1) with _ e;injection e with _ e;injection e with _ e;injection e with _ e;injection e with _ e;injection e with _ e;injection e with _ e;injection e with _ e;injection e with _ e;injection e with _ e;injection e with _ e;injection e with _ e;rw [←e]),r.hx.ext (h _ (by decide) rfl),r.hy.ext (h _ (by decide) rfl)⟩
 call h hA hd hz r:=TQ p x y h hA hd hz r
variable [Lp]
attribute [local simp] gp execOp okB jK eG jf uE lV jR iK St.end_ St.k9 List.filter
noncomputable def Ej(p:Program):List Var→List Level→Option (List Level)
 | [],o=>some o
 | v::r,o=>(ix p.aj).bind fun b=>(if v.Known=true then lx p.aj v.Label else some b).bind fun x=>Ej p r (o++[x])
noncomputable def Ek(p:Program):List Func→List Level→Option (List Level)
 | [],o=>some o
 | _::r,o=>(ix p.aj).bind fun b=>Ek p r (o++[b])
noncomputable def BG(p:Program)(s:bW):Option (bW⊕bW):=if s.ch=true then (Dp p bW.V bW.F (rE p) ⟨s.V,s.F,false⟩).bind fun r=>some (.inl r.2) else some (.inr s)
noncomputable def lC(p:Program):Option gm:=
 if p.Vars.length≤1000∧p.Funcs.length≤1000 then (Ej p p.Vars []).bind fun V=>(Ek p p.Funcs []).bind fun F=>(lp (BG p) ⟨V,F,true⟩).bind fun s=>some ⟨s.V,s.F⟩ else none
abbrev mw:List AV:=[.l 45 [],.l 45 []]
def zC(p:Program)(k:Nat)(V:List Level):St:=⟨[(1,.p ⟨0,1⟩ 0),(2,.p ⟨0,2⟩ 0),(3,.p ⟨0,3⟩ 0),(10,.l 83 (p.Vars.map cJ)),(11,I p.Vars.length),(12,I k)],[(1,ar p),(2,mw),(3,[.o 45 (V.map aT),.o 45 []])],H0⟩
set_option maxHeartbeats 8000000 in
theorem PO(p:Program)(hl:p.Vars.length≤1000)(k:Nat)(V:List Level)(hV:V.length=k)(v:Var)(hg:p.Vars[k]? =some v)(b x:Level)(hb:ix p.aj=some b)(hx:(if v.Known=true then lx p.aj v.Label else some b)=some x) :
  run G Ω0 E0 KM (zC p k V)=some (.nrm,zC p (k+1) (V++[x])):=by
 have hlt:k<p.Vars.length:=(dh.1 hg).1
 have hk:((k:Int)<(p.Vars.length:Int)):=by omega
 have hwr:=gZ k (by omega)
 have hB:=cw (E:=E0) (nJ p.aj b hb) (by simp) (by simp)
 have hm:k+1≤maxLen:=bQ (show k+1≤1001 by omega) (by decide)
 have hm2:(k+1)*48≤140737488355328:=by omega
 apply ak (by simp [zC,hk];rfl)
 apply ak
 ·apply cX (by simp [hk])
  exact bM _ _
 apply dU
 apply ak
 ·apply eY
  apply ak (by simp [hg,cJ];rfl)
  apply ak (by simp [-aU,hB];rfl)
  have tail:∀ st:St,st.aP [1,2,3,6,10,11,12] [1,2,3,6,1045000,1045001]=⟨[(1,.p ⟨0,1⟩ 0),(2,.p ⟨0,2⟩ 0),(3,.p ⟨0,3⟩ 0),(6,.p ⟨0,6⟩ 0),(10,.l 83 (p.Vars.map cJ)),(11,I p.Vars.length),(12,I k)],[(1,ar p),(2,mw),(3,[.o 45 (V.map aT),.o 45 []]),(6,aN x)],H0⟩→
    run G Ω0 E0 UR st=some (.nrm,⟨[(1,.p ⟨0,1⟩ 0),(2,.p ⟨0,2⟩ 0),(3,.p ⟨0,3⟩ 0),(10,.l 83 (p.Vars.map cJ)),(11,I p.Vars.length),(12,I k)],[(1,ar p),(2,mw),(3,[.o 45 ((V++[x]).map aT),.o 45 []])],H0⟩):=by
   intro st hst
   apply dU
   rw [hst]
   simp [UQ,hV,hm,hm2,aT]
  cases hkn:v.Known with
  | true=>
   rw [ab hkn] at hx
   have hA:=cw (E:=E0) (sL p.aj v.Label x hx) (by simp) (by simp)
   apply ak
   ·apply ak (by simp;rfl)
    apply cX (by simp [hkn])
    simp [-aU,hA]
    rfl
   exact tail _ rfl
  | false=>
   rw [ad (by simp [hkn])] at hx
   obtain rfl:=aa hx
   apply ak
   ·apply ak (by simp;rfl)
    apply cg (by simp [hkn])
    exact bM _ _
   exact tail _ rfl
 simp [zC,hwr]
theorem JV(p:Program)(hl:p.Vars.length≤1000):∀ (rest:List Var)(k:Nat)(V V':List Level),p.Vars.drop k=rest→V.length=k→Ej p rest V=some V'→
  ∃ z,gY G Ω0 E0 US (zC p k V)=some (.ex 0,z)∧z.aP [1,2,3] [1,2,3,1045000,1045001]=⟨[(1,.p ⟨0,1⟩ 0),(2,.p ⟨0,2⟩ 0),(3,.p ⟨0,3⟩ 0)],[(1,ar p),(2,mw),(3,[.o 45 (V'.map aT),.o 45 []])],H0⟩
 | [],k,V,V',hd,hV,h=>by
  obtain rfl:=aa h
  have hk:¬((k:Int)<(p.Vars.length:Int)):=by
   have:=eW.1 hd;omega
  apply Exists.intro
  apply And.intro
  ·refine di (r:=(.ex 0,?_)) ?_ (by simp)
   rotate_left
   ·show run G Ω0 _ KM (zC p k V)=_
    apply ak (by simp [zC,hk];rfl)
    apply iQ
    apply cg (by simp [hk])
    exact dN _ _ _
  ·simp
 | v::rest,k,V,V',hd,hV,h=>by
  obtain ⟨b,hb,h⟩:=ah.1 h
  obtain ⟨x,hx,h⟩:=ah.1 h
  have hg:p.Vars[k]? =some v:=by
   have:=an (fun l=>l[0]?) hd
   simpa using this
  have hd2:p.Vars.drop (k+1)=rest:=by
   have:=an List.tail hd
   simpa using this
  obtain ⟨z,h1,h2⟩:=JV p hl rest (k+1) (V++[x]) V' hd2 (by simp [hV]) h
  refine ⟨z,?_,h2⟩
  rw [c8]
  exact h1
  show (run G Ω0 _ KM (zC p k V)).bind _=_
  rw [PO p hl k V hV v hg b x hb hx];rfl
def wm(p:Program)(k:Nat)(V F:List Level):St:=⟨[(1,.p ⟨0,1⟩ 0),(2,.p ⟨0,2⟩ 0),(3,.p ⟨0,3⟩ 0),(35,I p.Funcs.length),(36,I k)],[(1,ar p),(2,mw),(3,[.o 45 (V.map aT),.o 45 (F.map aT)])],H0⟩
set_option maxHeartbeats 8000000 in
theorem Hs(p:Program)(hl:p.Funcs.length≤1000)(V:List Level):∀ (rest:List Func)(k:Nat)(F F':List Level),p.Funcs.drop k=rest→F.length=k→Ek p rest F=some F'→
  ∃ z,gY G Ω0 E0 UT (wm p k V F)=some (.ex 2,z)∧z.aP [1,2,3] [1,2,3,1045000,1045001]=⟨[(1,.p ⟨0,1⟩ 0),(2,.p ⟨0,2⟩ 0),(3,.p ⟨0,3⟩ 0)],[(1,ar p),(2,mw),(3,[.o 45 (V.map aT),.o 45 (F'.map aT)])],H0⟩
 | [],k,F,F',hd,hF,h=>by
  obtain rfl:=aa h
  have hk:¬((k:Int)<(p.Funcs.length:Int)):=by
   have:=eW.1 hd;omega
  apply Exists.intro
  apply And.intro
  ·refine di (r:=(.ex 2,?_)) ?_ (by simp)
   rotate_left
   ·show run G Ω0 _ KN (wm p k V F)=_
    apply ak (by simp [wm,hk];rfl)
    apply iQ
    apply cg (by simp [hk])
    exact dN _ _ _
  ·simp
 | f::rest,k,F,F',hd,hF,h=>by
  obtain ⟨b,hb,h⟩:=ah.1 h
  have hlt:k<p.Funcs.length:=by
   have h1:=an List.length hd
   simp only [gy,bu] at h1
   omega
  have hd2:p.Funcs.drop (k+1)=rest:=by
   have:=an List.tail hd
   simpa using this
  have hk:((k:Int)<(p.Funcs.length:Int)):=by omega
  have hwr:=gZ k (by omega)
  have hB:=cw (E:=E0) (nJ p.aj b hb) (by simp) (by simp)
  have hm:k+1≤maxLen:=bQ (show k+1≤1001 by omega) (by decide)
  have hm2:(k+1)*48≤140737488355328:=by omega
  obtain ⟨z,h1,h2⟩:=Hs p hl V rest (k+1) (F++[b]) F' hd2 (by simp [hF]) h
  refine ⟨z,?_,h2⟩
  rw [c8]
  exact h1
  show (run G Ω0 _ KN (wm p k V F)).bind _=_
  have:run G Ω0 E0 KN (wm p k V F)=some (.nrm,wm p (k+1) V (F++[b])):=by
   apply ak (by simp [wm,hk];rfl)
   apply ak
   ·apply cX (by simp [hk])
    exact bM _ _
   apply dU
   apply ak
   ·apply eY
    simp [-aU,hB,hF,hm,hm2]
    rfl
   simp [wm,hwr,aT]
  rw [this];rfl
@[simp] theorem TR (k:Key):∀ V:List Level,AV.dB k (dA V)=true
 | []=>rfl
 | l::r=>by
  have ih:=TR k r
  show AV.dB k (.l _ _::.l _ _::dA r)=true
  simp only [AV.dB,AV.cC,ih,gu]
@[simp] theorem RE (dp:Nat):∀ V:List Level,AV.ee dp (dA V)=true
 | []=>rfl
 | l::r=>by
  have ih:=RE dp r
  show AV.ee dp (.l _ _::.l _ _::dA r)=true
  simp only [AV.ee,AV.deep,ih,gu]
theorem zD(V:List Level):(V.map aT).flatMap AV.cl=dA V:=by
 rw [List.flatMap_map];rfl
abbrev j6(b:Bool)(k:Key)(n:Nat):AV:=if b=true then .sp k 0 n 2 else .l 45 []
def dF(p:Program)(bV bF:Bool)(nV nF:Nat)(s:bW)(d:AV)(a:Nat):St:=
 ⟨[(1,.p ⟨0,1⟩ 0),(2,.p ⟨0,2⟩ 0),(3,.p ⟨0,3⟩ 0),(7,.p ⟨0,7⟩ 0),(8,.p ⟨0,8⟩ 0),(50,.p ⟨0,50⟩ 0)],(1,ar p)::(2,mw)::(3,[j6 bV kV nV,j6 bF kF nF])::(7,[.p ⟨0,50⟩ 0])::(8,[.b s.ch])::(50,nK p (j6 bV kV nV) (j6 bF kF nF) d a [])::((if bV=true then [(1045000,dA s.V)] else [])++(if bF=true then [(1045001,dA s.F)] else [])),H0⟩
theorem El(V:List Level):((V.map aT).all fun e=>e.nc==2)=true:=ajY aT _ (fun _=>rfl) V
set_option maxHeartbeats 8000000 in
theorem pins(p:Program)(V F:List Level):∃ st,run G Ω0 E0 (.rg [.pF 3 0 1045000 2,.pF 3 1 1045001 2] [gp 47 (.ld (some 8) (.t 1)),gp 48 (.ld (some 2) (.t 3)),gp 49 (.bd [(.i .i64 0),(.l 166 []),(.l 3 []),(.l 81 []),(.l 81 []),(.l 83 []),(.l 101 []),(.l 92 []),(.l 45 []),(.l 45 []),.nf,(.i .i64 0)] [(0,8,(.t 47)),(8,2,(.t 48))]),gp 50 (.bx (.t 49)),gp 7 (.al [.z]),⟨none,.st 1 (.t 7) (.t 50),none,false⟩] [1,2,3,7,50] [1,2,3,7,50,1045000,1045001])
  ⟨[(1,.p ⟨0,1⟩ 0),(2,.p ⟨0,2⟩ 0),(3,.p ⟨0,3⟩ 0)],[(1,ar p),(2,mw),(3,[.o 45 (V.map aT),.o 45 (F.map aT)])],H0⟩=some (.nrm,st)∧
  run G Ω0 E0 (.rg [] [gp 8 (.al [(.b false)]),⟨none,.st 1 (.t 8) (.c (.b true)),none,false⟩] [1,2,3,7,8,50] [1,2,3,7,8,50,1045000,1045001]) st=some (.nrm,dF p (!V.isEmpty) (!F.isEmpty) V.length F.length ⟨V,F,true⟩ .nf 0):=by
 have h1:=zD V
 have h2:=zD F
 have h3:=El V
 have h4:=El F
 simp only [yL] at h3 h4
 by_cases hV:V=[]
 ·subst hV
  by_cases hF:F=[]
  ·subst hF
   apply Exists.intro
   apply And.intro
   ·simp
    rfl
   simp [dF]
  ·have hF2:F.isEmpty=false:=by simp [hF]
   apply Exists.intro
   apply And.intro
   ·simp [hF,h2,xh,aT]
    rfl
   simp [dF,hF2]
 ·have hV2:V.isEmpty=false:=by simp [hV]
  by_cases hF:F=[]
  ·subst hF
   apply Exists.intro
   apply And.intro
   ·simp [hV,h1,xh,aT]
    rfl
   simp [dF,hV2]
  ·have hF2:F.isEmpty=false:=by simp [hF]
   apply Exists.intro
   apply And.intro
   ·simp [hV,hF,h1,h2,xh,aT]
    rfl
   simp [dF,hV2,hF2]
structure eS(bV bF:Bool)(nV nF:Nat)(s:bW):Prop where
 v1:bV=true→s.V.length=nV∧0<nV
 v0:bV=false→s.V=[]
 f1:bF=true→s.F.length=nF∧0<nF
 f0:bF=false→s.F=[]
theorem Em{H:HP}{k k':Key}{n:Nat}{ls:List Level}(h:Dr H k (.sp k' 0 n 2) ls):ls.length=n∧H k=some (dA ls):=by
 rcases h with ⟨h,_⟩ | ⟨h,h2⟩
 ·cases h
 ·injection h with _ _ h _;exact ⟨h.symm,h2⟩
theorem En{H:HP}{k:Key}{ls:List Level}(h:Dr H k (.l 45 []) ls):ls=[]:=by
 rcases h with ⟨_,h⟩ | ⟨h,_⟩
 ·exact h
 ·cases h
set_option maxHeartbeats 16000000 in
theorem PQ(p:Program)(bV bF:Bool)(nV nF:Nat)(s s':bW)(d:AV)(a a':Nat)(hch:s.ch=true)(hI:eS bV bF nV nF s)(hs:Dp p bW.V bW.F (rE p) ⟨s.V,s.F,false⟩=some (a',s'))(hd:d= .nf∨d= .u) :
  eS bV bF nV nF s'∧∃ st,run G Ω0 E0 Gy (dF p bV bF nV nF s d a)=some (.nrm,st)∧st.aP [1,2,3,7,8,50] [1,2,3,7,8,50,1045000,1045001]=dF p bV bF nV nF s' .u a':=by
 have low:cF 1 (fun k=>(dF p bV bF nV nF ⟨s.V,s.F,false⟩ (.f 97 rF) a).box 0 k):=fun k hk=>by
  show (if k.dp=0 then _ else none)=none
  rw [ad (by omega)]
 cases bV with
 | true=>
  cases bF with
  | true=>
   obtain ⟨H',c1,r,c3,c4⟩:=Ei (K8 p (.sp kV 0 nV 2) (.sp kF 0 nF 2)) (dp:=1) (a:=a) (H:=fun k=>(dF p true true nV nF ⟨s.V,s.F,false⟩ (.f 97 rF) a).box 0 k) (by decide) low ⟨rfl,rfl,rfl,rfl,rfl,rfl,.inr ⟨by rw [(hI.v1 rfl).1],rfl⟩,.inr ⟨by rw [(hI.f1 rfl).1],rfl⟩⟩ hs
   have g1:=r.h1
   have g2:=r.h2
   have g3:=r.h3
   have g7:=r.h7
   have g8:=r.h8
   have g50:=r.hw
   have gV:=Em r.hx
   have gF:=Em r.hy
   refine ⟨⟨fun _=>⟨gV.1,(hI.v1 rfl).2⟩,fun h=>(by cases h),fun _=>⟨gF.1,(hI.f1 rfl).2⟩,fun h=>(by cases h)⟩,?_⟩
   simp [dF] at c1
   apply Exists.intro
   apply And.intro
   ·apply ak
    ·apply ak (by simp [dF];rfl)
     apply cX (by simp [hch])
     exact bM _ _
    apply dU
    apply ak
    ·apply eY
     apply ak (by simp;rfl)
     apply ak (by simp;rfl)
     simp [dH,AV.mG,c1,St.back,ib,g1,g2,g3,g7,g8,g50,gV.2,gF.2]
     rfl
    apply ak (by simp;rfl)
    simp
    rfl
   ·simp [dF]
  | false=>
   obtain ⟨H',c1,r,c3,c4⟩:=Ei (K8 p (.sp kV 0 nV 2) (.l 45 [])) (dp:=1) (a:=a) (H:=fun k=>(dF p true false nV nF ⟨s.V,s.F,false⟩ (.f 97 rF) a).box 0 k) (by decide) low ⟨rfl,rfl,rfl,rfl,rfl,rfl,.inr ⟨by rw [(hI.v1 rfl).1],rfl⟩,.inl ⟨rfl,hI.f0 rfl⟩⟩ hs
   have g1:=r.h1
   have g2:=r.h2
   have g3:=r.h3
   have g7:=r.h7
   have g8:=r.h8
   have g50:=r.hw
   have gV:=Em r.hx
   have gF:=En r.hy
   refine ⟨⟨fun _=>⟨gV.1,(hI.v1 rfl).2⟩,fun h=>(by cases h),fun h=>(by cases h),fun _=>gF⟩,?_⟩
   simp [dF] at c1
   apply Exists.intro
   apply And.intro
   ·apply ak
    ·apply ak (by simp [dF];rfl)
     apply cX (by simp [hch])
     exact bM _ _
    apply dU
    apply ak
    ·apply eY
     apply ak (by simp;rfl)
     apply ak (by simp;rfl)
     simp [dH,AV.mG,c1,St.back,ib,g1,g2,g3,g7,g8,g50,gV.2]
     rfl
    apply ak (by simp;rfl)
    simp
    rfl
   ·simp [dF]
 | false=>
  cases bF with
  | true=>
   obtain ⟨H',c1,r,c3,c4⟩:=Ei (K8 p (.l 45 []) (.sp kF 0 nF 2)) (dp:=1) (a:=a) (H:=fun k=>(dF p false true nV nF ⟨s.V,s.F,false⟩ (.f 97 rF) a).box 0 k) (by decide) low ⟨rfl,rfl,rfl,rfl,rfl,rfl,.inl ⟨rfl,hI.v0 rfl⟩,.inr ⟨by rw [(hI.f1 rfl).1],rfl⟩⟩ hs
   have g1:=r.h1
   have g2:=r.h2
   have g3:=r.h3
   have g7:=r.h7
   have g8:=r.h8
   have g50:=r.hw
   have gV:=En r.hx
   have gF:=Em r.hy
   refine ⟨⟨fun h=>(by cases h),fun _=>gV,fun _=>⟨gF.1,(hI.f1 rfl).2⟩,fun h=>(by cases h)⟩,?_⟩
   simp [dF] at c1
   apply Exists.intro
   apply And.intro
   ·apply ak
    ·apply ak (by simp [dF];rfl)
     apply cX (by simp [hch])
     exact bM _ _
    apply dU
    apply ak
    ·apply eY
     apply ak (by simp;rfl)
     apply ak (by simp;rfl)
     simp [dH,AV.mG,c1,St.back,ib,g1,g2,g3,g7,g8,g50,gF.2]
     rfl
    apply ak (by simp;rfl)
    simp
    rfl
   ·simp [dF]
  | false=>
   obtain ⟨H',c1,r,c3,c4⟩:=Ei (K8 p (.l 45 []) (.l 45 [])) (dp:=1) (a:=a) (H:=fun k=>(dF p false false nV nF ⟨s.V,s.F,false⟩ (.f 97 rF) a).box 0 k) (by decide) low ⟨rfl,rfl,rfl,rfl,rfl,rfl,.inl ⟨rfl,hI.v0 rfl⟩,.inl ⟨rfl,hI.f0 rfl⟩⟩ hs
   have g1:=r.h1
   have g2:=r.h2
   have g3:=r.h3
   have g7:=r.h7
   have g8:=r.h8
   have g50:=r.hw
   have gV:=En r.hx
   have gF:=En r.hy
   refine ⟨⟨fun h=>(by cases h),fun _=>gV,fun h=>(by cases h),fun _=>gF⟩,?_⟩
   simp [dF] at c1
   apply Exists.intro
   apply And.intro
   ·apply ak
    ·apply ak (by simp [dF];rfl)
     apply cX (by simp [hch])
     exact bM _ _
    apply dU
    apply ak
    ·apply eY
     apply ak (by simp;rfl)
     apply ak (by simp;rfl)
     simp [dH,AV.mG,c1,St.back,ib,g1,g2,g3,g7,g8,g50]
     rfl
    apply ak (by simp;rfl)
    simp
    rfl
   ·simp [dF]
set_option maxHeartbeats 8000000 in
theorem TS(p:Program)(bV bF:Bool)(nV nF:Nat)(s:bW)(d:AV)(a:Nat)(hch:s.ch=false)(hI:eS bV bF nV nF s):∃ st,run G Ω0 E0 Gy (dF p bV bF nV nF s d a)=some (.ex 4,st)∧
  run G Ω0 E0 (.rg [.unp 3 0,.unp 3 1] [gp 59 (.ld (some 2) (.t 3)),⟨none,.st 2 (.t 2) (.t 59),none,false⟩] [2] [2]) st=some (.nrm,⟨[(2,.p ⟨0,2⟩ 0)],[(2,[.l 45 (s.V.map aT),.l 45 (s.F.map aT)])],H0⟩):=by
 have c1:=nC s.V
 have c2:=nC s.F
 have p1:=tN s.V
 have p2:=tN s.F
 have l1:=om s.V
 have l2:=om s.F
 cases bV with
 | true=>
  have hV:=(hI.v1 rfl).1
  rw [hV] at c1 l1
  cases bF with
  | true=>
   have hF:=(hI.f1 rfl).1
   rw [hF] at c2 l2
   apply Exists.intro
   apply And.intro
   ·apply iQ
    apply ak (by simp [dF];rfl)
    apply cg (by simp [hch])
    exact dN _ _ _
   simp [p1,p2,l1,l2,c1,c2,rX,j6,kz]
  | false=>
   have hF:=hI.f0 rfl
   apply Exists.intro
   apply And.intro
   ·apply iQ
    apply ak (by simp [dF];rfl)
    apply cg (by simp [hch])
    exact dN _ _ _
   simp [p1,l1,c1,hF,rX,j6,kz]
 | false=>
  have hV:=hI.v0 rfl
  cases bF with
  | true=>
   have hF:=(hI.f1 rfl).1
   rw [hF] at c2 l2
   apply Exists.intro
   apply And.intro
   ·apply iQ
    apply ak (by simp [dF];rfl)
    apply cg (by simp [hch])
    exact dN _ _ _
   simp [p2,l2,c2,hV,rX,j6,kz]
  | false=>
   have hF:=hI.f0 rfl
   apply Exists.intro
   apply And.intro
   ·apply iQ
    apply ak (by simp [dF];rfl)
    apply cg (by simp [hch])
    exact dN _ _ _
   simp [hV,hF,j6]
theorem JW(p:Program)(bV bF:Bool)(nV nF:Nat):∀ (n:Nat)(s s':bW)(d:AV)(a:Nat),eS bV bF nV nF s→(d= .nf∨d= .u)→pA (BG p) n s=some s'→
  ∃ st,gY G Ω0 E0 UU (dF p bV bF nV nF s d a)=some (.ex 4,st)∧
   run G Ω0 E0 (.rg [.unp 3 0,.unp 3 1] [gp 59 (.ld (some 2) (.t 3)),⟨none,.st 2 (.t 2) (.t 59),none,false⟩] [2] [2]) st=some (.nrm,⟨[(2,.p ⟨0,2⟩ 0)],[(2,[.l 45 (s'.V.map aT),.l 45 (s'.F.map aT)])],H0⟩)
 | 0,s,s',d,a,hI,hd,h=>by cases h
 | n+1,s,s',d,a,hI,hd,h=>by
  have hkeep:(dF p bV bF nV nF s d a).aP [1,2,3,7,8,50] [1,2,3,7,8,50,1045000,1045001]=dF p bV bF nV nF s d a:=by
   cases bV<;>cases bF<;>rfl
  rw [pA] at h
  cases hch:s.ch with
  | true=>
   have hB:BG p s=(Dp p bW.V bW.F (rE p) ⟨s.V,s.F,false⟩).bind fun r=>some (.inl r.2):=by unfold BG;rw [ab hch]
   rw [hB] at h
   cases hg:Dp p bW.V bW.F (rE p) ⟨s.V,s.F,false⟩ with
   | none=>rw [hg] at h;cases h
   | some r=>
    obtain ⟨a',s1⟩:=r
    rw [hg] at h
    obtain ⟨hI1,st,r1,r2⟩:=PQ p bV bF nV nF s s1 d a a' hch hI hg hd
    obtain ⟨st2,q1,q2⟩:=JW p bV bF nV nF n s1 s' .u a' hI1 (.inr rfl) h
    refine ⟨st2,?_,q2⟩
    rw [c8]
    exact q1
    show (run G Ω0 _ Gy ((dF p bV bF nV nF s d a).aP [1,2,3,7,8,50] [1,2,3,7,8,50,1045000,1045001])).bind _=_
    rw [hkeep,r1]
    exact an some r2
  | false=>
   have hB:BG p s=some (.inr s):=by unfold BG;rw [ad (by simp [hch])]
   rw [hB] at h
   obtain rfl:=aa h
   obtain ⟨st,r1,r2⟩:=TS p bV bF nV nF s d a hch hI
   refine ⟨st,di ?_ (by simp),r2⟩
   show run G Ω0 _ Gy ((dF p bV bF nV nF s d a).aP [1,2,3,7,8,50] [1,2,3,7,8,50,1045000,1045001])=_
   rw [hkeep,r1]
abbrev NC(a0:Program)(r:gm):Prop:=call G Ω0 E0 37 [.a (ar a0)] H0=some (.ret (.a [.l 45 (r.Vars.map aT),.l 45 (r.Funcs.map aT)]),H0)
set_option maxHeartbeats 8000000 in
theorem I7(a0:Program)(r:gm)(h:lC a0=some r):NC a0 r:=by
 unfold lC at h
 split at h
 ·rename_i hl
  obtain ⟨V,hV,h⟩:=ah.1 h
  obtain ⟨F,hF,h⟩:=ah.1 h
  obtain ⟨s,hs,h⟩:=ah.1 h
  obtain rfl:=aa h
  obtain ⟨n,hn⟩:=xM hs
  obtain ⟨z1,a1,a2⟩:=JV a0 hl.1 a0.Vars 0 [] V rfl rfl hV
  obtain ⟨z2,b1,b2⟩:=Hs a0 hl.2 V a0.Funcs 0 [] F rfl rfl hF
  obtain ⟨z3,c1,c2⟩:=pins a0 V F
  have hI:eS (!V.isEmpty) (!F.isEmpty) V.length F.length ⟨V,F,true⟩:=by
   refine ⟨fun h=>⟨rfl,?_⟩,fun h=>?_,fun h=>⟨rfl,?_⟩,fun h=>?_⟩
   ·cases V with
    | nil=>cases h
    | cons=>simp
   ·simpa using h
   ·cases F with
    | nil=>cases h
    | cons=>simp
   ·simpa using h
  obtain ⟨z4,d1,d2⟩:=JW a0 _ _ _ _ n ⟨V,F,true⟩ s .nf 0 hI (.inl rfl) hn
  show call G Ω0 E0 37 _ _=_
  apply fD G37
  ·apply ak (by simp;rfl)
   apply ak (by simp;rfl)
   apply ak
   ·apply ak (by simp;rfl)
    apply ny
    rw [eg]
    exact a1
   show run G Ω0 _ (.kp _ _ UX) z1=_
   rw [kN,a2]
   apply ak
   ·apply ak (by simp;rfl)
    apply ny
    rw [eg]
    exact b1
   show run G Ω0 _ (.kp _ _ UW) z2=_
   rw [kN,b2]
   apply ak c1
   apply ak
   ·apply ak c2
    apply ny
    rw [eg]
    show gY _ _ _ _ ((dF _ _ _ _ _ _ _ _).aP [1,2,3,7,8,50] [1,2,3,7,8,50,1045000,1045001])=_
    rw [show ∀ bV bF nV nF s d a,(dF a0 bV bF nV nF s d a).aP [1,2,3,7,8,50] [1,2,3,7,8,50,1045000,1045001]=dF a0 bV bF nV nF s d a from fun bV bF _ _ _ _ _=>by cases bV<;>cases bF<;>rfl]
    exact d1
   apply ak d2
   exact eE _ _
  ·simp [UY]
  ·rfl
 ·cases h
end Go.Proofs.YtkkkkondjclcnaaGreat.A
