/- infer.Raw as a plain function. -/
import Derived.Test.YtkkkkondjclcnaaGreatListF
set_option linter.all false
set_option maxRecDepth 100000
namespace Go.Proofs.YtkkkkondjclcnaaGreat.A
open Go
variable [Lp]
attribute [local simp] gp execOp okB ja er iG tX mg jt iZ St.end_ St.jZ List.filter
structure bR where
 V:List Level
 F:List Level
 ch:Bool
noncomputable def qI(p:Program)(s:bR)(f:cY):Option bR:=
 (eI f.To).bind fun j=>
  if f.Func=true then (s.F[j]?).bind fun t=>(fG f.Level t).bind fun b=>if b=true then some s else (ew t f.Level).bind fun u=>some ⟨s.V,s.F.set j u,true⟩
  else (p.Vars[j]?).bind fun v=>if v.Known=true then some s else (s.V[j]?).bind fun t=>(fG f.Level t).bind fun b=>if b=true then some s else (ew t f.Level).bind fun u=>some ⟨s.V.set j u,s.F,true⟩
noncomputable def ve(p:Program):List cY→bR→Option bR
 | [],s=>some s
 | f::r,s=>(qI p s f).bind fun t=>ve p r t
noncomputable def rF(p:Program)(a:Nat)(st:Stmt)(pl:Level)(s:bR):Option bR:=(oV p s.V st pl).bind fun l=>if l.length≤2000 then ve p l s else none
def DG(H:HP)(k:Key)(x:AV)(ls:List Level):Prop:=(x= .l 45 []∧ls=[])∨(x= .sp k 0 ls.length 2∧H k=some (dy ls))
theorem DG.rd{H:HP}{k:Key}{x:AV}{ls:List Level}(h:DG H k x ls)(hk:k=kV∨k=kF):A3 H x ls:=by
 rcases h with ⟨rfl,rfl⟩ | ⟨rfl,h⟩
 ·exact .l _ []
 ·exact .sp k ls h hk
theorem DG.ext{H H':HP}{k:Key}{x:AV}{ls:List Level}(h:DG H k x ls)(e:H' k=H k):DG H' k x ls:=h.imp id fun h=>⟨h.1,by rw [e];exact h.2⟩
abbrev rH:List AV:=[.p ⟨0,7⟩ 0,.p ⟨0,3⟩ 0,.p ⟨0,1⟩ 0,.p ⟨0,8⟩ 0]
structure sC(p:Program)(x y:AV)(a:Nat)(s:bR)(H:HP):Prop where
 h1:H ⟨0,1⟩=some (ar p)
 h2:H ⟨0,2⟩=some [.l 45 [],.l 45 []]
 h3:H ⟨0,3⟩=some [x,y]
 h7:H ⟨0,7⟩=some [.p ⟨0,50⟩ 0]
 h8:H ⟨0,8⟩=some [.b s.ch]
 hw:H ⟨0,50⟩=some (mc p x y (.f 97 rH) a [])
 hx:DG H kV x s.V
 hy:DG H kF y s.F
theorem BU{u:Level} : ∀ {ls:List Level}{j:Nat},j<ls.length→List.take (j*2) (dy ls)++(aJ u++List.drop (j*2+2) (dy ls))=dy (ls.set j u)
 | [],j,h=>by simp at h
 | l::r,0,h=>rfl
 | l::r,j+1,h=>by
  have h2:=BU (u:=u) (ls:=r) (j:=j) (by simpa using h)
  rw [show (j+1)*2=j*2+2 by omega]
  show .l _ _::.l _ _::(_++_)= .l _ _::.l _ _::dy (r.set j u)
  rw [←h2]
  rfl
abbrev Li(f:cY):List AV:=[(.l 4 (f.Level.Readers.map AV.b)),(.l 4 (f.Level.Writers.map AV.b)),(I f.To),(.b f.Func)]
def o8(fs:List cY)(k:Nat)(H:HP):St:=⟨[(4,.p ⟨0,3⟩ 0),(5,.p ⟨0,1⟩ 0),(6,.p ⟨0,8⟩ 0),(16,.l 96 (fs.map en)),(17,I fs.length),(18,I k)],[],H⟩
def pz(dp:Nat)(fs:List cY)(k:Nat)(f:cY)(w:AV)(H:HP):St:=⟨[(4,.p ⟨0,3⟩ 0),(5,.p ⟨0,1⟩ 0),(6,.p ⟨0,8⟩ 0),(11,.p ⟨dp,11⟩ 0),(12,w),(16,.l 96 (fs.map en)),(17,I fs.length),(18,I k)],[(11,Li f)],H⟩
set_option maxHeartbeats 8000000 in
theorem Ox(dp:Nat)(hd:0<dp)(H:HP)(fs:List cY)(k:Nat)(f:cY)(kk:Key)(hk:kk=kV∨kk=kF)(c:Bool)(h8:H ⟨0,8⟩=some [.b c])(ls:List Level)(hH:H kk=some (dy ls))(j:Nat)(hj:f.To=j)(t:Level)(ht:ls[j]? =some t)(b:Bool)(hb:fG f.Level t=some b)(u:Level)
  (hu:b=false→ew t f.Level=some u) :
  run G Ω0 ⟨dp,false⟩ Vz (pz dp fs k f (.sp kk 0 ls.length 2) H)=some (.nrm,if b=true then ⟨[(4,.p ⟨0,3⟩ 0),(5,.p ⟨0,1⟩ 0),(6,.p ⟨0,8⟩ 0),(11,.p ⟨dp,11⟩ 0),(12,.sp kk 0 ls.length 2),(16,.l 96 (fs.map en)),(17,I fs.length),(18,I k),(44,.b false)],[(11,Li f)],H⟩ else o8 fs k (aG (aG H kk (dy (ls.set j u))) ⟨0,8⟩ [.b true])):=by
 have ek:kk.dp=0:=by rcases hk with rfl | rfl<;>rfl
 have ek2:kk≠⟨0,8⟩:=by rcases hk with rfl | rfl<;>decide
 have e0:¬kk.dp=dp:=by omega
 have e1:¬0=dp:=by omega
 have e2:∀ d,¬kk=⟨dp,d⟩:=fun d=>de (by omega)
 obtain ⟨f1,f2⟩:=wh ht
 have f3:j<ls.length:=(db.1 ht).1
 have f4:=BU (u:=u) f3
 have hA:=bM (E:=⟨dp,false⟩) (lR f.Level t b hb) (by simp) (by simp)
 apply dz
 apply aj
 ·apply dO 4
  ·rfl
  ·simp [pz]
  ·simp [pz,e2]
   rfl
  ·simp [-aS,e0,e1,e2,hj,hH,f1,f2,f3,hA]
   rfl
  ·simp
   rfl
 cases b with
 | true=>
  apply bQ (by simp)
  exact bB _ _
 | false=>
  apply cL (by simp)
  have hB:=bM (E:=⟨dp,false⟩) (mL t f.Level u (hu rfl)) (by simp) (by simp)
  have hh:(aG H kk (dy (ls.set j u))) ⟨0,8⟩=some [.b c]:=by rw [nH (pU ek2)];exact h8
  refine aj (st1:=o8 fs k (aG H kk (dy (ls.set j u)))) ?_ ?_
  ·apply dO 6
   ·rfl
   ·simp
   ·simp [e2,hj]
    rfl
   ·simp [-aS,e0,e1,e2,hj,hH,f1,f2,f3,hB]
    rfl
   ·simp [o8,←f4]
  simp [o8,e1,hh]
theorem Lj{E:Env}{kf kb:List Nat}{x:AC}{st st':St}(h:st.aN kf kb=st'.aN kf kb):run G Ω0 E (.kp kf kb x) st=run G Ω0 E (.kp kf kb x) st':=by rw [jE,h,jE]
theorem J5{H:HP}{k:Key}{x:AV}{ls:List Level}(h:DG H k x ls):x= .l 45 []∨x= .sp k 0 ls.length 2:=h.imp (·.1) (·.1)
theorem Oy{H:HP}{k:Key}{x:AV}{ls:List Level}{j:Nat}{t:Level}(h:DG H k x ls)(ht:ls[j]? =some t):x= .sp k 0 ls.length 2∧H k=some (dy ls):=by
 rcases h with ⟨_,rfl⟩ | h
 ·simp at ht
 ·exact h
set_option maxHeartbeats 8000000 in
theorem RP(p:Program)(x y:AV)(a:Nat)(s s':bR)(dp:Nat)(hd:0<dp)(H:HP)(hz:cM dp H)(r:sC p x y a s H)(fs:List cY)(hl:fs.length≤2000)(k:Nat)(f:cY)(hg:fs[k]? =some f)(hs:qI p s f=some s') :
  ∃ H',run G Ω0 ⟨dp,false⟩ K7 (o8 fs k H)=some (.nrm,o8 fs (k+1) H')∧sC p x y a s' H'∧cM dp H'∧∀ k:Key,k.dp≠0→H' k=H k:=by
 have hlt:k<fs.length:=(db.1 hg).1
 have hk:((k:Int)<(fs.length:Int)):=by omega
 have hwr:=fq k (by omega)
 have e1:¬0=dp:=by omega
 obtain ⟨j,hj,hs⟩:=af.1 hs
 have hj:=mj hj
 have r3:=r.h3
 have r1:=r.h1
 have hR2:run G Ω0 ⟨dp,false⟩ (.rg [] [gp 22 (.fa 1 (.t 4)),gp 23 (.ld none (.t 22)),gp 12 (.as (.t 23))] [4,5,6,11,12,16,17,18] [4,5,6,11]) ⟨[(4,.p ⟨0,3⟩ 0),(5,.p ⟨0,1⟩ 0),(6,.p ⟨0,8⟩ 0),(11,.p ⟨dp,11⟩ 0),(16,.l 96 (fs.map en)),(17,I fs.length),(18,I k)],[(11,Li f)],H⟩=some (.nrm,pz dp fs k f y H):=by
  have hy:=r.hy
  clear r
  rcases J5 hy with rfl | rfl<;>simp [e1,r3,pz]
 have hR3:run G Ω0 ⟨dp,false⟩ (.rg [] [gp 27 (.fa 0 (.t 4)),gp 28 (.ld none (.t 27)),gp 12 (.as (.t 28))] [4,5,6,11,12,16,17,18] [4,5,6,11]) ⟨[(4,.p ⟨0,3⟩ 0),(5,.p ⟨0,1⟩ 0),(6,.p ⟨0,8⟩ 0),(11,.p ⟨dp,11⟩ 0),(12,y),(16,.l 96 (fs.map en)),(17,I fs.length),(18,I k),(26,.b (!f.Func))],[(11,Li f)],H⟩=some (.nrm,pz dp fs k f x H):=by
  have hx:=r.hx
  clear r hR2
  rcases J5 hx with rfl | rfl<;>simp [e1,r3,pz]
 have fin:∀ (st:St)(H':HP),st.aN [4,5,6,16,17,18] [4,5,6]=o8 fs k H'→run G Ω0 ⟨dp,false⟩ (.rg [] [gp 57 (.bo .add false (.t 18) (.c (.i .i64 1))),gp 18 (.mv (.t 57))] [4,5,6,16,17,18] [4,5,6]) st=some (.nrm,o8 fs (k+1) H'):=by
  intro st H' h
  have h4:ay st.fr 4= .p ⟨0,3⟩ 0:=ak (fun z=>ay z.fr 4) h
  have h5:ay st.fr 5= .p ⟨0,1⟩ 0:=ak (fun z=>ay z.fr 5) h
  have h6:ay st.fr 6= .p ⟨0,8⟩ 0:=ak (fun z=>ay z.fr 6) h
  have h16:ay st.fr 16= .l 96 (fs.map en):=ak (fun z=>ay z.fr 16) h
  have h17:ay st.fr 17=I fs.length:=ak (fun z=>ay z.fr 17) h
  have h18:ay st.fr 18=I k:=ak (fun z=>ay z.fr 18) h
  have hb:di st.bx [4,5,6]=[]:=ak St.bx h
  have hh:st.hp=H':=ak St.hp h
  simp [h4,h5,h6,h16,h17,h18,hwr,o8,hh,-di,hb]
 by_cases hf:f.Func=true
 ·rw [aa hf] at hs
  obtain ⟨t,ht,hs⟩:=af.1 hs
  obtain ⟨b,hb,hs⟩:=af.1 hs
  obtain ⟨hy1,hy2⟩:=Oy r.hy ht
  have hu:∃ u,(b=false→ew t f.Level=some u)∧s'=if b=true then s else ⟨s.V,s.F.set j u,true⟩:=by
   cases b with
   | true=>exact ⟨t,fun h=>(by cases h),(ad hs).symm⟩
   | false=>
    obtain ⟨u,hu,hs⟩:=af.1 hs
    exact ⟨u,fun _=>hu,(ad hs).symm⟩
  obtain ⟨u,hu,rfl⟩:=hu
  subst hy1
  have hk3:kF≠kV:=by decide
  refine ⟨if b=true then H else aG (aG H kF (dy (s.F.set j u))) ⟨0,8⟩ [.b true],?_,?_⟩
  ·apply aj (by simp [o8,hk];rfl)
   apply aj
   ·apply cL (by simp [hk])
    exact bB _ _
   apply dz
   apply aj
   ·apply eE
    apply aj (by simp [hg,en];rfl)
    apply aj hR2
    apply aj
    ·apply aj (by simp [pz];rfl)
     apply bQ (by simp [hf])
     exact bB _ _
    refine Eq.trans (Lj (st':=pz dp fs k f (.sp kF 0 s.F.length 2) H) ?_) (Ox dp hd H fs k f kF (.inr rfl) s.ch r.h8 s.F hy2 j hj t ht b hb u hu)
    rfl
   exact fin _ _ (by cases b<;>rfl)
  ·cases b with
   | true=>exact ⟨r,hz,fun _ _=>rfl⟩
   | false=>
    refine ⟨⟨r.h1,r.h2,r.h3,r.h7,rfl,r.hw,r.hx.ext rfl,.inr ⟨?_,rfl⟩⟩,cz hd (cz hd hz),fun q hq=>?_⟩
    ·show AV.sp kF 0 s.F.length 2=AV.sp kF 0 (s.F.set j u).length 2
     rw [tI]
    ·simp only [bn,aI]
     rw [nH (fun e=>hq (by rw [e])),nH (fun e=>hq (by rw [e]))]
 ·rw [ab hf] at hs
  obtain ⟨v,hv,hs⟩:=af.1 hs
  by_cases hv2:v.Known=true
  ·rw [aa hv2] at hs
   obtain rfl:=ad hs
   refine ⟨H,?_,r,hz,fun _ _=>rfl⟩
   apply aj (by simp [o8,hk];rfl)
   apply aj
   ·apply cL (by simp [hk])
    exact bB _ _
   apply dz
   apply aj
   ·apply lN
    apply aj (by simp [hg,en];rfl)
    apply aj hR2
    apply ig
    apply aj (by simp [pz];rfl)
    apply cL (by simp [hf])
    apply aj hR3
    apply aj (by simp [pz,e1,r1,hj,hv,cn];rfl)
    apply cL (by simp [hv2])
    exact du _ _ _
   exact fin _ _ rfl
  ·rw [ab hv2] at hs
   obtain ⟨t,ht,hs⟩:=af.1 hs
   obtain ⟨b,hb,hs⟩:=af.1 hs
   obtain ⟨hx1,hx2⟩:=Oy r.hx ht
   have hu:∃ u,(b=false→ew t f.Level=some u)∧s'=if b=true then s else ⟨s.V.set j u,s.F,true⟩:=by
    cases b with
    | true=>exact ⟨t,fun h=>(by cases h),(ad hs).symm⟩
    | false=>
     obtain ⟨u,hu,hs⟩:=af.1 hs
     exact ⟨u,fun _=>hu,(ad hs).symm⟩
   obtain ⟨u,hu,rfl⟩:=hu
   subst hx1
   refine ⟨if b=true then H else aG (aG H kV (dy (s.V.set j u))) ⟨0,8⟩ [.b true],?_,?_⟩
   ·apply aj (by simp [o8,hk];rfl)
    apply aj
    ·apply cL (by simp [hk])
     exact bB _ _
    apply dz
    apply aj
    ·apply eE
     apply aj (by simp [hg,en];rfl)
     apply aj hR2
     apply aj
     ·apply aj (by simp [pz];rfl)
      apply cL (by simp [hf])
      apply aj hR3
      apply aj (by simp [pz,e1,r1,hj,hv,cn];rfl)
      apply bQ (by simp [hv2])
      exact bB _ _
     refine Eq.trans (Lj (st':=pz dp fs k f (.sp kV 0 s.V.length 2) H) ?_) (Ox dp hd H fs k f kV (.inl rfl) s.ch r.h8 s.V hx2 j hj t ht b hb u hu)
     rfl
    exact fin _ _ (by cases b<;>rfl)
   ·cases b with
    | true=>exact ⟨r,hz,fun _ _=>rfl⟩
    | false=>
     refine ⟨⟨r.h1,r.h2,r.h3,r.h7,rfl,r.hw,.inr ⟨?_,rfl⟩,r.hy.ext rfl⟩,cz hd (cz hd hz),fun q hq=>?_⟩
     ·show AV.sp kV 0 s.V.length 2=AV.sp kV 0 (s.V.set j u).length 2
      rw [tI]
     ·simp only [bn,aI]
      rw [nH (fun e=>hq (by rw [e])),nH (fun e=>hq (by rw [e]))]
theorem Hz(p:Program)(x y:AV)(a:Nat)(s':bR)(dp:Nat)(hd:0<dp)(fs:List cY)(hl:fs.length≤2000):∀ (rest:List cY)(k:Nat)(s:bR)(H:HP),fs.drop k=rest→cM dp H→sC p x y a s H→ve p rest s=some s'→
  ∃ z,fL G Ω0 ⟨dp,false⟩ VA (o8 fs k H)=some (.ex 0,z)∧sC p x y a s' z.hp∧cM dp z.hp∧∀ k:Key,k.dp≠0→z.hp k=H k
 | [],k,s,H,hd2,hz,hr,hs=>by
  have hk:¬((k:Int)<(fs.length:Int)):=by
   have:=eo.1 hd2;omega
  obtain rfl:=ad hs
  have hz2:∃ z,run G Ω0 ⟨dp,false⟩ K7 (o8 fs k H)=some (.ex 0,z)∧z.hp=H:=by
   apply Exists.intro
   apply And.intro
   ·apply aj (by simp [o8,hk];rfl)
    apply ig
    apply bQ (by simp [hk])
    exact du _ _ _
   ·rfl
  obtain ⟨z,h1,rfl⟩:=hz2
  exact ⟨z,cT h1 (by simp),hr,hz,fun _ _=>rfl⟩
 | f::rest,k,s,H,hd2,hz,hr,hs=>by
  obtain ⟨s1,h1,h2⟩:=af.1 hs
  have hg:fs[k]? =some f:=by
   have:=ak (fun l=>l[0]?) hd2
   simpa using this
  have hd3:fs.drop (k+1)=rest:=by
   have:=ak List.tail hd2
   simpa using this
  obtain ⟨H1,r1,r2,r3,r4⟩:=RP p x y a s s1 dp hd H hz hr fs hl k f hg h1
  obtain ⟨z,q1,q2,q3,q4⟩:=Hz p x y a s' dp hd fs hl rest (k+1) s1 H1 hd3 r3 r2 h2
  refine ⟨z,?_,q2,q3,fun k hk=>(q4 k hk).trans (r4 k hk)⟩
  rw [cP]
  exact q1
  show (run G Ω0 _ K7 (o8 fs k H)).bind _=_
  rw [r1];rfl
theorem sC.ext{p:Program}{x y:AV}{a:Nat}{s:bR}{H H':HP}(r:sC p x y a s H)(h:∀ k:Key,k.dp=0→H' k=H k):sC p x y a s H':=
 ⟨(h _ rfl).trans r.h1,(h _ rfl).trans r.h2,(h _ rfl).trans r.h3,(h _ rfl).trans r.h7,(h _ rfl).trans r.h8,(h _ rfl).trans r.hw,r.hx.ext (h _ rfl),r.hy.ext (h _ rfl)⟩
set_option maxHeartbeats 8000000 in
theorem TU(p:Program)(x y:AV){a:Nat}{st:Stmt}{pl:Level}{s s':bR}{dp:Nat}{H:HP}(h:rF p a st pl s=some s')(hA:st.Args.length≤1000)(hd:0<dp)(hz:cM dp H)(r:sC p x y a s H) :
  ∃ H',call G Ω0 ⟨dp,false⟩ 97 (I (a:Nat)::.a (bC st)::.a (aJ pl)::rH) H=some (.ret (.tp []),H')∧sC p x y a s' H'∧∀ k:Key,k.dp≠0→H' k=H k:=by
 obtain ⟨fs,h1,h2⟩:=af.1 h
 split at h2
 ·rename_i hl
  have e1:¬0=dp:=by omega
  have r7:=r.h7
  have hc:=Hx (dp+1) (fun k=>if k.dp=dp then (if 8=k.d then some (bC st) else if 9=k.d then some (aJ pl) else none) else H k) ⟨0,50⟩ (by show 0<dp+1;omega) p x y (.f 97 rH) a [] s.V (by simp only [ab (show ¬(0:Nat)=dp by omega)];exact r.hw) ((r.ext fun q hq=>by simp only [ab (show ¬q.dp=dp by omega)]).hx.rd (.inl rfl)) st pl fs hA h1
  have hb:(fun k:Key=>if k.dp<dp then (if k.dp=dp then (if 8=k.d then some (bC st) else if 9=k.d then some (aJ pl) else none) else H k) else none)=H:=by
   funext q
   by_cases hq:q.dp<dp
   ·rw [aa hq,ab (by omega)]
   ·rw [ab hq,hz q hq]
  obtain ⟨z,z1,z2,z3,z4⟩:=Hz p x y a s' dp hd fs hl fs 0 s H rfl hz r h2
  refine ⟨z.hp,?_,z2,z4⟩
  apply Ha G97
  ·apply aj (by simp [e1];rfl)
   refine aj (st1:=o8 fs 0 H) ?_ ?_
   ·simp [o8,e1,r7,dq,AV.kT,hc,St.back,gD,hb]
   apply lN
   rw [dF]
   exact z1
  ·rfl
  ·rfl
 ·cases h2
theorem Lk(p:Program)(x y:AV):uo p bR.V bR.F (rF p) ⟨0,50⟩ x y 97 rH (sC p x y) where
 kw0:=rfl
 ic:=rfl
 copy:=rfl
 copy':=rfl
 box r:=⟨[],r.hw⟩
 vx r:=r.hx.rd (.inl rfl)
 fy r:=r.hy.rd (.inr rfl)
 ext r h:=r.ext h
 bump r h h1 hw:=⟨(h _ (by decide) rfl).trans r.h1,(h _ (by decide) rfl).trans r.h2,(h _ (by decide) rfl).trans r.h3,(h _ (by decide) rfl).trans r.h7,(h _ (by decide) rfl).trans r.h8,hw.trans (by rw [r.hw] at h1;injection (ad h1) with _ e;injection e with _ e;injection e with _ e;injection e with _ e;injection e with _ e;injection e with _ e;injection e with _ e;injection e with _ e;injection e with _ e;injection e with _ e;injection e with _ e;injection e with _ e;rw [←e]),r.hx.ext (h _ (by decide) rfl),r.hy.ext (h _ (by decide) rfl)⟩
 call h hA hd hz r:=TU p x y h hA hd hz r
variable [Lp]
attribute [local simp] gp execOp okB ja er iG tX mg jt iZ St.end_ St.jZ List.filter
noncomputable def Ez(p:Program):List Var→List Level→Option (List Level)
 | [],o=>some o
 | v::r,o=>(ir p.ah).bind fun b=>(if v.Known=true then jD p.ah v.Label else some b).bind fun x=>Ez p r (o++[x])
noncomputable def EA(p:Program):List Func→List Level→Option (List Level)
 | [],o=>some o
 | _::r,o=>(ir p.ah).bind fun b=>EA p r (o++[b])
noncomputable def BV(p:Program)(s:bR):Option (bR⊕bR):=if s.ch=true then (yv p bR.V bR.F (rF p) ⟨s.V,s.F,false⟩).bind fun r=>some (.inl r.2) else some (.inr s)
noncomputable def na(p:Program):Option aM:=
 if p.Vars.length≤1000∧p.Funcs.length≤1000 then (Ez p p.Vars []).bind fun V=>(EA p p.Funcs []).bind fun F=>(lp (BV p) ⟨V,F,true⟩).bind fun s=>some ⟨s.V,s.F⟩ else none
abbrev mo:List AV:=[.l 45 [],.l 45 []]
def zR(p:Program)(k:Nat)(V:List Level):St:=⟨[(1,.p ⟨0,1⟩ 0),(2,.p ⟨0,2⟩ 0),(3,.p ⟨0,3⟩ 0),(10,.l 83 (p.Vars.map cn)),(11,I p.Vars.length),(12,I k)],[(1,ar p),(2,mo),(3,[.o 45 (V.map aq),.o 45 []])],H0⟩
set_option maxHeartbeats 8000000 in
theorem PY(p:Program)(hl:p.Vars.length≤1000)(k:Nat)(V:List Level)(hV:V.length=k)(v:Var)(hg:p.Vars[k]? =some v)(b x:Level)(hb:ir p.ah=some b)(hx:(if v.Known=true then jD p.ah v.Label else some b)=some x) :
  run G Ω0 E0 KZ (zR p k V)=some (.nrm,zR p (k+1) (V++[x])):=by
 have hlt:k<p.Vars.length:=(db.1 hg).1
 have hk:((k:Int)<(p.Vars.length:Int)):=by omega
 have hwr:=fq k (by omega)
 have hB:=bM (E:=E0) (nx p.ah b hb) (by simp) (by simp)
 have hm:k+1≤maxLen:=bU (show k+1≤1001 by omega) (by decide)
 have hm2:(k+1)*48≤140737488355328:=by omega
 apply aj (by simp [zR,hk];rfl)
 apply aj
 ·apply cL (by simp [hk])
  exact bB _ _
 apply dz
 apply aj
 ·apply eE
  apply aj (by simp [hg,cn];rfl)
  apply aj (by simp [-aS,hB];rfl)
  have tail:∀ st:St,st.aN [1,2,3,6,10,11,12] [1,2,3,6,1045000,1045001]=⟨[(1,.p ⟨0,1⟩ 0),(2,.p ⟨0,2⟩ 0),(3,.p ⟨0,3⟩ 0),(6,.p ⟨0,6⟩ 0),(10,.l 83 (p.Vars.map cn)),(11,I p.Vars.length),(12,I k)],[(1,ar p),(2,mo),(3,[.o 45 (V.map aq),.o 45 []]),(6,aJ x)],H0⟩→
    run G Ω0 E0 UQ st=some (.nrm,⟨[(1,.p ⟨0,1⟩ 0),(2,.p ⟨0,2⟩ 0),(3,.p ⟨0,3⟩ 0),(10,.l 83 (p.Vars.map cn)),(11,I p.Vars.length),(12,I k)],[(1,ar p),(2,mo),(3,[.o 45 ((V++[x]).map aq),.o 45 []])],H0⟩):=by
   intro st hst
   apply dz
   rw [hst]
   simp [UP,hV,hm,hm2,aq]
  cases hkn:v.Known with
  | true=>
   rw [aa hkn] at hx
   have hA:=bM (E:=E0) (wN p.ah v.Label x hx) (by simp) (by simp)
   apply aj
   ·apply aj (by simp;rfl)
    apply cL (by simp [hkn])
    simp [-aS,hA]
    rfl
   exact tail _ rfl
  | false=>
   rw [ab (by simp [hkn])] at hx
   obtain rfl:=ad hx
   apply aj
   ·apply aj (by simp;rfl)
    apply bQ (by simp [hkn])
    exact bB _ _
   exact tail _ rfl
 simp [zR,hwr]
theorem J6(p:Program)(hl:p.Vars.length≤1000):∀ (rest:List Var)(k:Nat)(V V':List Level),p.Vars.drop k=rest→V.length=k→Ez p rest V=some V'→
  ∃ z,fL G Ω0 E0 UR (zR p k V)=some (.ex 0,z)∧z.aN [1,2,3] [1,2,3,1045000,1045001]=⟨[(1,.p ⟨0,1⟩ 0),(2,.p ⟨0,2⟩ 0),(3,.p ⟨0,3⟩ 0)],[(1,ar p),(2,mo),(3,[.o 45 (V'.map aq),.o 45 []])],H0⟩
 | [],k,V,V',hd,hV,h=>by
  obtain rfl:=ad h
  have hk:¬((k:Int)<(p.Vars.length:Int)):=by
   have:=eo.1 hd;omega
  apply Exists.intro
  apply And.intro
  ·refine cT (r:=(.ex 0,?_)) ?_ (by simp)
   rotate_left
   ·show run G Ω0 _ KZ (zR p k V)=_
    apply aj (by simp [zR,hk];rfl)
    apply ig
    apply bQ (by simp [hk])
    exact du _ _ _
  ·simp
 | v::rest,k,V,V',hd,hV,h=>by
  obtain ⟨b,hb,h⟩:=af.1 h
  obtain ⟨x,hx,h⟩:=af.1 h
  have hg:p.Vars[k]? =some v:=by
   have:=ak (fun l=>l[0]?) hd
   simpa using this
  have hd2:p.Vars.drop (k+1)=rest:=by
   have:=ak List.tail hd
   simpa using this
  obtain ⟨z,h1,h2⟩:=J6 p hl rest (k+1) (V++[x]) V' hd2 (by simp [hV]) h
  refine ⟨z,?_,h2⟩
  rw [cP]
  exact h1
  show (run G Ω0 _ KZ (zR p k V)).bind _=_
  rw [PY p hl k V hV v hg b x hb hx];rfl
def wi(p:Program)(k:Nat)(V F:List Level):St:=⟨[(1,.p ⟨0,1⟩ 0),(2,.p ⟨0,2⟩ 0),(3,.p ⟨0,3⟩ 0),(35,I p.Funcs.length),(36,I k)],[(1,ar p),(2,mo),(3,[.o 45 (V.map aq),.o 45 (F.map aq)])],H0⟩
set_option maxHeartbeats 8000000 in
theorem HA(p:Program)(hl:p.Funcs.length≤1000)(V:List Level):∀ (rest:List Func)(k:Nat)(F F':List Level),p.Funcs.drop k=rest→F.length=k→EA p rest F=some F'→
  ∃ z,fL G Ω0 E0 US (wi p k V F)=some (.ex 2,z)∧z.aN [1,2,3] [1,2,3,1045000,1045001]=⟨[(1,.p ⟨0,1⟩ 0),(2,.p ⟨0,2⟩ 0),(3,.p ⟨0,3⟩ 0)],[(1,ar p),(2,mo),(3,[.o 45 (V.map aq),.o 45 (F'.map aq)])],H0⟩
 | [],k,F,F',hd,hF,h=>by
  obtain rfl:=ad h
  have hk:¬((k:Int)<(p.Funcs.length:Int)):=by
   have:=eo.1 hd;omega
  apply Exists.intro
  apply And.intro
  ·refine cT (r:=(.ex 2,?_)) ?_ (by simp)
   rotate_left
   ·show run G Ω0 _ K0 (wi p k V F)=_
    apply aj (by simp [wi,hk];rfl)
    apply ig
    apply bQ (by simp [hk])
    exact du _ _ _
  ·simp
 | f::rest,k,F,F',hd,hF,h=>by
  obtain ⟨b,hb,h⟩:=af.1 h
  have hlt:k<p.Funcs.length:=by
   have h1:=ak List.length hd
   simp only [hZ,bD] at h1
   omega
  have hd2:p.Funcs.drop (k+1)=rest:=by
   have:=ak List.tail hd
   simpa using this
  have hk:((k:Int)<(p.Funcs.length:Int)):=by omega
  have hwr:=fq k (by omega)
  have hB:=bM (E:=E0) (nx p.ah b hb) (by simp) (by simp)
  have hm:k+1≤maxLen:=bU (show k+1≤1001 by omega) (by decide)
  have hm2:(k+1)*48≤140737488355328:=by omega
  obtain ⟨z,h1,h2⟩:=HA p hl V rest (k+1) (F++[b]) F' hd2 (by simp [hF]) h
  refine ⟨z,?_,h2⟩
  rw [cP]
  exact h1
  show (run G Ω0 _ K0 (wi p k V F)).bind _=_
  have:run G Ω0 E0 K0 (wi p k V F)=some (.nrm,wi p (k+1) V (F++[b])):=by
   apply aj (by simp [wi,hk];rfl)
   apply aj
   ·apply cL (by simp [hk])
    exact bB _ _
   apply dz
   apply aj
   ·apply eE
    simp [-aS,hB,hF,hm,hm2]
    rfl
   simp [wi,hwr,aq]
  rw [this];rfl
@[simp] theorem TV (k:Key):∀ V:List Level,AV.eG k (dy V)=true
 | []=>rfl
 | l::r=>by
  have ih:=TV k r
  show AV.eG k (.l _ _::.l _ _::dy r)=true
  simp only [AV.eG,AV.cJ,ih,gT]
@[simp] theorem RQ (dp:Nat):∀ V:List Level,AV.fJ dp (dy V)=true
 | []=>rfl
 | l::r=>by
  have ih:=RQ dp r
  show AV.fJ dp (.l _ _::.l _ _::dy r)=true
  simp only [AV.fJ,AV.deep,ih,gT]
theorem zS(V:List Level):(V.map aq).flatMap AV.cl=dy V:=by
 rw [List.flatMap_map];rfl
abbrev jT(b:Bool)(k:Key)(n:Nat):AV:=if b=true then .sp k 0 n 2 else .l 45 []
def dD(p:Program)(bV bF:Bool)(nV nF:Nat)(s:bR)(d:AV)(a:Nat):St:=
 ⟨[(1,.p ⟨0,1⟩ 0),(2,.p ⟨0,2⟩ 0),(3,.p ⟨0,3⟩ 0),(7,.p ⟨0,7⟩ 0),(8,.p ⟨0,8⟩ 0),(50,.p ⟨0,50⟩ 0)],(1,ar p)::(2,mo)::(3,[jT bV kV nV,jT bF kF nF])::(7,[.p ⟨0,50⟩ 0])::(8,[.b s.ch])::(50,mc p (jT bV kV nV) (jT bF kF nF) d a [])::((if bV=true then [(1045000,dy s.V)] else [])++(if bF=true then [(1045001,dy s.F)] else [])),H0⟩
theorem EB(V:List Level):((V.map aq).all fun e=>e.nc==2)=true:=ajc aq _ (fun _=>rfl) V
set_option maxHeartbeats 8000000 in
theorem pins(p:Program)(V F:List Level):∃ st,run G Ω0 E0 (.rg [.qx 3 0 1045000 2,.qx 3 1 1045001 2] [gp 47 (.ld (some 8) (.t 1)),gp 48 (.ld (some 2) (.t 3)),gp 49 (.bd [(.i .i64 0),(.l 166 []),(.l 3 []),(.l 81 []),(.l 81 []),(.l 83 []),(.l 101 []),(.l 92 []),(.l 45 []),(.l 45 []),.nf,(.i .i64 0)] [(0,8,(.t 47)),(8,2,(.t 48))]),gp 50 (.bx (.t 49)),gp 7 (.al [.z]),⟨none,.st 1 (.t 7) (.t 50),none,false⟩] [1,2,3,7,50] [1,2,3,7,50,1045000,1045001])
  ⟨[(1,.p ⟨0,1⟩ 0),(2,.p ⟨0,2⟩ 0),(3,.p ⟨0,3⟩ 0)],[(1,ar p),(2,mo),(3,[.o 45 (V.map aq),.o 45 (F.map aq)])],H0⟩=some (.nrm,st)∧
  run G Ω0 E0 (.rg [] [gp 8 (.al [(.b false)]),⟨none,.st 1 (.t 8) (.c (.b true)),none,false⟩] [1,2,3,7,8,50] [1,2,3,7,8,50,1045000,1045001]) st=some (.nrm,dD p (!V.isEmpty) (!F.isEmpty) V.length F.length ⟨V,F,true⟩ .nf 0):=by
 have h1:=zS V
 have h2:=zS F
 have h3:=EB V
 have h4:=EB F
 simp only [zc] at h3 h4
 by_cases hV:V=[]
 ·subst hV
  by_cases hF:F=[]
  ·subst hF
   apply Exists.intro
   apply And.intro
   ·simp
    rfl
   simp [dD]
  ·have hF2:F.isEmpty=false:=by simp [hF]
   apply Exists.intro
   apply And.intro
   ·simp [hF,h2,xh,aq]
    rfl
   simp [dD,hF2]
 ·have hV2:V.isEmpty=false:=by simp [hV]
  by_cases hF:F=[]
  ·subst hF
   apply Exists.intro
   apply And.intro
   ·simp [hV,h1,xh,aq]
    rfl
   simp [dD,hV2]
  ·have hF2:F.isEmpty=false:=by simp [hF]
   apply Exists.intro
   apply And.intro
   ·simp [hV,hF,h1,h2,xh,aq]
    rfl
   simp [dD,hV2,hF2]
structure eO(bV bF:Bool)(nV nF:Nat)(s:bR):Prop where
 v1:bV=true→s.V.length=nV∧0<nV
 v0:bV=false→s.V=[]
 f1:bF=true→s.F.length=nF∧0<nF
 f0:bF=false→s.F=[]
theorem EC{H:HP}{k k':Key}{n:Nat}{ls:List Level}(h:DG H k (.sp k' 0 n 2) ls):ls.length=n∧H k=some (dy ls):=by
 rcases h with ⟨h,_⟩ | ⟨h,h2⟩
 ·cases h
 ·injection h with _ _ h _;exact ⟨h.symm,h2⟩
theorem ED{H:HP}{k:Key}{ls:List Level}(h:DG H k (.l 45 []) ls):ls=[]:=by
 rcases h with ⟨_,h⟩ | ⟨h,_⟩
 ·exact h
 ·cases h
set_option maxHeartbeats 16000000 in
theorem PZ(p:Program)(bV bF:Bool)(nV nF:Nat)(s s':bR)(d:AV)(a a':Nat)(hch:s.ch=true)(hI:eO bV bF nV nF s)(hs:yv p bR.V bR.F (rF p) ⟨s.V,s.F,false⟩=some (a',s'))(hd:d= .nf∨d= .u) :
  eO bV bF nV nF s'∧∃ st,run G Ω0 E0 GF (dD p bV bF nV nF s d a)=some (.nrm,st)∧st.aN [1,2,3,7,8,50] [1,2,3,7,8,50,1045000,1045001]=dD p bV bF nV nF s' .u a':=by
 have low:cM 1 (fun k=>(dD p bV bF nV nF ⟨s.V,s.F,false⟩ (.f 97 rH) a).box 0 k):=fun k hk=>by
  show (if k.dp=0 then _ else none)=none
  rw [ab (by omega)]
 cases bV with
 | true=>
  cases bF with
  | true=>
   obtain ⟨H',c1,r,c3,c4⟩:=A4 (Lk p (.sp kV 0 nV 2) (.sp kF 0 nF 2)) (dp:=1) (a:=a) (H:=fun k=>(dD p true true nV nF ⟨s.V,s.F,false⟩ (.f 97 rH) a).box 0 k) (by decide) low ⟨rfl,rfl,rfl,rfl,rfl,rfl,.inr ⟨by rw [(hI.v1 rfl).1],rfl⟩,.inr ⟨by rw [(hI.f1 rfl).1],rfl⟩⟩ hs
   have g1:=r.h1
   have g2:=r.h2
   have g3:=r.h3
   have g7:=r.h7
   have g8:=r.h8
   have g50:=r.hw
   have gV:=EC r.hx
   have gF:=EC r.hy
   refine ⟨⟨fun _=>⟨gV.1,(hI.v1 rfl).2⟩,fun h=>(by cases h),fun _=>⟨gF.1,(hI.f1 rfl).2⟩,fun h=>(by cases h)⟩,?_⟩
   simp [dD] at c1
   apply Exists.intro
   apply And.intro
   ·apply aj
    ·apply aj (by simp [dD];rfl)
     apply cL (by simp [hch])
     exact bB _ _
    apply dz
    apply aj
    ·apply eE
     apply aj (by simp;rfl)
     apply aj (by simp;rfl)
     simp [dq,AV.kT,c1,St.back,gD,g1,g2,g3,g7,g8,g50,gV.2,gF.2]
     rfl
    apply aj (by simp;rfl)
    simp
    rfl
   ·simp [dD]
  | false=>
   obtain ⟨H',c1,r,c3,c4⟩:=A4 (Lk p (.sp kV 0 nV 2) (.l 45 [])) (dp:=1) (a:=a) (H:=fun k=>(dD p true false nV nF ⟨s.V,s.F,false⟩ (.f 97 rH) a).box 0 k) (by decide) low ⟨rfl,rfl,rfl,rfl,rfl,rfl,.inr ⟨by rw [(hI.v1 rfl).1],rfl⟩,.inl ⟨rfl,hI.f0 rfl⟩⟩ hs
   have g1:=r.h1
   have g2:=r.h2
   have g3:=r.h3
   have g7:=r.h7
   have g8:=r.h8
   have g50:=r.hw
   have gV:=EC r.hx
   have gF:=ED r.hy
   refine ⟨⟨fun _=>⟨gV.1,(hI.v1 rfl).2⟩,fun h=>(by cases h),fun h=>(by cases h),fun _=>gF⟩,?_⟩
   simp [dD] at c1
   apply Exists.intro
   apply And.intro
   ·apply aj
    ·apply aj (by simp [dD];rfl)
     apply cL (by simp [hch])
     exact bB _ _
    apply dz
    apply aj
    ·apply eE
     apply aj (by simp;rfl)
     apply aj (by simp;rfl)
     simp [dq,AV.kT,c1,St.back,gD,g1,g2,g3,g7,g8,g50,gV.2]
     rfl
    apply aj (by simp;rfl)
    simp
    rfl
   ·simp [dD]
 | false=>
  cases bF with
  | true=>
   obtain ⟨H',c1,r,c3,c4⟩:=A4 (Lk p (.l 45 []) (.sp kF 0 nF 2)) (dp:=1) (a:=a) (H:=fun k=>(dD p false true nV nF ⟨s.V,s.F,false⟩ (.f 97 rH) a).box 0 k) (by decide) low ⟨rfl,rfl,rfl,rfl,rfl,rfl,.inl ⟨rfl,hI.v0 rfl⟩,.inr ⟨by rw [(hI.f1 rfl).1],rfl⟩⟩ hs
   have g1:=r.h1
   have g2:=r.h2
   have g3:=r.h3
   have g7:=r.h7
   have g8:=r.h8
   have g50:=r.hw
   have gV:=ED r.hx
   have gF:=EC r.hy
   refine ⟨⟨fun h=>(by cases h),fun _=>gV,fun _=>⟨gF.1,(hI.f1 rfl).2⟩,fun h=>(by cases h)⟩,?_⟩
   simp [dD] at c1
   apply Exists.intro
   apply And.intro
   ·apply aj
    ·apply aj (by simp [dD];rfl)
     apply cL (by simp [hch])
     exact bB _ _
    apply dz
    apply aj
    ·apply eE
     apply aj (by simp;rfl)
     apply aj (by simp;rfl)
     simp [dq,AV.kT,c1,St.back,gD,g1,g2,g3,g7,g8,g50,gF.2]
     rfl
    apply aj (by simp;rfl)
    simp
    rfl
   ·simp [dD]
  | false=>
   obtain ⟨H',c1,r,c3,c4⟩:=A4 (Lk p (.l 45 []) (.l 45 [])) (dp:=1) (a:=a) (H:=fun k=>(dD p false false nV nF ⟨s.V,s.F,false⟩ (.f 97 rH) a).box 0 k) (by decide) low ⟨rfl,rfl,rfl,rfl,rfl,rfl,.inl ⟨rfl,hI.v0 rfl⟩,.inl ⟨rfl,hI.f0 rfl⟩⟩ hs
   have g1:=r.h1
   have g2:=r.h2
   have g3:=r.h3
   have g7:=r.h7
   have g8:=r.h8
   have g50:=r.hw
   have gV:=ED r.hx
   have gF:=ED r.hy
   refine ⟨⟨fun h=>(by cases h),fun _=>gV,fun h=>(by cases h),fun _=>gF⟩,?_⟩
   simp [dD] at c1
   apply Exists.intro
   apply And.intro
   ·apply aj
    ·apply aj (by simp [dD];rfl)
     apply cL (by simp [hch])
     exact bB _ _
    apply dz
    apply aj
    ·apply eE
     apply aj (by simp;rfl)
     apply aj (by simp;rfl)
     simp [dq,AV.kT,c1,St.back,gD,g1,g2,g3,g7,g8,g50]
     rfl
    apply aj (by simp;rfl)
    simp
    rfl
   ·simp [dD]
set_option maxHeartbeats 8000000 in
theorem TW(p:Program)(bV bF:Bool)(nV nF:Nat)(s:bR)(d:AV)(a:Nat)(hch:s.ch=false)(hI:eO bV bF nV nF s):∃ st,run G Ω0 E0 GF (dD p bV bF nV nF s d a)=some (.ex 4,st)∧
  run G Ω0 E0 (.rg [.unp 3 0,.unp 3 1] [gp 59 (.ld (some 2) (.t 3)),⟨none,.st 2 (.t 2) (.t 59),none,false⟩] [2] [2]) st=some (.nrm,⟨[(2,.p ⟨0,2⟩ 0)],[(2,[.l 45 (s.V.map aq),.l 45 (s.F.map aq)])],H0⟩):=by
 have c1:=m9 s.V
 have c2:=m9 s.F
 have p1:=tQ s.V
 have p2:=tQ s.F
 have l1:=n6 s.V
 have l2:=n6 s.F
 cases bV with
 | true=>
  have hV:=(hI.v1 rfl).1
  rw [hV] at c1 l1
  cases bF with
  | true=>
   have hF:=(hI.f1 rfl).1
   rw [hF] at c2 l2
   apply Exists.intro
   apply And.intro
   ·apply ig
    apply aj (by simp [dD];rfl)
    apply bQ (by simp [hch])
    exact du _ _ _
   simp [p1,p2,l1,l2,c1,c2,rY,jT,kl]
  | false=>
   have hF:=hI.f0 rfl
   apply Exists.intro
   apply And.intro
   ·apply ig
    apply aj (by simp [dD];rfl)
    apply bQ (by simp [hch])
    exact du _ _ _
   simp [p1,l1,c1,hF,rY,jT,kl]
 | false=>
  have hV:=hI.v0 rfl
  cases bF with
  | true=>
   have hF:=(hI.f1 rfl).1
   rw [hF] at c2 l2
   apply Exists.intro
   apply And.intro
   ·apply ig
    apply aj (by simp [dD];rfl)
    apply bQ (by simp [hch])
    exact du _ _ _
   simp [p2,l2,c2,hV,rY,jT,kl]
  | false=>
   have hF:=hI.f0 rfl
   apply Exists.intro
   apply And.intro
   ·apply ig
    apply aj (by simp [dD];rfl)
    apply bQ (by simp [hch])
    exact du _ _ _
   simp [hV,hF,jT]
theorem J7(p:Program)(bV bF:Bool)(nV nF:Nat):∀ (n:Nat)(s s':bR)(d:AV)(a:Nat),eO bV bF nV nF s→(d= .nf∨d= .u)→ph (BV p) n s=some s'→
  ∃ st,fL G Ω0 E0 UT (dD p bV bF nV nF s d a)=some (.ex 4,st)∧
   run G Ω0 E0 (.rg [.unp 3 0,.unp 3 1] [gp 59 (.ld (some 2) (.t 3)),⟨none,.st 2 (.t 2) (.t 59),none,false⟩] [2] [2]) st=some (.nrm,⟨[(2,.p ⟨0,2⟩ 0)],[(2,[.l 45 (s'.V.map aq),.l 45 (s'.F.map aq)])],H0⟩)
 | 0,s,s',d,a,hI,hd,h=>by cases h
 | n+1,s,s',d,a,hI,hd,h=>by
  have hkeep:(dD p bV bF nV nF s d a).aN [1,2,3,7,8,50] [1,2,3,7,8,50,1045000,1045001]=dD p bV bF nV nF s d a:=by
   cases bV<;>cases bF<;>rfl
  rw [ph] at h
  cases hch:s.ch with
  | true=>
   have hB:BV p s=(yv p bR.V bR.F (rF p) ⟨s.V,s.F,false⟩).bind fun r=>some (.inl r.2):=by unfold BV;rw [aa hch]
   rw [hB] at h
   cases hg:yv p bR.V bR.F (rF p) ⟨s.V,s.F,false⟩ with
   | none=>rw [hg] at h;cases h
   | some r=>
    obtain ⟨a',s1⟩:=r
    rw [hg] at h
    obtain ⟨hI1,st,r1,r2⟩:=PZ p bV bF nV nF s s1 d a a' hch hI hg hd
    obtain ⟨st2,q1,q2⟩:=J7 p bV bF nV nF n s1 s' .u a' hI1 (.inr rfl) h
    refine ⟨st2,?_,q2⟩
    rw [cP]
    exact q1
    show (run G Ω0 _ GF ((dD p bV bF nV nF s d a).aN [1,2,3,7,8,50] [1,2,3,7,8,50,1045000,1045001])).bind _=_
    rw [hkeep,r1]
    exact ak some r2
  | false=>
   have hB:BV p s=some (.inr s):=by unfold BV;rw [ab (by simp [hch])]
   rw [hB] at h
   obtain rfl:=ad h
   obtain ⟨st,r1,r2⟩:=TW p bV bF nV nF s d a hch hI
   refine ⟨st,cT ?_ (by simp),r2⟩
   show run G Ω0 _ GF ((dD p bV bF nV nF s d a).aN [1,2,3,7,8,50] [1,2,3,7,8,50,1045000,1045001])=_
   rw [hkeep,r1]
abbrev NI(a0:Program)(r:aM):Prop:=call G Ω0 E0 37 [.a (ar a0)] H0=some (.ret (.a [.l 45 (r.Vars.map aq),.l 45 (r.Funcs.map aq)]),H0)
set_option maxHeartbeats 8000000 in
theorem Jf(a0:Program)(r:aM)(h:na a0=some r):NI a0 r:=by
 unfold na at h
 split at h
 ·rename_i hl
  obtain ⟨V,hV,h⟩:=af.1 h
  obtain ⟨F,hF,h⟩:=af.1 h
  obtain ⟨s,hs,h⟩:=af.1 h
  obtain rfl:=ad h
  obtain ⟨n,hn⟩:=xT hs
  obtain ⟨z1,a1,a2⟩:=J6 a0 hl.1 a0.Vars 0 [] V rfl rfl hV
  obtain ⟨z2,b1,b2⟩:=HA a0 hl.2 V a0.Funcs 0 [] F rfl rfl hF
  obtain ⟨z3,c1,c2⟩:=pins a0 V F
  have hI:eO (!V.isEmpty) (!F.isEmpty) V.length F.length ⟨V,F,true⟩:=by
   refine ⟨fun h=>⟨rfl,?_⟩,fun h=>?_,fun h=>⟨rfl,?_⟩,fun h=>?_⟩
   ·cases V with
    | nil=>cases h
    | cons=>simp
   ·simpa using h
   ·cases F with
    | nil=>cases h
    | cons=>simp
   ·simpa using h
  obtain ⟨z4,d1,d2⟩:=J7 a0 _ _ _ _ n ⟨V,F,true⟩ s .nf 0 hI (.inl rfl) hn
  show call G Ω0 E0 37 _ _=_
  apply eK G37
  ·apply aj (by simp;rfl)
   apply aj (by simp;rfl)
   apply aj
   ·apply aj (by simp;rfl)
    apply lN
    rw [dF]
    exact a1
   show run G Ω0 _ (.kp _ _ UW) z1=_
   rw [jE,a2]
   apply aj
   ·apply aj (by simp;rfl)
    apply lN
    rw [dF]
    exact b1
   show run G Ω0 _ (.kp _ _ UU) z2=_
   rw [jE,b2]
   apply aj c1
   apply aj
   ·apply aj c2
    apply lN
    rw [dF]
    show fL _ _ _ _ ((dD _ _ _ _ _ _ _ _).aN [1,2,3,7,8,50] [1,2,3,7,8,50,1045000,1045001])=_
    rw [show ∀ bV bF nV nF s d a,(dD a0 bV bF nV nF s d a).aN [1,2,3,7,8,50] [1,2,3,7,8,50,1045000,1045001]=dD a0 bV bF nV nF s d a from fun bV bF _ _ _ _ _=>by cases bV<;>cases bF<;>rfl]
    exact d1
   apply aj d2
   exact ef _ _
  ·simp [UX]
  ·rfl
 ·cases h
end Go.Proofs.YtkkkkondjclcnaaGreat.A
