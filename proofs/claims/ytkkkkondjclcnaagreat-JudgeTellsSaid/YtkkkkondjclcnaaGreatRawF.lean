/- infer.Raw as a plain function. -/
import Derived.Test.YtkkkkondjclcnaaGreatListF
set_option linter.all false
set_option maxRecDepth 100000
set_option maxHeartbeats 16000000
namespace Go.Proofs.YtkkkkondjclcnaaGreat.A
open Go
variable [Lp]
attribute [local simp] gp execOp okB gv df fT pJ iZ ir ft St.end_ St.fU List.filter
structure bX where
 V:List Level
 F:List Level
 ch:Bool
noncomputable def sD(p:Program)(s:bX)(f:dq):Option bX:=
 (dV f.To).bind fun j=>
  if f.Func=true then (s.F[j]?).bind fun t=>(fQ f.Level t).bind fun b=>if b=true then some s else (er t f.Level).bind fun u=>some ⟨s.V,s.F.set j u,true⟩
  else (p.Vars[j]?).bind fun v=>if v.Known=true then some s else (s.V[j]?).bind fun t=>(fQ f.Level t).bind fun b=>if b=true then some s else (er t f.Level).bind fun u=>some ⟨s.V.set j u,s.F,true⟩
noncomputable def xE(p:Program):List dq→bX→Option bX
 | [],s=>some s
 | f::r,s=>(sD p s f).bind fun t=>xE p r t
noncomputable def tE(p:Program)(a:Nat)(st:Stmt)(pl:Level)(s:bX):Option bX:=(nN p s.V st pl).bind fun l=>if l.length≤2000 then xE p l s else none
def Gi(H:HP)(k:Key)(x:AV)(ls:List Level):Prop:=(x= .l 45 []∧ls=[])∨(x= .sp k 0 ls.length 2∧H k=some (en ls))
variable {H:HP}{k:Key}{x:AV}{ls:List Level}
theorem Gi.rd(h:Gi H k x ls)(hk:k=kV∨k=kF):Dz H x ls:=by
 rcases h with ⟨rfl,rfl⟩ | ⟨rfl,h⟩
 ·exact .l _ []
 ·exact .sp k ls h hk
variable {H':HP}
theorem Gi.ext(h:Gi H k x ls)(e:H' k=H k):Gi H' k x ls:=h.imp id fun h=>⟨h.1,by rw [e];exact h.2⟩
abbrev tF:List AV:=[.p ⟨0,7⟩ 0,.p ⟨0,3⟩ 0,.p ⟨0,1⟩ 0,.p ⟨0,8⟩ 0]
structure uv(p:Program)(x y:AV)(a:Nat)(s:bX)(H:HP):Prop where
 h1:H ⟨0,1⟩=some (av p)
 h2:H ⟨0,2⟩=some [.l 45 [],.l 45 []]
 h3:H ⟨0,3⟩=some [x,y]
 h7:H ⟨0,7⟩=some [.p ⟨0,50⟩ 0]
 h8:H ⟨0,8⟩=some [.b s.ch]
 hw:H ⟨0,50⟩=some (cK p x y (.f 97 tF) a [])
 hx:Gi H kV x s.V
 hy:Gi H kF y s.F
theorem Ep{u:Level} : ∀ {ls:List Level}{j:Nat},j<ls.length→List.take (j*2) (en ls)++(ax u++List.drop (j*2+2) (en ls))=en (ls.set j u)
 | [],j,h=>by simp at h
 | l::r,0,h=>rfl
 | l::r,j+1,h=>by
  have h2:=Ep (u:=u) (ls:=r) (j:=j) (by simpa using h)
  rw [show (j+1)*2=j*2+2 by omega]
  show .l _ _::.l _ _::(_++_)= .l _ _::.l _ _::en (r.set j u)
  rw [←h2]
  rfl
abbrev N5(f:dq):List AV:=[(.l 4 (f.Level.Readers.map AV.b)),(.l 4 (f.Level.Writers.map AV.b)),(I f.To),(.b f.Func)]
def rh(fs:List dq)(k:Nat)(H:HP):St:=⟨[(4,.p ⟨0,3⟩ 0),(5,.p ⟨0,1⟩ 0),(6,.p ⟨0,8⟩ 0),(16,.l 96 (fs.map ee)),(17,I fs.length),(18,I k)],[],H⟩
def rH(dp:Nat)(fs:List dq)(k:Nat)(f:dq)(w:AV)(H:HP):St:=⟨[(4,.p ⟨0,3⟩ 0),(5,.p ⟨0,1⟩ 0),(6,.p ⟨0,8⟩ 0),(11,.p ⟨dp,11⟩ 0),(12,w),(16,.l 96 (fs.map ee)),(17,I fs.length),(18,I k)],[(11,N5 f)],H⟩
theorem RP(dp:Nat)(hd:0<dp)(H:HP)(fs:List dq)(k:Nat)(f:dq)(kk:Key)(hk:kk=kV∨kk=kF)(c:Bool)(h8:H ⟨0,8⟩=some [.b c])(ls:List Level)(hH:H kk=some (en ls))(j:Nat)(hj:f.To=j)(t:Level)(ht:ls[j]? =some t)(b:Bool)(hb:fQ f.Level t=some b)(u:Level)
  (hu:b=false→er t f.Level=some u) :
  run G Ω0 ⟨dp,false⟩ Yy (rH dp fs k f (.sp kk 0 ls.length 2) H)=some (.nrm,if b=true then ⟨[(4,.p ⟨0,3⟩ 0),(5,.p ⟨0,1⟩ 0),(6,.p ⟨0,8⟩ 0),(11,.p ⟨dp,11⟩ 0),(12,.sp kk 0 ls.length 2),(16,.l 96 (fs.map ee)),(17,I fs.length),(18,I k),(44,.b false)],[(11,N5 f)],H⟩ else rh fs k (ar (ar H kk (en (ls.set j u))) ⟨0,8⟩ [.b true])):=by
 have ek:kk.dp=0:=by rcases hk with rfl | rfl<;>rfl
 have ae:kk≠⟨0,8⟩:=by rcases hk with rfl | rfl<;>decide
 have e0:¬kk.dp=dp:=by omega
 have e1:¬0=dp:=by omega
 have e2:∀ d,¬kk=⟨dp,d⟩:=fun d=>bD (by omega)
 obtain ⟨f1,f2⟩:=yS ht
 have f3:j<ls.length:=(eb.1 ht).1
 have f4:=Ep (u:=u) f3
 have hA:=aZ (E:=⟨dp,false⟩) (nh f.Level t b hb) (by simp) (by simp)
 apply di
 apply aj
 ·apply dM 4
  ·rfl
  ·simp [rH]
  ·simp [rH,e2]
   rfl
  ·simp [-aF,e0,e1,e2,hj,hH,f1,f2,f3,hA]
   rfl
  ·simp
   rfl
 cases b with
 | true=>
  apply ba (by simp)
  exact bh _ _
 | false=>
  apply bT (by simp)
  have hB:=aZ (E:=⟨dp,false⟩) (jX t f.Level u (hu rfl)) (by simp) (by simp)
  have hh:(ar H kk (en (ls.set j u))) ⟨0,8⟩=some [.b c]:=by rw [n6 (pT ae)];exact h8
  refine aj (st1:=rh fs k (ar H kk (en (ls.set j u)))) ?_ ?_
  ·apply dM 6
   ·rfl
   ·simp
   ·simp [e2,hj]
    rfl
   ·simp [-aF,e0,e1,e2,hj,hH,f1,f2,f3,hB]
    rfl
   ·simp [rh,←f4]
  simp [rh,e1,hh]
theorem N6{E:Env}{kf kb:List Nat}{x:AC}{st st':St}(h:st.aG kf kb=st'.aG kf kb):run G Ω0 E (.kp kf kb x) st=run G Ω0 E (.kp kf kb x) st':=by rw [jq,h,jq]
theorem MO(h:Gi H k x ls):x= .l 45 []∨x= .sp k 0 ls.length 2:=h.imp (·.1) (·.1)
theorem RQ{j:Nat}{t:Level}(h:Gi H k x ls)(ht:ls[j]? =some t):x= .sp k 0 ls.length 2∧H k=some (en ls):=by
 rcases h with ⟨_,rfl⟩ | h
 ·simp at ht
 ·exact h
theorem Vc(p:Program)(x y:AV)(a:Nat)(s s':bX)(dp:Nat)(hd:0<dp)(H:HP)(hz:aO dp H)(r:uv p x y a s H)(fs:List dq)(hl:fs.length≤2000)(k:Nat)(f:dq)(hg:fs[k]? =some f)(hs:sD p s f=some s') :
  ∃ H',run G Ω0 ⟨dp,false⟩ NU (rh fs k H)=some (.nrm,rh fs (k+1) H')∧uv p x y a s' H'∧aO dp H'∧∀ k:Key,k.dp≠0→H' k=H k:=by
 have N:k<fs.length:=(eb.1 hg).1
 have hk:((k:Int)<(fs.length:Int)):=by omega
 have C:=iF k (by omega)
 have e1:¬0=dp:=by omega
 obtain ⟨j,hj,hs⟩:=ah.1 hs
 have hj:=iV hj
 have r3:=r.h3
 have r1:=r.h1
 have K:run G Ω0 ⟨dp,false⟩ (.rg [] [gp 22 (.fa 1 (.t 4)),gp 23 (.ld none (.t 22)),gp 12 (.as (.t 23))] [4,5,6,11,12,16,17,18] [4,5,6,11]) ⟨[(4,.p ⟨0,3⟩ 0),(5,.p ⟨0,1⟩ 0),(6,.p ⟨0,8⟩ 0),(11,.p ⟨dp,11⟩ 0),(16,.l 96 (fs.map ee)),(17,I fs.length),(18,I k)],[(11,N5 f)],H⟩=some (.nrm,rH dp fs k f y H):=by
  have hy:=r.hy
  clear r
  rcases MO hy with rfl | rfl<;>simp [e1,r3,rH]
 have P:run G Ω0 ⟨dp,false⟩ (.rg [] [gp 27 (.fa 0 (.t 4)),gp 28 (.ld none (.t 27)),gp 12 (.as (.t 28))] [4,5,6,11,12,16,17,18] [4,5,6,11]) ⟨[(4,.p ⟨0,3⟩ 0),(5,.p ⟨0,1⟩ 0),(6,.p ⟨0,8⟩ 0),(11,.p ⟨dp,11⟩ 0),(12,y),(16,.l 96 (fs.map ee)),(17,I fs.length),(18,I k),(26,.b (!f.Func))],[(11,N5 f)],H⟩=some (.nrm,rH dp fs k f x H):=by
  have hx:=r.hx
  clear r K
  rcases MO hx with rfl | rfl<;>simp [e1,r3,rH]
 have fin:∀ (st:St)(H':HP),st.aG [4,5,6,16,17,18] [4,5,6]=rh fs k H'→run G Ω0 ⟨dp,false⟩ (.rg [] [gp 57 (.bo .add false (.t 18) (.c (.i .i64 1))),gp 18 (.mv (.t 57))] [4,5,6,16,17,18] [4,5,6]) st=some (.nrm,rh fs (k+1) H'):=by
  intro st H' h
  have h4:au st.fr 4= .p ⟨0,3⟩ 0:=an (fun z=>au z.fr 4) h
  have h5:au st.fr 5= .p ⟨0,1⟩ 0:=an (fun z=>au z.fr 5) h
  have h6:au st.fr 6= .p ⟨0,8⟩ 0:=an (fun z=>au z.fr 6) h
  have ad:au st.fr 16= .l 96 (fs.map ee):=an (fun z=>au z.fr 16) h
  have ac:au st.fr 17=I fs.length:=an (fun z=>au z.fr 17) h
  have Z:au st.fr 18=I k:=an (fun z=>au z.fr 18) h
  have hb:du st.bx [4,5,6]=[]:=an St.bx h
  have hh:st.hp=H':=an St.hp h
  simp [h4,h5,h6,ad,ac,Z,C,rh,hh,-du,hb]
 by_cases hf:f.Func=true
 ·rw [ab hf] at hs
  obtain ⟨t,ht,hs⟩:=ah.1 hs
  obtain ⟨b,hb,hs⟩:=ah.1 hs
  obtain ⟨S,R⟩:=RQ r.hy ht
  have hu:∃ u,(b=false→er t f.Level=some u)∧s'=if b=true then s else ⟨s.V,s.F.set j u,true⟩:=by
   cases b with
   | true=>exact ⟨t,fun h=>(by cases h),(af hs).symm⟩
   | false=>
    obtain ⟨u,hu,hs⟩:=ah.1 hs
    exact ⟨u,fun _=>hu,(af hs).symm⟩
  obtain ⟨u,hu,rfl⟩:=hu
  subst S
  have ag:kF≠kV:=by decide
  refine ⟨if b=true then H else ar (ar H kF (en (s.F.set j u))) ⟨0,8⟩ [.b true],?_,?_⟩
  ·apply aj (by simp [rh,hk];rfl)
   apply aj
   ·apply bT (by simp [hk])
    exact bh _ _
   apply di
   apply aj
   ·apply dI
    apply aj (by simp [hg,ee];rfl)
    apply aj K
    apply aj
    ·apply aj (by simp [rH];rfl)
     apply ba (by simp [hf])
     exact bh _ _
    refine Eq.trans (N6 (st':=rH dp fs k f (.sp kF 0 s.F.length 2) H) ?_) (RP dp hd H fs k f kF (.inr rfl) s.ch r.h8 s.F R j hj t ht b hb u hu)
    rfl
   exact fin _ _ (by cases b<;>rfl)
  ·cases b with
   | true=>exact ⟨r,hz,fun _ _=>rfl⟩
   | false=>
    refine ⟨⟨r.h1,r.h2,r.h3,r.h7,rfl,r.hw,r.hx.ext rfl,.inr ⟨?_,rfl⟩⟩,aU hd (aU hd hz),fun q hq=>?_⟩
    ·show AV.sp kF 0 s.F.length 2=AV.sp kF 0 (s.F.set j u).length 2
     rw [vA]
    ·simp only [bU,bB]
     rw [n6 (fun e=>hq (by rw [e])),n6 (fun e=>hq (by rw [e]))]
 ·rw [aa hf] at hs
  obtain ⟨v,hv,hs⟩:=ah.1 hs
  by_cases D:v.Known=true
  ·rw [ab D] at hs
   obtain rfl:=af hs
   refine ⟨H,?_,r,hz,fun _ _=>rfl⟩
   apply aj (by simp [rh,hk];rfl)
   apply aj
   ·apply bT (by simp [hk])
    exact bh _ _
   apply di
   apply aj
   ·apply lu
    apply aj (by simp [hg,ee];rfl)
    apply aj K
    apply iu
    apply aj (by simp [rH];rfl)
    apply bT (by simp [hf])
    apply aj P
    apply aj (by simp [rH,e1,r1,hj,hv,eo];rfl)
    apply bT (by simp [D])
    exact dR _ _ _
   exact fin _ _ rfl
  ·rw [aa D] at hs
   obtain ⟨t,ht,hs⟩:=ah.1 hs
   obtain ⟨b,hb,hs⟩:=ah.1 hs
   obtain ⟨U,T⟩:=RQ r.hx ht
   have hu:∃ u,(b=false→er t f.Level=some u)∧s'=if b=true then s else ⟨s.V.set j u,s.F,true⟩:=by
    cases b with
    | true=>exact ⟨t,fun h=>(by cases h),(af hs).symm⟩
    | false=>
     obtain ⟨u,hu,hs⟩:=ah.1 hs
     exact ⟨u,fun _=>hu,(af hs).symm⟩
   obtain ⟨u,hu,rfl⟩:=hu
   subst U
   refine ⟨if b=true then H else ar (ar H kV (en (s.V.set j u))) ⟨0,8⟩ [.b true],?_,?_⟩
   ·apply aj (by simp [rh,hk];rfl)
    apply aj
    ·apply bT (by simp [hk])
     exact bh _ _
    apply di
    apply aj
    ·apply dI
     apply aj (by simp [hg,ee];rfl)
     apply aj K
     apply aj
     ·apply aj (by simp [rH];rfl)
      apply bT (by simp [hf])
      apply aj P
      apply aj (by simp [rH,e1,r1,hj,hv,eo];rfl)
      apply ba (by simp [D])
      exact bh _ _
     refine Eq.trans (N6 (st':=rH dp fs k f (.sp kV 0 s.V.length 2) H) ?_) (RP dp hd H fs k f kV (.inl rfl) s.ch r.h8 s.V T j hj t ht b hb u hu)
     rfl
    exact fin _ _ (by cases b<;>rfl)
   ·cases b with
    | true=>exact ⟨r,hz,fun _ _=>rfl⟩
    | false=>
     refine ⟨⟨r.h1,r.h2,r.h3,r.h7,rfl,r.hw,.inr ⟨?_,rfl⟩,r.hy.ext rfl⟩,aU hd (aU hd hz),fun q hq=>?_⟩
     ·show AV.sp kV 0 s.V.length 2=AV.sp kV 0 (s.V.set j u).length 2
      rw [vA]
     ·simp only [bU,bB]
      rw [n6 (fun e=>hq (by rw [e])),n6 (fun e=>hq (by rw [e]))]
theorem Kb(p:Program)(x y:AV)(a:Nat)(s':bX)(dp:Nat)(hd:0<dp)(fs:List dq)(hl:fs.length≤2000):∀ (rest:List dq)(k:Nat)(s:bX)(H:HP),fs.drop k=rest→aO dp H→uv p x y a s H→xE p rest s=some s'→
  ∃ z,fH G Ω0 ⟨dp,false⟩ Yz (rh fs k H)=some (.ex 0,z)∧uv p x y a s' z.hp∧aO dp z.hp∧∀ k:Key,k.dp≠0→z.hp k=H k
 | [],k,s,H,B,hz,hr,hs=>by
  have hk:¬((k:Int)<(fs.length:Int)):=by
   have:=gP.1 B;omega
  obtain rfl:=af hs
  have Q:∃ z,run G Ω0 ⟨dp,false⟩ NU (rh fs k H)=some (.ex 0,z)∧z.hp=H:=by
   apply Exists.intro
   apply And.intro
   ·apply aj (by simp [rh,hk];rfl)
    apply iu
    apply ba (by simp [hk])
    exact dR _ _ _
   ·rfl
  obtain ⟨z,h1,rfl⟩:=Q
  exact ⟨z,dD h1 (by simp),hr,hz,fun _ _=>rfl⟩
 | f::rest,k,s,H,B,hz,hr,hs=>by
  obtain ⟨s1,h1,h2⟩:=ah.1 hs
  have hg:fs[k]? =some f:=by
   have:=an (fun l=>l[0]?) B
   simpa using this
  have X:fs.drop (k+1)=rest:=by
   have:=an List.tail B
   simpa using this
  obtain ⟨H1,r1,r2,r3,r4⟩:=Vc p x y a s s1 dp hd H hz hr fs hl k f hg h1
  obtain ⟨z,q1,q2,q3,q4⟩:=Kb p x y a s' dp hd fs hl rest (k+1) s1 H1 X r3 r2 h2
  refine ⟨z,?_,q2,q3,fun k hk=>(q4 k hk).trans (r4 k hk)⟩
  rw [dz]
  exact q1
  show (run G Ω0 _ NU (rh fs k H)).bind _=_
  rw [r1];rfl
variable {a:Nat}{s:bX}
theorem uv.ext{p:Program}{y:AV}(r:uv p x y a s H)(h:∀ k:Key,k.dp=0→H' k=H k):uv p x y a s H':=
 ⟨(h _ rfl).trans r.h1,(h _ rfl).trans r.h2,(h _ rfl).trans r.h3,(h _ rfl).trans r.h7,(h _ rfl).trans r.h8,(h _ rfl).trans r.hw,r.hx.ext (h _ rfl),r.hy.ext (h _ rfl)⟩
theorem WL(p:Program)(x y:AV){st:Stmt}{pl:Level}{s':bX}{dp:Nat}(h:tE p a st pl s=some s')(hA:st.Args.length≤1000)(hd:0<dp)(hz:aO dp H)(r:uv p x y a s H):
  ∃ H',call G Ω0 ⟨dp,false⟩ 97 (I (a:Nat)::.a (aD st)::.a (ax pl)::tF) H=some (.ret (.tp []),H')∧uv p x y a s' H'∧∀ k:Key,k.dp≠0→H' k=H k:=by
 obtain ⟨fs,h1,h2⟩:=ah.1 h
 split at h2
 ·rename_i hl
  have e1:¬0=dp:=by omega
  have r7:=r.h7
  have hc:=Ka (dp+1) (fun k=>if k.dp=dp then (if 8=k.d then some (aD st) else if 9=k.d then some (ax pl) else none) else H k) ⟨0,50⟩ (by show 0<dp+1;omega) p x y (.f 97 tF) a [] s.V (by simp only [aa (show ¬(0:Nat)=dp by omega)];exact r.hw) ((r.ext fun q hq=>by simp only [aa (show ¬q.dp=dp by omega)]).hx.rd (.inl rfl)) st pl fs hA h1
  have hb:(fun k:Key=>if k.dp<dp then (if k.dp=dp then (if 8=k.d then some (aD st) else if 9=k.d then some (ax pl) else none) else H k) else none)=H:=by
   funext q
   by_cases hq:q.dp<dp
   ·rw [ab hq,aa (by omega)]
   ·rw [aa hq,hz q hq]
  obtain ⟨z,z1,z2,z3,z4⟩:=Kb p x y a s' dp hd fs hl fs 0 s H rfl hz r h2
  refine ⟨z.hp,?_,z2,z4⟩
  apply m9 G97
  ·apply aj (by simp [e1];rfl)
   refine aj (st1:=rh fs 0 H) ?_ ?_
   ·simp [rh,e1,r7,bC,AV.cL,hc,St.back,bY,hb]
   apply lu
   rw [dL]
   exact z1
  ·rfl
  ·rfl
 ·cases h2
theorem N7(p:Program)(x y:AV):wA p bX.V bX.F (tE p) ⟨0,50⟩ x y 97 tF (uv p x y) where
 kw0:=rfl
 jl:=rfl
 copy:=rfl
 copy':=rfl
 box r:=⟨[],r.hw⟩
 vx r:=r.hx.rd (.inl rfl)
 fy r:=r.hy.rd (.inr rfl)
 ext r h:=r.ext h
 bump r h h1 hw:=⟨(h _ (by decide) rfl).trans r.h1,(h _ (by decide) rfl).trans r.h2,(h _ (by decide) rfl).trans r.h3,(h _ (by decide) rfl).trans r.h7,(h _ (by decide) rfl).trans r.h8,hw.trans (by rw [r.hw] at h1;injection (af h1) with _ e;injection e with _ e;injection e with _ e;injection e with _ e;injection e with _ e;injection e with _ e;injection e with _ e;injection e with _ e;injection e with _ e;injection e with _ e;injection e with _ e;injection e with _ e;rw [←e]),r.hx.ext (h _ (by decide) rfl),r.hy.ext (h _ (by decide) rfl)⟩
 call h hA hd hz r:=WL p x y h hA hd hz r
variable [Lp]
attribute [local simp] gp execOp okB gv df fT pJ iZ ir ft St.end_ St.fU List.filter
noncomputable def Hf(p:Program):List Var→List Level→Option (List Level)
 | [],o=>some o
 | v::r,o=>(ju p.ak).bind fun b=>(if v.Known=true then mg p.ak v.Label else some b).bind fun x=>Hf p r (o++[x])
noncomputable def Hg(p:Program):List Func→List Level→Option (List Level)
 | [],o=>some o
 | _::r,o=>(ju p.ak).bind fun b=>Hg p r (o++[b])
noncomputable def Er(p:Program)(s:bX):Option (bX⊕bX):=if s.ch=true then (A5 p bX.V bX.F (tE p) ⟨s.V,s.F,false⟩).bind fun r=>some (.inl r.2) else some (.inr s)
noncomputable def mA(p:Program):Option eD:=
 if p.Vars.length≤1000∧p.Funcs.length≤1000 then (Hf p p.Vars []).bind fun V=>(Hg p p.Funcs []).bind fun F=>(lp (Er p) ⟨V,F,true⟩).bind fun s=>some ⟨s.V,s.F⟩ else none
abbrev nO:List AV:=[.l 45 [],.l 45 []]
def B8(p:Program)(k:Nat)(V:List Level):St:=⟨[(1,.p ⟨0,1⟩ 0),(2,.p ⟨0,2⟩ 0),(3,.p ⟨0,3⟩ 0),(10,.l 83 (p.Vars.map eo)),(11,I p.Vars.length),(12,I k)],[(1,av p),(2,nO),(3,[.o 45 (V.map aI),.o 45 []])],H0⟩
theorem Th(p:Program)(hl:p.Vars.length≤1000)(k:Nat)(V:List Level)(hV:V.length=k)(v:Var)(hg:p.Vars[k]? =some v)(b x:Level)(hb:ju p.ak=some b)(hx:(if v.Known=true then mg p.ak v.Label else some b)=some x) :
  run G Ω0 E0 NN (B8 p k V)=some (.nrm,B8 p (k+1) (V++[x])):=by
 have N:k<p.Vars.length:=(eb.1 hg).1
 have hk:((k:Int)<(p.Vars.length:Int)):=by omega
 have C:=iF k (by omega)
 have hB:=aZ (E:=E0) (oQ p.ak b hb) (by simp) (by simp)
 have hm:k+1≤maxLen:=bS (show k+1≤1001 by omega) (by decide)
 have L:(k+1)*48≤140737488355328:=by omega
 apply aj (by simp [B8,hk];rfl)
 apply aj
 ·apply bT (by simp [hk])
  exact bh _ _
 apply di
 apply aj
 ·apply dI
  apply aj (by simp [hg,eo];rfl)
  apply aj (by simp [-aF,hB];rfl)
  have tail:∀ st:St,st.aG [1,2,3,6,10,11,12] [1,2,3,6,1045000,1045001]=⟨[(1,.p ⟨0,1⟩ 0),(2,.p ⟨0,2⟩ 0),(3,.p ⟨0,3⟩ 0),(6,.p ⟨0,6⟩ 0),(10,.l 83 (p.Vars.map eo)),(11,I p.Vars.length),(12,I k)],[(1,av p),(2,nO),(3,[.o 45 (V.map aI),.o 45 []]),(6,ax x)],H0⟩→
    run G Ω0 E0 XV st=some (.nrm,⟨[(1,.p ⟨0,1⟩ 0),(2,.p ⟨0,2⟩ 0),(3,.p ⟨0,3⟩ 0),(10,.l 83 (p.Vars.map eo)),(11,I p.Vars.length),(12,I k)],[(1,av p),(2,nO),(3,[.o 45 ((V++[x]).map aI),.o 45 []])],H0⟩):=by
   intro st W
   apply di
   rw [W]
   simp [XU,hV,hm,L,aI]
  cases J:v.Known with
  | true=>
   rw [ab J] at hx
   have hA:=aZ (E:=E0) (uH p.ak v.Label x hx) (by simp) (by simp)
   apply aj
   ·apply aj (by simp;rfl)
    apply bT (by simp [J])
    simp [-aF,hA]
    rfl
   exact tail _ rfl
  | false=>
   rw [aa (by simp [J])] at hx
   obtain rfl:=af hx
   apply aj
   ·apply aj (by simp;rfl)
    apply ba (by simp [J])
    exact bh _ _
   exact tail _ rfl
 simp [B8,C]
theorem MP(p:Program)(hl:p.Vars.length≤1000):∀ (rest:List Var)(k:Nat)(V V':List Level),p.Vars.drop k=rest→V.length=k→Hf p rest V=some V'→
  ∃ z,fH G Ω0 E0 XW (B8 p k V)=some (.ex 0,z)∧z.aG [1,2,3] [1,2,3,1045000,1045001]=⟨[(1,.p ⟨0,1⟩ 0),(2,.p ⟨0,2⟩ 0),(3,.p ⟨0,3⟩ 0)],[(1,av p),(2,nO),(3,[.o 45 (V'.map aI),.o 45 []])],H0⟩
 | [],k,V,V',hd,hV,h=>by
  obtain rfl:=af h
  have hk:¬((k:Int)<(p.Vars.length:Int)):=by
   have:=gP.1 hd;omega
  apply Exists.intro
  apply And.intro
  ·refine dD (r:=(.ex 0,?_)) ?_ (by simp)
   rotate_left
   ·show run G Ω0 _ NN (B8 p k V)=_
    apply aj (by simp [B8,hk];rfl)
    apply iu
    apply ba (by simp [hk])
    exact dR _ _ _
  ·simp
 | v::rest,k,V,V',hd,hV,h=>by
  obtain ⟨b,hb,h⟩:=ah.1 h
  obtain ⟨x,hx,h⟩:=ah.1 h
  have hg:p.Vars[k]? =some v:=by
   have:=an (fun l=>l[0]?) hd
   simpa using this
  have B:p.Vars.drop (k+1)=rest:=by
   have:=an List.tail hd
   simpa using this
  obtain ⟨z,h1,h2⟩:=MP p hl rest (k+1) (V++[x]) V' B (by simp [hV]) h
  refine ⟨z,?_,h2⟩
  rw [dz]
  exact h1
  show (run G Ω0 _ NN (B8 p k V)).bind _=_
  rw [Th p hl k V hV v hg b x hb hx];rfl
def yT(p:Program)(k:Nat)(V F:List Level):St:=⟨[(1,.p ⟨0,1⟩ 0),(2,.p ⟨0,2⟩ 0),(3,.p ⟨0,3⟩ 0),(35,I p.Funcs.length),(36,I k)],[(1,av p),(2,nO),(3,[.o 45 (V.map aI),.o 45 (F.map aI)])],H0⟩
theorem Kc(p:Program)(hl:p.Funcs.length≤1000)(V:List Level):∀ (rest:List Func)(k:Nat)(F F':List Level),p.Funcs.drop k=rest→F.length=k→Hg p rest F=some F'→
  ∃ z,fH G Ω0 E0 XX (yT p k V F)=some (.ex 2,z)∧z.aG [1,2,3] [1,2,3,1045000,1045001]=⟨[(1,.p ⟨0,1⟩ 0),(2,.p ⟨0,2⟩ 0),(3,.p ⟨0,3⟩ 0)],[(1,av p),(2,nO),(3,[.o 45 (V.map aI),.o 45 (F'.map aI)])],H0⟩
 | [],k,F,F',hd,hF,h=>by
  obtain rfl:=af h
  have hk:¬((k:Int)<(p.Funcs.length:Int)):=by
   have:=gP.1 hd;omega
  apply Exists.intro
  apply And.intro
  ·refine dD (r:=(.ex 2,?_)) ?_ (by simp)
   rotate_left
   ·show run G Ω0 _ NO (yT p k V F)=_
    apply aj (by simp [yT,hk];rfl)
    apply iu
    apply ba (by simp [hk])
    exact dR _ _ _
  ·simp
 | f::rest,k,F,F',hd,hF,h=>by
  obtain ⟨b,hb,h⟩:=ah.1 h
  have N:k<p.Funcs.length:=by
   have h1:=an List.length hd
   simp only [kQ,cC] at h1
   omega
  have B:p.Funcs.drop (k+1)=rest:=by
   have:=an List.tail hd
   simpa using this
  have hk:((k:Int)<(p.Funcs.length:Int)):=by omega
  have C:=iF k (by omega)
  have hB:=aZ (E:=E0) (oQ p.ak b hb) (by simp) (by simp)
  have hm:k+1≤maxLen:=bS (show k+1≤1001 by omega) (by decide)
  have L:(k+1)*48≤140737488355328:=by omega
  obtain ⟨z,h1,h2⟩:=Kc p hl V rest (k+1) (F++[b]) F' B (by simp [hF]) h
  refine ⟨z,?_,h2⟩
  rw [dz]
  exact h1
  show (run G Ω0 _ NO (yT p k V F)).bind _=_
  have:run G Ω0 E0 NO (yT p k V F)=some (.nrm,yT p (k+1) V (F++[b])):=by
   apply aj (by simp [yT,hk];rfl)
   apply aj
   ·apply bT (by simp [hk])
    exact bh _ _
   apply di
   apply aj
   ·apply dI
    simp [-aF,hB,hF,hm,L]
    rfl
   simp [yT,C,aI]
  rw [this];rfl
@[simp] theorem WM (k:Key):∀ V:List Level,AV.dm k (en V)=true
 | []=>rfl
 | l::r=>by
  have ih:=WM k r
  show AV.dm k (.l _ _::.l _ _::en r)=true
  simp only [AV.dm,AV.cb,ih,ji]
@[simp] theorem Vd (dp:Nat):∀ V:List Level,AV.dt dp (en V)=true
 | []=>rfl
 | l::r=>by
  have ih:=Vd dp r
  show AV.dt dp (.l _ _::.l _ _::en r)=true
  simp only [AV.dt,AV.deep,ih,ji]
theorem B9(V:List Level):(V.map aI).flatMap AV.cl=en V:=by
 rw [List.flatMap_map];rfl
abbrev lz(b:Bool)(k:Key)(n:Nat):AV:=if b=true then .sp k 0 n 2 else .l 45 []
def ew(p:Program)(bV bF:Bool)(nV nF:Nat)(s:bX)(d:AV)(a:Nat):St:=
 ⟨[(1,.p ⟨0,1⟩ 0),(2,.p ⟨0,2⟩ 0),(3,.p ⟨0,3⟩ 0),(7,.p ⟨0,7⟩ 0),(8,.p ⟨0,8⟩ 0),(50,.p ⟨0,50⟩ 0)],(1,av p)::(2,nO)::(3,[lz bV kV nV,lz bF kF nF])::(7,[.p ⟨0,50⟩ 0])::(8,[.b s.ch])::(50,cK p (lz bV kV nV) (lz bF kF nF) d a [])::((if bV=true then [(1045000,en s.V)] else [])++(if bF=true then [(1045001,en s.F)] else [])),H0⟩
theorem Hh(V:List Level):((V.map aI).all fun e=>e.nc==2)=true:=amB aI _ (fun _=>rfl) V
theorem pins(p:Program)(V F:List Level):∃ st,run G Ω0 E0 (.rg [.o0 3 0 1045000 2,.o0 3 1 1045001 2] [gp 47 (.ld (some 8) (.t 1)),gp 48 (.ld (some 2) (.t 3)),gp 49 (.bd [(.i .i64 0),(.l 166 []),(.l 3 []),(.l 81 []),(.l 81 []),(.l 83 []),(.l 101 []),(.l 92 []),(.l 45 []),(.l 45 []),.nf,(.i .i64 0)] [(0,8,(.t 47)),(8,2,(.t 48))]),gp 50 (.bx (.t 49)),gp 7 (.al [.z]),⟨none,.st 1 (.t 7) (.t 50),none,false⟩] [1,2,3,7,50] [1,2,3,7,50,1045000,1045001])
  ⟨[(1,.p ⟨0,1⟩ 0),(2,.p ⟨0,2⟩ 0),(3,.p ⟨0,3⟩ 0)],[(1,av p),(2,nO),(3,[.o 45 (V.map aI),.o 45 (F.map aI)])],H0⟩=some (.nrm,st)∧
  run G Ω0 E0 (.rg [] [gp 8 (.al [(.b false)]),⟨none,.st 1 (.t 8) (.c (.b true)),none,false⟩] [1,2,3,7,8,50] [1,2,3,7,8,50,1045000,1045001]) st=some (.nrm,ew p (!V.isEmpty) (!F.isEmpty) V.length F.length ⟨V,F,true⟩ .nf 0):=by
 have h1:=B9 V
 have h2:=B9 F
 have h3:=Hh V
 have h4:=Hh F
 simp only [yk] at h3 h4
 by_cases hV:V=[]
 ·subst hV
  by_cases hF:F=[]
  ·subst hF
   apply Exists.intro
   apply And.intro
   ·simp
    rfl
   simp [ew]
  ·have M:F.isEmpty=false:=by simp [hF]
   apply Exists.intro
   apply And.intro
   ·simp [hF,h2,zJ,aI]
    rfl
   simp [ew,M]
 ·have O:V.isEmpty=false:=by simp [hV]
  by_cases hF:F=[]
  ·subst hF
   apply Exists.intro
   apply And.intro
   ·simp [hV,h1,zJ,aI]
    rfl
   simp [ew,O]
  ·have M:F.isEmpty=false:=by simp [hF]
   apply Exists.intro
   apply And.intro
   ·simp [hV,hF,h1,h2,zJ,aI]
    rfl
   simp [ew,O,M]
structure fX(bV bF:Bool)(nV nF:Nat)(s:bX):Prop where
 v1:bV=true→s.V.length=nV∧0<nV
 v0:bV=false→s.V=[]
 f1:bF=true→s.F.length=nF∧0<nF
 f0:bF=false→s.F=[]
theorem Hi{k':Key}{n:Nat}(h:Gi H k (.sp k' 0 n 2) ls):ls.length=n∧H k=some (en ls):=by
 rcases h with ⟨h,_⟩ | ⟨h,h2⟩
 ·cases h
 ·injection h with _ _ h _;exact ⟨h.symm,h2⟩
theorem Hj(h:Gi H k (.l 45 []) ls):ls=[]:=by
 rcases h with ⟨_,h⟩ | ⟨h,_⟩
 ·exact h
 ·cases h
theorem Ti(p:Program)(bV bF:Bool)(nV nF:Nat)(s s':bX)(d:AV)(a a':Nat)(g:s.ch=true)(hI:fX bV bF nV nF s)(hs:A5 p bX.V bX.F (tE p) ⟨s.V,s.F,false⟩=some (a',s'))(hd:d= .nf∨d= .u) :
  fX bV bF nV nF s'∧∃ st,run G Ω0 E0 Jr (ew p bV bF nV nF s d a)=some (.nrm,st)∧st.aG [1,2,3,7,8,50] [1,2,3,7,8,50,1045000,1045001]=ew p bV bF nV nF s' .u a':=by
 have low:aO 1 (fun k=>(ew p bV bF nV nF ⟨s.V,s.F,false⟩ (.f 97 tF) a).box 0 k):=fun k hk=>by
  show (if k.dp=0 then _ else none)=none
  rw [aa (by omega)]
 cases bV with
 | true=>
  cases bF with
  | true=>
   obtain ⟨H',c1,r,c3,c4⟩:=DA (N7 p (.sp kV 0 nV 2) (.sp kF 0 nF 2)) (dp:=1) (a:=a) (H:=fun k=>(ew p true true nV nF ⟨s.V,s.F,false⟩ (.f 97 tF) a).box 0 k) (by decide) low ⟨rfl,rfl,rfl,rfl,rfl,rfl,.inr ⟨by rw [(hI.v1 rfl).1],rfl⟩,.inr ⟨by rw [(hI.f1 rfl).1],rfl⟩⟩ hs
   have g1:=r.h1
   have g2:=r.h2
   have g3:=r.h3
   have g7:=r.h7
   have g8:=r.h8
   have g50:=r.hw
   have gV:=Hi r.hx
   have gF:=Hi r.hy
   refine ⟨⟨fun _=>⟨gV.1,(hI.v1 rfl).2⟩,fun h=>(by cases h),fun _=>⟨gF.1,(hI.f1 rfl).2⟩,fun h=>(by cases h)⟩,?_⟩
   simp [ew] at c1
   apply Exists.intro
   apply And.intro
   ·apply aj
    ·apply aj (by simp [ew];rfl)
     apply bT (by simp [g])
     exact bh _ _
    apply di
    apply aj
    ·apply dI
     apply aj (by simp;rfl)
     apply aj (by simp;rfl)
     simp [bC,AV.cL,c1,St.back,bY,g1,g2,g3,g7,g8,g50,gV.2,gF.2]
     rfl
    apply aj (by simp;rfl)
    simp
    rfl
   ·simp [ew]
  | false=>
   obtain ⟨H',c1,r,c3,c4⟩:=DA (N7 p (.sp kV 0 nV 2) (.l 45 [])) (dp:=1) (a:=a) (H:=fun k=>(ew p true false nV nF ⟨s.V,s.F,false⟩ (.f 97 tF) a).box 0 k) (by decide) low ⟨rfl,rfl,rfl,rfl,rfl,rfl,.inr ⟨by rw [(hI.v1 rfl).1],rfl⟩,.inl ⟨rfl,hI.f0 rfl⟩⟩ hs
   have g1:=r.h1
   have g2:=r.h2
   have g3:=r.h3
   have g7:=r.h7
   have g8:=r.h8
   have g50:=r.hw
   have gV:=Hi r.hx
   have gF:=Hj r.hy
   refine ⟨⟨fun _=>⟨gV.1,(hI.v1 rfl).2⟩,fun h=>(by cases h),fun h=>(by cases h),fun _=>gF⟩,?_⟩
   simp [ew] at c1
   apply Exists.intro
   apply And.intro
   ·apply aj
    ·apply aj (by simp [ew];rfl)
     apply bT (by simp [g])
     exact bh _ _
    apply di
    apply aj
    ·apply dI
     apply aj (by simp;rfl)
     apply aj (by simp;rfl)
     simp [bC,AV.cL,c1,St.back,bY,g1,g2,g3,g7,g8,g50,gV.2]
     rfl
    apply aj (by simp;rfl)
    simp
    rfl
   ·simp [ew]
 | false=>
  cases bF with
  | true=>
   obtain ⟨H',c1,r,c3,c4⟩:=DA (N7 p (.l 45 []) (.sp kF 0 nF 2)) (dp:=1) (a:=a) (H:=fun k=>(ew p false true nV nF ⟨s.V,s.F,false⟩ (.f 97 tF) a).box 0 k) (by decide) low ⟨rfl,rfl,rfl,rfl,rfl,rfl,.inl ⟨rfl,hI.v0 rfl⟩,.inr ⟨by rw [(hI.f1 rfl).1],rfl⟩⟩ hs
   have g1:=r.h1
   have g2:=r.h2
   have g3:=r.h3
   have g7:=r.h7
   have g8:=r.h8
   have g50:=r.hw
   have gV:=Hj r.hx
   have gF:=Hi r.hy
   refine ⟨⟨fun h=>(by cases h),fun _=>gV,fun _=>⟨gF.1,(hI.f1 rfl).2⟩,fun h=>(by cases h)⟩,?_⟩
   simp [ew] at c1
   apply Exists.intro
   apply And.intro
   ·apply aj
    ·apply aj (by simp [ew];rfl)
     apply bT (by simp [g])
     exact bh _ _
    apply di
    apply aj
    ·apply dI
     apply aj (by simp;rfl)
     apply aj (by simp;rfl)
     simp [bC,AV.cL,c1,St.back,bY,g1,g2,g3,g7,g8,g50,gF.2]
     rfl
    apply aj (by simp;rfl)
    simp
    rfl
   ·simp [ew]
  | false=>
   obtain ⟨H',c1,r,c3,c4⟩:=DA (N7 p (.l 45 []) (.l 45 [])) (dp:=1) (a:=a) (H:=fun k=>(ew p false false nV nF ⟨s.V,s.F,false⟩ (.f 97 tF) a).box 0 k) (by decide) low ⟨rfl,rfl,rfl,rfl,rfl,rfl,.inl ⟨rfl,hI.v0 rfl⟩,.inl ⟨rfl,hI.f0 rfl⟩⟩ hs
   have g1:=r.h1
   have g2:=r.h2
   have g3:=r.h3
   have g7:=r.h7
   have g8:=r.h8
   have g50:=r.hw
   have gV:=Hj r.hx
   have gF:=Hj r.hy
   refine ⟨⟨fun h=>(by cases h),fun _=>gV,fun h=>(by cases h),fun _=>gF⟩,?_⟩
   simp [ew] at c1
   apply Exists.intro
   apply And.intro
   ·apply aj
    ·apply aj (by simp [ew];rfl)
     apply bT (by simp [g])
     exact bh _ _
    apply di
    apply aj
    ·apply dI
     apply aj (by simp;rfl)
     apply aj (by simp;rfl)
     simp [bC,AV.cL,c1,St.back,bY,g1,g2,g3,g7,g8,g50]
     rfl
    apply aj (by simp;rfl)
    simp
    rfl
   ·simp [ew]
theorem WN(p:Program)(bV bF:Bool)(nV nF:Nat)(s:bX)(d:AV)(a:Nat)(g:s.ch=false)(hI:fX bV bF nV nF s):∃ st,run G Ω0 E0 Jr (ew p bV bF nV nF s d a)=some (.ex 4,st)∧
  run G Ω0 E0 (.rg [.unp 3 0,.unp 3 1] [gp 59 (.ld (some 2) (.t 3)),⟨none,.st 2 (.t 2) (.t 59),none,false⟩] [2] [2]) st=some (.nrm,⟨[(2,.p ⟨0,2⟩ 0)],[(2,[.l 45 (s.V.map aI),.l 45 (s.F.map aI)])],H0⟩):=by
 have c1:=oI s.V
 have c2:=oI s.F
 have p1:=vN s.V
 have p2:=vN s.F
 have l1:=pQ s.V
 have l2:=pQ s.F
 cases bV with
 | true=>
  have hV:=(hI.v1 rfl).1
  rw [hV] at c1 l1
  cases bF with
  | true=>
   have hF:=(hI.f1 rfl).1
   rw [hF] at c2 l2
   apply Exists.intro
   apply And.intro
   ·apply iu
    apply aj (by simp [ew];rfl)
    apply ba (by simp [g])
    exact dR _ _ _
   simp [p1,p2,l1,l2,c1,c2,ub,lz,mV]
  | false=>
   have hF:=hI.f0 rfl
   apply Exists.intro
   apply And.intro
   ·apply iu
    apply aj (by simp [ew];rfl)
    apply ba (by simp [g])
    exact dR _ _ _
   simp [p1,l1,c1,hF,ub,lz,mV]
 | false=>
  have hV:=hI.v0 rfl
  cases bF with
  | true=>
   have hF:=(hI.f1 rfl).1
   rw [hF] at c2 l2
   apply Exists.intro
   apply And.intro
   ·apply iu
    apply aj (by simp [ew];rfl)
    apply ba (by simp [g])
    exact dR _ _ _
   simp [p2,l2,c2,hV,ub,lz,mV]
  | false=>
   have hF:=hI.f0 rfl
   apply Exists.intro
   apply And.intro
   ·apply iu
    apply aj (by simp [ew];rfl)
    apply ba (by simp [g])
    exact dR _ _ _
   simp [hV,hF,lz]
theorem MQ(p:Program)(bV bF:Bool)(nV nF:Nat):∀ (n:Nat)(s s':bX)(d:AV)(a:Nat),fX bV bF nV nF s→(d= .nf∨d= .u)→ry (Er p) n s=some s'→
  ∃ st,fH G Ω0 E0 XY (ew p bV bF nV nF s d a)=some (.ex 4,st)∧
   run G Ω0 E0 (.rg [.unp 3 0,.unp 3 1] [gp 59 (.ld (some 2) (.t 3)),⟨none,.st 2 (.t 2) (.t 59),none,false⟩] [2] [2]) st=some (.nrm,⟨[(2,.p ⟨0,2⟩ 0)],[(2,[.l 45 (s'.V.map aI),.l 45 (s'.F.map aI)])],H0⟩)
 | 0,s,s',d,a,hI,hd,h=>by cases h
 | n+1,s,s',d,a,hI,hd,h=>by
  have m:(ew p bV bF nV nF s d a).aG [1,2,3,7,8,50] [1,2,3,7,8,50,1045000,1045001]=ew p bV bF nV nF s d a:=by
   cases bV<;>cases bF<;>rfl
  rw [ry] at h
  cases g:s.ch with
  | true=>
   have hB:Er p s=(A5 p bX.V bX.F (tE p) ⟨s.V,s.F,false⟩).bind fun r=>some (.inl r.2):=by unfold Er;rw [ab g]
   rw [hB] at h
   cases hg:A5 p bX.V bX.F (tE p) ⟨s.V,s.F,false⟩ with
   | none=>rw [hg] at h;cases h
   | some r=>
    obtain ⟨a',s1⟩:=r
    rw [hg] at h
    obtain ⟨Y,st,r1,r2⟩:=Ti p bV bF nV nF s s1 d a a' g hI hg hd
    obtain ⟨st2,q1,q2⟩:=MQ p bV bF nV nF n s1 s' .u a' Y (.inr rfl) h
    refine ⟨st2,?_,q2⟩
    rw [dz]
    exact q1
    show (run G Ω0 _ Jr ((ew p bV bF nV nF s d a).aG [1,2,3,7,8,50] [1,2,3,7,8,50,1045000,1045001])).bind _=_
    rw [m,r1]
    exact an some r2
  | false=>
   have hB:Er p s=some (.inr s):=by unfold Er;rw [aa (by simp [g])]
   rw [hB] at h
   obtain rfl:=af h
   obtain ⟨st,r1,r2⟩:=WN p bV bF nV nF s d a g hI
   refine ⟨st,dD ?_ (by simp),r2⟩
   show run G Ω0 _ Jr ((ew p bV bF nV nF s d a).aG [1,2,3,7,8,50] [1,2,3,7,8,50,1045000,1045001])=_
   rw [m,r1]
abbrev QP(a0:Program)(r:eD):Prop:=call G Ω0 E0 37 [.a (av a0)] H0=some (.ret (.a [.l 45 (r.Vars.map aI),.l 45 (r.Funcs.map aI)]),H0)
theorem LP(a0:Program)(r:eD)(h:mA a0=some r):QP a0 r:=by
 unfold mA at h
 split at h
 ·rename_i hl
  obtain ⟨V,hV,h⟩:=ah.1 h
  obtain ⟨F,hF,h⟩:=ah.1 h
  obtain ⟨s,hs,h⟩:=ah.1 h
  obtain rfl:=af h
  obtain ⟨n,hn⟩:=AF hs
  obtain ⟨z1,a1,a2⟩:=MP a0 hl.1 a0.Vars 0 [] V rfl rfl hV
  obtain ⟨z2,b1,b2⟩:=Kc a0 hl.2 V a0.Funcs 0 [] F rfl rfl hF
  obtain ⟨z3,c1,c2⟩:=pins a0 V F
  have hI:fX (!V.isEmpty) (!F.isEmpty) V.length F.length ⟨V,F,true⟩:=by
   refine ⟨fun h=>⟨rfl,?_⟩,fun h=>?_,fun h=>⟨rfl,?_⟩,fun h=>?_⟩
   ·cases V with
    | nil=>cases h
    | cons=>simp
   ·simpa using h
   ·cases F with
    | nil=>cases h
    | cons=>simp
   ·simpa using h
  obtain ⟨z4,d1,d2⟩:=MQ a0 _ _ _ _ n ⟨V,F,true⟩ s .nf 0 hI (.inl rfl) hn
  show call G Ω0 E0 37 _ _=_
  apply dS G37
  ·apply aj (by simp;rfl)
   apply aj (by simp;rfl)
   apply aj
   ·apply aj (by simp;rfl)
    apply lu
    rw [dL]
    exact a1
   show run G Ω0 _ (.kp _ _ X0) z1=_
   rw [jq,a2]
   apply aj
   ·apply aj (by simp;rfl)
    apply lu
    rw [dL]
    exact b1
   show run G Ω0 _ (.kp _ _ XZ) z2=_
   rw [jq,b2]
   apply aj c1
   apply aj
   ·apply aj c2
    apply lu
    rw [dL]
    show fH _ _ _ _ ((ew _ _ _ _ _ _ _ _).aG [1,2,3,7,8,50] [1,2,3,7,8,50,1045000,1045001])=_
    rw [show ∀ bV bF nV nF s d a,(ew a0 bV bF nV nF s d a).aG [1,2,3,7,8,50] [1,2,3,7,8,50,1045000,1045001]=ew a0 bV bF nV nF s d a from fun bV bF _ _ _ _ _=>by cases bV<;>cases bF<;>rfl]
    exact d1
   apply aj d2
   exact cQ _ _
  ·simp [c37]
  ·rfl
 ·cases h
end Go.Proofs.YtkkkkondjclcnaaGreat.A
