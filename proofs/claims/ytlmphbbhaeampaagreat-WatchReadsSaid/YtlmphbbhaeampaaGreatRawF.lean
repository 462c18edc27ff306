/- infer.Raw as a plain function. -/
import Derived.Test.YtlmphbbhaeampaaGreatListF
set_option linter.all false
set_option maxRecDepth 100000
set_option maxHeartbeats 16000000
namespace Go.Proofs.YtlmphbbhaeampaaGreat.A
open Go
variable [Lp]
attribute [local simp] gp execOp okB gZ gj lM yg lL jF jK St.end_ St.mN List.filter
structure dP where
 V:List Level
 F:List Level
 ch:Bool
noncomputable def CQ(p:Program)(s:dP)(f:eJ):Option dP:=
 (cV f.To).bind fun j=>
  if f.Func=true then (s.F[j]?).bind fun t=>(gd f.Level t).bind fun b=>if b=true then some s else (dL t f.Level).bind fun u=>some ⟨s.V,s.F.set j u,true⟩
  else (p.Vars[j]?).bind fun v=>if v.Known=true then some s else (s.V[j]?).bind fun t=>(gd f.Level t).bind fun b=>if b=true then some s else (dL t f.Level).bind fun u=>some ⟨s.V.set j u,s.F,true⟩
noncomputable def BO(p:Program):List eJ→dP→Option dP
 | [],s=>some s
 | f::r,s=>(CQ p s f).bind fun t=>BO p r t
noncomputable def sH(p:Program)(a:Nat)(st:Stmt)(pl:Level)(s:dP):Option dP:=(vE p s.V st pl).bind fun l=>if l.length≤2000 then BO p l s else none
def Ex(H:HP)(k:Key)(x:AV)(ls:List Level):Prop:=(x= .l 113 []∧ls=[])∨(x= .sp k 0 ls.length 2∧H k=some (fe ls))
variable {H:HP}{k:Key}{x:AV}{ls:List Level}
theorem Ex.rd(h:Ex H k x ls)(hk:k=kV∨k=kF):BN H x ls:=by
 rcases h with ⟨rfl,rfl⟩ | ⟨rfl,h⟩
 ·exact .l _ []
 ·exact .sp k ls h hk
variable {H':HP}
theorem Ex.ext(h:Ex H k x ls)(e:H' k=H k):Ex H' k x ls:=h.imp id fun h=>⟨h.1,by rw [e];exact h.2⟩
abbrev rQ:List AV:=[.p ⟨0,7⟩ 0,.p ⟨0,3⟩ 0,.p ⟨0,1⟩ 0,.p ⟨0,8⟩ 0]
structure ss(p:Program)(x y:AV)(a:Nat)(s:dP)(H:HP):Prop where
 h1:H ⟨0,1⟩=some (aD p)
 h2:H ⟨0,2⟩=some [.l 113 [],.l 113 []]
 h3:H ⟨0,3⟩=some [x,y]
 h7:H ⟨0,7⟩=some [.p ⟨0,50⟩ 0]
 h8:H ⟨0,8⟩=some [.b s.ch]
 hw:H ⟨0,50⟩=some (og p x y (.f 172 rQ) a [])
 hx:Ex H kV x s.V
 hy:Ex H kF y s.F
theorem Nf{u:Level} : ∀ {ls:List Level}{j:Nat},j<ls.length→List.take (j*2) (fe ls)++(bG u++List.drop (j*2+2) (fe ls))=fe (ls.set j u)
 | [],j,h=>by simp at h
 | l::r,0,h=>rfl
 | l::r,j+1,h=>by
  have h2:=Nf (u:=u) (ls:=r) (j:=j) (by simpa using h)
  rw [show (j+1)*2=j*2+2 by omega]
  show .l _ _::.l _ _::(_++_)= .l _ _::.l _ _::fe (r.set j u)
  rw [←h2]
  rfl
abbrev Ll(f:eJ):List AV:=[(.l 4 (f.Level.Readers.map AV.b)),(.l 4 (f.Level.Writers.map AV.b)),(I f.To),(.b f.Func)]
def qa(fs:List eJ)(k:Nat)(H:HP):St:=⟨[(4,.p ⟨0,3⟩ 0),(5,.p ⟨0,1⟩ 0),(6,.p ⟨0,8⟩ 0),(16,.l 235 (fs.map e9)),(17,I fs.length),(18,I k)],[],H⟩
def qt(dp:Nat)(fs:List eJ)(k:Nat)(f:eJ)(w:AV)(H:HP):St:=⟨[(4,.p ⟨0,3⟩ 0),(5,.p ⟨0,1⟩ 0),(6,.p ⟨0,8⟩ 0),(11,.p ⟨dp,11⟩ 0),(12,w),(16,.l 235 (fs.map e9)),(17,I fs.length),(18,I k)],[(11,Ll f)],H⟩
theorem Pp(dp:Nat)(hd:0<dp)(H:HP)(fs:List eJ)(k:Nat)(f:eJ)(kk:Key)(hk:kk=kV∨kk=kF)(c:Bool)(h8:H ⟨0,8⟩=some [.b c])(ls:List Level)(hH:H kk=some (fe ls))(j:Nat)(hj:f.To=j)(t:Level)(ht:ls[j]? =some t)(b:Bool)(hb:gd f.Level t=some b)(u:Level)
  (hu:b=false→dL t f.Level=some u) :
  run G Ω0 ⟨dp,false⟩ Rf (qt dp fs k f (.sp kk 0 ls.length 2) H)=some (.nrm,if b=true then ⟨[(4,.p ⟨0,3⟩ 0),(5,.p ⟨0,1⟩ 0),(6,.p ⟨0,8⟩ 0),(11,.p ⟨dp,11⟩ 0),(12,.sp kk 0 ls.length 2),(16,.l 235 (fs.map e9)),(17,I fs.length),(18,I k),(44,.b false)],[(11,Ll f)],H⟩ else qa fs k (aq (aq H kk (fe (ls.set j u))) ⟨0,8⟩ [.b true])):=by
 have ek:kk.dp=0:=by rcases hk with rfl | rfl<;>rfl
 have ad:kk≠⟨0,8⟩:=by rcases hk with rfl | rfl<;>decide
 have e0:¬kk.dp=dp:=by omega
 have e1:¬0=dp:=by omega
 have e2:∀ d,¬kk=⟨dp,d⟩:=fun d=>aM (by omega)
 obtain ⟨f1,f2⟩:=Eu ht
 have f3:j<ls.length:=(j8.1 ht).1
 have f4:=Nf (u:=u) f3
 have hA:=mi (E:=⟨dp,false⟩) (mD f.Level t b hb) (by simp) (by simp)
 apply pW
 apply aN
 ·apply Cq 4
  ·rfl
  ·simp [qt]
  ·simp [qt,e2]
   rfl
  ·simp [-dj,e0,e1,e2,hj,hH,f1,f2,f3,hA]
   rfl
  ·simp
   rfl
 cases b with
 | true=>
  apply gv (by simp)
  exact eo _ _
 | false=>
  apply jH (by simp)
  have hB:=mi (E:=⟨dp,false⟩) (ie t f.Level u (hu rfl)) (by simp) (by simp)
  have hh:(aq H kk (fe (ls.set j u))) ⟨0,8⟩=some [.b c]:=by rw [om (cC ad)];exact h8
  refine aN (st1:=qa fs k (aq H kk (fe (ls.set j u)))) ?_ ?_
  ·apply Cq 6
   ·rfl
   ·simp
   ·simp [e2,hj]
    rfl
   ·simp [-dj,e0,e1,e2,hj,hH,f1,f2,f3,hB]
    rfl
   ·simp [qa,←f4]
  simp [qa,e1,hh]
theorem VA{E:Env}{kf kb:List Nat}{x:AC}{st st':St}(h:st.bB kf kb=st'.bB kf kb):run G Ω0 E (.kp kf kb x) st=run G Ω0 E (.kp kf kb x) st':=by rw [kC,h,kC]
theorem Kw(h:Ex H k x ls):x= .l 113 []∨x= .sp k 0 ls.length 2:=h.imp (·.1) (·.1)
theorem Pq{j:Nat}{t:Level}(h:Ex H k x ls)(ht:ls[j]? =some t):x= .sp k 0 ls.length 2∧H k=some (fe ls):=by
 rcases h with ⟨_,rfl⟩ | h
 ·simp at ht
 ·exact h
theorem SQ(p:Program)(x y:AV)(a:Nat)(s s':dP)(dp:Nat)(hd:0<dp)(H:HP)(hz:aT dp H)(r:ss p x y a s H)(fs:List eJ)(hl:fs.length≤2000)(k:Nat)(f:eJ)(hg:fs[k]? =some f)(hs:CQ p s f=some s') :
  ∃ H',run G Ω0 ⟨dp,false⟩ G9 (qa fs k H)=some (.nrm,qa fs (k+1) H')∧ss p x y a s' H'∧aT dp H'∧∀ k:Key,k.dp≠0→H' k=H k:=by
 have N:k<fs.length:=(j8.1 hg).1
 have hk:((k:Int)<(fs.length:Int)):=by omega
 have C:=yx k (by omega)
 have e1:¬0=dp:=by omega
 obtain ⟨j,hj,hs⟩:=aj.1 hs
 have hj:=rr hj
 have r3:=r.h3
 have r1:=r.h1
 have K:run G Ω0 ⟨dp,false⟩ (.rg [] [gp 22 (.fa 1 (.t 4)),gp 23 (.ld none (.t 22)),gp 12 (.as (.t 23))] [4,5,6,11,12,16,17,18] [4,5,6,11]) ⟨[(4,.p ⟨0,3⟩ 0),(5,.p ⟨0,1⟩ 0),(6,.p ⟨0,8⟩ 0),(11,.p ⟨dp,11⟩ 0),(16,.l 235 (fs.map e9)),(17,I fs.length),(18,I k)],[(11,Ll f)],H⟩=some (.nrm,qt dp fs k f y H):=by
  have hy:=r.hy
  clear r
  rcases Kw hy with rfl | rfl<;>simp [e1,r3,qt]
 have P:run G Ω0 ⟨dp,false⟩ (.rg [] [gp 27 (.fa 0 (.t 4)),gp 28 (.ld none (.t 27)),gp 12 (.as (.t 28))] [4,5,6,11,12,16,17,18] [4,5,6,11]) ⟨[(4,.p ⟨0,3⟩ 0),(5,.p ⟨0,1⟩ 0),(6,.p ⟨0,8⟩ 0),(11,.p ⟨dp,11⟩ 0),(12,y),(16,.l 235 (fs.map e9)),(17,I fs.length),(18,I k),(26,.b (!f.Func))],[(11,Ll f)],H⟩=some (.nrm,qt dp fs k f x H):=by
  have hx:=r.hx
  clear r K
  rcases Kw hx with rfl | rfl<;>simp [e1,r3,qt]
 have fin:∀ (st:St)(H':HP),st.bB [4,5,6,16,17,18] [4,5,6]=qa fs k H'→run G Ω0 ⟨dp,false⟩ (.rg [] [gp 57 (.bo .add false (.t 18) (.c (.i .i64 1))),gp 18 (.mv (.t 57))] [4,5,6,16,17,18] [4,5,6]) st=some (.nrm,qa fs (k+1) H'):=by
  intro st H' h
  have h4:az st.fr 4= .p ⟨0,3⟩ 0:=av (fun z=>az z.fr 4) h
  have h5:az st.fr 5= .p ⟨0,1⟩ 0:=av (fun z=>az z.fr 5) h
  have h6:az st.fr 6= .p ⟨0,8⟩ 0:=av (fun z=>az z.fr 6) h
  have ac:az st.fr 16= .l 235 (fs.map e9):=av (fun z=>az z.fr 16) h
  have aa:az st.fr 17=I fs.length:=av (fun z=>az z.fr 17) h
  have Z:az st.fr 18=I k:=av (fun z=>az z.fr 18) h
  have hb:dF st.bx [4,5,6]=[]:=av St.bx h
  have hh:st.hp=H':=av St.hp h
  simp [h4,h5,h6,ac,aa,Z,C,qa,hh,-dF,hb]
 by_cases hf:f.Func=true
 ·rw [af hf] at hs
  obtain ⟨t,ht,hs⟩:=aj.1 hs
  obtain ⟨b,hb,hs⟩:=aj.1 hs
  obtain ⟨S,R⟩:=Pq r.hy ht
  have hu:∃ u,(b=false→dL t f.Level=some u)∧s'=if b=true then s else ⟨s.V,s.F.set j u,true⟩:=by
   cases b with
   | true=>exact ⟨t,fun h=>(by cases h),(ah hs).symm⟩
   | false=>
    obtain ⟨u,hu,hs⟩:=aj.1 hs
    exact ⟨u,fun _=>hu,(ah hs).symm⟩
  obtain ⟨u,hu,rfl⟩:=hu
  subst S
  have ae:kF≠kV:=by decide
  refine ⟨if b=true then H else aq (aq H kF (fe (s.F.set j u))) ⟨0,8⟩ [.b true],?_,?_⟩
  ·apply aN (by simp [qa,hk];rfl)
   apply aN
   ·apply jH (by simp [hk])
    exact eo _ _
   apply pW
   apply aN
   ·apply tU
    apply aN (by simp [hg,e9];rfl)
    apply aN K
    apply aN
    ·apply aN (by simp [qt];rfl)
     apply gv (by simp [hf])
     exact eo _ _
    refine Eq.trans (VA (st':=qt dp fs k f (.sp kF 0 s.F.length 2) H) ?_) (Pp dp hd H fs k f kF (.inr rfl) s.ch r.h8 s.F R j hj t ht b hb u hu)
    rfl
   exact fin _ _ (by cases b<;>rfl)
  ·cases b with
   | true=>exact ⟨r,hz,fun _ _=>rfl⟩
   | false=>
    refine ⟨⟨r.h1,r.h2,r.h3,r.h7,rfl,r.hw,r.hx.ext rfl,.inr ⟨?_,rfl⟩⟩,ak hd (ak hd hz),fun q hq=>?_⟩
    ·show AV.sp kF 0 s.F.length 2=AV.sp kF 0 (s.F.set j u).length 2
     rw [pc]
    ·simp only [dq,cF]
     rw [om (fun e=>hq (by rw [e])),om (fun e=>hq (by rw [e]))]
 ·rw [ab hf] at hs
  obtain ⟨v,hv,hs⟩:=aj.1 hs
  by_cases D:v.Known=true
  ·rw [af D] at hs
   obtain rfl:=ah hs
   refine ⟨H,?_,r,hz,fun _ _=>rfl⟩
   apply aN (by simp [qa,hk];rfl)
   apply aN
   ·apply jH (by simp [hk])
    exact eo _ _
   apply pW
   apply aN
   ·apply Cp
    apply aN (by simp [hg,e9];rfl)
    apply aN K
    apply tT
    apply aN (by simp [qt];rfl)
    apply jH (by simp [hf])
    apply aN P
    apply aN (by simp [qt,e1,r1,hj,hv,dA];rfl)
    apply jH (by simp [D])
    exact mw _ _ _
   exact fin _ _ rfl
  ·rw [ab D] at hs
   obtain ⟨t,ht,hs⟩:=aj.1 hs
   obtain ⟨b,hb,hs⟩:=aj.1 hs
   obtain ⟨U,T⟩:=Pq r.hx ht
   have hu:∃ u,(b=false→dL t f.Level=some u)∧s'=if b=true then s else ⟨s.V.set j u,s.F,true⟩:=by
    cases b with
    | true=>exact ⟨t,fun h=>(by cases h),(ah hs).symm⟩
    | false=>
     obtain ⟨u,hu,hs⟩:=aj.1 hs
     exact ⟨u,fun _=>hu,(ah hs).symm⟩
   obtain ⟨u,hu,rfl⟩:=hu
   subst U
   refine ⟨if b=true then H else aq (aq H kV (fe (s.V.set j u))) ⟨0,8⟩ [.b true],?_,?_⟩
   ·apply aN (by simp [qa,hk];rfl)
    apply aN
    ·apply jH (by simp [hk])
     exact eo _ _
    apply pW
    apply aN
    ·apply tU
     apply aN (by simp [hg,e9];rfl)
     apply aN K
     apply aN
     ·apply aN (by simp [qt];rfl)
      apply jH (by simp [hf])
      apply aN P
      apply aN (by simp [qt,e1,r1,hj,hv,dA];rfl)
      apply gv (by simp [D])
      exact eo _ _
     refine Eq.trans (VA (st':=qt dp fs k f (.sp kV 0 s.V.length 2) H) ?_) (Pp dp hd H fs k f kV (.inl rfl) s.ch r.h8 s.V T j hj t ht b hb u hu)
     rfl
    exact fin _ _ (by cases b<;>rfl)
   ·cases b with
    | true=>exact ⟨r,hz,fun _ _=>rfl⟩
    | false=>
     refine ⟨⟨r.h1,r.h2,r.h3,r.h7,rfl,r.hw,.inr ⟨?_,rfl⟩,r.hy.ext rfl⟩,ak hd (ak hd hz),fun q hq=>?_⟩
     ·show AV.sp kV 0 s.V.length 2=AV.sp kV 0 (s.V.set j u).length 2
      rw [pc]
     ·simp only [dq,cF]
      rw [om (fun e=>hq (by rw [e])),om (fun e=>hq (by rw [e]))]
theorem Ii(p:Program)(x y:AV)(a:Nat)(s':dP)(dp:Nat)(hd:0<dp)(fs:List eJ)(hl:fs.length≤2000):∀ (rest:List eJ)(k:Nat)(s:dP)(H:HP),fs.drop k=rest→aT dp H→ss p x y a s H→BO p rest s=some s'→
  ∃ z,rW G Ω0 ⟨dp,false⟩ Rg (qa fs k H)=some (.ex 0,z)∧ss p x y a s' z.hp∧aT dp z.hp∧∀ k:Key,k.dp≠0→z.hp k=H k
 | [],k,s,H,B,hz,hr,hs=>by
  have hk:¬((k:Int)<(fs.length:Int)):=by
   have:=sR.1 B;omega
  obtain rfl:=ah hs
  have Q:∃ z,run G Ω0 ⟨dp,false⟩ G9 (qa fs k H)=some (.ex 0,z)∧z.hp=H:=by
   apply Exists.intro
   apply And.intro
   ·apply aN (by simp [qa,hk];rfl)
    apply tT
    apply gv (by simp [hk])
    exact mw _ _ _
   ·rfl
  obtain ⟨z,h1,rfl⟩:=Q
  exact ⟨z,nY h1 (by simp),hr,hz,fun _ _=>rfl⟩
 | f::rest,k,s,H,B,hz,hr,hs=>by
  obtain ⟨s1,h1,h2⟩:=aj.1 hs
  have hg:fs[k]? =some f:=by
   have:=av (fun l=>l[0]?) B
   simpa using this
  have X:fs.drop (k+1)=rest:=by
   have:=av List.tail B
   simpa using this
  obtain ⟨H1,r1,r2,r3,r4⟩:=SQ p x y a s s1 dp hd H hz hr fs hl k f hg h1
  obtain ⟨z,q1,q2,q3,q4⟩:=Ii p x y a s' dp hd fs hl rest (k+1) s1 H1 X r3 r2 h2
  refine ⟨z,?_,q2,q3,fun k hk=>(q4 k hk).trans (r4 k hk)⟩
  rw [nr]
  exact q1
  show (run G Ω0 _ G9 (qa fs k H)).bind _=_
  rw [r1];rfl
variable {a:Nat}{s:dP}
theorem ss.ext{p:Program}{y:AV}(r:ss p x y a s H)(h:∀ k:Key,k.dp=0→H' k=H k):ss p x y a s H':=
 ⟨(h _ rfl).trans r.h1,(h _ rfl).trans r.h2,(h _ rfl).trans r.h3,(h _ rfl).trans r.h7,(h _ rfl).trans r.h8,(h _ rfl).trans r.hw,r.hx.ext (h _ rfl),r.hy.ext (h _ rfl)⟩
theorem UC(p:Program)(x y:AV){st:Stmt}{pl:Level}{s':dP}{dp:Nat}(h:sH p a st pl s=some s')(hA:st.Args.length≤1000)(hd:0<dp)(hz:aT dp H)(r:ss p x y a s H):
  ∃ H',call G Ω0 ⟨dp,false⟩ 172 (I (a:Nat)::.a (ar st)::.a (bG pl)::rQ) H=some (.ret (.tp []),H')∧ss p x y a s' H'∧∀ k:Key,k.dp≠0→H' k=H k:=by
 obtain ⟨fs,h1,h2⟩:=aj.1 h
 split at h2
 ·rename_i hl
  have e1:¬0=dp:=by omega
  have r7:=r.h7
  have hc:=Qt (dp+1) (fun k=>if k.dp=dp then (if 8=k.d then some (ar st) else if 9=k.d then some (bG pl) else none) else H k) ⟨0,50⟩ (by show 0<dp+1;omega) p x y (.f 172 rQ) a [] s.V (by simp only [ab (show ¬(0:Nat)=dp by omega)];exact r.hw) ((r.ext fun q hq=>by simp only [ab (show ¬q.dp=dp by omega)]).hx.rd (.inl rfl)) st pl fs hA h1
  have hb:(fun k:Key=>if k.dp<dp then (if k.dp=dp then (if 8=k.d then some (ar st) else if 9=k.d then some (bG pl) else none) else H k) else none)=H:=by
   funext q
   by_cases hq:q.dp<dp
   ·rw [af hq,ab (by omega)]
   ·rw [ab hq,hz q hq]
  obtain ⟨z,z1,z2,z3,z4⟩:=Ii p x y a s' dp hd fs hl fs 0 s H rfl hz r h2
  refine ⟨z.hp,?_,z2,z4⟩
  apply Ml ahm
  ·apply aN (by simp [e1];rfl)
   refine aN (st1:=qa fs 0 H) ?_ ?_
   ·simp [qa,e1,r7,dz,AV.jJ,hc,St.back,fi,hb]
   apply Cp
   rw [mg]
   exact z1
  ·rfl
  ·rfl
 ·cases h2
theorem Lm(p:Program)(x y:AV):wO p dP.V dP.F (sH p) ⟨0,50⟩ x y 172 rQ (ss p x y) where
 kw0:=rfl
 jE:=rfl
 copy:=rfl
 copy':=rfl
 box r:=⟨[],r.hw⟩
 vx r:=r.hx.rd (.inl rfl)
 fy r:=r.hy.rd (.inr rfl)
 ext r h:=r.ext h
 bump r h h1 hw:=⟨(h _ (by decide) rfl).trans r.h1,(h _ (by decide) rfl).trans r.h2,(h _ (by decide) rfl).trans r.h3,(h _ (by decide) rfl).trans r.h7,(h _ (by decide) rfl).trans r.h8,hw.trans (by rw [r.hw] at h1;injection (ah h1) with _ e;injection e with _ e;injection e with _ e;injection e with _ e;injection e with _ e;injection e with _ e;injection e with _ e;injection e with _ e;injection e with _ e;injection e with _ e;injection e with _ e;injection e with _ e;rw [←e]),r.hx.ext (h _ (by decide) rfl),r.hy.ext (h _ (by decide) rfl)⟩
 call h hA hd hz r:=UC p x y h hA hd hz r
variable [Lp]
attribute [local simp] gp execOp okB gZ gj lM yg lL jF jK St.end_ St.mN List.filter
noncomputable def E9(p:Program):List Var→List Level→Option (List Level)
 | [],o=>some o
 | v::r,o=>(fk p.an).bind fun b=>(if v.Known=true then iB p.an v.Label else some b).bind fun x=>E9 p r (o++[x])
noncomputable def Fa(p:Program):List Func→List Level→Option (List Level)
 | [],o=>some o
 | _::r,o=>(fk p.an).bind fun b=>Fa p r (o++[b])
noncomputable def CS(p:Program)(s:dP):Option (dP⊕dP):=if s.ch=true then (Ev p dP.V dP.F (sH p) ⟨s.V,s.F,false⟩).bind fun r=>some (.inl r.2) else some (.inr s)
noncomputable def pR(p:Program):Option pD:=
 if p.Vars.length≤1000∧p.Funcs.length≤1000 then (E9 p p.Vars []).bind fun V=>(Fa p p.Funcs []).bind fun F=>(lp (CS p) ⟨V,F,true⟩).bind fun s=>some ⟨s.V,s.F⟩ else none
abbrev tB:List AV:=[.l 113 [],.l 113 []]
def Ao(p:Program)(k:Nat)(V:List Level):St:=⟨[(1,.p ⟨0,1⟩ 0),(2,.p ⟨0,2⟩ 0),(3,.p ⟨0,3⟩ 0),(10,.l 86 (p.Vars.map dA)),(11,I p.Vars.length),(12,I k)],[(1,aD p),(2,tB),(3,[.o 113 (V.map aF),.o 113 []])],H0⟩
theorem Qu(p:Program)(hl:p.Vars.length≤1000)(k:Nat)(V:List Level)(hV:V.length=k)(v:Var)(hg:p.Vars[k]? =some v)(b x:Level)(hb:fk p.an=some b)(hx:(if v.Known=true then iB p.an v.Label else some b)=some x) :
  run G Ω0 E0 G1 (Ao p k V)=some (.nrm,Ao p (k+1) (V++[x])):=by
 have N:k<p.Vars.length:=(j8.1 hg).1
 have hk:((k:Int)<(p.Vars.length:Int)):=by omega
 have C:=yx k (by omega)
 have hB:=mi (E:=E0) (jy p.an b hb) (by simp) (by simp)
 have hm:k+1≤maxLen:=di (show k+1≤1001 by omega) (by decide)
 have L:(k+1)*48≤140737488355328:=by omega
 apply aN (by simp [Ao,hk];rfl)
 apply aN
 ·apply jH (by simp [hk])
  exact eo _ _
 apply pW
 apply aN
 ·apply tU
  apply aN (by simp [hg,dA];rfl)
  apply aN (by simp [-dj,hB];rfl)
  have tail:∀ st:St,st.bB [1,2,3,6,10,11,12] [1,2,3,6,1113000,1113001]=⟨[(1,.p ⟨0,1⟩ 0),(2,.p ⟨0,2⟩ 0),(3,.p ⟨0,3⟩ 0),(6,.p ⟨0,6⟩ 0),(10,.l 86 (p.Vars.map dA)),(11,I p.Vars.length),(12,I k)],[(1,aD p),(2,tB),(3,[.o 113 (V.map aF),.o 113 []]),(6,bG x)],H0⟩→
    run G Ω0 E0 QR st=some (.nrm,⟨[(1,.p ⟨0,1⟩ 0),(2,.p ⟨0,2⟩ 0),(3,.p ⟨0,3⟩ 0),(10,.l 86 (p.Vars.map dA)),(11,I p.Vars.length),(12,I k)],[(1,aD p),(2,tB),(3,[.o 113 ((V++[x]).map aF),.o 113 []])],H0⟩):=by
   intro st W
   apply pW
   rw [W]
   simp [QQ,hV,hm,L,aF]
  cases J:v.Known with
  | true=>
   rw [af J] at hx
   have hA:=mi (E:=E0) (lz p.an v.Label x hx) (by simp) (by simp)
   apply aN
   ·apply aN (by simp;rfl)
    apply jH (by simp [J])
    simp [-dj,hA]
    rfl
   exact tail _ rfl
  | false=>
   rw [ab (by simp [J])] at hx
   obtain rfl:=ah hx
   apply aN
   ·apply aN (by simp;rfl)
    apply gv (by simp [J])
    exact eo _ _
   exact tail _ rfl
 simp [Ao,C]
theorem Kx(p:Program)(hl:p.Vars.length≤1000):∀ (rest:List Var)(k:Nat)(V V':List Level),p.Vars.drop k=rest→V.length=k→E9 p rest V=some V'→
  ∃ z,rW G Ω0 E0 QS (Ao p k V)=some (.ex 0,z)∧z.bB [1,2,3] [1,2,3,1113000,1113001]=⟨[(1,.p ⟨0,1⟩ 0),(2,.p ⟨0,2⟩ 0),(3,.p ⟨0,3⟩ 0)],[(1,aD p),(2,tB),(3,[.o 113 (V'.map aF),.o 113 []])],H0⟩
 | [],k,V,V',hd,hV,h=>by
  obtain rfl:=ah h
  have hk:¬((k:Int)<(p.Vars.length:Int)):=by
   have:=sR.1 hd;omega
  apply Exists.intro
  apply And.intro
  ·refine nY (r:=(.ex 0,?_)) ?_ (by simp)
   rotate_left
   ·show run G Ω0 _ G1 (Ao p k V)=_
    apply aN (by simp [Ao,hk];rfl)
    apply tT
    apply gv (by simp [hk])
    exact mw _ _ _
  ·simp
 | v::rest,k,V,V',hd,hV,h=>by
  obtain ⟨b,hb,h⟩:=aj.1 h
  obtain ⟨x,hx,h⟩:=aj.1 h
  have hg:p.Vars[k]? =some v:=by
   have:=av (fun l=>l[0]?) hd
   simpa using this
  have B:p.Vars.drop (k+1)=rest:=by
   have:=av List.tail hd
   simpa using this
  obtain ⟨z,h1,h2⟩:=Kx p hl rest (k+1) (V++[x]) V' B (by simp [hV]) h
  refine ⟨z,?_,h2⟩
  rw [nr]
  exact h1
  show (run G Ω0 _ G1 (Ao p k V)).bind _=_
  rw [Qu p hl k V hV v hg b x hb hx];rfl
def wP(p:Program)(k:Nat)(V F:List Level):St:=⟨[(1,.p ⟨0,1⟩ 0),(2,.p ⟨0,2⟩ 0),(3,.p ⟨0,3⟩ 0),(35,I p.Funcs.length),(36,I k)],[(1,aD p),(2,tB),(3,[.o 113 (V.map aF),.o 113 (F.map aF)])],H0⟩
theorem Ij(p:Program)(hl:p.Funcs.length≤1000)(V:List Level):∀ (rest:List Func)(k:Nat)(F F':List Level),p.Funcs.drop k=rest→F.length=k→Fa p rest F=some F'→
  ∃ z,rW G Ω0 E0 QT (wP p k V F)=some (.ex 2,z)∧z.bB [1,2,3] [1,2,3,1113000,1113001]=⟨[(1,.p ⟨0,1⟩ 0),(2,.p ⟨0,2⟩ 0),(3,.p ⟨0,3⟩ 0)],[(1,aD p),(2,tB),(3,[.o 113 (V.map aF),.o 113 (F'.map aF)])],H0⟩
 | [],k,F,F',hd,hF,h=>by
  obtain rfl:=ah h
  have hk:¬((k:Int)<(p.Funcs.length:Int)):=by
   have:=sR.1 hd;omega
  apply Exists.intro
  apply And.intro
  ·refine nY (r:=(.ex 2,?_)) ?_ (by simp)
   rotate_left
   ·show run G Ω0 _ G2 (wP p k V F)=_
    apply aN (by simp [wP,hk];rfl)
    apply tT
    apply gv (by simp [hk])
    exact mw _ _ _
  ·simp
 | f::rest,k,F,F',hd,hF,h=>by
  obtain ⟨b,hb,h⟩:=aj.1 h
  have N:k<p.Funcs.length:=by
   have h1:=av List.length hd
   simp only [zG,eM] at h1
   omega
  have B:p.Funcs.drop (k+1)=rest:=by
   have:=av List.tail hd
   simpa using this
  have hk:((k:Int)<(p.Funcs.length:Int)):=by omega
  have C:=yx k (by omega)
  have hB:=mi (E:=E0) (jy p.an b hb) (by simp) (by simp)
  have hm:k+1≤maxLen:=di (show k+1≤1001 by omega) (by decide)
  have L:(k+1)*48≤140737488355328:=by omega
  obtain ⟨z,h1,h2⟩:=Ij p hl V rest (k+1) (F++[b]) F' B (by simp [hF]) h
  refine ⟨z,?_,h2⟩
  rw [nr]
  exact h1
  show (run G Ω0 _ G2 (wP p k V F)).bind _=_
  have:run G Ω0 E0 G2 (wP p k V F)=some (.nrm,wP p (k+1) V (F++[b])):=by
   apply aN (by simp [wP,hk];rfl)
   apply aN
   ·apply jH (by simp [hk])
    exact eo _ _
   apply pW
   apply aN
   ·apply tU
    simp [-dj,hB,hF,hm,L]
    rfl
   simp [wP,C,aF]
  rw [this];rfl
@[simp] theorem UD (k:Key):∀ V:List Level,AV.iE k (fe V)=true
 | []=>rfl
 | l::r=>by
  have ih:=UD k r
  show AV.iE k (.l _ _::.l _ _::fe r)=true
  simp only [AV.iE,AV.cU,ih,gN]
@[simp] theorem SS (dp:Nat):∀ V:List Level,AV.fJ dp (fe V)=true
 | []=>rfl
 | l::r=>by
  have ih:=SS dp r
  show AV.fJ dp (.l _ _::.l _ _::fe r)=true
  simp only [AV.fJ,AV.deep,ih,gN]
theorem Ky(V:List Level):(V.map aF).flatMap AV.cl=fe V:=by
 rw [List.flatMap_map];rfl
abbrev Ey(b:Bool)(k:Key)(n:Nat):AV:=if b=true then .sp k 0 n 2 else .l 113 []
def dV(p:Program)(bV bF:Bool)(nV nF:Nat)(s:dP)(d:AV)(a:Nat):St:=
 ⟨[(1,.p ⟨0,1⟩ 0),(2,.p ⟨0,2⟩ 0),(3,.p ⟨0,3⟩ 0),(7,.p ⟨0,7⟩ 0),(8,.p ⟨0,8⟩ 0),(50,.p ⟨0,50⟩ 0)],(1,aD p)::(2,tB)::(3,[Ey bV kV nV,Ey bF kF nF])::(7,[.p ⟨0,50⟩ 0])::(8,[.b s.ch])::(50,og p (Ey bV kV nV) (Ey bF kF nF) d a [])::((if bV=true then [(1113000,fe s.V)] else [])++(if bF=true then [(1113001,fe s.F)] else [])),H0⟩
theorem Pr(V:List Level):((V.map aF).all fun e=>e.nc==2)=true:=ah2 aF _ (fun _=>rfl) V
theorem pins(p:Program)(V F:List Level):∃ st,run G Ω0 E0 (.rg [.sg 3 0 1113000 2,.sg 3 1 1113001 2] [gp 47 (.ld (some 8) (.t 1)),gp 48 (.ld (some 2) (.t 3)),gp 49 (.bd [(.i .i64 0),(.l 79 []),(.l 3 []),(.l 83 []),(.l 83 []),(.l 86 []),(.l 91 []),(.l 111 []),(.l 113 []),(.l 113 []),.nf,(.i .i64 0)] [(0,8,(.t 47)),(8,2,(.t 48))]),gp 50 (.bx (.t 49)),gp 7 (.al [.z]),⟨none,.st 1 (.t 7) (.t 50),none,false⟩] [1,2,3,7,50] [1,2,3,7,50,1113000,1113001])
  ⟨[(1,.p ⟨0,1⟩ 0),(2,.p ⟨0,2⟩ 0),(3,.p ⟨0,3⟩ 0)],[(1,aD p),(2,tB),(3,[.o 113 (V.map aF),.o 113 (F.map aF)])],H0⟩=some (.nrm,st)∧
  run G Ω0 E0 (.rg [] [gp 8 (.al [(.b false)]),⟨none,.st 1 (.t 8) (.c (.b true)),none,false⟩] [1,2,3,7,8,50] [1,2,3,7,8,50,1113000,1113001]) st=some (.nrm,dV p (!V.isEmpty) (!F.isEmpty) V.length F.length ⟨V,F,true⟩ .nf 0):=by
 have h1:=Ky V
 have h2:=Ky F
 have h3:=Pr V
 have h4:=Pr F
 simp only [List.all_map] at h3 h4
 by_cases hV:V=[]
 ·subst hV
  by_cases hF:F=[]
  ·subst hF
   apply Exists.intro
   apply And.intro
   ·simp
    rfl
   simp [dV]
  ·have M:F.isEmpty=false:=by simp [hF]
   apply Exists.intro
   apply And.intro
   ·simp [hF,h2,EL,aF]
    rfl
   simp [dV,M]
 ·have O:V.isEmpty=false:=by simp [hV]
  by_cases hF:F=[]
  ·subst hF
   apply Exists.intro
   apply And.intro
   ·simp [hV,h1,EL,aF]
    rfl
   simp [dV,O]
  ·have M:F.isEmpty=false:=by simp [hF]
   apply Exists.intro
   apply And.intro
   ·simp [hV,hF,h1,h2,EL,aF]
    rfl
   simp [dV,O,M]
structure BP(bV bF:Bool)(nV nF:Nat)(s:dP):Prop where
 v1:bV=true→s.V.length=nV∧0<nV
 v0:bV=false→s.V=[]
 f1:bF=true→s.F.length=nF∧0<nF
 f0:bF=false→s.F=[]
theorem Fb{k':Key}{n:Nat}(h:Ex H k (.sp k' 0 n 2) ls):ls.length=n∧H k=some (fe ls):=by
 rcases h with ⟨h,_⟩ | ⟨h,h2⟩
 ·cases h
 ·injection h with _ _ h _;exact ⟨h.symm,h2⟩
theorem Fc(h:Ex H k (.l 113 []) ls):ls=[]:=by
 rcases h with ⟨_,h⟩ | ⟨h,_⟩
 ·exact h
 ·cases h
theorem Qv(p:Program)(bV bF:Bool)(nV nF:Nat)(s s':dP)(d:AV)(a a':Nat)(g:s.ch=true)(hI:BP bV bF nV nF s)(hs:Ev p dP.V dP.F (sH p) ⟨s.V,s.F,false⟩=some (a',s'))(hd:d= .nf∨d= .u) :
  BP bV bF nV nF s'∧∃ st,run G Ω0 E0 DJ (dV p bV bF nV nF s d a)=some (.nrm,st)∧st.bB [1,2,3,7,8,50] [1,2,3,7,8,50,1113000,1113001]=dV p bV bF nV nF s' .u a':=by
 have low:aT 1 (fun k=>(dV p bV bF nV nF ⟨s.V,s.F,false⟩ (.f 172 rQ) a).box 0 k):=fun k hk=>by
  show (if k.dp=0 then _ else none)=none
  rw [ab (by omega)]
 cases bV with
 | true=>
  cases bF with
  | true=>
   obtain ⟨H',c1,r,c3,c4⟩:=E8 (Lm p (.sp kV 0 nV 2) (.sp kF 0 nF 2)) (dp:=1) (a:=a) (H:=fun k=>(dV p true true nV nF ⟨s.V,s.F,false⟩ (.f 172 rQ) a).box 0 k) (by decide) low ⟨rfl,rfl,rfl,rfl,rfl,rfl,.inr ⟨by rw [(hI.v1 rfl).1],rfl⟩,.inr ⟨by rw [(hI.f1 rfl).1],rfl⟩⟩ hs
   have g1:=r.h1
   have g2:=r.h2
   have g3:=r.h3
   have g7:=r.h7
   have g8:=r.h8
   have g50:=r.hw
   have gV:=Fb r.hx
   have gF:=Fb r.hy
   refine ⟨⟨fun _=>⟨gV.1,(hI.v1 rfl).2⟩,fun h=>(by cases h),fun _=>⟨gF.1,(hI.f1 rfl).2⟩,fun h=>(by cases h)⟩,?_⟩
   simp [dV] at c1
   apply Exists.intro
   apply And.intro
   ·apply aN
    ·apply aN (by simp [dV];rfl)
     apply jH (by simp [g])
     exact eo _ _
    apply pW
    apply aN
    ·apply tU
     apply aN (by simp;rfl)
     apply aN (by simp;rfl)
     simp [dz,AV.jJ,c1,St.back,fi,g1,g2,g3,g7,g8,g50,gV.2,gF.2]
     rfl
    apply aN (by simp;rfl)
    simp
    rfl
   ·simp [dV]
  | false=>
   obtain ⟨H',c1,r,c3,c4⟩:=E8 (Lm p (.sp kV 0 nV 2) (.l 113 [])) (dp:=1) (a:=a) (H:=fun k=>(dV p true false nV nF ⟨s.V,s.F,false⟩ (.f 172 rQ) a).box 0 k) (by decide) low ⟨rfl,rfl,rfl,rfl,rfl,rfl,.inr ⟨by rw [(hI.v1 rfl).1],rfl⟩,.inl ⟨rfl,hI.f0 rfl⟩⟩ hs
   have g1:=r.h1
   have g2:=r.h2
   have g3:=r.h3
   have g7:=r.h7
   have g8:=r.h8
   have g50:=r.hw
   have gV:=Fb r.hx
   have gF:=Fc r.hy
   refine ⟨⟨fun _=>⟨gV.1,(hI.v1 rfl).2⟩,fun h=>(by cases h),fun h=>(by cases h),fun _=>gF⟩,?_⟩
   simp [dV] at c1
   apply Exists.intro
   apply And.intro
   ·apply aN
    ·apply aN (by simp [dV];rfl)
     apply jH (by simp [g])
     exact eo _ _
    apply pW
    apply aN
    ·apply tU
     apply aN (by simp;rfl)
     apply aN (by simp;rfl)
     simp [dz,AV.jJ,c1,St.back,fi,g1,g2,g3,g7,g8,g50,gV.2]
     rfl
    apply aN (by simp;rfl)
    simp
    rfl
   ·simp [dV]
 | false=>
  cases bF with
  | true=>
   obtain ⟨H',c1,r,c3,c4⟩:=E8 (Lm p (.l 113 []) (.sp kF 0 nF 2)) (dp:=1) (a:=a) (H:=fun k=>(dV p false true nV nF ⟨s.V,s.F,false⟩ (.f 172 rQ) a).box 0 k) (by decide) low ⟨rfl,rfl,rfl,rfl,rfl,rfl,.inl ⟨rfl,hI.v0 rfl⟩,.inr ⟨by rw [(hI.f1 rfl).1],rfl⟩⟩ hs
   have g1:=r.h1
   have g2:=r.h2
   have g3:=r.h3
   have g7:=r.h7
   have g8:=r.h8
   have g50:=r.hw
   have gV:=Fc r.hx
   have gF:=Fb r.hy
   refine ⟨⟨fun h=>(by cases h),fun _=>gV,fun _=>⟨gF.1,(hI.f1 rfl).2⟩,fun h=>(by cases h)⟩,?_⟩
   simp [dV] at c1
   apply Exists.intro
   apply And.intro
   ·apply aN
    ·apply aN (by simp [dV];rfl)
     apply jH (by simp [g])
     exact eo _ _
    apply pW
    apply aN
    ·apply tU
     apply aN (by simp;rfl)
     apply aN (by simp;rfl)
     simp [dz,AV.jJ,c1,St.back,fi,g1,g2,g3,g7,g8,g50,gF.2]
     rfl
    apply aN (by simp;rfl)
    simp
    rfl
   ·simp [dV]
  | false=>
   obtain ⟨H',c1,r,c3,c4⟩:=E8 (Lm p (.l 113 []) (.l 113 [])) (dp:=1) (a:=a) (H:=fun k=>(dV p false false nV nF ⟨s.V,s.F,false⟩ (.f 172 rQ) a).box 0 k) (by decide) low ⟨rfl,rfl,rfl,rfl,rfl,rfl,.inl ⟨rfl,hI.v0 rfl⟩,.inl ⟨rfl,hI.f0 rfl⟩⟩ hs
   have g1:=r.h1
   have g2:=r.h2
   have g3:=r.h3
   have g7:=r.h7
   have g8:=r.h8
   have g50:=r.hw
   have gV:=Fc r.hx
   have gF:=Fc r.hy
   refine ⟨⟨fun h=>(by cases h),fun _=>gV,fun h=>(by cases h),fun _=>gF⟩,?_⟩
   simp [dV] at c1
   apply Exists.intro
   apply And.intro
   ·apply aN
    ·apply aN (by simp [dV];rfl)
     apply jH (by simp [g])
     exact eo _ _
    apply pW
    apply aN
    ·apply tU
     apply aN (by simp;rfl)
     apply aN (by simp;rfl)
     simp [dz,AV.jJ,c1,St.back,fi,g1,g2,g3,g7,g8,g50]
     rfl
    apply aN (by simp;rfl)
    simp
    rfl
   ·simp [dV]
theorem UE(p:Program)(bV bF:Bool)(nV nF:Nat)(s:dP)(d:AV)(a:Nat)(g:s.ch=false)(hI:BP bV bF nV nF s):∃ st,run G Ω0 E0 DJ (dV p bV bF nV nF s d a)=some (.ex 4,st)∧
  run G Ω0 E0 (.rg [.unp 3 0,.unp 3 1] [gp 59 (.ld (some 2) (.t 3)),⟨none,.st 2 (.t 2) (.t 59),none,false⟩] [2] [2]) st=some (.nrm,⟨[(2,.p ⟨0,2⟩ 0)],[(2,[.l 113 (s.V.map aF),.l 113 (s.F.map aF)])],H0⟩):=by
 have c1:=v8 s.V
 have c2:=v8 s.F
 have p1:=Et s.V
 have p2:=Et s.F
 have l1:=wN s.V
 have l2:=wN s.F
 cases bV with
 | true=>
  have hV:=(hI.v1 rfl).1
  rw [hV] at c1 l1
  cases bF with
  | true=>
   have hF:=(hI.f1 rfl).1
   rw [hF] at c2 l2
   apply Exists.intro
   apply And.intro
   ·apply tT
    apply aN (by simp [dV];rfl)
    apply gv (by simp [g])
    exact mw _ _ _
   simp [p1,p2,l1,l2,c1,c2,uV,Ey,sO]
  | false=>
   have hF:=hI.f0 rfl
   apply Exists.intro
   apply And.intro
   ·apply tT
    apply aN (by simp [dV];rfl)
    apply gv (by simp [g])
    exact mw _ _ _
   simp [p1,l1,c1,hF,uV,Ey,sO]
 | false=>
  have hV:=hI.v0 rfl
  cases bF with
  | true=>
   have hF:=(hI.f1 rfl).1
   rw [hF] at c2 l2
   apply Exists.intro
   apply And.intro
   ·apply tT
    apply aN (by simp [dV];rfl)
    apply gv (by simp [g])
    exact mw _ _ _
   simp [p2,l2,c2,hV,uV,Ey,sO]
  | false=>
   have hF:=hI.f0 rfl
   apply Exists.intro
   apply And.intro
   ·apply tT
    apply aN (by simp [dV];rfl)
    apply gv (by simp [g])
    exact mw _ _ _
   simp [hV,hF,Ey]
theorem Kz(p:Program)(bV bF:Bool)(nV nF:Nat):∀ (n:Nat)(s s':dP)(d:AV)(a:Nat),BP bV bF nV nF s→(d= .nf∨d= .u)→sh (CS p) n s=some s'→
  ∃ st,rW G Ω0 E0 QU (dV p bV bF nV nF s d a)=some (.ex 4,st)∧
   run G Ω0 E0 (.rg [.unp 3 0,.unp 3 1] [gp 59 (.ld (some 2) (.t 3)),⟨none,.st 2 (.t 2) (.t 59),none,false⟩] [2] [2]) st=some (.nrm,⟨[(2,.p ⟨0,2⟩ 0)],[(2,[.l 113 (s'.V.map aF),.l 113 (s'.F.map aF)])],H0⟩)
 | 0,s,s',d,a,hI,hd,h=>by cases h
 | n+1,s,s',d,a,hI,hd,h=>by
  have m:(dV p bV bF nV nF s d a).bB [1,2,3,7,8,50] [1,2,3,7,8,50,1113000,1113001]=dV p bV bF nV nF s d a:=by
   cases bV<;>cases bF<;>rfl
  rw [sh] at h
  cases g:s.ch with
  | true=>
   have hB:CS p s=(Ev p dP.V dP.F (sH p) ⟨s.V,s.F,false⟩).bind fun r=>some (.inl r.2):=by unfold CS;rw [af g]
   rw [hB] at h
   cases hg:Ev p dP.V dP.F (sH p) ⟨s.V,s.F,false⟩ with
   | none=>rw [hg] at h;cases h
   | some r=>
    obtain ⟨a',s1⟩:=r
    rw [hg] at h
    obtain ⟨Y,st,r1,r2⟩:=Qv p bV bF nV nF s s1 d a a' g hI hg hd
    obtain ⟨st2,q1,q2⟩:=Kz p bV bF nV nF n s1 s' .u a' Y (.inr rfl) h
    refine ⟨st2,?_,q2⟩
    rw [nr]
    exact q1
    show (run G Ω0 _ DJ ((dV p bV bF nV nF s d a).bB [1,2,3,7,8,50] [1,2,3,7,8,50,1113000,1113001])).bind _=_
    rw [m,r1]
    exact av some r2
  | false=>
   have hB:CS p s=some (.inr s):=by unfold CS;rw [ab (by simp [g])]
   rw [hB] at h
   obtain rfl:=ah h
   obtain ⟨st,r1,r2⟩:=UE p bV bF nV nF s d a g hI
   refine ⟨st,nY ?_ (by simp),r2⟩
   show run G Ω0 _ DJ ((dV p bV bF nV nF s d a).bB [1,2,3,7,8,50] [1,2,3,7,8,50,1113000,1113001])=_
   rw [m,r1]
abbrev Od(a0:Program)(r:pD):Prop:=call G Ω0 E0 127 [.a (aD a0)] H0=some (.ret (.a [.l 113 (r.Vars.map aF),.l 113 (r.Funcs.map aF)]),H0)
theorem Js(a0:Program)(r:pD)(h:pR a0=some r):Od a0 r:=by
 unfold pR at h
 split at h
 ·rename_i hl
  obtain ⟨V,hV,h⟩:=aj.1 h
  obtain ⟨F,hF,h⟩:=aj.1 h
  obtain ⟨s,hs,h⟩:=aj.1 h
  obtain rfl:=ah h
  obtain ⟨n,hn⟩:=Cl hs
  obtain ⟨z1,a1,a2⟩:=Kx a0 hl.1 a0.Vars 0 [] V rfl rfl hV
  obtain ⟨z2,b1,b2⟩:=Ij a0 hl.2 V a0.Funcs 0 [] F rfl rfl hF
  obtain ⟨z3,c1,c2⟩:=pins a0 V F
  have hI:BP (!V.isEmpty) (!F.isEmpty) V.length F.length ⟨V,F,true⟩:=by
   refine ⟨fun h=>⟨rfl,?_⟩,fun h=>?_,fun h=>⟨rfl,?_⟩,fun h=>?_⟩
   ·cases V with
    | nil=>cases h
    | cons=>simp
   ·simpa using h
   ·cases F with
    | nil=>cases h
    | cons=>simp
   ·simpa using h
  obtain ⟨z4,d1,d2⟩:=Kz a0 _ _ _ _ n ⟨V,F,true⟩ s .nf 0 hI (.inl rfl) hn
  show call G Ω0 E0 127 _ _=_
  apply qQ agT
  ·apply aN (by simp;rfl)
   apply aN (by simp;rfl)
   apply aN
   ·apply aN (by simp;rfl)
    apply Cp
    rw [mg]
    exact a1
   show run G Ω0 _ (.kp _ _ QW) z1=_
   rw [kC,a2]
   apply aN
   ·apply aN (by simp;rfl)
    apply Cp
    rw [mg]
    exact b1
   show run G Ω0 _ (.kp _ _ QV) z2=_
   rw [kC,b2]
   apply aN c1
   apply aN
   ·apply aN c2
    apply Cp
    rw [mg]
    show rW _ _ _ _ ((dV _ _ _ _ _ _ _ _).bB [1,2,3,7,8,50] [1,2,3,7,8,50,1113000,1113001])=_
    rw [show ∀ bV bF nV nF s d a,(dV a0 bV bF nV nF s d a).bB [1,2,3,7,8,50] [1,2,3,7,8,50,1113000,1113001]=dV a0 bV bF nV nF s d a from fun bV bF _ _ _ _ _=>by cases bV<;>cases bF<;>rfl]
    exact d1
   apply aN d2
   exact iN _ _
  ·simp [Tj]
  ·rfl
 ·cases h
end Go.Proofs.YtlmphbbhaeampaaGreat.A
