/- infer.Raw as a plain function. -/
import Derived.Test.YtkkkkondjclcnaaListF
set_option maxRecDepth 100000
set_option linter.unusedSectionVars false
set_option linter.unusedVariables false
set_option linter.unusedSimpArgs false
set_option linter.constructorNameAsVariable false
namespace Go.Proofs.Ytkkkkondjclcnaa.A
open Go
variable [Lp]
attribute [local simp] gp execOp okB oa dR kx uX ka jC fx St.end_ St.nm List.filter
structure bP where
 V:List Level
 F:List Level
 ch:Bool
noncomputable def uf(p:Program)(s:bP)(f:bJ):Option bP:=
 (fY f.To).bind fun j=>
  if f.Func=true then (s.F[j]?).bind fun t=>(cT f.Level t).bind fun b=>if b=true then some s else (cE t f.Level).bind fun u=>some ⟨s.V,s.F.set j u,true⟩
  else (p.Vars[j]?).bind fun v=>if v.Known=true then some s else (s.V[j]?).bind fun t=>(cT f.Level t).bind fun b=>if b=true then some s else (cE t f.Level).bind fun u=>some ⟨s.V.set j u,s.F,true⟩
noncomputable def tz(p:Program):List bJ→bP→Option bP
 | [],s=>some s
 | f::r,s=>(uf p s f).bind fun t=>tz p r t
noncomputable def nC(p:Program)(a:Nat)(st:Stmt)(pl:Level)(s:bP):Option bP:=(nY p s.V st pl).bind fun l=>if l.length≤2000 then tz p l s else none
def vz(H:HP)(k:Key)(x:AV)(ls:List Level):Prop:=(x= .l 44 []∧ls=[])∨(x= .sp k 0 ls.length 2∧H k=some (cR ls))
theorem vz.rd{H:HP}{k:Key}{x:AV}{ls:List Level}(h:vz H k x ls)(hk:k=kV∨k=kF):tu H x ls:=by
 rcases h with ⟨rfl,rfl⟩ | ⟨rfl,h⟩
 ·exact .l _ []
 ·exact .sp k ls h hk
theorem vz.ext{H H':HP}{k:Key}{x:AV}{ls:List Level}(h:vz H k x ls)(e:H' k=H k):vz H' k x ls:=h.imp id fun h=>⟨h.1,by rw [e];exact h.2⟩
abbrev mn:List AV:=[.p ⟨0,7⟩ 0,.p ⟨0,3⟩ 0,.p ⟨0,1⟩ 0,.p ⟨0,8⟩ 0]
structure m9(p:Program)(x y:AV)(a:Nat)(s:bP)(H:HP):Prop where
 h1:H ⟨0,1⟩=some (an p)
 h2:H ⟨0,2⟩=some [.l 44 [],.l 44 []]
 h3:H ⟨0,3⟩=some [x,y]
 h7:H ⟨0,7⟩=some [.p ⟨0,50⟩ 0]
 h8:H ⟨0,8⟩=some [.b s.ch]
 hw:H ⟨0,50⟩=some (iQ p x y (.f 35 mn) a)
 hx:vz H kV x s.V
 hy:vz H kF y s.F
theorem CY{u:Level} : ∀ {ls:List Level}{j:Nat},j<ls.length→List.take (j*2) (cR ls)++(aB u++List.drop (j*2+2) (cR ls))=cR (ls.set j u)
 | [],j,h=>by simp at h
 | l::r,0,h=>rfl
 | l::r,j+1,h=>by
  have h2:=CY (u:=u) (ls:=r) (j:=j) (by simpa using h)
  rw [show (j+1)*2=j*2+2 by omega]
  show .l _ _::.l _ _::(_++_)= .l _ _::.l _ _::cR (r.set j u)
  rw [←h2]
  rfl
abbrev B3(f:bJ):List AV:=[(.l 4 (f.Level.Readers.map AV.b)),(.l 4 (f.Level.Writers.map AV.b)),(I f.To),(.b f.Func)]
def kr(fs:List bJ)(k:Nat)(H:HP):St:=⟨[(4,.p ⟨0,3⟩ 0),(5,.p ⟨0,1⟩ 0),(6,.p ⟨0,8⟩ 0),(16,.l 78 (fs.map cC)),(17,I fs.length),(18,I k)],[],H⟩
def kD(dp:Nat)(fs:List bJ)(k:Nat)(f:bJ)(w:AV)(H:HP):St:=⟨[(4,.p ⟨0,3⟩ 0),(5,.p ⟨0,1⟩ 0),(6,.p ⟨0,8⟩ 0),(11,.p ⟨dp,11⟩ 0),(12,w),(16,.l 78 (fs.map cC)),(17,I fs.length),(18,I k)],[(11,B3 f)],H⟩
set_option maxHeartbeats 8000000 in
theorem Ez(dp:Nat)(hd:0<dp)(H:HP)(fs:List bJ)(k:Nat)(f:bJ)(kk:Key)(hk:kk=kV∨kk=kF)(c:Bool)(h8:H ⟨0,8⟩=some [.b c])(ls:List Level)(hH:H kk=some (cR ls))(j:Nat)(hj:f.To=j)(t:Level)(ht:ls[j]? =some t)(b:Bool)(hb:cT f.Level t=some b)(u:Level)
  (hu:b=false→cE t f.Level=some u) :
  run G Ω0 ⟨dp,false⟩ IW (kD dp fs k f (.sp kk 0 ls.length 2) H)=some (.nrm,if b=true then ⟨[(4,.p ⟨0,3⟩ 0),(5,.p ⟨0,1⟩ 0),(6,.p ⟨0,8⟩ 0),(11,.p ⟨dp,11⟩ 0),(12,.sp kk 0 ls.length 2),(16,.l 78 (fs.map cC)),(17,I fs.length),(18,I k),(44,.b false)],[(11,B3 f)],H⟩ else kr fs k (aj (aj H kk (cR (ls.set j u))) ⟨0,8⟩ [.b true])):=by
 have ek:kk.dp=0:=by rcases hk with rfl | rfl<;>rfl
 have ek2:kk≠⟨0,8⟩:=by rcases hk with rfl | rfl<;>decide
 have e0:¬kk.dp=dp:=by omega
 have e1:¬0=dp:=by omega
 have e2:∀ d,¬kk=⟨dp,d⟩:=fun d=>bH (by omega)
 obtain ⟨f1,f2⟩:=vu ht
 have f3:j<ls.length:=(List.getElem?_eq_some_iff.1 ht).1
 have f4:=CY (u:=u) f3
 have hA:=gG (E:=⟨dp,false⟩) (eX f.Level t b hb) (by simp) (by simp)
 apply kq
 apply ak
 ·apply lE 4
  ·rfl
  ·simp [kD]
  ·simp [kD,e2]
   rfl
  ·simp [-bE,e0,e1,e2,hj,hH,f1,f2,f3,hA]
   rfl
  ·simp
   rfl
 cases b with
 | true=>
  apply dH (by simp)
  exact db _ _
 | false=>
  apply eK (by simp)
  have hB:=gG (E:=⟨dp,false⟩) (iN t f.Level u (hu rfl)) (by simp) (by simp)
  have hh:(aj H kk (cR (ls.set j u))) ⟨0,8⟩=some [.b c]:=by rw [jj (Ne.symm ek2)];exact h8
  refine ak (st1:=kr fs k (aj H kk (cR (ls.set j u)))) ?_ ?_
  ·apply lE 6
   ·rfl
   ·simp
   ·simp [e2,hj]
    rfl
   ·simp [-bE,e0,e1,e2,hj,hH,f1,f2,f3,hB]
    rfl
   ·simp [kr,←f4]
  simp [kr,e1,hh]
theorem JC{E:Env}{kf kb:List Nat}{x:AC}{st st':St}(h:st.aD kf kb=st'.aD kf kb):run G Ω0 E (.kp kf kb x) st=run G Ω0 E (.kp kf kb x) st':=by rw [iG,h,iG]
theorem A8{H:HP}{k:Key}{x:AV}{ls:List Level}(h:vz H k x ls):x= .l 44 []∨x= .sp k 0 ls.length 2:=h.imp (·.1) (·.1)
theorem EA{H:HP}{k:Key}{x:AV}{ls:List Level}{j:Nat}{t:Level}(h:vz H k x ls)(ht:ls[j]? =some t):x= .sp k 0 ls.length 2∧H k=some (cR ls):=by
 rcases h with ⟨_,rfl⟩ | h
 ·simp at ht
 ·exact h
set_option maxHeartbeats 8000000 in
theorem GL(p:Program)(x y:AV)(a:Nat)(s s':bP)(dp:Nat)(hd:0<dp)(H:HP)(hz:aS dp H)(r:m9 p x y a s H)(fs:List bJ)(hl:fs.length≤2000)(k:Nat)(f:bJ)(hg:fs[k]? =some f)(hs:uf p s f=some s') :
  ∃ H',run G Ω0 ⟨dp,false⟩ BW (kr fs k H)=some (.nrm,kr fs (k+1) H')∧m9 p x y a s' H'∧aS dp H'∧∀ k:Key,k.dp≠0→H' k=H k:=by
 have hlt:k<fs.length:=(List.getElem?_eq_some_iff.1 hg).1
 have hk:((k:Int)<(fs.length:Int)):=by omega
 have hwr:=og k (by omega)
 have e1:¬0=dp:=by omega
 obtain ⟨j,hj,hs⟩:=Option.bind_eq_some_iff.1 hs
 have hj:=oP hj
 have r3:=r.h3
 have r1:=r.h1
 have hR2:run G Ω0 ⟨dp,false⟩ (.rg [] [gp 22 (.fa 1 (.t 4)),gp 23 (.ld none (.t 22)),gp 12 (.as (.t 23))] [4,5,6,11,12,16,17,18] [4,5,6,11]) ⟨[(4,.p ⟨0,3⟩ 0),(5,.p ⟨0,1⟩ 0),(6,.p ⟨0,8⟩ 0),(11,.p ⟨dp,11⟩ 0),(16,.l 78 (fs.map cC)),(17,I fs.length),(18,I k)],[(11,B3 f)],H⟩=some (.nrm,kD dp fs k f y H):=by
  have hy:=r.hy
  clear r
  rcases A8 hy with rfl | rfl<;>simp [e1,r3,kD]
 have hR3:run G Ω0 ⟨dp,false⟩ (.rg [] [gp 27 (.fa 0 (.t 4)),gp 28 (.ld none (.t 27)),gp 12 (.as (.t 28))] [4,5,6,11,12,16,17,18] [4,5,6,11]) ⟨[(4,.p ⟨0,3⟩ 0),(5,.p ⟨0,1⟩ 0),(6,.p ⟨0,8⟩ 0),(11,.p ⟨dp,11⟩ 0),(12,y),(16,.l 78 (fs.map cC)),(17,I fs.length),(18,I k),(26,.b (!f.Func))],[(11,B3 f)],H⟩=some (.nrm,kD dp fs k f x H):=by
  have hx:=r.hx
  clear r hR2
  rcases A8 hx with rfl | rfl<;>simp [e1,r3,kD]
 have fin:∀ (st:St)(H':HP),st.aD [4,5,6,16,17,18] [4,5,6]=kr fs k H'→run G Ω0 ⟨dp,false⟩ (.rg [] [gp 57 (.bo .add false (.t 18) (.c (.i .i64 1))),gp 18 (.mv (.t 57))] [4,5,6,16,17,18] [4,5,6]) st=some (.nrm,kr fs (k+1) H'):=by
  intro st H' h
  have h4:af st.fr 4= .p ⟨0,3⟩ 0:=congrArg (fun z=>af z.fr 4) h
  have h5:af st.fr 5= .p ⟨0,1⟩ 0:=congrArg (fun z=>af z.fr 5) h
  have h6:af st.fr 6= .p ⟨0,8⟩ 0:=congrArg (fun z=>af z.fr 6) h
  have h16:af st.fr 16= .l 78 (fs.map cC):=congrArg (fun z=>af z.fr 16) h
  have h17:af st.fr 17=I fs.length:=congrArg (fun z=>af z.fr 17) h
  have h18:af st.fr 18=I k:=congrArg (fun z=>af z.fr 18) h
  have hb:bA st.bx [4,5,6]=[]:=congrArg St.bx h
  have hh:st.hp=H':=congrArg St.hp h
  simp [h4,h5,h6,h16,h17,h18,hwr,kr,hh,-bA,hb]
 by_cases hf:f.Func=true
 ·rw [if_pos hf] at hs
  obtain ⟨t,ht,hs⟩:=Option.bind_eq_some_iff.1 hs
  obtain ⟨b,hb,hs⟩:=Option.bind_eq_some_iff.1 hs
  obtain ⟨hy1,hy2⟩:=EA r.hy ht
  have hu:∃ u,(b=false→cE t f.Level=some u)∧s'=if b=true then s else ⟨s.V,s.F.set j u,true⟩:=by
   cases b with
   | true=>exact ⟨t,fun h=>(by cases h),(Option.some.inj hs).symm⟩
   | false=>
    obtain ⟨u,hu,hs⟩:=Option.bind_eq_some_iff.1 hs
    exact ⟨u,fun _=>hu,(Option.some.inj hs).symm⟩
  obtain ⟨u,hu,rfl⟩:=hu
  subst hy1
  have hk3:kF≠kV:=by decide
  refine ⟨if b=true then H else aj (aj H kF (cR (s.F.set j u))) ⟨0,8⟩ [.b true],?_,?_⟩
  ·apply ak (by simp [kr,hk];rfl)
   apply ak
   ·apply eK (by simp [hk])
    exact db _ _
   apply kq
   apply ak
   ·apply nM
    apply ak (by simp [hg,cC];rfl)
    apply ak hR2
    apply ak
    ·apply ak (by simp [kD];rfl)
     apply dH (by simp [hf])
     exact db _ _
    refine Eq.trans (JC (st':=kD dp fs k f (.sp kF 0 s.F.length 2) H) ?_) (Ez dp hd H fs k f kF (.inr rfl) s.ch r.h8 s.F hy2 j hj t ht b hb u hu)
    rfl
   exact fin _ _ (by cases b<;>rfl)
  ·cases b with
   | true=>exact ⟨r,hz,fun _ _=>rfl⟩
   | false=>
    refine ⟨⟨r.h1,r.h2,r.h3,r.h7,rfl,r.hw,r.hx.ext rfl,.inr ⟨?_,rfl⟩⟩,bc hd (bc hd hz),fun q hq=>?_⟩
    ·show AV.sp kF 0 s.F.length 2=AV.sp kF 0 (s.F.set j u).length 2
     rw [List.length_set]
    ·simp only [Bool.false_eq_true,if_false]
     rw [jj (fun e=>hq (by rw [e])),jj (fun e=>hq (by rw [e]))]
 ·rw [if_neg hf] at hs
  obtain ⟨v,hv,hs⟩:=Option.bind_eq_some_iff.1 hs
  by_cases hv2:v.Known=true
  ·rw [if_pos hv2] at hs
   obtain rfl:=Option.some.inj hs
   refine ⟨H,?_,r,hz,fun _ _=>rfl⟩
   apply ak (by simp [kr,hk];rfl)
   apply ak
   ·apply eK (by simp [hk])
    exact db _ _
   apply kq
   apply ak
   ·apply sP
    apply ak (by simp [hg,cC];rfl)
    apply ak hR2
    apply oZ
    apply ak (by simp [kD];rfl)
    apply eK (by simp [hf])
    apply ak hR3
    apply ak (by simp [kD,e1,r1,hj,hv,bB];rfl)
    apply eK (by simp [hv2])
    exact gK _ _ _
   exact fin _ _ rfl
  ·rw [if_neg hv2] at hs
   obtain ⟨t,ht,hs⟩:=Option.bind_eq_some_iff.1 hs
   obtain ⟨b,hb,hs⟩:=Option.bind_eq_some_iff.1 hs
   obtain ⟨hx1,hx2⟩:=EA r.hx ht
   have hu:∃ u,(b=false→cE t f.Level=some u)∧s'=if b=true then s else ⟨s.V.set j u,s.F,true⟩:=by
    cases b with
    | true=>exact ⟨t,fun h=>(by cases h),(Option.some.inj hs).symm⟩
    | false=>
     obtain ⟨u,hu,hs⟩:=Option.bind_eq_some_iff.1 hs
     exact ⟨u,fun _=>hu,(Option.some.inj hs).symm⟩
   obtain ⟨u,hu,rfl⟩:=hu
   subst hx1
   refine ⟨if b=true then H else aj (aj H kV (cR (s.V.set j u))) ⟨0,8⟩ [.b true],?_,?_⟩
   ·apply ak (by simp [kr,hk];rfl)
    apply ak
    ·apply eK (by simp [hk])
     exact db _ _
    apply kq
    apply ak
    ·apply nM
     apply ak (by simp [hg,cC];rfl)
     apply ak hR2
     apply ak
     ·apply ak (by simp [kD];rfl)
      apply eK (by simp [hf])
      apply ak hR3
      apply ak (by simp [kD,e1,r1,hj,hv,bB];rfl)
      apply dH (by simp [hv2])
      exact db _ _
     refine Eq.trans (JC (st':=kD dp fs k f (.sp kV 0 s.V.length 2) H) ?_) (Ez dp hd H fs k f kV (.inl rfl) s.ch r.h8 s.V hx2 j hj t ht b hb u hu)
     rfl
    exact fin _ _ (by cases b<;>rfl)
   ·cases b with
    | true=>exact ⟨r,hz,fun _ _=>rfl⟩
    | false=>
     refine ⟨⟨r.h1,r.h2,r.h3,r.h7,rfl,r.hw,.inr ⟨?_,rfl⟩,r.hy.ext rfl⟩,bc hd (bc hd hz),fun q hq=>?_⟩
     ·show AV.sp kV 0 s.V.length 2=AV.sp kV 0 (s.V.set j u).length 2
      rw [List.length_set]
     ·simp only [Bool.false_eq_true,if_false]
      rw [jj (fun e=>hq (by rw [e])),jj (fun e=>hq (by rw [e]))]
theorem zh(p:Program)(x y:AV)(a:Nat)(s':bP)(dp:Nat)(hd:0<dp)(fs:List bJ)(hl:fs.length≤2000):∀ (rest:List bJ)(k:Nat)(s:bP)(H:HP),fs.drop k=rest→aS dp H→m9 p x y a s H→tz p rest s=some s'→
  ∃ z,mI G Ω0 ⟨dp,false⟩ IX (kr fs k H)=some (.ex 0,z)∧m9 p x y a s' z.hp∧aS dp z.hp∧∀ k:Key,k.dp≠0→z.hp k=H k
 | [],k,s,H,hd2,hz,hr,hs=>by
  have hk:¬((k:Int)<(fs.length:Int)):=by
   have:=List.drop_eq_nil_iff.1 hd2;omega
  obtain rfl:=Option.some.inj hs
  have hz2:∃ z,run G Ω0 ⟨dp,false⟩ BW (kr fs k H)=some (.ex 0,z)∧z.hp=H:=by
   apply Exists.intro
   apply And.intro
   ·apply ak (by simp [kr,hk];rfl)
    apply oZ
    apply dH (by simp [hk])
    exact gK _ _ _
   ·rfl
  obtain ⟨z,h1,rfl⟩:=hz2
  exact ⟨z,iW h1 (by simp),hr,hz,fun _ _=>rfl⟩
 | f::rest,k,s,H,hd2,hz,hr,hs=>by
  obtain ⟨s1,h1,h2⟩:=Option.bind_eq_some_iff.1 hs
  have hg:fs[k]? =some f:=by
   have:=congrArg (fun l=>l[0]?) hd2
   simpa using this
  have hd3:fs.drop (k+1)=rest:=by
   have:=congrArg List.tail hd2
   simpa using this
  obtain ⟨H1,r1,r2,r3,r4⟩:=GL p x y a s s1 dp hd H hz hr fs hl k f hg h1
  obtain ⟨z,q1,q2,q3,q4⟩:=zh p x y a s' dp hd fs hl rest (k+1) s1 H1 hd3 r3 r2 h2
  refine ⟨z,?_,q2,q3,fun k hk=>(q4 k hk).trans (r4 k hk)⟩
  rw [gq]
  exact q1
  show (run G Ω0 _ BW (kr fs k H)).bind _=_
  rw [r1];rfl
theorem m9.ext{p:Program}{x y:AV}{a:Nat}{s:bP}{H H':HP}(r:m9 p x y a s H)(h:∀ k:Key,k.dp=0→H' k=H k):m9 p x y a s H':=
 ⟨(h _ rfl).trans r.h1,(h _ rfl).trans r.h2,(h _ rfl).trans r.h3,(h _ rfl).trans r.h7,(h _ rfl).trans r.h8,(h _ rfl).trans r.hw,r.hx.ext (h _ rfl),r.hy.ext (h _ rfl)⟩
set_option maxHeartbeats 8000000 in
theorem H8(p:Program)(x y:AV){a:Nat}{st:Stmt}{pl:Level}{s s':bP}{dp:Nat}{H:HP}(h:nC p a st pl s=some s')(hA:st.Args.length≤1000)(hd:0<dp)(hz:aS dp H)(r:m9 p x y a s H) :
  ∃ H',call G Ω0 ⟨dp,false⟩ 35 (I (a:Nat)::.a (av st)::.a (aB pl)::mn) H=some (.ret (.tp []),H')∧m9 p x y a s' H'∧∀ k:Key,k.dp≠0→H' k=H k:=by
 obtain ⟨fs,h1,h2⟩:=Option.bind_eq_some_iff.1 h
 split at h2
 ·rename_i hl
  have e1:¬0=dp:=by omega
  have r7:=r.h7
  have hc:=zg (dp+1) (fun k=>if k.dp=dp then (if 8=k.d then some (av st) else if 9=k.d then some (aB pl) else none) else H k) ⟨0,50⟩ (by show 0<dp+1;omega) p x y (.f 35 mn) a s.V (by simp only [if_neg (show ¬(0:Nat)=dp by omega)];exact r.hw) ((r.ext fun q hq=>by simp only [if_neg (show ¬q.dp=dp by omega)]).hx.rd (.inl rfl)) st pl fs hA h1
  have hb:(fun k:Key=>if k.dp<dp then (if k.dp=dp then (if 8=k.d then some (av st) else if 9=k.d then some (aB pl) else none) else H k) else none)=H:=by
   funext q
   by_cases hq:q.dp<dp
   ·rw [if_pos hq,if_neg (by omega)]
   ·rw [if_neg hq,hz q hq]
  obtain ⟨z,z1,z2,z3,z4⟩:=zh p x y a s' dp hd fs hl fs 0 s H rfl hz r h2
  refine ⟨z.hp,?_,z2,z4⟩
  apply zf TL
  ·apply ak (by simp [e1];rfl)
   refine ak (st1:=kr fs 0 H) ?_ ?_
   ·simp [kr,e1,r7,cm,AV.iE,hc,St.back,da,hb]
   apply sP
   rw [iw]
   exact z1
  ·rfl
  ·rfl
 ·cases h2
theorem B4(p:Program)(x y:AV):oy p bP.V bP.F (nC p) ⟨0,50⟩ x y 35 mn (m9 p x y) where
 kw0:=rfl
 eI:=rfl
 copy:=rfl
 copy':=rfl
 box r:=r.hw
 vx r:=r.hx.rd (.inl rfl)
 fy r:=r.hy.rd (.inr rfl)
 ext r h:=r.ext h
 bump r h hw:=⟨(h _ (by decide) rfl).trans r.h1,(h _ (by decide) rfl).trans r.h2,(h _ (by decide) rfl).trans r.h3,(h _ (by decide) rfl).trans r.h7,(h _ (by decide) rfl).trans r.h8,hw,r.hx.ext (h _ (by decide) rfl),r.hy.ext (h _ (by decide) rfl)⟩
 call h hA hd hz r:=H8 p x y h hA hd hz r
end Go.Proofs.Ytkkkkondjclcnaa.A
