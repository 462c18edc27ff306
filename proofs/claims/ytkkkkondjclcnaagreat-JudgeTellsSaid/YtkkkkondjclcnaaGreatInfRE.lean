/- The reference's InferOf as a plain function. -/
import Derived.Test.YtkkkkondjclcnaaGreatPlacF
set_option linter.all false
set_option maxRecDepth 100000
set_option maxHeartbeats 16000000
namespace Go.Proofs.YtkkkkondjclcnaaGreat.A
open Go
variable [Lp]
attribute [local simp] gp execOp okB gv df fT pJ iZ ir ft St.end_ St.fU List.filter lz
noncomputable def DO(p:Program)(s:bX)(a:eF):Option bX:=
 if 0≤a.To then (dV a.To).bind fun j=>(p.Vars[j]?).bind fun v=>if v.Known=true then some s else (s.V[j]?).bind fun t=>(fu a.L t).bind fun b=>if b=true then some s else (dN t a.L).bind fun u=>some ⟨s.V.set j u,s.F,true⟩
 else (dV (-1 - a.To)).bind fun j=>(s.F[j]?).bind fun t=>(fu a.L t).bind fun b=>if b=true then some s else (dN t a.L).bind fun u=>some ⟨s.V,s.F.set j u,true⟩
noncomputable def DP(p:Program):List eF→bX→Option bX
 | [],s=>some s
 | a::r,s=>(DO p s a).bind fun t=>DP p r t
noncomputable def Ho(p:Program):List bq→bX→Option bX
 | [],s=>some s
 | x::r,s=>(oJ p ⟨s.V,s.F⟩ x).bind fun l=>if l.length≤1000000 then (DP p l s).bind fun t=>Ho p r t else none
noncomputable def Bk(p:Program)(s:bX):Option (bX⊕bX):=if s.ch=true then (nv p ⟨s.V,s.F⟩).bind fun all=>if all.length≤1000000 then (Ho p all ⟨s.V,s.F,false⟩).bind fun r=>some (.inl r) else none else some (.inr s)
noncomputable def DQ(p:Program):List Var→List Level→Option (List Level)
 | [],o=>some o
 | v::r,o=>(if v.Known=true then lh p.ak v.Label else fR p.ak).bind fun x=>DQ p r (o++[x])
noncomputable def Bl(p:Program):List Func→List Level→Option (List Level)
 | [],o=>some o
 | _::r,o=>(fR p.ak).bind fun b=>Bl p r (o++[b])
noncomputable def mE(p:Program):Option eD:=
 if p.Vars.length≤1000∧p.Funcs.length≤1000 then (DQ p p.Vars []).bind fun V=>(Bl p p.Funcs []).bind fun F=>(lp (Bk p) ⟨V,F,true⟩).bind fun s=>some ⟨s.V,s.F⟩ else none
abbrev MV(p:Program)(bV bF:Bool)(nV nF:Nat)(s:bX):List (Nat×List AV):=
 (1,av p)::(2,nO)::(3,[lz bV kV nV,lz bF kF nF])::((if bV=true then [(1045000,en s.V)] else [])++(if bF=true then [(1045001,en s.F)] else []))
def wV(p:Program)(bV bF:Bool)(nV nF:Nat)(s:bX):St:=⟨[(1,.p ⟨0,1⟩ 0),(2,.p ⟨0,2⟩ 0),(3,.p ⟨0,3⟩ 0),(6,.b s.ch)],MV p bV bF nV nF s,H0⟩
def Ci(p:Program)(bV bF:Bool)(nV nF:Nat)(s:bX)(all:List bq)(i:Nat):St:=⟨[(1,.p ⟨0,1⟩ 0),(2,.p ⟨0,2⟩ 0),(3,.p ⟨0,3⟩ 0),(6,.b s.ch),(7,.l 113 (all.map cY)),(8,I i)],MV p bV bF nV nF s,H0⟩
def oM(p:Program)(bV bF:Bool)(nV nF:Nat)(s:bX)(all:List bq)(i:Nat)(l:List eF)(k:Nat):St:=⟨[(1,.p ⟨0,1⟩ 0),(2,.p ⟨0,2⟩ 0),(3,.p ⟨0,3⟩ 0),(6,.b s.ch),(7,.l 113 (all.map cY)),(8,I i),(9,.l 115 (l.map dG)),(10,I k)],MV p bV bF nV nF s,H0⟩
section
variable (p:Program)(nV nF:Nat)(s:bX)(all:List bq)(i:Nat)(l:List eF)(k:Nat)(a:eF)
theorem Vt(bV bF:Bool)(hk:k≤1000000)(hg:l[k]? =some a)(j:Nat)(hj:a.To=j)(v:Var)(hv:p.Vars[j]? =some v)(D:v.Known=true) :
  run G Ω0 E0 BP (oM p bV bF nV nF s all i l k)=some (.nrm,oM p bV bF nV nF s all i l (k+1)):=by
 have m:k<l.length:=(eb.1 hg).1
 have hw:=iF k (by omega)
 cases bV<;>cases bF<;>(
  apply aj
  ·apply aj (by simp [oM,m];rfl)
   apply bT (by simp [m])
   exact bh _ _
  apply di
  apply aj
  ·apply lu
   apply aj (by simp [hg,dG];rfl)
   apply iu
   apply aj (by simp [hj,hv,eo];rfl)
   apply bT (by simp [D])
   exact dR _ _ _
  simp [oM,hw])
theorem ZR(bF:Bool)(hn:s.V.length=nV)(hk:k≤1000000)(hg:l[k]? =some a)(j:Nat)(hj:a.To=j)(v:Var)(hv:p.Vars[j]? =some v)(D:v.Known=false)(t:Level)(ht:s.V[j]? =some t)(b:Bool)(hb:fu a.L t=some b)(u:Level)(hu:b=false→dN t a.L=some u) :
  run G Ω0 E0 BP (oM p true bF nV nF s all i l k)=some (.nrm,oM p true bF nV nF (if b=true then s else ⟨s.V.set j u,s.F,true⟩) all i l (k+1)):=by
 have m:k<l.length:=(eb.1 hg).1
 have hw:=iF k (by omega)
 obtain ⟨f1,f2⟩:=yS ht
 have f3:j<s.V.length:=(eb.1 ht).1
 have f4:=Ep (u:=u) f3
 rw [hn] at f3
 have hA:=aZ (E:=E0) (mL a.L t b hb) (by simp) (by simp)
 cases b with
 | true=>
  cases bF<;>(
   apply aj
   ·apply aj (by simp [oM,m];rfl)
    apply bT (by simp [m])
    exact bh _ _
   apply di
   apply aj
   ·apply dI
    apply aj (by simp [hg,dG];rfl)
    apply aj
    ·apply aj (by simp [hj,hv,eo];rfl)
     apply ba (by simp [D])
     exact bh _ _
    apply di
    apply aj
    ·apply aj
     ·apply dM 13
      ·rfl
      ·simp
      ·simp [hj,hg,dG,f1,f2,f3]
       rfl
      ·simp [-aF,hA]
       rfl
      ·simp
       rfl
     apply ba (by simp)
     exact bh _ _
    apply di
    apply aj
    ·apply dM 14
     ·rfl
     ·simp
     ·simp [hj]
      rfl
     ·simp
      rfl
     ·simp
      rfl
    apply ba (by simp)
    exact bh _ _
   simp [oM,hw])
 | false=>
  have hB:=aZ (E:=E0) (iM t a.L u (hu rfl)) (by simp) (by simp)
  cases bF<;>(
   apply aj
   ·apply aj (by simp [oM,m];rfl)
    apply bT (by simp [m])
    exact bh _ _
   apply di
   apply aj
   ·apply dI
    apply aj (by simp [hg,dG];rfl)
    apply aj
    ·apply aj (by simp [hj,hv,eo];rfl)
     apply ba (by simp [D])
     exact bh _ _
    apply di
    apply aj
    ·apply aj
     ·apply dM 13
      ·rfl
      ·simp
      ·simp [hj,hg,dG,f1,f2,f3]
       rfl
      ·simp [-aF,hA]
       rfl
      ·simp
       rfl
     apply bT (by simp)
     apply aj
     ·apply dM 13
      ·rfl
      ·simp
      ·simp [hj,hg,dG,f1,f2,f3]
       rfl
      ·simp [-aF,hB,hj,f1,f2,f3]
       rfl
      ·simp [f4]
       rfl
     simp
     rfl
    apply di
    apply aj
    ·apply dM 14
     ·rfl
     ·simp
     ·simp [hj]
      rfl
     ·simp
      rfl
     ·simp
      rfl
    apply ba (by simp)
    exact bh _ _
   simp [oM,hw]
   exact f4)
theorem ZS(bV:Bool)(hn:s.F.length=nF)(B:nF≤1000000)(hk:k≤1000000)(hg:l[k]? =some a)(j:Nat)(q:Int)(hj:a.To=q)(hq : -1 - q=(j:Int))(t:Level)(ht:s.F[j]? =some t)(b:Bool)(hb:fu a.L t=some b)(u:Level)(hu:b=false→dN t a.L=some u) :
  run G Ω0 E0 BP (oM p bV true nV nF s all i l k)=some (.nrm,oM p bV true nV nF (if b=true then s else ⟨s.V,s.F.set j u,true⟩) all i l (k+1)):=by
 have m:k<l.length:=(eb.1 hg).1
 have hw:=iF k (by omega)
 obtain ⟨f1,f2⟩:=yS ht
 have f3:j<s.F.length:=(eb.1 ht).1
 have f4:=Ep (u:=u) f3
 rw [hn] at f3
 have wj:IntKind.i64.wrap (-1 - q)=j:=(an _ hq).trans (wrapN j (by omega))
 have wj2:IntKind.i64.wrap (j:Int)=j:=wrapN j (by omega)
 have ng:¬(0:Int)≤q:=by omega
 have ng2:q<0:=by omega
 have hA:=aZ (E:=E0) (mL a.L t b hb) (by simp) (by simp)
 cases b with
 | true=>
  cases bV<;>(
   apply aj
   ·apply aj (by simp [oM,m];rfl)
    apply bT (by simp [m])
    exact bh _ _
   apply di
   apply aj
   ·apply dI
    apply aj (by simp [hg,dG];rfl)
    apply aj
    ·apply aj (by simp [hj,ng];rfl)
     apply ba (by simp)
     exact bh _ _
    apply di
    apply aj
    ·apply aj
     ·apply dM 13
      ·rfl
      ·simp
      ·simp [hj,ng]
       rfl
      ·simp
       rfl
      ·simp
       rfl
     apply ba (by simp)
     exact bh _ _
    apply di
    apply aj
    ·apply dM 14
     ·rfl
     ·simp
     ·simp [hj,hg,dG,f1,f2,f3,wj,wj2,ng2]
      rfl
     ·simp [-aF,hA]
      rfl
     ·simp
      rfl
    apply ba (by simp)
    exact bh _ _
   simp [oM,hw])
 | false=>
  have hB:=aZ (E:=E0) (iM t a.L u (hu rfl)) (by simp) (by simp)
  cases bV<;>(
   apply aj
   ·apply aj (by simp [oM,m];rfl)
    apply bT (by simp [m])
    exact bh _ _
   apply di
   apply aj
   ·apply dI
    apply aj (by simp [hg,dG];rfl)
    apply aj
    ·apply aj (by simp [hj,ng];rfl)
     apply ba (by simp)
     exact bh _ _
    apply di
    apply aj
    ·apply aj
     ·apply dM 13
      ·rfl
      ·simp
      ·simp [hj,ng]
       rfl
      ·simp
       rfl
      ·simp
       rfl
     apply ba (by simp)
     exact bh _ _
    apply di
    apply aj
    ·apply dM 14
     ·rfl
     ·simp
     ·simp [hj,hg,dG,f1,f2,f3,wj,wj2,ng2]
      rfl
     ·simp [-aF,hA]
      rfl
     ·simp
      rfl
    apply bT (by simp)
    apply aj
    ·apply dM 15
     ·rfl
     ·simp
     ·simp [hj,hg,dG,f1,f2,f3,wj,wj2]
      rfl
     ·simp [-aF,hB,hj,f1,f2,f3,wj,wj2]
      rfl
     ·simp
      rfl
    simp
    rfl
   simp [oM,hw]
   exact f4)
end
variable [Lp]
attribute [local simp] gp execOp okB gv df fT pJ iZ ir ft St.end_ St.fU List.filter lz
theorem PN(ts:List TypeId)(k:IntKind)(n:Int):(AV.i k n).off ts=true:=by simp only [AV.off]
theorem Vu(dp:Nat)(st:St)(cs:List AV):st.jl dp (.a cs)=if AV.aX cs=true then some (.a cs,[]) else (st.qC dp cs).bind fun r=>some (.a r.1,r.2):=rfl
section
variable {ts:List TypeId}(h:∀ t∈ts,t=45)
include h
theorem af7{x:TypeId}(hx:x≠45):¬x∈ts:=fun hm=>hx (h x hm)
theorem la{x:TypeId}(hx:x≠45)(h0:x≠0){es:List AV}(he:AV.lX ts es=true):(AV.l x es).off ts=true:=by
 have:=af7 h hx
 simp [AV.off,he,h0,this]
mutual
theorem af8:∀ e:aB,(aT e).off ts=true
 | ⟨k,n,args⟩=>by
  rw [dj]
  simp only [AV.off,AV.lX,mQ,uR]
  have:=la h (x:=37) (by decide) (by decide) (As args)
  simpa only [AV.off] using this
theorem As:∀ l:List aB,AV.lX ts (l.map aT)=true
 | []=>rfl
 | e::r=>by rw [fj,AV.lX,af8 e,As r];rfl
end
mutual
theorem af9:∀ s:Stmt,(bK s).off ts=true
 | ⟨k,v,o,e,args,th,el⟩=>by
  rw [jm]
  have h1:=la h (x:=37) (by decide) (by decide) (As h e.Args)
  have h2:=la h (x:=37) (by decide) (by decide) (As h args)
  have h3:=la h (x:=92) (by decide) (by decide) (DR th)
  have h4:=la h (x:=92) (by decide) (by decide) (DR el)
  show AV.lX ts _=true
  simp only [AV.lX,h1,h2,h3,h4,PN,mQ,uR]
theorem DR:∀ l:List Stmt,AV.lX ts (l.map bK)=true
 | []=>rfl
 | e::r=>by rw [fj,AV.lX,af9 e,DR r];rfl
end
theorem Ts(l:List bq):(AV.l 113 (l.map cY)).off ts=true:=by
 refine la h (by decide) (by decide) (G0 (fun x=>?_) l)
 have h1:=la h (x:=37) (by decide) (by decide) (As h x.S.Expr.Args)
 have h2:=la h (x:=37) (by decide) (by decide) (As h x.S.Args)
 have h3:=la h (x:=92) (by decide) (by decide) (DR h x.S.Then)
 have h4:=la h (x:=92) (by decide) (by decide) (DR h x.S.Else)
 have h5:=la h (x:=4) (by decide) (by decide) (AG ts x.Place.Readers)
 have h6:=la h (x:=4) (by decide) (by decide) (AG ts x.Place.Writers)
 show AV.lX ts _=true
 simp only [AV.lX,h1,h2,h3,h4,h5,h6,PN,mQ,uR]
theorem Vv(l:List eF):(AV.l 115 (l.map dG)).off ts=true:=by
 refine la h (by decide) (by decide) (G0 (fun x=>?_) l)
 have h5:=la h (x:=4) (by decide) (by decide) (AG ts x.L.Readers)
 have h6:=la h (x:=4) (by decide) (by decide) (AG ts x.L.Writers)
 show AV.lX ts _=true
 simp only [AV.lX,h5,h6,PN,mQ,uR]
end
theorem PO(st:St)(b:Bool)(k:Key)(n:Nat)(V:List Level)(hk:k=kV∨k=kF)(h1:b=true→V.length=n)(h0:b=false→V=[])(hb:b=true→st.box 0 k=some (en V)) :
  ∃ t ts,st.GW 0 (lz b k n)=some (.l t (V.map aI),ts)∧∀ x∈ts,x=45:=by
 cases b with
 | false=>
  obtain rfl:=h0 rfl
  exact ⟨_,[],rfl,by simp⟩
 | true=>
  obtain rfl:=h1 rfl
  have P:1000000≤k.d∧(k.d - 1000000) / 1000=45:=by rcases hk with rfl | rfl<;>decide
  refine ⟨0,[45],?_,by simp⟩
  show st.oV 0 k 0 V.length 2=_
  unfold St.oV
  simp only [hb rfl,ad,BD,oI,P.2]
  rw [ab]
  simp [P.1,vN,pQ,mV]
section
variable {p:Program}{bV bF:Bool}{nV nF:Nat}{s:bX}
theorem ZT(hI:fX bV bF nV nF s)(st:St)(h1:bV=true→st.box 0 kV=some (en s.V))(h2:bF=true→st.box 0 kF=some (en s.F)) :
  ∃ t1 t2 ts,st.jl 0 (.a [lz bV kV nV,lz bF kF nF])=some (.a (EV s.V s.F t1 t2),ts)∧∀ x∈ts,x=45:=by
 obtain ⟨t1,a1,q1,w1⟩:=PO st bV kV nV s.V (.inl rfl) (fun h=>(hI.v1 h).1) hI.v0 h1
 obtain ⟨t2,a2,q2,w2⟩:=PO st bF kF nF s.F (.inr rfl) (fun h=>(hI.f1 h).1) hI.f0 h2
 have hC:st.qC 0 [lz bV kV nV,lz bF kF nF]=some (EV s.V s.F t1 t2,a1++(a2++[])):=by
  simp only [St.qC,q1,q2,ad]
 cases bV with
 | false=>
  cases bF with
  | false=>
   have e1:=hI.v0 rfl
   have e2:=hI.f0 rfl
   refine ⟨45,45,[],?_,by simp⟩
   rw [e1,e2]
   rfl
  | true=>
   refine ⟨t1,t2,a1++(a2++[]),?_,fun x hx=>?_⟩
   ·rw [Vu,aa (by simp [AV.aX,AV.pure]),hC];rfl
   ·simp only [mW] at hx
    rcases dk.1 hx with hx | hx
    ·exact w1 x hx
    ·exact w2 x hx
 | true=>
  refine ⟨t1,t2,a1++(a2++[]),?_,fun x hx=>?_⟩
  ·rw [Vu,aa (by simp [AV.aX,AV.pure]),hC];rfl
  ·simp only [mW] at hx
   rcases dk.1 hx with hx | hx
   ·exact w1 x hx
   ·exact w2 x hx
theorem R6(hI:fX bV bF nV nF s){f:FuncId}{rest:List AV}{r:AV}(hc:∀ t1 t2,call G Ω0 E0 f (.a (av p)::.a (EV s.V s.F t1 t2)::rest) H0=some (.ret r,H0))(hp:AV.aX rest=true)(hr:r.pure=true)(ho:∀ ts:List TypeId,(∀ t∈ts,t=45)→r.off ts=true)
  (st:St) (h1:bV=true→st.box 0 kV=some (en s.V)) (h2:bF=true→st.box 0 kF=some (en s.F)) :
  aF (call G Ω0) Ω0 E0 st 0 f (.a (av p)::.a [lz bV kV nV,lz bF kF nF]::rest)=some (r,st):=by
 obtain ⟨t1,t2,ts,q,w⟩:=ZT hI st h1 h2
 have hP:(.a (av p):AV).pure=true:=by simp [AV.pure,AV.aX]
 unfold aF
 simp only [St.fk,yE _ _ hP,q,AE _ _ hp,ad]
 have h4:call G Ω0 ⟨0,false⟩ f (.a (av p)::.a (EV s.V s.F t1 t2)::rest) (fun _=>none)=some (.ret r,fun _=>none):=hc t1 t2
 rw [h4]
 simp only [ad,hr,mQ,dZ,mW,ho ts w,BL,az]
theorem Vw(all:List bq)(i:Nat)(l:List eF)(k:Nat)(a:eF)(s1:bX)(hI:fX bV bF nV nF s)(B:nF≤1000000)(hl:l.length≤1000000)(hg:l[k]? =some a)(h:DO p s a=some s1) :
  run G Ω0 E0 BP (oM p bV bF nV nF s all i l k)=some (.nrm,oM p bV bF nV nF s1 all i l (k+1))∧fX bV bF nV nF s1:=by
 have m:k<l.length:=(eb.1 hg).1
 unfold DO at h
 by_cases h0:0≤a.To
 ·rw [ab h0] at h
  obtain ⟨j,hj,h⟩:=ah.1 h
  obtain ⟨v,hv,h⟩:=ah.1 h
  have hj:=iV hj
  by_cases hk:v.Known=true
  ·rw [ab hk] at h
   obtain rfl:=af h
   exact ⟨Vt p nV nF s all i l k a bV bF (by omega) hg j hj v hv hk,hI⟩
  ·rw [aa hk] at h
   obtain ⟨t,ht,h⟩:=ah.1 h
   obtain ⟨b,hb,h⟩:=ah.1 h
   have R:bV=true:=by
    cases N:bV with
    | true=>rfl
    | false=>rw [hI.v0 N] at ht;simp at ht
   subst R
   have hu:∃ u,(b=false→dN t a.L=some u)∧s1=if b=true then s else ⟨s.V.set j u,s.F,true⟩:=by
    cases b with
    | true=>exact ⟨t,fun h=>(by cases h),(af h).symm⟩
    | false=>
     obtain ⟨u,hu,h⟩:=ah.1 h
     exact ⟨u,fun _=>hu,(af h).symm⟩
   obtain ⟨u,hu,rfl⟩:=hu
   refine ⟨ZR p nV nF s all i l k a bF (hI.v1 rfl).1 (by omega) hg j hj v hv (by simpa using hk) t ht b hb u hu,?_⟩
   split
   ·exact hI
   ·exact ⟨fun _=>⟨by rw [vA];exact (hI.v1 rfl).1,(hI.v1 rfl).2⟩,fun h=>(by cases h),hI.f1,hI.f0⟩
 ·rw [aa h0] at h
  obtain ⟨j,hj,h⟩:=ah.1 h
  have hj:=iV hj
  obtain ⟨t,ht,h⟩:=ah.1 h
  obtain ⟨b,hb,h⟩:=ah.1 h
  have T:bF=true:=by
   cases N:bF with
   | true=>rfl
   | false=>rw [hI.f0 N] at ht;simp at ht
  subst T
  have hu:∃ u,(b=false→dN t a.L=some u)∧s1=if b=true then s else ⟨s.V,s.F.set j u,true⟩:=by
   cases b with
   | true=>exact ⟨t,fun h=>(by cases h),(af h).symm⟩
   | false=>
    obtain ⟨u,hu,h⟩:=ah.1 h
    exact ⟨u,fun _=>hu,(af h).symm⟩
  obtain ⟨u,hu,rfl⟩:=hu
  refine ⟨ZS p nV nF s all i l k a bV (hI.f1 rfl).1 B (by omega) hg j a.To rfl hj t ht b hb u hu,?_⟩
  split
  ·exact hI
  ·exact ⟨hI.v1,hI.v0,fun _=>⟨by rw [vA];exact (hI.f1 rfl).1,(hI.f1 rfl).2⟩,fun h=>(by cases h)⟩
end
section
variable (p:Program)(bV bF:Bool)(nV nF:Nat)
def L5(s:bX)(all:List bq)(i:Nat)(l:List eF):St:=⟨[(1,.p ⟨0,1⟩ 0),(2,.p ⟨0,2⟩ 0),(3,.p ⟨0,3⟩ 0),(6,.b s.ch),(7,.l 113 (all.map cY)),(8,I i),(9,.l 115 (l.map dG)),(10,I l.length),(82,.b false)],MV p bV bF nV nF s,H0⟩
def L6(s:bX)(all:List bq):St:=⟨[(1,.p ⟨0,1⟩ 0),(2,.p ⟨0,2⟩ 0),(3,.p ⟨0,3⟩ 0),(6,.b s.ch),(7,.l 113 (all.map cY)),(8,I all.length),(69,.b false)],MV p bV bF nV nF s,H0⟩
def CM(s:bX):St:=⟨[(1,.p ⟨0,1⟩ 0),(2,.p ⟨0,2⟩ 0),(3,.p ⟨0,3⟩ 0),(62,.b false)],MV p bV bF nV nF s,H0⟩
theorem WT(s:bX)(all:List bq)(i:Nat)(l:List eF):run G Ω0 E0 BP (oM p bV bF nV nF s all i l l.length)=some (.ex 8,L5 p bV bF nV nF s all i l):=by
 apply iu
 refine aj (st1:=L5 p bV bF nV nF s all i l) ?_ ?_
 ·cases bV<;>cases bF<;>simp [oM,L5]
 apply ba (by simp [L5])
 exact dR _ _ _
theorem H9(all:List bq)(i:Nat)(l:List eF)(B:nF≤1000000)(hl:l.length≤1000000)(s':bX):∀ (rest:List eF)(k:Nat)(s:bX),l.drop k=rest→k≤l.length→fX bV bF nV nF s→DP p rest s=some s'→
  fX bV bF nV nF s'∧fH G Ω0 E0 XH (oM p bV bF nV nF s all i l k)=some (.ex 8,L5 p bV bF nV nF s' all i l)
 | [],k,s,hd,M,hI,h=>by
  have hk:k=l.length:=by
   have:=gP.1 hd;omega
  subst hk
  obtain rfl:=af h
  refine ⟨hI,dD ?_ (by simp)⟩
  have g:(oM p bV bF nV nF s all i l l.length).aG [1,2,3,6,7,8,9,10] [1,2,3,1045000,1045001]=oM p bV bF nV nF s all i l l.length:=by
   cases bV<;>cases bF<;>rfl
  show run G Ω0 _ BP ((oM p bV bF nV nF s all i l l.length).aG [1,2,3,6,7,8,9,10] [1,2,3,1045000,1045001])=_
  rw [g]
  exact WT p bV bF nV nF s all i l
 | a::rest,k,s,hd,M,hI,h=>by
  obtain ⟨s1,h1,h2⟩:=ah.1 h
  have m:k<l.length:=by
   have h1:=an List.length hd
   simp only [kQ,cC] at h1
   omega
  have hg:l[k]? =some a:=by
   have:=an (fun l=>l[0]?) hd
   simpa using this
  have C:l.drop (k+1)=rest:=by
   have:=an List.tail hd
   simpa using this
  obtain ⟨r1,r2⟩:=Vw all i l k a s1 hI B hl hg h1
  obtain ⟨q1,q2⟩:=H9 all i l B hl s' rest (k+1) s1 C (by omega) r2 h2
  refine ⟨q1,?_⟩
  rw [dz (st1:=oM p bV bF nV nF s1 all i l (k+1))]
  ·exact q2
  ·have g:(oM p bV bF nV nF s all i l k).aG [1,2,3,6,7,8,9,10] [1,2,3,1045000,1045001]=oM p bV bF nV nF s all i l k:=by
    cases bV<;>cases bF<;>rfl
   show (run G Ω0 _ BP ((oM p bV bF nV nF s all i l k).aG [1,2,3,6,7,8,9,10] [1,2,3,1045000,1045001])).bind _=_
   rw [g,r1]
   refine an some ?_
   cases bV<;>cases bF<;>rfl
theorem Vx(s s1:bX)(all:List bq)(ha:all.length≤1000000)(i:Nat)(x:bq)(hg:all[i]? =some x)(l:List eF)(hI:fX bV bF nV nF s)(B:nF≤1000000)(hl:l.length≤1000000)(hA:oJ p ⟨s.V,s.F⟩ x=some l)(h:DP p l s=some s1) :
  run G Ω0 E0 Jp (Ci p bV bF nV nF s all i)=some (.nrm,Ci p bV bF nV nF s1 all (i+1))∧fX bV bF nV nF s1:=by
 have m:i<all.length:=(eb.1 hg).1
 have hw:=iF i (by omega)
 obtain ⟨q1,q2⟩:=H9 p bV bF nV nF all i l B hl s1 l 0 s rfl (dc _) hI h
 refine ⟨?_,q1⟩
 have hX:=R6 (p:=p) (rest:=[.a (dE x)]) hI (fun t1 t2=>Ch p s.V s.F t1 t2 x l hA) (by simp [AV.aX,AV.pure]) (by simp [AV.pure]) (fun ts h=>Vv h l)
 clear q1 hA h
 cases bV<;>cases bF<;>(
  simp only [lz,az,bB,bU,reduceIte,forall_const,false_implies,true_implies] at hX
  apply aj
  ·apply aj (by simp [Ci,m];rfl)
   apply bT (by simp [m])
   exact bh _ _
  apply di
  apply aj
  ·apply dI
   apply aj
   ·apply dM 6
    ·rfl
    ·simp
    ·simp [hg,cY]
     rfl
    ·simp [-aF,hX]
     rfl
    ·simp
     rfl
   apply aj (by simp;rfl)
   apply lu
   rw [dL]
   exact q2
  simp [L5,Ci,hw])
theorem ZU(s:bX)(all:List bq):run G Ω0 E0 Jp (Ci p bV bF nV nF s all all.length)=some (.ex 6,L6 p bV bF nV nF s all):=by
 apply iu
 refine aj (st1:=L6 p bV bF nV nF s all) ?_ ?_
 ·cases bV<;>cases bF<;>simp [Ci,L6]
 apply ba (by simp [L6])
 exact dR _ _ _
theorem KB(all:List bq)(ha:all.length≤1000000)(B:nF≤1000000)(s':bX):∀ (rest:List bq)(i:Nat)(s:bX),all.drop i=rest→i≤all.length→fX bV bF nV nF s→Ho p rest s=some s'→
  fX bV bF nV nF s'∧fH G Ω0 E0 XI (Ci p bV bF nV nF s all i)=some (.ex 6,L6 p bV bF nV nF s' all)
 | [],i,s,hd,M,hI,h=>by
  have hk:i=all.length:=by
   have:=gP.1 hd;omega
  subst hk
  obtain rfl:=af h
  refine ⟨hI,dD ?_ (by simp)⟩
  have g:(Ci p bV bF nV nF s all all.length).aG [1,2,3,6,7,8] [1,2,3,1045000,1045001]=Ci p bV bF nV nF s all all.length:=by
   cases bV<;>cases bF<;>rfl
  show run G Ω0 _ Jp ((Ci p bV bF nV nF s all all.length).aG [1,2,3,6,7,8] [1,2,3,1045000,1045001])=_
  rw [g]
  exact ZU p bV bF nV nF s all
 | x::rest,i,s,hd,M,hI,h=>by
  obtain ⟨l,hA,h⟩:=ah.1 h
  have m:i<all.length:=by
   have h1:=an List.length hd
   simp only [kQ,cC] at h1
   omega
  have hg:all[i]? =some x:=by
   have:=an (fun l=>l[0]?) hd
   simpa using this
  have C:all.drop (i+1)=rest:=by
   have:=an List.tail hd
   simpa using this
  split at h
  ·rename_i hl
   obtain ⟨s1,h1,h2⟩:=ah.1 h
   obtain ⟨r1,r2⟩:=Vx p bV bF nV nF s s1 all ha i x hg l hI B hl hA h1
   obtain ⟨q1,q2⟩:=KB all ha B s' rest (i+1) s1 C (by omega) r2 h2
   refine ⟨q1,?_⟩
   rw [dz (st1:=Ci p bV bF nV nF s1 all (i+1))]
   ·exact q2
   ·have g:(Ci p bV bF nV nF s all i).aG [1,2,3,6,7,8] [1,2,3,1045000,1045001]=Ci p bV bF nV nF s all i:=by
     cases bV<;>cases bF<;>rfl
    show (run G Ω0 _ Jp ((Ci p bV bF nV nF s all i).aG [1,2,3,6,7,8] [1,2,3,1045000,1045001])).bind _=_
    rw [g,r1]
    refine an some ?_
    cases bV<;>cases bF<;>rfl
  ·cases h
theorem Tt(s s1:bX)(hc:s.ch=true)(all:List bq)(ha:all.length≤1000000)(hI:fX bV bF nV nF s)(B:nF≤1000000)(hP:nv p ⟨s.V,s.F⟩=some all)(h:Ho p all ⟨s.V,s.F,false⟩=some s1) :
  run G Ω0 E0 Jq (wV p bV bF nV nF s)=some (.nrm,L6 p bV bF nV nF s1 all)∧fX bV bF nV nF s1:=by
 obtain ⟨q1,q2⟩:=KB p bV bF nV nF all ha B s1 all 0 ⟨s.V,s.F,false⟩ rfl (dc _) ⟨hI.v1,hI.v0,hI.f1,hI.f0⟩ h
 refine ⟨?_,q1⟩
 have hX:=R6 (p:=p) (rest:=[]) hI (fun t1 t2=>Bi p s.V s.F t1 t2 all hP) rfl (by simp [AV.pure]) (fun ts h=>Ts h all)
 clear q1 hP h
 cases bV<;>cases bF<;>(
  simp only [lz,az,bB,bU,reduceIte,forall_const,false_implies,true_implies] at hX
  apply aj
  ·apply aj (by simp [wV];rfl)
   apply bT (by simp [hc])
   exact bh _ _
  apply di
  apply dI
  apply aj (by simp;rfl)
  apply aj (by simp [-aF,hX];rfl)
  apply aj (by simp;rfl)
  apply lu
  rw [dL]
  exact q2)
theorem WU(s:bX)(hc:s.ch=false):run G Ω0 E0 Jq (wV p bV bF nV nF s)=some (.ex 4,CM p bV bF nV nF s):=by
 apply iu
 refine aj (st1:=CM p bV bF nV nF s) ?_ ?_
 ·cases bV<;>cases bF<;>simp [wV,CM,hc]
 apply ba (by simp [CM])
 exact dR _ _ _
theorem PQ(B:nF≤1000000):∀ (n:Nat)(s s':bX),fX bV bF nV nF s→ry (Bk p) n s=some s'→
  fX bV bF nV nF s'∧fH G Ω0 E0 XJ (wV p bV bF nV nF s)=some (.ex 4,CM p bV bF nV nF s')
 | 0,s,s',hI,h=>by cases h
 | n+1,s,s',hI,h=>by
  have g:(wV p bV bF nV nF s).aG [1,2,3,6] [1,2,3,1045000,1045001]=wV p bV bF nV nF s:=by
   cases bV<;>cases bF<;>rfl
  rw [ry] at h
  cases hc:s.ch with
  | true=>
   obtain ⟨y,hy,h⟩:∃ y,Bk p s=some y∧(match y with
    | .inl w=>ry (Bk p) n w
    | .inr x=>some x)=some s':=by
    cases hy:Bk p s with
    | none=>rw [hy] at h;cases h
    | some y=>rw [hy] at h;exact ⟨y,rfl,by cases y<;>exact h⟩
   unfold Bk at hy
   rw [ab hc] at hy
   obtain ⟨all,hP,hy⟩:=ah.1 hy
   split at hy
   ·rename_i ha
    obtain ⟨s1,h1,hy⟩:=ah.1 hy
    obtain rfl:=af hy
    obtain ⟨r1,r2⟩:=Tt p bV bF nV nF s s1 hc all ha hI B hP h1
    obtain ⟨q1,q2⟩:=PQ B n s1 s' r2 h
    refine ⟨q1,?_⟩
    rw [dz (st1:=wV p bV bF nV nF s1)]
    ·exact q2
    ·show (run G Ω0 _ Jq ((wV p bV bF nV nF s).aG [1,2,3,6] [1,2,3,1045000,1045001])).bind _=_
     rw [g,r1]
     refine an some ?_
     cases bV<;>cases bF<;>rfl
   ·cases hy
  | false=>
   have hR:Bk p s=some (.inr s):=by unfold Bk;rw [aa (by simp [hc])]
   rw [hR] at h
   obtain rfl:=af h
   refine ⟨hI,dD ?_ (by simp)⟩
   show run G Ω0 _ Jq ((wV p bV bF nV nF s).aG [1,2,3,6] [1,2,3,1045000,1045001])=_
   rw [g]
   exact WU p bV bF nV nF s hc
end
variable [Lp]
attribute [local simp] gp execOp okB gv df fT pJ iZ ir ft St.end_ St.fU List.filter lz
def KC(p:Program)(k:Nat)(V:List Level):St:=⟨[(1,.p ⟨0,1⟩ 0),(2,.p ⟨0,2⟩ 0),(3,.p ⟨0,3⟩ 0),(4,I k)],[(1,av p),(2,nO),(3,[.o 45 (V.map aI),.o 45 []])],H0⟩
def KD(p:Program)(k:Nat)(V F:List Level):St:=⟨[(1,.p ⟨0,1⟩ 0),(2,.p ⟨0,2⟩ 0),(3,.p ⟨0,3⟩ 0),(5,I k)],[(1,av p),(2,nO),(3,[.o 45 (V.map aI),.o 45 (F.map aI)])],H0⟩
def Ia(p:Program)(V F:List Level):St:=⟨[(1,.p ⟨0,1⟩ 0),(2,.p ⟨0,2⟩ 0),(3,.p ⟨0,3⟩ 0)],[(1,av p),(2,nO),(3,[.o 45 (V.map aI),.o 45 (F.map aI)])],H0⟩
theorem QW(p:Program)(hl:p.Vars.length≤1000)(k:Nat)(V:List Level)(hV:V.length=k)(v:Var)(hg:p.Vars[k]? =some v)(x:Level)(hx:(if v.Known=true then lh p.ak v.Label else fR p.ak)=some x) :
  run G Ω0 E0 NH (KC p k V)=some (.nrm,KC p (k+1) (V++[x])):=by
 have m:k<p.Vars.length:=(eb.1 hg).1
 have K:=iF k (by omega)
 have hm:k+1≤maxLen:=bS (show k+1≤1001 by omega) (by decide)
 have H:(k+1)*48≤140737488355328:=by omega
 apply aj
 ·apply aj (by simp [KC,m];rfl)
  apply bT (by simp [m])
  exact bh _ _
 apply di
 apply aj
 ·apply dI
  apply aj (by simp [hg,eo];rfl)
  cases J:v.Known with
  | true=>
   rw [ab J] at hx
   have hA:=aZ (E:=E0) (tM p.ak v.Label x hx) (by simp) (by simp)
   apply bT (by simp [J])
   apply dM 10
   ·rfl
   ·simp
   ·simp [hg,eo]
    rfl
   ·simp [-aF,hA,hV,hm,H]
    rfl
   ·simp
    rfl
  | false=>
   rw [aa (by simp [J])] at hx
   have hA:=aZ (E:=E0) (lL p.ak x hx) (by simp) (by simp)
   apply ba (by simp [J])
   apply dM 4
   ·rfl
   ·simp
   ·simp
    rfl
   ·simp [-aF,hA,hV,hm,H]
    rfl
   ·simp
 simp [KC,K,aI]
theorem KE(p:Program)(hl:p.Vars.length≤1000):∀ (rest:List Var)(k:Nat)(V V':List Level),p.Vars.drop k=rest→V.length=k→DQ p rest V=some V'→
  ∃ z,fH G Ω0 E0 XE (KC p k V)=some (.ex 0,z)∧z.aG [1,2,3] [1,2,3,1045000,1045001]=Ia p V' []
 | [],k,V,V',hd,hV,h=>by
  obtain rfl:=af h
  have hk:¬(k<p.Vars.length):=by
   have:=gP.1 hd;omega
  apply Exists.intro
  apply And.intro
  ·refine dD (r:=(.ex 0,?_)) ?_ (by simp)
   rotate_left
   ·show run G Ω0 _ NH (KC p k V)=_
    apply iu
    apply aj (by simp [KC,hk];rfl)
    apply ba (by simp<;>omega)
    exact dR _ _ _
  ·simp [Ia]
 | v::rest,k,V,V',hd,hV,h=>by
  obtain ⟨x,hx,h⟩:=ah.1 h
  have hg:p.Vars[k]? =some v:=by
   have:=an (fun l=>l[0]?) hd
   simpa using this
  have C:p.Vars.drop (k+1)=rest:=by
   have:=an List.tail hd
   simpa using this
  obtain ⟨z,q1,q2⟩:=KE p hl rest (k+1) (V++[x]) V' C (by simp [hV]) h
  refine ⟨z,?_,q2⟩
  rw [dz (st1:=KC p (k+1) (V++[x]))]
  ·exact q1
  ·show (run G Ω0 _ NH (KC p k V)).bind _=_
   rw [QW p hl k V hV v hg x hx];rfl
theorem PR(p:Program)(hl:p.Funcs.length≤1000)(V:List Level)(k:Nat)(F:List Level)(hV:F.length=k)(m:k<p.Funcs.length)(x:Level)(hx:fR p.ak=some x) :
  run G Ω0 E0 NI (KD p k V F)=some (.nrm,KD p (k+1) V (F++[x])):=by
 have K:=iF k (by omega)
 have hm:k+1≤maxLen:=bS (show k+1≤1001 by omega) (by decide)
 have H:(k+1)*48≤140737488355328:=by omega
 have hA:=aZ (E:=E0) (lL p.ak x hx) (by simp) (by simp)
 apply aj
 ·apply aj (by simp [KD,m];rfl)
  apply bT (by simp [m])
  exact bh _ _
 apply di
 apply aj
 ·apply dI
  apply dM 4
  ·rfl
  ·simp
  ·simp
   rfl
  ·simp [-aF,hA,hV,hm,H]
   rfl
  ·simp
   rfl
 simp [KD,K,aI]
theorem Ib(p:Program)(hl:p.Funcs.length≤1000)(V:List Level):∀ (rest:List Func)(k:Nat)(F F':List Level),p.Funcs.drop k=rest→F.length=k→Bl p rest F=some F'→
  ∃ z,fH G Ω0 E0 XG (KD p k V F)=some (.ex 2,z)∧z.aG [1,2,3] [1,2,3,1045000,1045001]=Ia p V F'
 | [],k,F,F',hd,hV,h=>by
  obtain rfl:=af h
  have hk:¬(k<p.Funcs.length):=by
   have:=gP.1 hd;omega
  apply Exists.intro
  apply And.intro
  ·refine dD (r:=(.ex 2,?_)) ?_ (by simp)
   rotate_left
   ·show run G Ω0 _ NI (KD p k V F)=_
    apply iu
    apply aj (by simp [KD,hk];rfl)
    apply ba (by simp<;>omega)
    exact dR _ _ _
  ·simp [Ia]
 | f::rest,k,F,F',hd,hV,h=>by
  obtain ⟨x,hx,h⟩:=ah.1 h
  have m:k<p.Funcs.length:=by
   have h1:=an List.length hd
   simp only [kQ,cC] at h1
   omega
  have C:p.Funcs.drop (k+1)=rest:=by
   have:=an List.tail hd
   simpa using this
  obtain ⟨z,q1,q2⟩:=Ib p hl V rest (k+1) (F++[x]) F' C (by simp [hV]) h
  refine ⟨z,?_,q2⟩
  rw [dz (st1:=KD p (k+1) V (F++[x]))]
  ·exact q1
  ·show (run G Ω0 _ NI (KD p k V F)).bind _=_
   rw [PR p hl V k F hV m x hx];rfl
theorem akC(p:Program)(V F:List Level):run G Ω0 E0 (.rg [.o0 3 0 1045000 2,.o0 3 1 1045001 2] [gp 6 (.as (.c (.b true)))] [1,2,3,6] [1,2,3,1045000,1045001]) (Ia p V F)=some (.nrm,wV p (!V.isEmpty) (!F.isEmpty) V.length F.length ⟨V,F,true⟩):=by
 have h1:=B9 V
 have h2:=B9 F
 have h3:=Hh V
 have h4:=Hh F
 simp only [yk] at h3 h4
 by_cases hV:V=[]
 ·subst hV
  by_cases hF:F=[]
  ·subst hF
   simp [Ia,wV]
  ·have O:F.isEmpty=false:=by simp [hF]
   simp [hF,h2,zJ,aI,Ia,wV,O]
 ·have Q:V.isEmpty=false:=by simp [hV]
  by_cases hF:F=[]
  ·subst hF
   simp [hV,h1,zJ,aI,Ia,wV,Q]
  ·have O:F.isEmpty=false:=by simp [hF]
   simp [hV,hF,h1,h2,zJ,aI,Ia,wV,Q,O]
theorem amP(p:Program)(bV bF:Bool)(nV nF:Nat)(s:bX)(hI:fX bV bF nV nF s) :
  run G Ω0 E0 (.rg [.unp 3 0,.unp 3 1] [gp 165 (.ld (some 2) (.t 3)),⟨none,.st 2 (.t 2) (.t 165),none,false⟩] [2] [2]) (CM p bV bF nV nF s)=some (.nrm,⟨[(2,.p ⟨0,2⟩ 0)],[(2,[.l 45 (s.V.map aI),.l 45 (s.F.map aI)])],H0⟩):=by
 have c1:=oI s.V
 have c2:=oI s.F
 have p1:=vN s.V
 have p2:=vN s.F
 have l1:=pQ s.V
 have l2:=pQ s.F
 cases bV with
 | true=>
  have hV:=(hI.v1 rfl).1
  rw [hV] at c1 l1
  cases bF with
  | true=>
   have hF:=(hI.f1 rfl).1
   rw [hF] at c2 l2
   simp [CM,p1,p2,l1,l2,c1,c2,ub,lz,mV]
  | false=>
   have hF:=hI.f0 rfl
   simp [CM,p1,l1,c1,hF,ub,lz,mV]
 | false=>
  have hV:=hI.v0 rfl
  cases bF with
  | true=>
   have hF:=(hI.f1 rfl).1
   rw [hF] at c2 l2
   simp [CM,p2,l2,c2,hV,ub,lz,mV]
  | false=>
   have hF:=hI.f0 rfl
   simp [CM,hV,hF,lz]
theorem KF(p:Program):∀ (l:List Func)(o r:List Level),Bl p l o=some r→r.length=o.length+l.length
 | [],o,r,h=>by obtain rfl:=af h;rfl
 | _::l,o,r,h=>by
  obtain ⟨x,_,h⟩:=ah.1 h
  rw [KF p l _ _ h];simp;omega
abbrev QX(a0:Program)(r:eD):Prop:=call G Ω0 E0 13 [.a (av a0)] H0=some (.ret (.a [.l 45 (r.Vars.map aI),.l 45 (r.Funcs.map aI)]),H0)
theorem L7(a0:Program)(r:eD)(h:mE a0=some r):QX a0 r:=by
 unfold mE at h
 split at h
 ·rename_i hl
  obtain ⟨V,hV,h⟩:=ah.1 h
  obtain ⟨F,hF,h⟩:=ah.1 h
  obtain ⟨s,hs,h⟩:=ah.1 h
  obtain rfl:=af h
  obtain ⟨n,hn⟩:=AF hs
  obtain ⟨z1,a1,a2⟩:=KE a0 hl.1 a0.Vars 0 [] V rfl rfl hV
  obtain ⟨z2,b1,b2⟩:=Ib a0 hl.2 V a0.Funcs 0 [] F rfl rfl hF
  have U:=KF a0 _ _ _ hF
  simp only [jk,gh] at U
  have hI:fX (!V.isEmpty) (!F.isEmpty) V.length F.length ⟨V,F,true⟩:=by
   refine ⟨fun h=>⟨rfl,?_⟩,fun h=>?_,fun h=>⟨rfl,?_⟩,fun h=>?_⟩
   ·cases V with
    | nil=>cases h
    | cons=>simp
   ·simpa using h
   ·cases F with
    | nil=>cases h
    | cons=>simp
   ·simpa using h
  obtain ⟨d0,d1⟩:=PQ a0 _ _ V.length F.length (by omega) n ⟨V,F,true⟩ s hI hn
  show call G Ω0 E0 13 _ _=_
  apply dS G13
  ·apply aj (by simp;rfl)
   apply aj (by simp;rfl)
   apply aj
   ·apply aj (by simp;rfl)
    apply lu
    rw [dL]
    exact a1
   show run G Ω0 _ (.kp _ _ XL) z1=_
   rw [jq,a2]
   apply aj
   ·apply aj (by simp [Ia];rfl)
    apply lu
    rw [dL]
    exact b1
   show run G Ω0 _ (.kp _ _ XK) z2=_
   rw [jq,b2]
   apply aj
   ·apply aj (akC a0 V F)
    apply lu
    rw [dL]
    show fH _ _ _ _ ((wV _ _ _ _ _ _).aG [1,2,3,6] [1,2,3,1045000,1045001])=_
    rw [show ∀ bV bF nV nF s,(wV a0 bV bF nV nF s).aG [1,2,3,6] [1,2,3,1045000,1045001]=wV a0 bV bF nV nF s from fun bV bF _ _ _=>by cases bV<;>cases bF<;>rfl]
    exact d1
   apply aj (amP a0 _ _ _ _ s d0)
   exact cQ _ _
  ·simp [c13]
  ·rfl
 ·cases h
end Go.Proofs.YtkkkkondjclcnaaGreat.A
