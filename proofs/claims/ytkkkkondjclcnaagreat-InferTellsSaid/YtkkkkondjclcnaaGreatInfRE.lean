/- The reference's InferOf as a plain function. -/
import Derived.Test.YtkkkkondjclcnaaGreatPlacF
set_option linter.all false
set_option maxRecDepth 100000
namespace Go.Proofs.YtkkkkondjclcnaaGreat.A
open Go
variable [Lp]
attribute [local simp] gp execOp okB ja er iG tX mg jt iZ St.end_ St.jZ List.filter jT
noncomputable def Bg(p:Program)(s:bR)(a:cD):Option bR:=
 if 0≤a.To then (eI a.To).bind fun j=>(p.Vars[j]?).bind fun v=>if v.Known=true then some s else (s.V[j]?).bind fun t=>(fI a.L t).bind fun b=>if b=true then some s else (dj t a.L).bind fun u=>some ⟨s.V.set j u,s.F,true⟩
 else (eI (-1 - a.To)).bind fun j=>(s.F[j]?).bind fun t=>(fI a.L t).bind fun b=>if b=true then some s else (dj t a.L).bind fun u=>some ⟨s.V,s.F.set j u,true⟩
noncomputable def Bh(p:Program):List cD→bR→Option bR
 | [],s=>some s
 | a::r,s=>(Bg p s a).bind fun t=>Bh p r t
noncomputable def EH(p:Program):List aZ→bR→Option bR
 | [],s=>some s
 | x::r,s=>(nj p ⟨s.V,s.F⟩ x).bind fun l=>if l.length≤1000000 then (Bh p l s).bind fun t=>EH p r t else none
noncomputable def yK(p:Program)(s:bR):Option (bR⊕bR):=if s.ch=true then (jW p ⟨s.V,s.F⟩).bind fun all=>if all.length≤1000000 then (EH p all ⟨s.V,s.F,false⟩).bind fun r=>some (.inl r) else none else some (.inr s)
noncomputable def Bi(p:Program):List Var→List Level→Option (List Level)
 | [],o=>some o
 | v::r,o=>(if v.Known=true then lr p.ah v.Label else fE p.ah).bind fun x=>Bi p r (o++[x])
noncomputable def yL(p:Program):List Func→List Level→Option (List Level)
 | [],o=>some o
 | _::r,o=>(fE p.ah).bind fun b=>yL p r (o++[b])
noncomputable def nm(p:Program):Option aM:=
 if p.Vars.length≤1000∧p.Funcs.length≤1000 then (Bi p p.Vars []).bind fun V=>(yL p p.Funcs []).bind fun F=>(lp (yK p) ⟨V,F,true⟩).bind fun s=>some ⟨s.V,s.F⟩ else none
abbrev OM(p:Program)(bV bF:Bool)(nV nF:Nat)(s:bR):List (Nat×List AV):=
 (1,ar p)::(2,mo)::(3,[jT bV kV nV,jT bF kF nF])::((if bV=true then [(1045000,dy s.V)] else [])++(if bF=true then [(1045001,dy s.F)] else []))
def uL(p:Program)(bV bF:Bool)(nV nF:Nat)(s:bR):St:=⟨[(1,.p ⟨0,1⟩ 0),(2,.p ⟨0,2⟩ 0),(3,.p ⟨0,3⟩ 0),(6,.b s.ch)],OM p bV bF nV nF s,H0⟩
def z7(p:Program)(bV bF:Bool)(nV nF:Nat)(s:bR)(all:List aZ)(i:Nat):St:=⟨[(1,.p ⟨0,1⟩ 0),(2,.p ⟨0,2⟩ 0),(3,.p ⟨0,3⟩ 0),(6,.b s.ch),(7,.l 113 (all.map cg)),(8,I i)],OM p bV bF nV nF s,H0⟩
def nq(p:Program)(bV bF:Bool)(nV nF:Nat)(s:bR)(all:List aZ)(i:Nat)(l:List cD)(k:Nat):St:=⟨[(1,.p ⟨0,1⟩ 0),(2,.p ⟨0,2⟩ 0),(3,.p ⟨0,3⟩ 0),(6,.b s.ch),(7,.l 113 (all.map cg)),(8,I i),(9,.l 115 (l.map cG)),(10,I k)],OM p bV bF nV nF s,H0⟩
section
variable (p:Program)(nV nF:Nat)(s:bR)(all:List aZ)(i:Nat)(l:List cD)(k:Nat)(a:cD)
set_option maxHeartbeats 8000000 in
theorem R7(bV bF:Bool)(hk:k≤1000000)(hg:l[k]? =some a)(j:Nat)(hj:a.To=j)(v:Var)(hv:p.Vars[j]? =some v)(hv2:v.Known=true) :
  run G Ω0 E0 zB (nq p bV bF nV nF s all i l k)=some (.nrm,nq p bV bF nV nF s all i l (k+1)):=by
 have hlt:k<l.length:=(db.1 hg).1
 have hw:=fq k (by omega)
 cases bV<;>cases bF<;>(
  apply aj
  ·apply aj (by simp [nq,hlt];rfl)
   apply cL (by simp [hlt])
   exact bB _ _
  apply dz
  apply aj
  ·apply lN
   apply aj (by simp [hg,cG];rfl)
   apply ig
   apply aj (by simp [hj,hv,cn];rfl)
   apply cL (by simp [hv2])
   exact du _ _ _
  simp [nq,hw])
set_option maxHeartbeats 16000000 in
theorem WR(bF:Bool)(hn:s.V.length=nV)(hk:k≤1000000)(hg:l[k]? =some a)(j:Nat)(hj:a.To=j)(v:Var)(hv:p.Vars[j]? =some v)(hv2:v.Known=false)(t:Level)(ht:s.V[j]? =some t)(b:Bool)(hb:fI a.L t=some b)(u:Level)(hu:b=false→dj t a.L=some u) :
  run G Ω0 E0 zB (nq p true bF nV nF s all i l k)=some (.nrm,nq p true bF nV nF (if b=true then s else ⟨s.V.set j u,s.F,true⟩) all i l (k+1)):=by
 have hlt:k<l.length:=(db.1 hg).1
 have hw:=fq k (by omega)
 obtain ⟨f1,f2⟩:=wh ht
 have f3:j<s.V.length:=(db.1 ht).1
 have f4:=BU (u:=u) f3
 rw [hn] at f3
 have hA:=bM (E:=E0) (lB a.L t b hb) (by simp) (by simp)
 cases b with
 | true=>
  cases bF<;>(
   apply aj
   ·apply aj (by simp [nq,hlt];rfl)
    apply cL (by simp [hlt])
    exact bB _ _
   apply dz
   apply aj
   ·apply eE
    apply aj (by simp [hg,cG];rfl)
    apply aj
    ·apply aj (by simp [hj,hv,cn];rfl)
     apply bQ (by simp [hv2])
     exact bB _ _
    apply dz
    apply aj
    ·apply aj
     ·apply dO 13
      ·rfl
      ·simp
      ·simp [hj,hg,cG,f1,f2,f3]
       rfl
      ·simp [-aS,hA]
       rfl
      ·simp
       rfl
     apply bQ (by simp)
     exact bB _ _
    apply dz
    apply aj
    ·apply dO 14
     ·rfl
     ·simp
     ·simp [hj]
      rfl
     ·simp
      rfl
     ·simp
      rfl
    apply bQ (by simp)
    exact bB _ _
   simp [nq,hw])
 | false=>
  have hB:=bM (E:=E0) (iU t a.L u (hu rfl)) (by simp) (by simp)
  cases bF<;>(
   apply aj
   ·apply aj (by simp [nq,hlt];rfl)
    apply cL (by simp [hlt])
    exact bB _ _
   apply dz
   apply aj
   ·apply eE
    apply aj (by simp [hg,cG];rfl)
    apply aj
    ·apply aj (by simp [hj,hv,cn];rfl)
     apply bQ (by simp [hv2])
     exact bB _ _
    apply dz
    apply aj
    ·apply aj
     ·apply dO 13
      ·rfl
      ·simp
      ·simp [hj,hg,cG,f1,f2,f3]
       rfl
      ·simp [-aS,hA]
       rfl
      ·simp
       rfl
     apply cL (by simp)
     apply aj
     ·apply dO 13
      ·rfl
      ·simp
      ·simp [hj,hg,cG,f1,f2,f3]
       rfl
      ·simp [-aS,hB,hj,f1,f2,f3]
       rfl
      ·simp [f4]
       rfl
     simp
     rfl
    apply dz
    apply aj
    ·apply dO 14
     ·rfl
     ·simp
     ·simp [hj]
      rfl
     ·simp
      rfl
     ·simp
      rfl
    apply bQ (by simp)
    exact bB _ _
   simp [nq,hw]
   exact f4)
set_option maxHeartbeats 16000000 in
theorem WS(bV:Bool)(hn:s.F.length=nF)(hnF:nF≤1000000)(hk:k≤1000000)(hg:l[k]? =some a)(j:Nat)(q:Int)(hj:a.To=q)(hq : -1 - q=(j:Int))(t:Level)(ht:s.F[j]? =some t)(b:Bool)(hb:fI a.L t=some b)(u:Level)(hu:b=false→dj t a.L=some u) :
  run G Ω0 E0 zB (nq p bV true nV nF s all i l k)=some (.nrm,nq p bV true nV nF (if b=true then s else ⟨s.V,s.F.set j u,true⟩) all i l (k+1)):=by
 have hlt:k<l.length:=(db.1 hg).1
 have hw:=fq k (by omega)
 obtain ⟨f1,f2⟩:=wh ht
 have f3:j<s.F.length:=(db.1 ht).1
 have f4:=BU (u:=u) f3
 rw [hn] at f3
 have wj:IntKind.i64.wrap (-1 - q)=j:=(ak _ hq).trans (wrapN j (by omega))
 have wj2:IntKind.i64.wrap (j:Int)=j:=wrapN j (by omega)
 have ng:¬(0:Int)≤q:=by omega
 have ng2:q<0:=by omega
 have hA:=bM (E:=E0) (lB a.L t b hb) (by simp) (by simp)
 cases b with
 | true=>
  cases bV<;>(
   apply aj
   ·apply aj (by simp [nq,hlt];rfl)
    apply cL (by simp [hlt])
    exact bB _ _
   apply dz
   apply aj
   ·apply eE
    apply aj (by simp [hg,cG];rfl)
    apply aj
    ·apply aj (by simp [hj,ng];rfl)
     apply bQ (by simp)
     exact bB _ _
    apply dz
    apply aj
    ·apply aj
     ·apply dO 13
      ·rfl
      ·simp
      ·simp [hj,ng]
       rfl
      ·simp
       rfl
      ·simp
       rfl
     apply bQ (by simp)
     exact bB _ _
    apply dz
    apply aj
    ·apply dO 14
     ·rfl
     ·simp
     ·simp [hj,hg,cG,f1,f2,f3,wj,wj2,ng2]
      rfl
     ·simp [-aS,hA]
      rfl
     ·simp
      rfl
    apply bQ (by simp)
    exact bB _ _
   simp [nq,hw])
 | false=>
  have hB:=bM (E:=E0) (iU t a.L u (hu rfl)) (by simp) (by simp)
  cases bV<;>(
   apply aj
   ·apply aj (by simp [nq,hlt];rfl)
    apply cL (by simp [hlt])
    exact bB _ _
   apply dz
   apply aj
   ·apply eE
    apply aj (by simp [hg,cG];rfl)
    apply aj
    ·apply aj (by simp [hj,ng];rfl)
     apply bQ (by simp)
     exact bB _ _
    apply dz
    apply aj
    ·apply aj
     ·apply dO 13
      ·rfl
      ·simp
      ·simp [hj,ng]
       rfl
      ·simp
       rfl
      ·simp
       rfl
     apply bQ (by simp)
     exact bB _ _
    apply dz
    apply aj
    ·apply dO 14
     ·rfl
     ·simp
     ·simp [hj,hg,cG,f1,f2,f3,wj,wj2,ng2]
      rfl
     ·simp [-aS,hA]
      rfl
     ·simp
      rfl
    apply cL (by simp)
    apply aj
    ·apply dO 15
     ·rfl
     ·simp
     ·simp [hj,hg,cG,f1,f2,f3,wj,wj2]
      rfl
     ·simp [-aS,hB,hj,f1,f2,f3,wj,wj2]
      rfl
     ·simp
      rfl
    simp
    rfl
   simp [nq,hw]
   exact f4)
end
variable [Lp]
attribute [local simp] gp execOp okB ja er iG tX mg jt iZ St.end_ St.jZ List.filter jT
theorem MQ(ts:List TypeId)(k:IntKind)(n:Int):(AV.i k n).off ts=true:=by simp only [AV.off]
theorem R8(dp:Nat)(st:St)(cs:List AV):st.ic dp (.a cs)=if AV.bk cs=true then some (.a cs,[]) else (st.oH dp cs).bind fun r=>some (.a r.1,r.2):=rfl
section
variable {ts:List TypeId}(h:∀ t∈ts,t=45)
include h
theorem ab8{x:TypeId}(hx:x≠45):¬x∈ts:=fun hm=>hx (h x hm)
theorem jy{x:TypeId}(hx:x≠45)(h0:x≠0){es:List AV}(he:AV.kS ts es=true):(AV.l x es).off ts=true:=by
 have:=ab8 h hx
 simp [AV.off,he,h0,this]
mutual
theorem ab9:∀ e:ax,(aL e).off ts=true
 | ⟨k,n,args⟩=>by
  rw [dm]
  simp only [AV.off,AV.kS,gY,tB]
  have:=jy h (x:=37) (by decide) (by decide) (xG args)
  simpa only [AV.off] using this
theorem xG:∀ l:List ax,AV.kS ts (l.map aL)=true
 | []=>rfl
 | e::r=>by rw [cq,AV.kS,ab9 e,xG r];rfl
end
mutual
theorem aca:∀ s:Stmt,(aV s).off ts=true
 | ⟨k,v,o,e,args,th,el⟩=>by
  rw [ie]
  have h1:=jy h (x:=37) (by decide) (by decide) (xG h e.Args)
  have h2:=jy h (x:=37) (by decide) (by decide) (xG h args)
  have h3:=jy h (x:=92) (by decide) (by decide) (Bj th)
  have h4:=jy h (x:=92) (by decide) (by decide) (Bj el)
  show AV.kS ts _=true
  simp only [AV.kS,h1,h2,h3,h4,MQ,gY,tB]
theorem Bj:∀ l:List Stmt,AV.kS ts (l.map aV)=true
 | []=>rfl
 | e::r=>by rw [cq,AV.kS,aca e,Bj r];rfl
end
theorem P9(l:List aZ):(AV.l 113 (l.map cg)).off ts=true:=by
 refine jy h (by decide) (by decide) (En (fun x=>?_) l)
 have h1:=jy h (x:=37) (by decide) (by decide) (xG h x.S.Expr.Args)
 have h2:=jy h (x:=37) (by decide) (by decide) (xG h x.S.Args)
 have h3:=jy h (x:=92) (by decide) (by decide) (Bj h x.S.Then)
 have h4:=jy h (x:=92) (by decide) (by decide) (Bj h x.S.Else)
 have h5:=jy h (x:=4) (by decide) (by decide) (xV ts x.Place.Readers)
 have h6:=jy h (x:=4) (by decide) (by decide) (xV ts x.Place.Writers)
 show AV.kS ts _=true
 simp only [AV.kS,h1,h2,h3,h4,h5,h6,MQ,gY,tB]
theorem R9(l:List cD):(AV.l 115 (l.map cG)).off ts=true:=by
 refine jy h (by decide) (by decide) (En (fun x=>?_) l)
 have h5:=jy h (x:=4) (by decide) (by decide) (xV ts x.L.Readers)
 have h6:=jy h (x:=4) (by decide) (by decide) (xV ts x.L.Writers)
 show AV.kS ts _=true
 simp only [AV.kS,h5,h6,MQ,gY,tB]
end
theorem MR(st:St)(b:Bool)(k:Key)(n:Nat)(V:List Level)(hk:k=kV∨k=kF)(h1:b=true→V.length=n)(h0:b=false→V=[])(hb:b=true→st.box 0 k=some (dy V)) :
  ∃ t ts,st.Ej 0 (jT b k n)=some (.l t (V.map aq),ts)∧∀ x∈ts,x=45:=by
 cases b with
 | false=>
  obtain rfl:=h0 rfl
  exact ⟨_,[],rfl,by simp⟩
 | true=>
  obtain rfl:=h1 rfl
  have hkd:1000000≤k.d∧(k.d - 1000000) / 1000=45:=by rcases hk with rfl | rfl<;>decide
  refine ⟨0,[45],?_,by simp⟩
  show st.nC 0 k 0 V.length 2=_
  unfold St.nC
  simp only [hb rfl,ae,tD,m9,hkd.2]
  rw [aa]
  simp [hkd.1,tQ,n6,kl]
section
variable {p:Program}{bV bF:Bool}{nV nF:Nat}{s:bR}
theorem WT(hI:eO bV bF nV nF s)(st:St)(h1:bV=true→st.box 0 kV=some (dy s.V))(h2:bF=true→st.box 0 kF=some (dy s.F)) :
  ∃ t1 t2 ts,st.ic 0 (.a [jT bV kV nV,jT bF kF nF])=some (.a (Ck s.V s.F t1 t2),ts)∧∀ x∈ts,x=45:=by
 obtain ⟨t1,a1,q1,w1⟩:=MR st bV kV nV s.V (.inl rfl) (fun h=>(hI.v1 h).1) hI.v0 h1
 obtain ⟨t2,a2,q2,w2⟩:=MR st bF kF nF s.F (.inr rfl) (fun h=>(hI.f1 h).1) hI.f0 h2
 have hC:st.oH 0 [jT bV kV nV,jT bF kF nF]=some (Ck s.V s.F t1 t2,a1++(a2++[])):=by
  simp only [St.oH,q1,q2,ae]
 cases bV with
 | false=>
  cases bF with
  | false=>
   have e1:=hI.v0 rfl
   have e2:=hI.f0 rfl
   refine ⟨45,45,[],?_,by simp⟩
   rw [e1,e2]
   rfl
  | true=>
   refine ⟨t1,t2,a1++(a2++[]),?_,fun x hx=>?_⟩
   ·rw [R8,ab (by simp [AV.bk,AV.pure]),hC];rfl
   ·simp only [p8] at hx
    rcases bJ.1 hx with hx | hx
    ·exact w1 x hx
    ·exact w2 x hx
 | true=>
  refine ⟨t1,t2,a1++(a2++[]),?_,fun x hx=>?_⟩
  ·rw [R8,ab (by simp [AV.bk,AV.pure]),hC];rfl
  ·simp only [p8] at hx
   rcases bJ.1 hx with hx | hx
   ·exact w1 x hx
   ·exact w2 x hx
theorem ON(hI:eO bV bF nV nF s){f:FuncId}{rest:List AV}{r:AV}(hc:∀ t1 t2,call G Ω0 E0 f (.a (ar p)::.a (Ck s.V s.F t1 t2)::rest) H0=some (.ret r,H0))(hp:AV.bk rest=true)(hr:r.pure=true)(ho:∀ ts:List TypeId,(∀ t∈ts,t=45)→r.off ts=true)
  (st:St) (h1:bV=true→st.box 0 kV=some (dy s.V)) (h2:bF=true→st.box 0 kF=some (dy s.F)) :
  aS (call G Ω0) Ω0 E0 st 0 f (.a (ar p)::.a [jT bV kV nV,jT bF kF nF]::rest)=some (r,st):=by
 obtain ⟨t1,t2,ts,q,w⟩:=WT hI st h1 h2
 have hP:(.a (ar p):AV).pure=true:=by simp [AV.pure,AV.bk]
 unfold aS
 simp only [St.ep,vU _ _ hP,q,xS _ _ hp,ae]
 have h4:call G Ω0 ⟨0,false⟩ f (.a (ar p)::.a (Ck s.V s.F t1 t2)::rest) (fun _=>none)=some (.ret r,fun _=>none):=hc t1 t2
 rw [h4]
 simp only [ae,hr,gY,dX,p8,ho ts w,vG,an]
theorem Sa(all:List aZ)(i:Nat)(l:List cD)(k:Nat)(a:cD)(s1:bR)(hI:eO bV bF nV nF s)(hnF:nF≤1000000)(hl:l.length≤1000000)(hg:l[k]? =some a)(h:Bg p s a=some s1) :
  run G Ω0 E0 zB (nq p bV bF nV nF s all i l k)=some (.nrm,nq p bV bF nV nF s1 all i l (k+1))∧eO bV bF nV nF s1:=by
 have hlt:k<l.length:=(db.1 hg).1
 unfold Bg at h
 by_cases h0:0≤a.To
 ·rw [aa h0] at h
  obtain ⟨j,hj,h⟩:=af.1 h
  obtain ⟨v,hv,h⟩:=af.1 h
  have hj:=mj hj
  by_cases hk:v.Known=true
  ·rw [aa hk] at h
   obtain rfl:=ad h
   exact ⟨R7 p nV nF s all i l k a bV bF (by omega) hg j hj v hv hk,hI⟩
  ·rw [ab hk] at h
   obtain ⟨t,ht,h⟩:=af.1 h
   obtain ⟨b,hb,h⟩:=af.1 h
   have hbV:bV=true:=by
    cases hbv:bV with
    | true=>rfl
    | false=>rw [hI.v0 hbv] at ht;simp at ht
   subst hbV
   have hu:∃ u,(b=false→dj t a.L=some u)∧s1=if b=true then s else ⟨s.V.set j u,s.F,true⟩:=by
    cases b with
    | true=>exact ⟨t,fun h=>(by cases h),(ad h).symm⟩
    | false=>
     obtain ⟨u,hu,h⟩:=af.1 h
     exact ⟨u,fun _=>hu,(ad h).symm⟩
   obtain ⟨u,hu,rfl⟩:=hu
   refine ⟨WR p nV nF s all i l k a bF (hI.v1 rfl).1 (by omega) hg j hj v hv (by simpa using hk) t ht b hb u hu,?_⟩
   split
   ·exact hI
   ·exact ⟨fun _=>⟨by rw [tI];exact (hI.v1 rfl).1,(hI.v1 rfl).2⟩,fun h=>(by cases h),hI.f1,hI.f0⟩
 ·rw [ab h0] at h
  obtain ⟨j,hj,h⟩:=af.1 h
  have hj:=mj hj
  obtain ⟨t,ht,h⟩:=af.1 h
  obtain ⟨b,hb,h⟩:=af.1 h
  have hbF:bF=true:=by
   cases hbv:bF with
   | true=>rfl
   | false=>rw [hI.f0 hbv] at ht;simp at ht
  subst hbF
  have hu:∃ u,(b=false→dj t a.L=some u)∧s1=if b=true then s else ⟨s.V,s.F.set j u,true⟩:=by
   cases b with
   | true=>exact ⟨t,fun h=>(by cases h),(ad h).symm⟩
   | false=>
    obtain ⟨u,hu,h⟩:=af.1 h
    exact ⟨u,fun _=>hu,(ad h).symm⟩
  obtain ⟨u,hu,rfl⟩:=hu
  refine ⟨WS p nV nF s all i l k a bV (hI.f1 rfl).1 hnF (by omega) hg j a.To rfl hj t ht b hb u hu,?_⟩
  split
  ·exact hI
  ·exact ⟨hI.v1,hI.v0,fun _=>⟨by rw [tI];exact (hI.f1 rfl).1,(hI.f1 rfl).2⟩,fun h=>(by cases h)⟩
end
section
variable (p:Program)(bV bF:Bool)(nV nF:Nat)
def Jq(s:bR)(all:List aZ)(i:Nat)(l:List cD):St:=⟨[(1,.p ⟨0,1⟩ 0),(2,.p ⟨0,2⟩ 0),(3,.p ⟨0,3⟩ 0),(6,.b s.ch),(7,.l 113 (all.map cg)),(8,I i),(9,.l 115 (l.map cG)),(10,I l.length),(82,.b false)],OM p bV bF nV nF s,H0⟩
def Jr(s:bR)(all:List aZ):St:=⟨[(1,.p ⟨0,1⟩ 0),(2,.p ⟨0,2⟩ 0),(3,.p ⟨0,3⟩ 0),(6,.b s.ch),(7,.l 113 (all.map cg)),(8,I all.length),(69,.b false)],OM p bV bF nV nF s,H0⟩
def Ar(s:bR):St:=⟨[(1,.p ⟨0,1⟩ 0),(2,.p ⟨0,2⟩ 0),(3,.p ⟨0,3⟩ 0),(62,.b false)],OM p bV bF nV nF s,H0⟩
set_option maxHeartbeats 8000000 in
theorem T5(s:bR)(all:List aZ)(i:Nat)(l:List cD):run G Ω0 E0 zB (nq p bV bF nV nF s all i l l.length)=some (.ex 8,Jq p bV bF nV nF s all i l):=by
 apply ig
 refine aj (st1:=Jq p bV bF nV nF s all i l) ?_ ?_
 ·cases bV<;>cases bF<;>simp [nq,Jq]
 apply bQ (by simp [Jq])
 exact du _ _ _
theorem Fj(all:List aZ)(i:Nat)(l:List cD)(hnF:nF≤1000000)(hl:l.length≤1000000)(s':bR):∀ (rest:List cD)(k:Nat)(s:bR),l.drop k=rest→k≤l.length→eO bV bF nV nF s→Bh p rest s=some s'→
  eO bV bF nV nF s'∧fL G Ω0 E0 UB (nq p bV bF nV nF s all i l k)=some (.ex 8,Jq p bV bF nV nF s' all i l)
 | [],k,s,hd,hkl,hI,h=>by
  have hk:k=l.length:=by
   have:=eo.1 hd;omega
  subst hk
  obtain rfl:=ad h
  refine ⟨hI,cT ?_ (by simp)⟩
  have hkeep:(nq p bV bF nV nF s all i l l.length).aN [1,2,3,6,7,8,9,10] [1,2,3,1045000,1045001]=nq p bV bF nV nF s all i l l.length:=by
   cases bV<;>cases bF<;>rfl
  show run G Ω0 _ zB ((nq p bV bF nV nF s all i l l.length).aN [1,2,3,6,7,8,9,10] [1,2,3,1045000,1045001])=_
  rw [hkeep]
  exact T5 p bV bF nV nF s all i l
 | a::rest,k,s,hd,hkl,hI,h=>by
  obtain ⟨s1,h1,h2⟩:=af.1 h
  have hlt:k<l.length:=by
   have h1:=ak List.length hd
   simp only [hZ,bD] at h1
   omega
  have hg:l[k]? =some a:=by
   have:=ak (fun l=>l[0]?) hd
   simpa using this
  have hd2:l.drop (k+1)=rest:=by
   have:=ak List.tail hd
   simpa using this
  obtain ⟨r1,r2⟩:=Sa all i l k a s1 hI hnF hl hg h1
  obtain ⟨q1,q2⟩:=Fj all i l hnF hl s' rest (k+1) s1 hd2 (by omega) r2 h2
  refine ⟨q1,?_⟩
  rw [cP (st1:=nq p bV bF nV nF s1 all i l (k+1))]
  ·exact q2
  ·have hkeep:(nq p bV bF nV nF s all i l k).aN [1,2,3,6,7,8,9,10] [1,2,3,1045000,1045001]=nq p bV bF nV nF s all i l k:=by
    cases bV<;>cases bF<;>rfl
   show (run G Ω0 _ zB ((nq p bV bF nV nF s all i l k).aN [1,2,3,6,7,8,9,10] [1,2,3,1045000,1045001])).bind _=_
   rw [hkeep,r1]
   refine ak some ?_
   cases bV<;>cases bF<;>rfl
set_option maxHeartbeats 16000000 in
theorem Sb(s s1:bR)(all:List aZ)(ha:all.length≤1000000)(i:Nat)(x:aZ)(hg:all[i]? =some x)(l:List cD)(hI:eO bV bF nV nF s)(hnF:nF≤1000000)(hl:l.length≤1000000)(hA:nj p ⟨s.V,s.F⟩ x=some l)(h:Bh p l s=some s1) :
  run G Ω0 E0 GC (z7 p bV bF nV nF s all i)=some (.nrm,z7 p bV bF nV nF s1 all (i+1))∧eO bV bF nV nF s1:=by
 have hlt:i<all.length:=(db.1 hg).1
 have hw:=fq i (by omega)
 obtain ⟨q1,q2⟩:=Fj p bV bF nV nF all i l hnF hl s1 l 0 s rfl (b9 _) hI h
 refine ⟨?_,q1⟩
 have hX:=ON (p:=p) (rest:=[.a (xF x)]) hI (fun t1 t2=>z6 p s.V s.F t1 t2 x l hA) (by simp [AV.bk,AV.pure]) (by simp [AV.pure]) (fun ts h=>R9 h l)
 clear q1 hA h
 cases bV<;>cases bF<;>(
  simp only [jT,an,aI,bn,reduceIte,forall_const,false_implies,true_implies] at hX
  apply aj
  ·apply aj (by simp [z7,hlt];rfl)
   apply cL (by simp [hlt])
   exact bB _ _
  apply dz
  apply aj
  ·apply eE
   apply aj
   ·apply dO 6
    ·rfl
    ·simp
    ·simp [hg,cg]
     rfl
    ·simp [-aS,hX]
     rfl
    ·simp
     rfl
   apply aj (by simp;rfl)
   apply lN
   rw [dF]
   exact q2
  simp [Jq,z7,hw])
set_option maxHeartbeats 8000000 in
theorem WU(s:bR)(all:List aZ):run G Ω0 E0 GC (z7 p bV bF nV nF s all all.length)=some (.ex 6,Jr p bV bF nV nF s all):=by
 apply ig
 refine aj (st1:=Jr p bV bF nV nF s all) ?_ ?_
 ·cases bV<;>cases bF<;>simp [z7,Jr]
 apply bQ (by simp [Jr])
 exact du _ _ _
theorem HS(all:List aZ)(ha:all.length≤1000000)(hnF:nF≤1000000)(s':bR):∀ (rest:List aZ)(i:Nat)(s:bR),all.drop i=rest→i≤all.length→eO bV bF nV nF s→EH p rest s=some s'→
  eO bV bF nV nF s'∧fL G Ω0 E0 UC (z7 p bV bF nV nF s all i)=some (.ex 6,Jr p bV bF nV nF s' all)
 | [],i,s,hd,hkl,hI,h=>by
  have hk:i=all.length:=by
   have:=eo.1 hd;omega
  subst hk
  obtain rfl:=ad h
  refine ⟨hI,cT ?_ (by simp)⟩
  have hkeep:(z7 p bV bF nV nF s all all.length).aN [1,2,3,6,7,8] [1,2,3,1045000,1045001]=z7 p bV bF nV nF s all all.length:=by
   cases bV<;>cases bF<;>rfl
  show run G Ω0 _ GC ((z7 p bV bF nV nF s all all.length).aN [1,2,3,6,7,8] [1,2,3,1045000,1045001])=_
  rw [hkeep]
  exact WU p bV bF nV nF s all
 | x::rest,i,s,hd,hkl,hI,h=>by
  obtain ⟨l,hA,h⟩:=af.1 h
  have hlt:i<all.length:=by
   have h1:=ak List.length hd
   simp only [hZ,bD] at h1
   omega
  have hg:all[i]? =some x:=by
   have:=ak (fun l=>l[0]?) hd
   simpa using this
  have hd2:all.drop (i+1)=rest:=by
   have:=ak List.tail hd
   simpa using this
  split at h
  ·rename_i hl
   obtain ⟨s1,h1,h2⟩:=af.1 h
   obtain ⟨r1,r2⟩:=Sb p bV bF nV nF s s1 all ha i x hg l hI hnF hl hA h1
   obtain ⟨q1,q2⟩:=HS all ha hnF s' rest (i+1) s1 hd2 (by omega) r2 h2
   refine ⟨q1,?_⟩
   rw [cP (st1:=z7 p bV bF nV nF s1 all (i+1))]
   ·exact q2
   ·have hkeep:(z7 p bV bF nV nF s all i).aN [1,2,3,6,7,8] [1,2,3,1045000,1045001]=z7 p bV bF nV nF s all i:=by
     cases bV<;>cases bF<;>rfl
    show (run G Ω0 _ GC ((z7 p bV bF nV nF s all i).aN [1,2,3,6,7,8] [1,2,3,1045000,1045001])).bind _=_
    rw [hkeep,r1]
    refine ak some ?_
    cases bV<;>cases bF<;>rfl
  ·cases h
set_option maxHeartbeats 16000000 in
theorem Qa(s s1:bR)(hc:s.ch=true)(all:List aZ)(ha:all.length≤1000000)(hI:eO bV bF nV nF s)(hnF:nF≤1000000)(hP:jW p ⟨s.V,s.F⟩=some all)(h:EH p all ⟨s.V,s.F,false⟩=some s1) :
  run G Ω0 E0 GD (uL p bV bF nV nF s)=some (.nrm,Jr p bV bF nV nF s1 all)∧eO bV bF nV nF s1:=by
 obtain ⟨q1,q2⟩:=HS p bV bF nV nF all ha hnF s1 all 0 ⟨s.V,s.F,false⟩ rfl (b9 _) ⟨hI.v1,hI.v0,hI.f1,hI.f0⟩ h
 refine ⟨?_,q1⟩
 have hX:=ON (p:=p) (rest:=[]) hI (fun t1 t2=>yI p s.V s.F t1 t2 all hP) rfl (by simp [AV.pure]) (fun ts h=>P9 h all)
 clear q1 hP h
 cases bV<;>cases bF<;>(
  simp only [jT,an,aI,bn,reduceIte,forall_const,false_implies,true_implies] at hX
  apply aj
  ·apply aj (by simp [uL];rfl)
   apply cL (by simp [hc])
   exact bB _ _
  apply dz
  apply eE
  apply aj (by simp;rfl)
  apply aj (by simp [-aS,hX];rfl)
  apply aj (by simp;rfl)
  apply lN
  rw [dF]
  exact q2)
set_option maxHeartbeats 8000000 in
theorem T6(s:bR)(hc:s.ch=false):run G Ω0 E0 GD (uL p bV bF nV nF s)=some (.ex 4,Ar p bV bF nV nF s):=by
 apply ig
 refine aj (st1:=Ar p bV bF nV nF s) ?_ ?_
 ·cases bV<;>cases bF<;>simp [uL,Ar,hc]
 apply bQ (by simp [Ar])
 exact du _ _ _
theorem MS(hnF:nF≤1000000):∀ (n:Nat)(s s':bR),eO bV bF nV nF s→ph (yK p) n s=some s'→
  eO bV bF nV nF s'∧fL G Ω0 E0 UD (uL p bV bF nV nF s)=some (.ex 4,Ar p bV bF nV nF s')
 | 0,s,s',hI,h=>by cases h
 | n+1,s,s',hI,h=>by
  have hkeep:(uL p bV bF nV nF s).aN [1,2,3,6] [1,2,3,1045000,1045001]=uL p bV bF nV nF s:=by
   cases bV<;>cases bF<;>rfl
  rw [ph] at h
  cases hc:s.ch with
  | true=>
   obtain ⟨y,hy,h⟩:∃ y,yK p s=some y∧(match y with
    | .inl w=>ph (yK p) n w
    | .inr x=>some x)=some s':=by
    cases hy:yK p s with
    | none=>rw [hy] at h;cases h
    | some y=>rw [hy] at h;exact ⟨y,rfl,by cases y<;>exact h⟩
   unfold yK at hy
   rw [aa hc] at hy
   obtain ⟨all,hP,hy⟩:=af.1 hy
   split at hy
   ·rename_i ha
    obtain ⟨s1,h1,hy⟩:=af.1 hy
    obtain rfl:=ad hy
    obtain ⟨r1,r2⟩:=Qa p bV bF nV nF s s1 hc all ha hI hnF hP h1
    obtain ⟨q1,q2⟩:=MS hnF n s1 s' r2 h
    refine ⟨q1,?_⟩
    rw [cP (st1:=uL p bV bF nV nF s1)]
    ·exact q2
    ·show (run G Ω0 _ GD ((uL p bV bF nV nF s).aN [1,2,3,6] [1,2,3,1045000,1045001])).bind _=_
     rw [hkeep,r1]
     refine ak some ?_
     cases bV<;>cases bF<;>rfl
   ·cases hy
  | false=>
   have hR:yK p s=some (.inr s):=by unfold yK;rw [ab (by simp [hc])]
   rw [hR] at h
   obtain rfl:=ad h
   refine ⟨hI,cT ?_ (by simp)⟩
   show run G Ω0 _ GD ((uL p bV bF nV nF s).aN [1,2,3,6] [1,2,3,1045000,1045001])=_
   rw [hkeep]
   exact T6 p bV bF nV nF s hc
end
variable [Lp]
attribute [local simp] gp execOp okB ja er iG tX mg jt iZ St.end_ St.jZ List.filter jT
def HT(p:Program)(k:Nat)(V:List Level):St:=⟨[(1,.p ⟨0,1⟩ 0),(2,.p ⟨0,2⟩ 0),(3,.p ⟨0,3⟩ 0),(4,I k)],[(1,ar p),(2,mo),(3,[.o 45 (V.map aq),.o 45 []])],H0⟩
def HU(p:Program)(k:Nat)(V F:List Level):St:=⟨[(1,.p ⟨0,1⟩ 0),(2,.p ⟨0,2⟩ 0),(3,.p ⟨0,3⟩ 0),(5,I k)],[(1,ar p),(2,mo),(3,[.o 45 (V.map aq),.o 45 (F.map aq)])],H0⟩
def Fk(p:Program)(V F:List Level):St:=⟨[(1,.p ⟨0,1⟩ 0),(2,.p ⟨0,2⟩ 0),(3,.p ⟨0,3⟩ 0)],[(1,ar p),(2,mo),(3,[.o 45 (V.map aq),.o 45 (F.map aq)])],H0⟩
set_option maxHeartbeats 8000000 in
theorem NP(p:Program)(hl:p.Vars.length≤1000)(k:Nat)(V:List Level)(hV:V.length=k)(v:Var)(hg:p.Vars[k]? =some v)(x:Level)(hx:(if v.Known=true then lr p.ah v.Label else fE p.ah)=some x) :
  run G Ω0 E0 KV (HT p k V)=some (.nrm,HT p (k+1) (V++[x])):=by
 have hlt:k<p.Vars.length:=(db.1 hg).1
 have hwr:=fq k (by omega)
 have hm:k+1≤maxLen:=bU (show k+1≤1001 by omega) (by decide)
 have hm2:(k+1)*48≤140737488355328:=by omega
 apply aj
 ·apply aj (by simp [HT,hlt];rfl)
  apply cL (by simp [hlt])
  exact bB _ _
 apply dz
 apply aj
 ·apply eE
  apply aj (by simp [hg,cn];rfl)
  cases hkn:v.Known with
  | true=>
   rw [aa hkn] at hx
   have hA:=bM (E:=E0) (vg p.ah v.Label x hx) (by simp) (by simp)
   apply cL (by simp [hkn])
   apply dO 10
   ·rfl
   ·simp
   ·simp [hg,cn]
    rfl
   ·simp [-aS,hA,hV,hm,hm2]
    rfl
   ·simp
    rfl
  | false=>
   rw [ab (by simp [hkn])] at hx
   have hA:=bM (E:=E0) (mS p.ah x hx) (by simp) (by simp)
   apply bQ (by simp [hkn])
   apply dO 4
   ·rfl
   ·simp
   ·simp
    rfl
   ·simp [-aS,hA,hV,hm,hm2]
    rfl
   ·simp
 simp [HT,hwr,aq]
theorem HV(p:Program)(hl:p.Vars.length≤1000):∀ (rest:List Var)(k:Nat)(V V':List Level),p.Vars.drop k=rest→V.length=k→Bi p rest V=some V'→
  ∃ z,fL G Ω0 E0 Uz (HT p k V)=some (.ex 0,z)∧z.aN [1,2,3] [1,2,3,1045000,1045001]=Fk p V' []
 | [],k,V,V',hd,hV,h=>by
  obtain rfl:=ad h
  have hk:¬(k<p.Vars.length):=by
   have:=eo.1 hd;omega
  apply Exists.intro
  apply And.intro
  ·refine cT (r:=(.ex 0,?_)) ?_ (by simp)
   rotate_left
   ·show run G Ω0 _ KV (HT p k V)=_
    apply ig
    apply aj (by simp [HT,hk];rfl)
    apply bQ (by simp<;>omega)
    exact du _ _ _
  ·simp [Fk]
 | v::rest,k,V,V',hd,hV,h=>by
  obtain ⟨x,hx,h⟩:=af.1 h
  have hg:p.Vars[k]? =some v:=by
   have:=ak (fun l=>l[0]?) hd
   simpa using this
  have hd2:p.Vars.drop (k+1)=rest:=by
   have:=ak List.tail hd
   simpa using this
  obtain ⟨z,q1,q2⟩:=HV p hl rest (k+1) (V++[x]) V' hd2 (by simp [hV]) h
  refine ⟨z,?_,q2⟩
  rw [cP (st1:=HT p (k+1) (V++[x]))]
  ·exact q1
  ·show (run G Ω0 _ KV (HT p k V)).bind _=_
   rw [NP p hl k V hV v hg x hx];rfl
set_option maxHeartbeats 8000000 in
theorem MT(p:Program)(hl:p.Funcs.length≤1000)(V:List Level)(k:Nat)(F:List Level)(hV:F.length=k)(hlt:k<p.Funcs.length)(x:Level)(hx:fE p.ah=some x) :
  run G Ω0 E0 KY (HU p k V F)=some (.nrm,HU p (k+1) V (F++[x])):=by
 have hwr:=fq k (by omega)
 have hm:k+1≤maxLen:=bU (show k+1≤1001 by omega) (by decide)
 have hm2:(k+1)*48≤140737488355328:=by omega
 have hA:=bM (E:=E0) (mS p.ah x hx) (by simp) (by simp)
 apply aj
 ·apply aj (by simp [HU,hlt];rfl)
  apply cL (by simp [hlt])
  exact bB _ _
 apply dz
 apply aj
 ·apply eE
  apply dO 4
  ·rfl
  ·simp
  ·simp
   rfl
  ·simp [-aS,hA,hV,hm,hm2]
   rfl
  ·simp
   rfl
 simp [HU,hwr,aq]
theorem Fl(p:Program)(hl:p.Funcs.length≤1000)(V:List Level):∀ (rest:List Func)(k:Nat)(F F':List Level),p.Funcs.drop k=rest→F.length=k→yL p rest F=some F'→
  ∃ z,fL G Ω0 E0 UA (HU p k V F)=some (.ex 2,z)∧z.aN [1,2,3] [1,2,3,1045000,1045001]=Fk p V F'
 | [],k,F,F',hd,hV,h=>by
  obtain rfl:=ad h
  have hk:¬(k<p.Funcs.length):=by
   have:=eo.1 hd;omega
  apply Exists.intro
  apply And.intro
  ·refine cT (r:=(.ex 2,?_)) ?_ (by simp)
   rotate_left
   ·show run G Ω0 _ KY (HU p k V F)=_
    apply ig
    apply aj (by simp [HU,hk];rfl)
    apply bQ (by simp<;>omega)
    exact du _ _ _
  ·simp [Fk]
 | f::rest,k,F,F',hd,hV,h=>by
  obtain ⟨x,hx,h⟩:=af.1 h
  have hlt:k<p.Funcs.length:=by
   have h1:=ak List.length hd
   simp only [hZ,bD] at h1
   omega
  have hd2:p.Funcs.drop (k+1)=rest:=by
   have:=ak List.tail hd
   simpa using this
  obtain ⟨z,q1,q2⟩:=Fl p hl V rest (k+1) (F++[x]) F' hd2 (by simp [hV]) h
  refine ⟨z,?_,q2⟩
  rw [cP (st1:=HU p (k+1) V (F++[x]))]
  ·exact q1
  ·show (run G Ω0 _ KY (HU p k V F)).bind _=_
   rw [MT p hl V k F hV hlt x hx];rfl
set_option maxHeartbeats 8000000 in
theorem ahb(p:Program)(V F:List Level):run G Ω0 E0 (.rg [.qx 3 0 1045000 2,.qx 3 1 1045001 2] [gp 6 (.as (.c (.b true)))] [1,2,3,6] [1,2,3,1045000,1045001]) (Fk p V F)=some (.nrm,uL p (!V.isEmpty) (!F.isEmpty) V.length F.length ⟨V,F,true⟩):=by
 have h1:=zS V
 have h2:=zS F
 have h3:=EB V
 have h4:=EB F
 simp only [zc] at h3 h4
 by_cases hV:V=[]
 ·subst hV
  by_cases hF:F=[]
  ·subst hF
   simp [Fk,uL]
  ·have hF2:F.isEmpty=false:=by simp [hF]
   simp [hF,h2,xh,aq,Fk,uL,hF2]
 ·have hV2:V.isEmpty=false:=by simp [hV]
  by_cases hF:F=[]
  ·subst hF
   simp [hV,h1,xh,aq,Fk,uL,hV2]
  ·have hF2:F.isEmpty=false:=by simp [hF]
   simp [hV,hF,h1,h2,xh,aq,Fk,uL,hV2,hF2]
set_option maxHeartbeats 8000000 in
theorem ajq(p:Program)(bV bF:Bool)(nV nF:Nat)(s:bR)(hI:eO bV bF nV nF s) :
  run G Ω0 E0 (.rg [.unp 3 0,.unp 3 1] [gp 165 (.ld (some 2) (.t 3)),⟨none,.st 2 (.t 2) (.t 165),none,false⟩] [2] [2]) (Ar p bV bF nV nF s)=some (.nrm,⟨[(2,.p ⟨0,2⟩ 0)],[(2,[.l 45 (s.V.map aq),.l 45 (s.F.map aq)])],H0⟩):=by
 have c1:=m9 s.V
 have c2:=m9 s.F
 have p1:=tQ s.V
 have p2:=tQ s.F
 have l1:=n6 s.V
 have l2:=n6 s.F
 cases bV with
 | true=>
  have hV:=(hI.v1 rfl).1
  rw [hV] at c1 l1
  cases bF with
  | true=>
   have hF:=(hI.f1 rfl).1
   rw [hF] at c2 l2
   simp [Ar,p1,p2,l1,l2,c1,c2,rY,jT,kl]
  | false=>
   have hF:=hI.f0 rfl
   simp [Ar,p1,l1,c1,hF,rY,jT,kl]
 | false=>
  have hV:=hI.v0 rfl
  cases bF with
  | true=>
   have hF:=(hI.f1 rfl).1
   rw [hF] at c2 l2
   simp [Ar,p2,l2,c2,hV,rY,jT,kl]
  | false=>
   have hF:=hI.f0 rfl
   simp [Ar,hV,hF,jT]
theorem HW(p:Program):∀ (l:List Func)(o r:List Level),yL p l o=some r→r.length=o.length+l.length
 | [],o,r,h=>by obtain rfl:=ad h;rfl
 | _::l,o,r,h=>by
  obtain ⟨x,_,h⟩:=af.1 h
  rw [HW p l _ _ h];simp;omega
abbrev NQ(a0:Program)(r:aM):Prop:=call G Ω0 E0 13 [.a (ar a0)] H0=some (.ret (.a [.l 45 (r.Vars.map aq),.l 45 (r.Funcs.map aq)]),H0)
set_option maxHeartbeats 8000000 in
theorem Js(a0:Program)(r:aM)(h:nm a0=some r):NQ a0 r:=by
 unfold nm at h
 split at h
 ·rename_i hl
  obtain ⟨V,hV,h⟩:=af.1 h
  obtain ⟨F,hF,h⟩:=af.1 h
  obtain ⟨s,hs,h⟩:=af.1 h
  obtain rfl:=ad h
  obtain ⟨n,hn⟩:=xT hs
  obtain ⟨z1,a1,a2⟩:=HV a0 hl.1 a0.Vars 0 [] V rfl rfl hV
  obtain ⟨z2,b1,b2⟩:=Fl a0 hl.2 V a0.Funcs 0 [] F rfl rfl hF
  have hFl:=HW a0 _ _ _ hF
  simp only [iC,fi] at hFl
  have hI:eO (!V.isEmpty) (!F.isEmpty) V.length F.length ⟨V,F,true⟩:=by
   refine ⟨fun h=>⟨rfl,?_⟩,fun h=>?_,fun h=>⟨rfl,?_⟩,fun h=>?_⟩
   ·cases V with
    | nil=>cases h
    | cons=>simp
   ·simpa using h
   ·cases F with
    | nil=>cases h
    | cons=>simp
   ·simpa using h
  obtain ⟨d0,d1⟩:=MS a0 _ _ V.length F.length (by omega) n ⟨V,F,true⟩ s hI hn
  show call G Ω0 E0 13 _ _=_
  apply eK G13
  ·apply aj (by simp;rfl)
   apply aj (by simp;rfl)
   apply aj
   ·apply aj (by simp;rfl)
    apply lN
    rw [dF]
    exact a1
   show run G Ω0 _ (.kp _ _ UF) z1=_
   rw [jE,a2]
   apply aj
   ·apply aj (by simp [Fk];rfl)
    apply lN
    rw [dF]
    exact b1
   show run G Ω0 _ (.kp _ _ UE) z2=_
   rw [jE,b2]
   apply aj
   ·apply aj (ahb a0 V F)
    apply lN
    rw [dF]
    show fL _ _ _ _ ((uL _ _ _ _ _ _).aN [1,2,3,6] [1,2,3,1045000,1045001])=_
    rw [show ∀ bV bF nV nF s,(uL a0 bV bF nV nF s).aN [1,2,3,6] [1,2,3,1045000,1045001]=uL a0 bV bF nV nF s from fun bV bF _ _ _=>by cases bV<;>cases bF<;>rfl]
    exact d1
   apply aj (ajq a0 _ _ _ _ s d0)
   exact ef _ _
  ·simp [UG]
  ·rfl
 ·cases h
end Go.Proofs.YtkkkkondjclcnaaGreat.A
