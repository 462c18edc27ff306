/- The reference's InferOf as a plain function. -/
import Derived.Test.YtkkkkondjclcnaaGreatPlacF
set_option linter.all false
set_option maxRecDepth 100000
namespace Go.Proofs.YtkkkkondjclcnaaGreat.A
open Go
variable [Lp]
attribute [local simp] gp execOp okB jK eG jf uE lV jR iK St.end_ St.k9 List.filter j6
noncomputable def A3(p:Program)(s:bW)(a:fR):Option bW:=
 if 0≤a.To then (ed a.To).bind fun j=>(p.Vars[j]?).bind fun v=>if v.Known=true then some s else (s.V[j]?).bind fun t=>(lD a.L t).bind fun b=>if b=true then some s else (dm t a.L).bind fun u=>some ⟨s.V.set j u,s.F,true⟩
 else (ed (-1 - a.To)).bind fun j=>(s.F[j]?).bind fun t=>(lD a.L t).bind fun b=>if b=true then some s else (dm t a.L).bind fun u=>some ⟨s.V,s.F.set j u,true⟩
noncomputable def A4(p:Program):List fR→bW→Option bW
 | [],s=>some s
 | a::r,s=>(A3 p s a).bind fun t=>A4 p r t
noncomputable def Ep(p:Program):List bS→bW→Option bW
 | [],s=>some s
 | x::r,s=>(vC p ⟨s.V,s.F⟩ x).bind fun l=>if l.length≤1000000 then (A4 p l s).bind fun t=>Ep p r t else none
noncomputable def yv(p:Program)(s:bW):Option (bW⊕bW):=if s.ch=true then (oc p ⟨s.V,s.F⟩).bind fun all=>if all.length≤1000000 then (Ep p all ⟨s.V,s.F,false⟩).bind fun r=>some (.inl r) else none else some (.inr s)
noncomputable def A5(p:Program):List Var→List Level→Option (List Level)
 | [],o=>some o
 | v::r,o=>(if v.Known=true then jP p.aj v.Label else fN p.aj).bind fun x=>A5 p r (o++[x])
noncomputable def yw(p:Program):List Func→List Level→Option (List Level)
 | [],o=>some o
 | _::r,o=>(fN p.aj).bind fun b=>yw p r (o++[b])
noncomputable def nD(p:Program):Option gm:=
 if p.Vars.length≤1000∧p.Funcs.length≤1000 then (A5 p p.Vars []).bind fun V=>(yw p p.Funcs []).bind fun F=>(lp (yv p) ⟨V,F,true⟩).bind fun s=>some ⟨s.V,s.F⟩ else none
abbrev OH(p:Program)(bV bF:Bool)(nV nF:Nat)(s:bW):List (Nat×List AV):=
 (1,ar p)::(2,mw)::(3,[j6 bV kV nV,j6 bF kF nF])::((if bV=true then [(1045000,dA s.V)] else [])++(if bF=true then [(1045001,dA s.F)] else []))
def uK(p:Program)(bV bF:Bool)(nV nF:Nat)(s:bW):St:=⟨[(1,.p ⟨0,1⟩ 0),(2,.p ⟨0,2⟩ 0),(3,.p ⟨0,3⟩ 0),(6,.b s.ch)],OH p bV bF nV nF s,H0⟩
def zJ(p:Program)(bV bF:Bool)(nV nF:Nat)(s:bW)(all:List bS)(i:Nat):St:=⟨[(1,.p ⟨0,1⟩ 0),(2,.p ⟨0,2⟩ 0),(3,.p ⟨0,3⟩ 0),(6,.b s.ch),(7,.l 113 (all.map db)),(8,I i)],OH p bV bF nV nF s,H0⟩
def nH(p:Program)(bV bF:Bool)(nV nF:Nat)(s:bW)(all:List bS)(i:Nat)(l:List fR)(k:Nat):St:=⟨[(1,.p ⟨0,1⟩ 0),(2,.p ⟨0,2⟩ 0),(3,.p ⟨0,3⟩ 0),(6,.b s.ch),(7,.l 113 (all.map db)),(8,I i),(9,.l 115 (l.map dO)),(10,I k)],OH p bV bF nV nF s,H0⟩
section
variable (p:Program)(nV nF:Nat)(s:bW)(all:List bS)(i:Nat)(l:List fR)(k:Nat)(a:fR)
set_option maxHeartbeats 8000000 in
theorem RU(bV bF:Bool)(hk:k≤1000000)(hg:l[k]? =some a)(j:Nat)(hj:a.To=j)(v:Var)(hv:p.Vars[j]? =some v)(hv2:v.Known=true) :
  run G Ω0 E0 zj (nH p bV bF nV nF s all i l k)=some (.nrm,nH p bV bF nV nF s all i l (k+1)):=by
 have hlt:k<l.length:=(dh.1 hg).1
 have hw:=gZ k (by omega)
 cases bV<;>cases bF<;>(
  apply ak
  ·apply ak (by simp [nH,hlt];rfl)
   apply cX (by simp [hlt])
   exact bM _ _
  apply dU
  apply ak
  ·apply ny
   apply ak (by simp [hg,dO];rfl)
   apply iQ
   apply ak (by simp [hj,hv,cJ];rfl)
   apply cX (by simp [hv2])
   exact dN _ _ _
  simp [nH,hw])
set_option maxHeartbeats 16000000 in
theorem WX(bF:Bool)(hn:s.V.length=nV)(hk:k≤1000000)(hg:l[k]? =some a)(j:Nat)(hj:a.To=j)(v:Var)(hv:p.Vars[j]? =some v)(hv2:v.Known=false)(t:Level)(ht:s.V[j]? =some t)(b:Bool)(hb:lD a.L t=some b)(u:Level)(hu:b=false→dm t a.L=some u) :
  run G Ω0 E0 zj (nH p true bF nV nF s all i l k)=some (.nrm,nH p true bF nV nF (if b=true then s else ⟨s.V.set j u,s.F,true⟩) all i l (k+1)):=by
 have hlt:k<l.length:=(dh.1 hg).1
 have hw:=gZ k (by omega)
 obtain ⟨f1,f2⟩:=wi ht
 have f3:j<s.V.length:=(dh.1 ht).1
 have f4:=BF (u:=u) f3
 rw [hn] at f3
 have hA:=cw (E:=E0) (A0 a.L t b hb) (by simp) (by simp)
 cases b with
 | true=>
  cases bF<;>(
   apply ak
   ·apply ak (by simp [nH,hlt];rfl)
    apply cX (by simp [hlt])
    exact bM _ _
   apply dU
   apply ak
   ·apply eY
    apply ak (by simp [hg,dO];rfl)
    apply ak
    ·apply ak (by simp [hj,hv,cJ];rfl)
     apply cg (by simp [hv2])
     exact bM _ _
    apply dU
    apply ak
    ·apply ak
     ·apply eZ 13
      ·rfl
      ·simp
      ·simp [hj,hg,dO,f1,f2,f3]
       rfl
      ·simp [-aU,hA]
       rfl
      ·simp
       rfl
     apply cg (by simp)
     exact bM _ _
    apply dU
    apply ak
    ·apply eZ 14
     ·rfl
     ·simp
     ·simp [hj]
      rfl
     ·simp
      rfl
     ·simp
      rfl
    apply cg (by simp)
    exact bM _ _
   simp [nH,hw])
 | false=>
  have hB:=cw (E:=E0) (iX t a.L u (hu rfl)) (by simp) (by simp)
  cases bF<;>(
   apply ak
   ·apply ak (by simp [nH,hlt];rfl)
    apply cX (by simp [hlt])
    exact bM _ _
   apply dU
   apply ak
   ·apply eY
    apply ak (by simp [hg,dO];rfl)
    apply ak
    ·apply ak (by simp [hj,hv,cJ];rfl)
     apply cg (by simp [hv2])
     exact bM _ _
    apply dU
    apply ak
    ·apply ak
     ·apply eZ 13
      ·rfl
      ·simp
      ·simp [hj,hg,dO,f1,f2,f3]
       rfl
      ·simp [-aU,hA]
       rfl
      ·simp
       rfl
     apply cX (by simp)
     apply ak
     ·apply eZ 13
      ·rfl
      ·simp
      ·simp [hj,hg,dO,f1,f2,f3]
       rfl
      ·simp [-aU,hB,hj,f1,f2,f3]
       rfl
      ·simp [f4]
       rfl
     simp
     rfl
    apply dU
    apply ak
    ·apply eZ 14
     ·rfl
     ·simp
     ·simp [hj]
      rfl
     ·simp
      rfl
     ·simp
      rfl
    apply cg (by simp)
    exact bM _ _
   simp [nH,hw]
   exact f4)
set_option maxHeartbeats 16000000 in
theorem WY(bV:Bool)(hn:s.F.length=nF)(hnF:nF≤1000000)(hk:k≤1000000)(hg:l[k]? =some a)(j:Nat)(q:Int)(hj:a.To=q)(hq : -1 - q=(j:Int))(t:Level)(ht:s.F[j]? =some t)(b:Bool)(hb:lD a.L t=some b)(u:Level)(hu:b=false→dm t a.L=some u) :
  run G Ω0 E0 zj (nH p bV true nV nF s all i l k)=some (.nrm,nH p bV true nV nF (if b=true then s else ⟨s.V,s.F.set j u,true⟩) all i l (k+1)):=by
 have hlt:k<l.length:=(dh.1 hg).1
 have hw:=gZ k (by omega)
 obtain ⟨f1,f2⟩:=wi ht
 have f3:j<s.F.length:=(dh.1 ht).1
 have f4:=BF (u:=u) f3
 rw [hn] at f3
 have wj:IntKind.i64.wrap (-1 - q)=j:=(an _ hq).trans (wrapN j (by omega))
 have wj2:IntKind.i64.wrap (j:Int)=j:=wrapN j (by omega)
 have ng:¬(0:Int)≤q:=by omega
 have ng2:q<0:=by omega
 have hA:=cw (E:=E0) (A0 a.L t b hb) (by simp) (by simp)
 cases b with
 | true=>
  cases bV<;>(
   apply ak
   ·apply ak (by simp [nH,hlt];rfl)
    apply cX (by simp [hlt])
    exact bM _ _
   apply dU
   apply ak
   ·apply eY
    apply ak (by simp [hg,dO];rfl)
    apply ak
    ·apply ak (by simp [hj,ng];rfl)
     apply cg (by simp)
     exact bM _ _
    apply dU
    apply ak
    ·apply ak
     ·apply eZ 13
      ·rfl
      ·simp
      ·simp [hj,ng]
       rfl
      ·simp
       rfl
      ·simp
       rfl
     apply cg (by simp)
     exact bM _ _
    apply dU
    apply ak
    ·apply eZ 14
     ·rfl
     ·simp
     ·simp [hj,hg,dO,f1,f2,f3,wj,wj2,ng2]
      rfl
     ·simp [-aU,hA]
      rfl
     ·simp
      rfl
    apply cg (by simp)
    exact bM _ _
   simp [nH,hw])
 | false=>
  have hB:=cw (E:=E0) (iX t a.L u (hu rfl)) (by simp) (by simp)
  cases bV<;>(
   apply ak
   ·apply ak (by simp [nH,hlt];rfl)
    apply cX (by simp [hlt])
    exact bM _ _
   apply dU
   apply ak
   ·apply eY
    apply ak (by simp [hg,dO];rfl)
    apply ak
    ·apply ak (by simp [hj,ng];rfl)
     apply cg (by simp)
     exact bM _ _
    apply dU
    apply ak
    ·apply ak
     ·apply eZ 13
      ·rfl
      ·simp
      ·simp [hj,ng]
       rfl
      ·simp
       rfl
      ·simp
       rfl
     apply cg (by simp)
     exact bM _ _
    apply dU
    apply ak
    ·apply eZ 14
     ·rfl
     ·simp
     ·simp [hj,hg,dO,f1,f2,f3,wj,wj2,ng2]
      rfl
     ·simp [-aU,hA]
      rfl
     ·simp
      rfl
    apply cX (by simp)
    apply ak
    ·apply eZ 15
     ·rfl
     ·simp
     ·simp [hj,hg,dO,f1,f2,f3,wj,wj2]
      rfl
     ·simp [-aU,hB,hj,f1,f2,f3,wj,wj2]
      rfl
     ·simp
      rfl
    simp
    rfl
   simp [nH,hw]
   exact f4)
end
variable [Lp]
attribute [local simp] gp execOp okB jK eG jf uE lV jR iK St.end_ St.k9 List.filter j6
theorem MG(ts:List TypeId)(k:IntKind)(n:Int):(AV.i k n).off ts=true:=by simp only [AV.off]
theorem RW(dp:Nat)(st:St)(cs:List AV):st.iD dp (.a cs)=if AV.bk cs=true then some (.a cs,[]) else (st.oW dp cs).bind fun r=>some (.a r.1,r.2):=rfl
section
variable {ts:List TypeId}(h:∀ t∈ts,t=45)
include h
theorem acx{x:TypeId}(hx:x≠45):¬x∈ts:=fun hm=>hx (h x hm)
theorem jD{x:TypeId}(hx:x≠45)(h0:x≠0){es:List AV}(he:AV.k7 ts es=true):(AV.l x es).off ts=true:=by
 have:=acx h hx
 simp [AV.off,he,h0,this]
mutual
theorem acy:∀ e:az,(aQ e).off ts=true
 | ⟨k,n,args⟩=>by
  rw [dI]
  simp only [AV.off,AV.k7,jr,tA]
  have:=jD h (x:=37) (by decide) (by decide) (xD args)
  simpa only [AV.off] using this
theorem xD:∀ l:List az,AV.k7 ts (l.map aQ)=true
 | []=>rfl
 | e::r=>by rw [bZ,AV.k7,acy e,xD r];rfl
end
mutual
theorem acz:∀ s:Stmt,(aV s).off ts=true
 | ⟨k,v,o,e,args,th,el⟩=>by
  rw [ij]
  have h1:=jD h (x:=37) (by decide) (by decide) (xD h e.Args)
  have h2:=jD h (x:=37) (by decide) (by decide) (xD h args)
  have h3:=jD h (x:=92) (by decide) (by decide) (A6 th)
  have h4:=jD h (x:=92) (by decide) (by decide) (A6 el)
  show AV.k7 ts _=true
  simp only [AV.k7,h1,h2,h3,h4,MG,jr,tA]
theorem A6:∀ l:List Stmt,AV.k7 ts (l.map aV)=true
 | []=>rfl
 | e::r=>by rw [bZ,AV.k7,acz e,A6 r];rfl
end
theorem P0(l:List bS):(AV.l 113 (l.map db)).off ts=true:=by
 refine jD h (by decide) (by decide) (D7 (fun x=>?_) l)
 have h1:=jD h (x:=37) (by decide) (by decide) (xD h x.S.Expr.Args)
 have h2:=jD h (x:=37) (by decide) (by decide) (xD h x.S.Args)
 have h3:=jD h (x:=92) (by decide) (by decide) (A6 h x.S.Then)
 have h4:=jD h (x:=92) (by decide) (by decide) (A6 h x.S.Else)
 have h5:=jD h (x:=4) (by decide) (by decide) (xP ts x.Place.Readers)
 have h6:=jD h (x:=4) (by decide) (by decide) (xP ts x.Place.Writers)
 show AV.k7 ts _=true
 simp only [AV.k7,h1,h2,h3,h4,h5,h6,MG,jr,tA]
theorem RX(l:List fR):(AV.l 115 (l.map dO)).off ts=true:=by
 refine jD h (by decide) (by decide) (D7 (fun x=>?_) l)
 have h5:=jD h (x:=4) (by decide) (by decide) (xP ts x.L.Readers)
 have h6:=jD h (x:=4) (by decide) (by decide) (xP ts x.L.Writers)
 show AV.k7 ts _=true
 simp only [AV.k7,h5,h6,MG,jr,tA]
end
theorem MH(st:St)(b:Bool)(k:Key)(n:Nat)(V:List Level)(hk:k=kV∨k=kF)(h1:b=true→V.length=n)(h0:b=false→V=[])(hb:b=true→st.box 0 k=some (dA V)) :
  ∃ t ts,st.D3 0 (j6 b k n)=some (.l t (V.map aT),ts)∧∀ x∈ts,x=45:=by
 cases b with
 | false=>
  obtain rfl:=h0 rfl
  exact ⟨_,[],rfl,by simp⟩
 | true=>
  obtain rfl:=h1 rfl
  have hkd:1000000≤k.d∧(k.d - 1000000) / 1000=45:=by rcases hk with rfl | rfl<;>decide
  refine ⟨0,[45],?_,by simp⟩
  show st.nQ 0 k 0 V.length 2=_
  unfold St.nQ
  simp only [hb rfl,af,tC,nC,hkd.2]
  rw [ab]
  simp [hkd.1,tN,om,kz]
section
variable {p:Program}{bV bF:Bool}{nV nF:Nat}{s:bW}
theorem WZ(hI:eS bV bF nV nF s)(st:St)(h1:bV=true→st.box 0 kV=some (dA s.V))(h2:bF=true→st.box 0 kF=some (dA s.F)) :
  ∃ t1 t2 ts,st.iD 0 (.a [j6 bV kV nV,j6 bF kF nF])=some (.a (DL s.V s.F t1 t2),ts)∧∀ x∈ts,x=45:=by
 obtain ⟨t1,a1,q1,w1⟩:=MH st bV kV nV s.V (.inl rfl) (fun h=>(hI.v1 h).1) hI.v0 h1
 obtain ⟨t2,a2,q2,w2⟩:=MH st bF kF nF s.F (.inr rfl) (fun h=>(hI.f1 h).1) hI.f0 h2
 have hC:st.oW 0 [j6 bV kV nV,j6 bF kF nF]=some (DL s.V s.F t1 t2,a1++(a2++[])):=by
  simp only [St.oW,q1,q2,af]
 cases bV with
 | false=>
  cases bF with
  | false=>
   have e1:=hI.v0 rfl
   have e2:=hI.f0 rfl
   refine ⟨45,45,[],?_,by simp⟩
   rw [e1,e2]
   rfl
  | true=>
   refine ⟨t1,t2,a1++(a2++[]),?_,fun x hx=>?_⟩
   ·rw [RW,ad (by simp [AV.bk,AV.pure]),hC];rfl
   ·simp only [qg] at hx
    rcases bU.1 hx with hx | hx
    ·exact w1 x hx
    ·exact w2 x hx
 | true=>
  refine ⟨t1,t2,a1++(a2++[]),?_,fun x hx=>?_⟩
  ·rw [RW,ad (by simp [AV.bk,AV.pure]),hC];rfl
  ·simp only [qg] at hx
   rcases bU.1 hx with hx | hx
   ·exact w1 x hx
   ·exact w2 x hx
theorem OI(hI:eS bV bF nV nF s){f:FuncId}{rest:List AV}{r:AV}(hc:∀ t1 t2,call G Ω0 E0 f (.a (ar p)::.a (DL s.V s.F t1 t2)::rest) H0=some (.ret r,H0))(hp:AV.bk rest=true)(hr:r.pure=true)(ho:∀ ts:List TypeId,(∀ t∈ts,t=45)→r.off ts=true)
  (st:St) (h1:bV=true→st.box 0 kV=some (dA s.V)) (h2:bF=true→st.box 0 kF=some (dA s.F)) :
  aU (call G Ω0) Ω0 E0 st 0 f (.a (ar p)::.a [j6 bV kV nV,j6 bF kF nF]::rest)=some (r,st):=by
 obtain ⟨t1,t2,ts,q,w⟩:=WZ hI st h1 h2
 have hP:(.a (ar p):AV).pure=true:=by simp [AV.pure,AV.bk]
 unfold aU
 simp only [St.ew,vX _ _ hP,q,xL _ _ hp,af]
 have h4:call G Ω0 ⟨0,false⟩ f (.a (ar p)::.a (DL s.V s.F t1 t2)::rest) (fun _=>none)=some (.ret r,fun _=>none):=hc t1 t2
 rw [h4]
 simp only [af,hr,jr,ea,qg,ho ts w,vK,aq]
theorem RY(all:List bS)(i:Nat)(l:List fR)(k:Nat)(a:fR)(s1:bW)(hI:eS bV bF nV nF s)(hnF:nF≤1000000)(hl:l.length≤1000000)(hg:l[k]? =some a)(h:A3 p s a=some s1) :
  run G Ω0 E0 zj (nH p bV bF nV nF s all i l k)=some (.nrm,nH p bV bF nV nF s1 all i l (k+1))∧eS bV bF nV nF s1:=by
 have hlt:k<l.length:=(dh.1 hg).1
 unfold A3 at h
 by_cases h0:0≤a.To
 ·rw [ab h0] at h
  obtain ⟨j,hj,h⟩:=ah.1 h
  obtain ⟨v,hv,h⟩:=ah.1 h
  have hj:=pb hj
  by_cases hk:v.Known=true
  ·rw [ab hk] at h
   obtain rfl:=aa h
   exact ⟨RU p nV nF s all i l k a bV bF (by omega) hg j hj v hv hk,hI⟩
  ·rw [ad hk] at h
   obtain ⟨t,ht,h⟩:=ah.1 h
   obtain ⟨b,hb,h⟩:=ah.1 h
   have hbV:bV=true:=by
    cases hbv:bV with
    | true=>rfl
    | false=>rw [hI.v0 hbv] at ht;simp at ht
   subst hbV
   have hu:∃ u,(b=false→dm t a.L=some u)∧s1=if b=true then s else ⟨s.V.set j u,s.F,true⟩:=by
    cases b with
    | true=>exact ⟨t,fun h=>(by cases h),(aa h).symm⟩
    | false=>
     obtain ⟨u,hu,h⟩:=ah.1 h
     exact ⟨u,fun _=>hu,(aa h).symm⟩
   obtain ⟨u,hu,rfl⟩:=hu
   refine ⟨WX p nV nF s all i l k a bF (hI.v1 rfl).1 (by omega) hg j hj v hv (by simpa using hk) t ht b hb u hu,?_⟩
   split
   ·exact hI
   ·exact ⟨fun _=>⟨by rw [tG];exact (hI.v1 rfl).1,(hI.v1 rfl).2⟩,fun h=>(by cases h),hI.f1,hI.f0⟩
 ·rw [ad h0] at h
  obtain ⟨j,hj,h⟩:=ah.1 h
  have hj:=pb hj
  obtain ⟨t,ht,h⟩:=ah.1 h
  obtain ⟨b,hb,h⟩:=ah.1 h
  have hbF:bF=true:=by
   cases hbv:bF with
   | true=>rfl
   | false=>rw [hI.f0 hbv] at ht;simp at ht
  subst hbF
  have hu:∃ u,(b=false→dm t a.L=some u)∧s1=if b=true then s else ⟨s.V,s.F.set j u,true⟩:=by
   cases b with
   | true=>exact ⟨t,fun h=>(by cases h),(aa h).symm⟩
   | false=>
    obtain ⟨u,hu,h⟩:=ah.1 h
    exact ⟨u,fun _=>hu,(aa h).symm⟩
  obtain ⟨u,hu,rfl⟩:=hu
  refine ⟨WY p nV nF s all i l k a bV (hI.f1 rfl).1 hnF (by omega) hg j a.To rfl hj t ht b hb u hu,?_⟩
  split
  ·exact hI
  ·exact ⟨hI.v1,hI.v0,fun _=>⟨by rw [tG];exact (hI.f1 rfl).1,(hI.f1 rfl).2⟩,fun h=>(by cases h)⟩
end
section
variable (p:Program)(bV bF:Bool)(nV nF:Nat)
def Ji(s:bW)(all:List bS)(i:Nat)(l:List fR):St:=⟨[(1,.p ⟨0,1⟩ 0),(2,.p ⟨0,2⟩ 0),(3,.p ⟨0,3⟩ 0),(6,.b s.ch),(7,.l 113 (all.map db)),(8,I i),(9,.l 115 (l.map dO)),(10,I l.length),(82,.b false)],OH p bV bF nV nF s,H0⟩
def Jj(s:bW)(all:List bS):St:=⟨[(1,.p ⟨0,1⟩ 0),(2,.p ⟨0,2⟩ 0),(3,.p ⟨0,3⟩ 0),(6,.b s.ch),(7,.l 113 (all.map db)),(8,I all.length),(69,.b false)],OH p bV bF nV nF s,H0⟩
def Ab(s:bW):St:=⟨[(1,.p ⟨0,1⟩ 0),(2,.p ⟨0,2⟩ 0),(3,.p ⟨0,3⟩ 0),(62,.b false)],OH p bV bF nV nF s,H0⟩
set_option maxHeartbeats 8000000 in
theorem TW(s:bW)(all:List bS)(i:Nat)(l:List fR):run G Ω0 E0 zj (nH p bV bF nV nF s all i l l.length)=some (.ex 8,Ji p bV bF nV nF s all i l):=by
 apply iQ
 refine ak (st1:=Ji p bV bF nV nF s all i l) ?_ ?_
 ·cases bV<;>cases bF<;>simp [nH,Ji]
 apply cg (by simp [Ji])
 exact dN _ _ _
theorem E1(all:List bS)(i:Nat)(l:List fR)(hnF:nF≤1000000)(hl:l.length≤1000000)(s':bW):∀ (rest:List fR)(k:Nat)(s:bW),l.drop k=rest→k≤l.length→eS bV bF nV nF s→A4 p rest s=some s'→
  eS bV bF nV nF s'∧gY G Ω0 E0 Uz (nH p bV bF nV nF s all i l k)=some (.ex 8,Ji p bV bF nV nF s' all i l)
 | [],k,s,hd,hkl,hI,h=>by
  have hk:k=l.length:=by
   have:=eW.1 hd;omega
  subst hk
  obtain rfl:=aa h
  refine ⟨hI,di ?_ (by simp)⟩
  have hkeep:(nH p bV bF nV nF s all i l l.length).aP [1,2,3,6,7,8,9,10] [1,2,3,1045000,1045001]=nH p bV bF nV nF s all i l l.length:=by
   cases bV<;>cases bF<;>rfl
  show run G Ω0 _ zj ((nH p bV bF nV nF s all i l l.length).aP [1,2,3,6,7,8,9,10] [1,2,3,1045000,1045001])=_
  rw [hkeep]
  exact TW p bV bF nV nF s all i l
 | a::rest,k,s,hd,hkl,hI,h=>by
  obtain ⟨s1,h1,h2⟩:=ah.1 h
  have hlt:k<l.length:=by
   have h1:=an List.length hd
   simp only [gy,bu] at h1
   omega
  have hg:l[k]? =some a:=by
   have:=an (fun l=>l[0]?) hd
   simpa using this
  have hd2:l.drop (k+1)=rest:=by
   have:=an List.tail hd
   simpa using this
  obtain ⟨r1,r2⟩:=RY all i l k a s1 hI hnF hl hg h1
  obtain ⟨q1,q2⟩:=E1 all i l hnF hl s' rest (k+1) s1 hd2 (by omega) r2 h2
  refine ⟨q1,?_⟩
  rw [c8 (st1:=nH p bV bF nV nF s1 all i l (k+1))]
  ·exact q2
  ·have hkeep:(nH p bV bF nV nF s all i l k).aP [1,2,3,6,7,8,9,10] [1,2,3,1045000,1045001]=nH p bV bF nV nF s all i l k:=by
    cases bV<;>cases bF<;>rfl
   show (run G Ω0 _ zj ((nH p bV bF nV nF s all i l k).aP [1,2,3,6,7,8,9,10] [1,2,3,1045000,1045001])).bind _=_
   rw [hkeep,r1]
   refine an some ?_
   cases bV<;>cases bF<;>rfl
set_option maxHeartbeats 16000000 in
theorem RZ(s s1:bW)(all:List bS)(ha:all.length≤1000000)(i:Nat)(x:bS)(hg:all[i]? =some x)(l:List fR)(hI:eS bV bF nV nF s)(hnF:nF≤1000000)(hl:l.length≤1000000)(hA:vC p ⟨s.V,s.F⟩ x=some l)(h:A4 p l s=some s1) :
  run G Ω0 E0 Gw (zJ p bV bF nV nF s all i)=some (.nrm,zJ p bV bF nV nF s1 all (i+1))∧eS bV bF nV nF s1:=by
 have hlt:i<all.length:=(dh.1 hg).1
 have hw:=gZ i (by omega)
 obtain ⟨q1,q2⟩:=E1 p bV bF nV nF all i l hnF hl s1 l 0 s rfl (ct _) hI h
 refine ⟨?_,q1⟩
 have hX:=OI (p:=p) (rest:=[.a (Al x)]) hI (fun t1 t2=>HH p s.V s.F t1 t2 x l hA) (by simp [AV.bk,AV.pure]) (by simp [AV.pure]) (fun ts h=>RX h l)
 clear q1 hA h
 cases bV<;>cases bF<;>(
  simp only [j6,aq,aM,bB,reduceIte,forall_const,false_implies,true_implies] at hX
  apply ak
  ·apply ak (by simp [zJ,hlt];rfl)
   apply cX (by simp [hlt])
   exact bM _ _
  apply dU
  apply ak
  ·apply eY
   apply ak
   ·apply eZ 6
    ·rfl
    ·simp
    ·simp [hg,db]
     rfl
    ·simp [-aU,hX]
     rfl
    ·simp
     rfl
   apply ak (by simp;rfl)
   apply ny
   rw [eg]
   exact q2
  simp [Ji,zJ,hw])
set_option maxHeartbeats 8000000 in
theorem W3(s:bW)(all:List bS):run G Ω0 E0 Gw (zJ p bV bF nV nF s all all.length)=some (.ex 6,Jj p bV bF nV nF s all):=by
 apply iQ
 refine ak (st1:=Jj p bV bF nV nF s all) ?_ ?_
 ·cases bV<;>cases bF<;>simp [zJ,Jj]
 apply cg (by simp [Jj])
 exact dN _ _ _
theorem HI(all:List bS)(ha:all.length≤1000000)(hnF:nF≤1000000)(s':bW):∀ (rest:List bS)(i:Nat)(s:bW),all.drop i=rest→i≤all.length→eS bV bF nV nF s→Ep p rest s=some s'→
  eS bV bF nV nF s'∧gY G Ω0 E0 UA (zJ p bV bF nV nF s all i)=some (.ex 6,Jj p bV bF nV nF s' all)
 | [],i,s,hd,hkl,hI,h=>by
  have hk:i=all.length:=by
   have:=eW.1 hd;omega
  subst hk
  obtain rfl:=aa h
  refine ⟨hI,di ?_ (by simp)⟩
  have hkeep:(zJ p bV bF nV nF s all all.length).aP [1,2,3,6,7,8] [1,2,3,1045000,1045001]=zJ p bV bF nV nF s all all.length:=by
   cases bV<;>cases bF<;>rfl
  show run G Ω0 _ Gw ((zJ p bV bF nV nF s all all.length).aP [1,2,3,6,7,8] [1,2,3,1045000,1045001])=_
  rw [hkeep]
  exact W3 p bV bF nV nF s all
 | x::rest,i,s,hd,hkl,hI,h=>by
  obtain ⟨l,hA,h⟩:=ah.1 h
  have hlt:i<all.length:=by
   have h1:=an List.length hd
   simp only [gy,bu] at h1
   omega
  have hg:all[i]? =some x:=by
   have:=an (fun l=>l[0]?) hd
   simpa using this
  have hd2:all.drop (i+1)=rest:=by
   have:=an List.tail hd
   simpa using this
  split at h
  ·rename_i hl
   obtain ⟨s1,h1,h2⟩:=ah.1 h
   obtain ⟨r1,r2⟩:=RZ p bV bF nV nF s s1 all ha i x hg l hI hnF hl hA h1
   obtain ⟨q1,q2⟩:=HI all ha hnF s' rest (i+1) s1 hd2 (by omega) r2 h2
   refine ⟨q1,?_⟩
   rw [c8 (st1:=zJ p bV bF nV nF s1 all (i+1))]
   ·exact q2
   ·have hkeep:(zJ p bV bF nV nF s all i).aP [1,2,3,6,7,8] [1,2,3,1045000,1045001]=zJ p bV bF nV nF s all i:=by
     cases bV<;>cases bF<;>rfl
    show (run G Ω0 _ Gw ((zJ p bV bF nV nF s all i).aP [1,2,3,6,7,8] [1,2,3,1045000,1045001])).bind _=_
    rw [hkeep,r1]
    refine an some ?_
    cases bV<;>cases bF<;>rfl
  ·cases h
set_option maxHeartbeats 16000000 in
theorem P1(s s1:bW)(hc:s.ch=true)(all:List bS)(ha:all.length≤1000000)(hI:eS bV bF nV nF s)(hnF:nF≤1000000)(hP:oc p ⟨s.V,s.F⟩=some all)(h:Ep p all ⟨s.V,s.F,false⟩=some s1) :
  run G Ω0 E0 Gx (uK p bV bF nV nF s)=some (.nrm,Jj p bV bF nV nF s1 all)∧eS bV bF nV nF s1:=by
 obtain ⟨q1,q2⟩:=HI p bV bF nV nF all ha hnF s1 all 0 ⟨s.V,s.F,false⟩ rfl (ct _) ⟨hI.v1,hI.v0,hI.f1,hI.f0⟩ h
 refine ⟨?_,q1⟩
 have hX:=OI (p:=p) (rest:=[]) hI (fun t1 t2=>FW p s.V s.F t1 t2 all hP) rfl (by simp [AV.pure]) (fun ts h=>P0 h all)
 clear q1 hP h
 cases bV<;>cases bF<;>(
  simp only [j6,aq,aM,bB,reduceIte,forall_const,false_implies,true_implies] at hX
  apply ak
  ·apply ak (by simp [uK];rfl)
   apply cX (by simp [hc])
   exact bM _ _
  apply dU
  apply eY
  apply ak (by simp;rfl)
  apply ak (by simp [-aU,hX];rfl)
  apply ak (by simp;rfl)
  apply ny
  rw [eg]
  exact q2)
set_option maxHeartbeats 8000000 in
theorem TX(s:bW)(hc:s.ch=false):run G Ω0 E0 Gx (uK p bV bF nV nF s)=some (.ex 4,Ab p bV bF nV nF s):=by
 apply iQ
 refine ak (st1:=Ab p bV bF nV nF s) ?_ ?_
 ·cases bV<;>cases bF<;>simp [uK,Ab,hc]
 apply cg (by simp [Ab])
 exact dN _ _ _
theorem MI(hnF:nF≤1000000):∀ (n:Nat)(s s':bW),eS bV bF nV nF s→pA (yv p) n s=some s'→
  eS bV bF nV nF s'∧gY G Ω0 E0 UB (uK p bV bF nV nF s)=some (.ex 4,Ab p bV bF nV nF s')
 | 0,s,s',hI,h=>by cases h
 | n+1,s,s',hI,h=>by
  have hkeep:(uK p bV bF nV nF s).aP [1,2,3,6] [1,2,3,1045000,1045001]=uK p bV bF nV nF s:=by
   cases bV<;>cases bF<;>rfl
  rw [pA] at h
  cases hc:s.ch with
  | true=>
   obtain ⟨y,hy,h⟩:∃ y,yv p s=some y∧(match y with
    | .inl w=>pA (yv p) n w
    | .inr x=>some x)=some s':=by
    cases hy:yv p s with
    | none=>rw [hy] at h;cases h
    | some y=>rw [hy] at h;exact ⟨y,rfl,by cases y<;>exact h⟩
   unfold yv at hy
   rw [ab hc] at hy
   obtain ⟨all,hP,hy⟩:=ah.1 hy
   split at hy
   ·rename_i ha
    obtain ⟨s1,h1,hy⟩:=ah.1 hy
    obtain rfl:=aa hy
    obtain ⟨r1,r2⟩:=P1 p bV bF nV nF s s1 hc all ha hI hnF hP h1
    obtain ⟨q1,q2⟩:=MI hnF n s1 s' r2 h
    refine ⟨q1,?_⟩
    rw [c8 (st1:=uK p bV bF nV nF s1)]
    ·exact q2
    ·show (run G Ω0 _ Gx ((uK p bV bF nV nF s).aP [1,2,3,6] [1,2,3,1045000,1045001])).bind _=_
     rw [hkeep,r1]
     refine an some ?_
     cases bV<;>cases bF<;>rfl
   ·cases hy
  | false=>
   have hR:yv p s=some (.inr s):=by unfold yv;rw [ad (by simp [hc])]
   rw [hR] at h
   obtain rfl:=aa h
   refine ⟨hI,di ?_ (by simp)⟩
   show run G Ω0 _ Gx ((uK p bV bF nV nF s).aP [1,2,3,6] [1,2,3,1045000,1045001])=_
   rw [hkeep]
   exact TX p bV bF nV nF s hc
end
variable [Lp]
attribute [local simp] gp execOp okB jK eG jf uE lV jR iK St.end_ St.k9 List.filter j6
def HJ(p:Program)(k:Nat)(V:List Level):St:=⟨[(1,.p ⟨0,1⟩ 0),(2,.p ⟨0,2⟩ 0),(3,.p ⟨0,3⟩ 0),(4,I k)],[(1,ar p),(2,mw),(3,[.o 45 (V.map aT),.o 45 []])],H0⟩
def HK(p:Program)(k:Nat)(V F:List Level):St:=⟨[(1,.p ⟨0,1⟩ 0),(2,.p ⟨0,2⟩ 0),(3,.p ⟨0,3⟩ 0),(5,I k)],[(1,ar p),(2,mw),(3,[.o 45 (V.map aT),.o 45 (F.map aT)])],H0⟩
def E2(p:Program)(V F:List Level):St:=⟨[(1,.p ⟨0,1⟩ 0),(2,.p ⟨0,2⟩ 0),(3,.p ⟨0,3⟩ 0)],[(1,ar p),(2,mw),(3,[.o 45 (V.map aT),.o 45 (F.map aT)])],H0⟩
set_option maxHeartbeats 8000000 in
theorem NJ(p:Program)(hl:p.Vars.length≤1000)(k:Nat)(V:List Level)(hV:V.length=k)(v:Var)(hg:p.Vars[k]? =some v)(x:Level)(hx:(if v.Known=true then jP p.aj v.Label else fN p.aj)=some x) :
  run G Ω0 E0 KK (HJ p k V)=some (.nrm,HJ p (k+1) (V++[x])):=by
 have hlt:k<p.Vars.length:=(dh.1 hg).1
 have hwr:=gZ k (by omega)
 have hm:k+1≤maxLen:=bQ (show k+1≤1001 by omega) (by decide)
 have hm2:(k+1)*48≤140737488355328:=by omega
 apply ak
 ·apply ak (by simp [HJ,hlt];rfl)
  apply cX (by simp [hlt])
  exact bM _ _
 apply dU
 apply ak
 ·apply eY
  apply ak (by simp [hg,cJ];rfl)
  cases hkn:v.Known with
  | true=>
   rw [ab hkn] at hx
   have hA:=cw (E:=E0) (rO p.aj v.Label x hx) (by simp) (by simp)
   apply cX (by simp [hkn])
   apply eZ 10
   ·rfl
   ·simp
   ·simp [hg,cJ]
    rfl
   ·simp [-aU,hA,hV,hm,hm2]
    rfl
   ·simp
    rfl
  | false=>
   rw [ad (by simp [hkn])] at hx
   have hA:=cw (E:=E0) (m7 p.aj x hx) (by simp) (by simp)
   apply cg (by simp [hkn])
   apply eZ 4
   ·rfl
   ·simp
   ·simp
    rfl
   ·simp [-aU,hA,hV,hm,hm2]
    rfl
   ·simp
 simp [HJ,hwr,aT]
theorem HL(p:Program)(hl:p.Vars.length≤1000):∀ (rest:List Var)(k:Nat)(V V':List Level),p.Vars.drop k=rest→V.length=k→A5 p rest V=some V'→
  ∃ z,gY G Ω0 E0 Ux (HJ p k V)=some (.ex 0,z)∧z.aP [1,2,3] [1,2,3,1045000,1045001]=E2 p V' []
 | [],k,V,V',hd,hV,h=>by
  obtain rfl:=aa h
  have hk:¬(k<p.Vars.length):=by
   have:=eW.1 hd;omega
  apply Exists.intro
  apply And.intro
  ·refine di (r:=(.ex 0,?_)) ?_ (by simp)
   rotate_left
   ·show run G Ω0 _ KK (HJ p k V)=_
    apply iQ
    apply ak (by simp [HJ,hk];rfl)
    apply cg (by simp<;>omega)
    exact dN _ _ _
  ·simp [E2]
 | v::rest,k,V,V',hd,hV,h=>by
  obtain ⟨x,hx,h⟩:=ah.1 h
  have hg:p.Vars[k]? =some v:=by
   have:=an (fun l=>l[0]?) hd
   simpa using this
  have hd2:p.Vars.drop (k+1)=rest:=by
   have:=an List.tail hd
   simpa using this
  obtain ⟨z,q1,q2⟩:=HL p hl rest (k+1) (V++[x]) V' hd2 (by simp [hV]) h
  refine ⟨z,?_,q2⟩
  rw [c8 (st1:=HJ p (k+1) (V++[x]))]
  ·exact q1
  ·show (run G Ω0 _ KK (HJ p k V)).bind _=_
   rw [NJ p hl k V hV v hg x hx];rfl
set_option maxHeartbeats 8000000 in
theorem MJ(p:Program)(hl:p.Funcs.length≤1000)(V:List Level)(k:Nat)(F:List Level)(hV:F.length=k)(hlt:k<p.Funcs.length)(x:Level)(hx:fN p.aj=some x) :
  run G Ω0 E0 KL (HK p k V F)=some (.nrm,HK p (k+1) V (F++[x])):=by
 have hwr:=gZ k (by omega)
 have hm:k+1≤maxLen:=bQ (show k+1≤1001 by omega) (by decide)
 have hm2:(k+1)*48≤140737488355328:=by omega
 have hA:=cw (E:=E0) (m7 p.aj x hx) (by simp) (by simp)
 apply ak
 ·apply ak (by simp [HK,hlt];rfl)
  apply cX (by simp [hlt])
  exact bM _ _
 apply dU
 apply ak
 ·apply eY
  apply eZ 4
  ·rfl
  ·simp
  ·simp
   rfl
  ·simp [-aU,hA,hV,hm,hm2]
   rfl
  ·simp
   rfl
 simp [HK,hwr,aT]
theorem E3(p:Program)(hl:p.Funcs.length≤1000)(V:List Level):∀ (rest:List Func)(k:Nat)(F F':List Level),p.Funcs.drop k=rest→F.length=k→yw p rest F=some F'→
  ∃ z,gY G Ω0 E0 Uy (HK p k V F)=some (.ex 2,z)∧z.aP [1,2,3] [1,2,3,1045000,1045001]=E2 p V F'
 | [],k,F,F',hd,hV,h=>by
  obtain rfl:=aa h
  have hk:¬(k<p.Funcs.length):=by
   have:=eW.1 hd;omega
  apply Exists.intro
  apply And.intro
  ·refine di (r:=(.ex 2,?_)) ?_ (by simp)
   rotate_left
   ·show run G Ω0 _ KL (HK p k V F)=_
    apply iQ
    apply ak (by simp [HK,hk];rfl)
    apply cg (by simp<;>omega)
    exact dN _ _ _
  ·simp [E2]
 | f::rest,k,F,F',hd,hV,h=>by
  obtain ⟨x,hx,h⟩:=ah.1 h
  have hlt:k<p.Funcs.length:=by
   have h1:=an List.length hd
   simp only [gy,bu] at h1
   omega
  have hd2:p.Funcs.drop (k+1)=rest:=by
   have:=an List.tail hd
   simpa using this
  obtain ⟨z,q1,q2⟩:=E3 p hl V rest (k+1) (F++[x]) F' hd2 (by simp [hV]) h
  refine ⟨z,?_,q2⟩
  rw [c8 (st1:=HK p (k+1) V (F++[x]))]
  ·exact q1
  ·show (run G Ω0 _ KL (HK p k V F)).bind _=_
   rw [MJ p hl V k F hV hlt x hx];rfl
set_option maxHeartbeats 8000000 in
theorem ahW(p:Program)(V F:List Level):run G Ω0 E0 (.rg [.pF 3 0 1045000 2,.pF 3 1 1045001 2] [gp 6 (.as (.c (.b true)))] [1,2,3,6] [1,2,3,1045000,1045001]) (E2 p V F)=some (.nrm,uK p (!V.isEmpty) (!F.isEmpty) V.length F.length ⟨V,F,true⟩):=by
 have h1:=zD V
 have h2:=zD F
 have h3:=El V
 have h4:=El F
 simp only [yL] at h3 h4
 by_cases hV:V=[]
 ·subst hV
  by_cases hF:F=[]
  ·subst hF
   simp [E2,uK]
  ·have hF2:F.isEmpty=false:=by simp [hF]
   simp [hF,h2,xh,aT,E2,uK,hF2]
 ·have hV2:V.isEmpty=false:=by simp [hV]
  by_cases hF:F=[]
  ·subst hF
   simp [hV,h1,xh,aT,E2,uK,hV2]
  ·have hF2:F.isEmpty=false:=by simp [hF]
   simp [hV,hF,h1,h2,xh,aT,E2,uK,hV2,hF2]
set_option maxHeartbeats 8000000 in
theorem akc(p:Program)(bV bF:Bool)(nV nF:Nat)(s:bW)(hI:eS bV bF nV nF s) :
  run G Ω0 E0 (.rg [.unp 3 0,.unp 3 1] [gp 165 (.ld (some 2) (.t 3)),⟨none,.st 2 (.t 2) (.t 165),none,false⟩] [2] [2]) (Ab p bV bF nV nF s)=some (.nrm,⟨[(2,.p ⟨0,2⟩ 0)],[(2,[.l 45 (s.V.map aT),.l 45 (s.F.map aT)])],H0⟩):=by
 have c1:=nC s.V
 have c2:=nC s.F
 have p1:=tN s.V
 have p2:=tN s.F
 have l1:=om s.V
 have l2:=om s.F
 cases bV with
 | true=>
  have hV:=(hI.v1 rfl).1
  rw [hV] at c1 l1
  cases bF with
  | true=>
   have hF:=(hI.f1 rfl).1
   rw [hF] at c2 l2
   simp [Ab,p1,p2,l1,l2,c1,c2,rX,j6,kz]
  | false=>
   have hF:=hI.f0 rfl
   simp [Ab,p1,l1,c1,hF,rX,j6,kz]
 | false=>
  have hV:=hI.v0 rfl
  cases bF with
  | true=>
   have hF:=(hI.f1 rfl).1
   rw [hF] at c2 l2
   simp [Ab,p2,l2,c2,hV,rX,j6,kz]
  | false=>
   have hF:=hI.f0 rfl
   simp [Ab,hV,hF,j6]
theorem HM(p:Program):∀ (l:List Func)(o r:List Level),yw p l o=some r→r.length=o.length+l.length
 | [],o,r,h=>by obtain rfl:=aa h;rfl
 | _::l,o,r,h=>by
  obtain ⟨x,_,h⟩:=ah.1 h
  rw [HM p l _ _ h];simp;omega
abbrev NK(a0:Program)(r:gm):Prop:=call G Ω0 E0 13 [.a (ar a0)] H0=some (.ret (.a [.l 45 (r.Vars.map aT),.l 45 (r.Funcs.map aT)]),H0)
set_option maxHeartbeats 8000000 in
theorem Jk(a0:Program)(r:gm)(h:nD a0=some r):NK a0 r:=by
 unfold nD at h
 split at h
 ·rename_i hl
  obtain ⟨V,hV,h⟩:=ah.1 h
  obtain ⟨F,hF,h⟩:=ah.1 h
  obtain ⟨s,hs,h⟩:=ah.1 h
  obtain rfl:=aa h
  obtain ⟨n,hn⟩:=xM hs
  obtain ⟨z1,a1,a2⟩:=HL a0 hl.1 a0.Vars 0 [] V rfl rfl hV
  obtain ⟨z2,b1,b2⟩:=E3 a0 hl.2 V a0.Funcs 0 [] F rfl rfl hF
  have hFl:=HM a0 _ _ _ hF
  simp only [ig,eU] at hFl
  have hI:eS (!V.isEmpty) (!F.isEmpty) V.length F.length ⟨V,F,true⟩:=by
   refine ⟨fun h=>⟨rfl,?_⟩,fun h=>?_,fun h=>⟨rfl,?_⟩,fun h=>?_⟩
   ·cases V with
    | nil=>cases h
    | cons=>simp
   ·simpa using h
   ·cases F with
    | nil=>cases h
    | cons=>simp
   ·simpa using h
  obtain ⟨d0,d1⟩:=MI a0 _ _ V.length F.length (by omega) n ⟨V,F,true⟩ s hI hn
  show call G Ω0 E0 13 _ _=_
  apply fD G13
  ·apply ak (by simp;rfl)
   apply ak (by simp;rfl)
   apply ak
   ·apply ak (by simp;rfl)
    apply ny
    rw [eg]
    exact a1
   show run G Ω0 _ (.kp _ _ UD) z1=_
   rw [kN,a2]
   apply ak
   ·apply ak (by simp [E2];rfl)
    apply ny
    rw [eg]
    exact b1
   show run G Ω0 _ (.kp _ _ UC) z2=_
   rw [kN,b2]
   apply ak
   ·apply ak (ahW a0 V F)
    apply ny
    rw [eg]
    show gY _ _ _ _ ((uK _ _ _ _ _ _).aP [1,2,3,6] [1,2,3,1045000,1045001])=_
    rw [show ∀ bV bF nV nF s,(uK a0 bV bF nV nF s).aP [1,2,3,6] [1,2,3,1045000,1045001]=uK a0 bV bF nV nF s from fun bV bF _ _ _=>by cases bV<;>cases bF<;>rfl]
    exact d1
   apply ak (akc a0 _ _ _ _ s d0)
   exact eE _ _
  ·simp [UE]
  ·rfl
 ·cases h
end Go.Proofs.YtkkkkondjclcnaaGreat.A
