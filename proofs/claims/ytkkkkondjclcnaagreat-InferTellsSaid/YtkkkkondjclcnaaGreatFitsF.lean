/- infer.Fits as a plain function. -/
import Derived.Test.YtkkkkondjclcnaaGreatRawF
import Derived.Test.YtkkkkondjclcnaaGreatFI
import Derived.Test.YtkkkkondjclcnaaGreatInfP
set_option linter.all false
set_option maxRecDepth 100000
namespace Go.Proofs.YtkkkkondjclcnaaGreat.A
open Go
variable [Lp]
attribute [local simp] gp execOp okB ja er iG tX mg jt iZ St.end_ St.jZ List.filter
noncomputable def yP(p:Program)(l:aM)(ok:Bool)(f:cY):Option Bool:=
 if ok=true then (eI f.To).bind fun j=>
  if f.Func=true then (l.Funcs[j]?).bind fun q=>fG f.Level q
  else (p.Vars[j]?).bind fun v=>if v.Known=true then some true else (l.Vars[j]?).bind fun q=>fG f.Level q
 else some false
noncomputable def D2(p:Program)(l:aM):List cY→Bool→Option Bool
 | [],ok=>some ok
 | f::r,ok=>(yP p l ok f).bind fun b=>D2 p l r b
noncomputable def uw(p:Program)(l:aM)(a:Nat)(st:Stmt)(pl:Level)(ok:Bool):Option Bool:=(oV p l.Vars st pl).bind fun fs=>if fs.length≤2000 then D2 p l fs ok else none
noncomputable def D3(p:Program)(l:aM):List Var→Nat→Bool→Option Bool
 | [],_,ok=>some ok
 | v::r,i,ok=>(if ok=true then (if v.Known=true then (l.Vars[i]?).bind fun q=>(jD p.ah v.Label).bind fun o=>qW q o else some true) else some false).bind fun b=>D3 p l r (i+1) b
noncomputable def iP(p:Program)(l:aM):Option (Bool×Int):=
 (my p l).bind fun e=>if (e !=0)=true then some (false,e) else if p.Vars.length≤1000 then (D3 p l p.Vars 0 true).bind fun ok=>
  (yv p (fun _=>l.Vars) (fun _=>l.Funcs) (uw p l) ok).bind fun r=>some (r.2,0) else none
abbrev Bm(l:aM):List AV:=[.l 45 (l.Vars.map aq),.l 45 (l.Funcs.map aq)]
abbrev yQ(p:Program)(l:aM):List AV:=[.p ⟨0,10⟩ 0,.p ⟨0,7⟩ 0,.e (.a (Bm l)) 0,.e (.a (ar p)) 0]
structure xH(p:Program)(l:aM)(a:Nat)(ok:Bool)(H:HP):Prop where
 h7:H ⟨0,7⟩=some [.b ok]
 h10:H ⟨0,10⟩=some [.p ⟨0,48⟩ 0]
 hw:H ⟨0,48⟩=some (mc p (.l 45 (l.Vars.map aq)) (.l 45 (l.Funcs.map aq)) (.f 41 (yQ p l)) a [])
def nA(p:Program)(l:aM)(fs:List cY)(k:Nat)(H:HP):St:=⟨[(4,.p ⟨0,7⟩ 0),(5,.e (.a (Bm l)) 0),(6,.e (.a (ar p)) 0),(15,.l 96 (fs.map en)),(16,I fs.length),(17,I k)],[],H⟩
set_option maxHeartbeats 8000000 in
theorem Qd(p:Program)(l:aM)(dp:Nat)(hd:0<dp)(H:HP)(ok ok':Bool)(h7:H ⟨0,7⟩=some [.b ok])(fs:List cY)(hl:fs.length≤2000)(k:Nat)(f:cY)(hg:fs[k]? =some f)(hs:yP p l ok f=some ok') :
  run G Ω0 ⟨dp,false⟩ K1 (nA p l fs k H)=some (.nrm,nA p l fs (k+1) (aG H ⟨0,7⟩ [.b ok'])):=by
 have hlt:k<fs.length:=(db.1 hg).1
 have hk:((k:Int)<(fs.length:Int)):=by omega
 have hwr:=fq k (by omega)
 have e1:¬0=dp:=by omega
 apply aj (by simp [nA,hk];rfl)
 apply aj
 ·apply cL (by simp [hk])
  exact bB _ _
 apply dz
 apply aj
 ·apply eE
  apply aj (by simp [hg,en];rfl)
  apply aj (by simp;rfl)
  refine (?_:run G Ω0 _ _ _=some (.nrm,nA p l fs k (aG H ⟨0,7⟩ [.b ok'])))
  unfold yP at hs
  cases hf:f.Func with
  | true=>
   apply cL (by simp [hf])
   cases ok with
   | false=>
    rw [ab (by simp)] at hs
    obtain rfl:=ad hs
    apply dO 6
    ·rfl
    ·simp
    ·simp [e1,h7]
     rfl
    ·simp [e1,h7]
     rfl
    ·simp [nA]
   | true=>
    rw [aa rfl] at hs
    obtain ⟨j,hj,hs⟩:=af.1 hs
    have hj:=mj hj
    rw [aa hf] at hs
    obtain ⟨q,hq,hs⟩:=af.1 hs
    have hA:=bM (E:=⟨dp,false⟩) (lR f.Level q ok' hs) (by simp) (by simp)
    apply dO 6
    ·rfl
    ·simp
    ·simp [e1,h7]
     rfl
    ·simp [-aS,e1,h7,hj,hq,aq,hA]
     rfl
    ·simp [nA]
  | false=>
   apply bQ (by simp [hf])
   cases ok with
   | false=>
    rw [ab (by simp)] at hs
    obtain rfl:=ad hs
    apply dO 10
    ·rfl
    ·simp
    ·simp [e1,h7]
     rfl
    ·simp [e1,h7]
     rfl
    ·simp [nA]
   | true=>
    rw [aa rfl] at hs
    obtain ⟨j,hj,hs⟩:=af.1 hs
    have hj:=mj hj
    rw [ab (by simp [hf])] at hs
    obtain ⟨v,hv,hs⟩:=af.1 hs
    cases hkn:v.Known with
    | true=>
     rw [aa hkn] at hs
     obtain rfl:=ad hs
     apply dO 10
     ·rfl
     ·simp
     ·simp [e1,h7,hj,hv,cn,hkn]
      rfl
     ·simp [e1,h7]
      rfl
     ·simp [nA]
    | false=>
     rw [ab (by simp [hkn])] at hs
     obtain ⟨q,hq,hs⟩:=af.1 hs
     have hA:=bM (E:=⟨dp,false⟩) (lR f.Level q ok' hs) (by simp) (by simp)
     apply dO 10
     ·rfl
     ·simp
     ·simp [e1,h7,hj,hv,cn,hkn]
      rfl
     ·simp [-aS,e1,h7,hj,hq,aq,hA]
      rfl
     ·simp [nA]
 simp [nA,hwr]
theorem Fp(p:Program)(l:aM)(ok':Bool)(dp:Nat)(hd:0<dp)(fs:List cY)(hl:fs.length≤2000):∀ (rest:List cY)(k:Nat)(ok:Bool)(H:HP),fs.drop k=rest→H ⟨0,7⟩=some [.b ok]→D2 p l rest ok=some ok'→
  ∃ z,fL G Ω0 ⟨dp,false⟩ UY (nA p l fs k H)=some (.ex 0,z)∧z.hp ⟨0,7⟩=some [.b ok']∧∀ k:Key,k≠⟨0,7⟩→z.hp k=H k
 | [],k,ok,H,hd2,h7,hs=>by
  have hk:¬((k:Int)<(fs.length:Int)):=by
   have:=eo.1 hd2;omega
  obtain rfl:=ad hs
  have hz2:∃ z,run G Ω0 ⟨dp,false⟩ K1 (nA p l fs k H)=some (.ex 0,z)∧z.hp=H:=by
   apply Exists.intro
   apply And.intro
   ·apply aj (by simp [nA,hk];rfl)
    apply ig
    apply bQ (by simp [hk])
    exact du _ _ _
   ·rfl
  obtain ⟨z,h1,rfl⟩:=hz2
  exact ⟨z,cT h1 (by simp),h7,fun _ _=>rfl⟩
 | f::rest,k,ok,H,hd2,h7,hs=>by
  obtain ⟨b,h1,h2⟩:=af.1 hs
  have hg:fs[k]? =some f:=by
   have:=ak (fun l=>l[0]?) hd2
   simpa using this
  have hd3:fs.drop (k+1)=rest:=by
   have:=ak List.tail hd2
   simpa using this
  have r1:=Qd p l dp hd H ok b h7 fs hl k f hg h1
  obtain ⟨z,q1,q2,q3⟩:=Fp p l ok' dp hd fs hl rest (k+1) b (aG H ⟨0,7⟩ [.b b]) hd3 (lI ..) h2
  refine ⟨z,?_,q2,fun k hk=>(q3 k hk).trans (nH hk)⟩
  rw [cP]
  exact q1
  show (run G Ω0 _ K1 (nA p l fs k H)).bind _=_
  rw [r1];rfl
theorem xH.ext{p:Program}{l:aM}{a:Nat}{ok:Bool}{H H':HP}(r:xH p l a ok H)(h:∀ k:Key,k.dp=0→H' k=H k):xH p l a ok H':=
 ⟨(h _ rfl).trans r.h7,(h _ rfl).trans r.h10,(h _ rfl).trans r.hw⟩
set_option maxHeartbeats 8000000 in
theorem Sf(p:Program)(l:aM){a:Nat}{st:Stmt}{pl:Level}{ok ok':Bool}{dp:Nat}{H:HP}(h:uw p l a st pl ok=some ok')(hA:st.Args.length≤1000)(hd:0<dp)(hz:cM dp H)(r:xH p l a ok H) :
  ∃ H',call G Ω0 ⟨dp,false⟩ 41 (I (a:Nat)::.a (bC st)::.a (aJ pl)::yQ p l) H=some (.ret (.tp []),H')∧xH p l a ok' H'∧∀ k:Key,k.dp≠0→H' k=H k:=by
 obtain ⟨fs,h1,h2⟩:=af.1 h
 split at h2
 ·rename_i hl
  have e1:¬0=dp:=by omega
  have r7:=r.h10
  have hc:=Hx (dp+1) (fun k=>if k.dp=dp then (if 8=k.d then some (bC st) else if 9=k.d then some (aJ pl) else none) else H k) ⟨0,48⟩ (by show 0<dp+1;omega) p (.l 45 (l.Vars.map aq)) (.l 45 (l.Funcs.map aq)) (.f 41 (yQ p l)) a [] l.Vars (by simp only [ab (show ¬(0:Nat)=dp by omega)];exact r.hw) (.l _ _) st pl fs hA h1
  have hb:(fun k:Key=>if k.dp<dp then (if k.dp=dp then (if 8=k.d then some (bC st) else if 9=k.d then some (aJ pl) else none) else H k) else none)=H:=by
   funext q
   by_cases hq:q.dp<dp
   ·rw [aa hq,ab (by omega)]
   ·rw [ab hq,hz q hq]
  obtain ⟨z,z1,z2,z3⟩:=Fp p l ok' dp hd fs hl fs 0 ok H rfl r.h7 h2
  refine ⟨z.hp,?_,⟨z2,(z3 _ (by decide)).trans r.h10,(z3 _ (by decide)).trans r.hw⟩,fun k hk=>z3 k fun e=>hk (by rw [e])⟩
  apply Ha G41
  ·apply aj (by simp [e1];rfl)
   refine aj (st1:=nA p l fs 0 H) ?_ ?_
   ·simp [nA,e1,r7,dq,AV.kT,hc,St.back,gD,hb]
   apply lN
   rw [dF]
   exact z1
  ·rfl
  ·rfl
 ·cases h2
theorem acb(p:Program)(l:aM):uo p (fun _=>l.Vars) (fun _=>l.Funcs) (uw p l) ⟨0,48⟩ (.l 45 (l.Vars.map aq)) (.l 45 (l.Funcs.map aq)) 41 (yQ p l) (xH p l) where
 kw0:=rfl
 ic:=rfl
 copy:=by simp
 copy':=by simp
 box r:=⟨[],r.hw⟩
 vx r:=.l _ _
 fy r:=.l _ _
 ext r h:=r.ext h
 bump r h h1 hw:=⟨(h _ (by decide) rfl).trans r.h7,(h _ (by decide) rfl).trans r.h10,hw.trans (by rw [r.hw] at h1;injection (ad h1) with _ e;injection e with _ e;injection e with _ e;injection e with _ e;injection e with _ e;injection e with _ e;injection e with _ e;injection e with _ e;injection e with _ e;injection e with _ e;injection e with _ e;injection e with _ e;rw [←e])⟩
 call h hA hd hz r:=Sf p l h hA hd hz r
def sQ(p:Program)(l:aM)(k:Nat)(ok:Bool):St:=⟨[(2,.p ⟨0,2⟩ 0),(3,.p ⟨0,3⟩ 0),(7,.p ⟨0,7⟩ 0),(18,.l 83 (p.Vars.map cn)),(19,I p.Vars.length),(20,I k)],[(2,ar p),(3,Bm l),(7,[.b ok])],H0⟩
set_option maxHeartbeats 8000000 in
theorem Qe(p:Program)(l:aM)(hl:p.Vars.length≤1000)(k:Nat)(ok ok':Bool)(v:Var)(hg:p.Vars[k]? =some v)(hs:(if ok=true then (if v.Known=true then (l.Vars[k]?).bind fun q=>(jD p.ah v.Label).bind fun o=>qW q o else some true) else some false)=some ok') :
  run G Ω0 E0 Pb (sQ p l k ok)=some (.nrm,sQ p l (k+1) ok'):=by
 have hlt:k<p.Vars.length:=(db.1 hg).1
 have hk:((k:Int)<(p.Vars.length:Int)):=by omega
 have hwr:=fq k (by omega)
 apply aj (by simp [sQ,hk];rfl)
 apply aj
 ·apply cL (by simp [hk])
  exact bB _ _
 apply dz
 apply aj
 ·apply eE
  apply aj (by simp [hg,cn];rfl)
  refine (?_:run G Ω0 _ _ _=some (.nrm,sQ p l k ok'))
  cases ok with
  | false=>
   rw [ab (by simp)] at hs
   obtain rfl:=ad hs
   apply dO 10
   ·rfl
   ·simp
   ·simp
    rfl
   ·simp
    rfl
   ·simp [sQ]
  | true=>
   rw [aa rfl] at hs
   cases hkn:v.Known with
   | false=>
    rw [ab (by simp [hkn])] at hs
    obtain rfl:=ad hs
    apply dO 10
    ·rfl
    ·simp
    ·simp [hkn]
     rfl
    ·simp
     rfl
    ·simp [sQ]
   | true=>
    rw [aa hkn] at hs
    obtain ⟨q,hq,hs⟩:=af.1 hs
    obtain ⟨o,ho,hs⟩:=af.1 hs
    have hA:=bM (E:=E0) (wN p.ah v.Label o ho) (by simp) (by simp)
    have hB:=bM (E:=E0) (H8 q o ok' hs) (by simp) (by simp)
    apply dO 10
    ·rfl
    ·simp
    ·simp [hkn,hq,aq]
     rfl
    ·simp [-aS,hq,aq,hA,hB]
     rfl
    ·simp [sQ]
 simp [sQ,hwr]
theorem Kg(p:Program)(l:aM)(hl:p.Vars.length≤1000)(ok':Bool):∀ (rest:List Var)(k:Nat)(ok:Bool),p.Vars.drop k=rest→D3 p l rest k ok=some ok'→
  ∃ z,fL G Ω0 E0 Xv (sQ p l k ok)=some (.ex 0,z)∧z.aN [2,3,7] [2,3,7]=⟨[(2,.p ⟨0,2⟩ 0),(3,.p ⟨0,3⟩ 0),(7,.p ⟨0,7⟩ 0)],[(2,ar p),(3,Bm l),(7,[.b ok'])],H0⟩
 | [],k,ok,hd,h=>by
  obtain rfl:=ad h
  have hk:¬((k:Int)<(p.Vars.length:Int)):=by
   have:=eo.1 hd;omega
  apply Exists.intro
  apply And.intro
  ·refine cT (r:=(.ex 0,?_)) ?_ (by simp)
   rotate_left
   ·show run G Ω0 _ Pb (sQ p l k ok)=_
    apply aj (by simp [sQ,hk];rfl)
    apply ig
    apply bQ (by simp [hk])
    exact du _ _ _
  ·simp
 | v::rest,k,ok,hd,h=>by
  obtain ⟨b,hb,h⟩:=af.1 h
  have hg:p.Vars[k]? =some v:=by
   have:=ak (fun l=>l[0]?) hd
   simpa using this
  have hd2:p.Vars.drop (k+1)=rest:=by
   have:=ak List.tail hd
   simpa using this
  obtain ⟨z,h1,h2⟩:=Kg p l hl ok' rest (k+1) b hd2 h
  refine ⟨z,?_,h2⟩
  rw [cP]
  exact h1
  show (run G Ω0 _ Pb (sQ p l k ok)).bind _=_
  rw [Qe p l hl k ok b v hg hb];rfl
abbrev M0(a0:Program)(a1:aM)(r:Bool×Int):Prop:=call G Ω0 E0 8 [.a (ar a0),.a (Bm a1)] H0=some (.ret (.tp [.b r.1,I r.2]),H0)
set_option maxHeartbeats 8000000 in
theorem H9(a0:Program)(a1:aM)(r:Bool×Int)(h:iP a0 a1=some r):M0 a0 a1 r:=by
 unfold iP at h
 obtain ⟨e,he,h⟩:=af.1 h
 have hR:=bM (E:=E0) (yO a0 a1 e he) (by simp) (by simp)
 show call G Ω0 E0 8 _ _=_
 by_cases h0:(e !=0)=true
 ·rw [aa h0] at h
  obtain rfl:=ad h
  apply eK G8
  ·apply aj (by simp;rfl)
   apply BM
   apply aj (by simp [-aS,hR];rfl)
   apply aj (by simp [h0];rfl)
   apply cL (by simp)
   apply aj (by simp;rfl)
   exact ef _ _
  ·simp [c8]
  ·rfl
 ·rw [ab h0] at h
  split at h
  ·rename_i hl
   obtain ⟨ok,hok,h⟩:=af.1 h
   obtain ⟨⟨a',ok'⟩,hgo,h⟩:=af.1 h
   obtain rfl:=ad h
   obtain ⟨z1,v1,v2⟩:=Kg a0 a1 hl ok a0.Vars 0 true rfl hok
   have low:cM 1 (fun k:Key=>if k.dp=0 then (if 7=k.d then some [AV.b ok] else if 10=k.d then some [AV.p ⟨0,48⟩ 0] else if 48=k.d then some (mc a0 (.l 45 (a1.Vars.map aq)) (.l 45 (a1.Funcs.map aq)) (.f 41 (yQ a0 a1)) ((0:Nat):Int) []) else none) else none):=fun k hk=>by
    simp only [ab (show ¬k.dp=0 by omega)]
   obtain ⟨H',c1,r,c3,c4⟩:=A4 (acb a0 a1) (dp:=1) (a:=0) (by decide) low ⟨rfl,rfl,rfl⟩ hgo
   have g7:=r.h7
   have g10:=r.h10
   have g48:=r.hw
   simp at c1
   apply eK G8
   ·apply aj (by simp;rfl)
    apply aj
    ·apply aj (by simp [-aS,hR];rfl)
     apply aj (by simp;rfl)
     apply bQ (by simpa using h0)
     exact bB _ _
    apply dz
    apply aj (by simp;rfl)
    apply aj
    ·apply aj (by simp;rfl)
     apply lN
     rw [dF]
     exact v1
    show run G Ω0 _ (.kp _ _ Xw) z1=_
    rw [jE,v2]
    apply aj (by simp;rfl)
    apply aj (by simp;rfl)
    apply aj (by simp [dq,AV.kT,c1,St.back,gD,g7,g10,g48];rfl)
    apply aj (by simp;rfl)
    exact ef _ _
   ·simp [c8]
   ·rfl
  ·cases h
variable [Lp]
section
variable {p:Program}(h:oS p)(ho:Dy p){l:aM}(hR:dx p l.Vars l.Funcs)
include h hR
theorem Qf{f:cY}(hf:qJ p f)(ok:Bool):∃ b,yP p l ok f=some b∧(b=true↔ok=true∧o9 p (MM p) l.Vars l.Funcs f):=by
 obtain ⟨h1,h2,h3⟩:=hf
 unfold yP o9
 cases ok with
 | false=>exact ⟨false,rfl,by simp⟩
 | true=>
  rw [aa rfl,dP h2,ae]
  cases hfn:f.Func with
  | true=>
   rw [hfn,aa rfl] at h3
   have hi:f.To.toNat<l.Funcs.length:=by rw [hR.fl];exact h3
   have ht:=aA hi
   generalize l.Funcs[f.To.toNat]=t at ht
   rw [aa rfl,ht,ae,tP h.small h1 (qL hR.fs ht)]
   refine ⟨_,rfl,?_⟩
   simp only [an,true_and]
   exact ⟨fun hu t' ht'=>by cases ht';exact hu,fun hu=>hu t rfl⟩
  | false=>
   rw [hfn,ab (by simp)] at h3
   have hv:=aA h3
   generalize p.Vars[f.To.toNat]=v at hv
   rw [ab (by simp),hv,ae]
   cases hk:v.Known with
   | true=>
    refine ⟨true,by rw [aa rfl],?_⟩
    simp only [true_and,bn,aI,true_iff]
    intro v' t hv' hk'
    cases hv';rw [hk] at hk';cases hk'
   | false=>
    have hi:f.To.toNat<l.Vars.length:=by rw [hR.vl];exact h3
    have ht:=aA hi
    generalize l.Vars[f.To.toNat]=t at ht
    rw [ab (by simp),ht,ae,tP h.small h1 (qL hR.vs ht)]
    refine ⟨_,rfl,?_⟩
    simp only [true_and,bn,aI]
    exact ⟨fun hu v' t' _ _ ht'=>by cases ht';exact hu,fun hu=>hu v t rfl hk rfl⟩
theorem M1:∀ (fs:List cY)(ok:Bool),(∀ f∈fs,qJ p f)→∃ b,D2 p l fs ok=some b∧(b=true↔ok=true∧∀ f∈fs,o9 p (MM p) l.Vars l.Funcs f)
 | [],ok,_=>⟨ok,rfl,by simp⟩
 | f::r,ok,hf=>by
  obtain ⟨b,b1,b2⟩:=Qf h hR (hf f (by simp)) ok
  obtain ⟨c,c1,c2⟩:=M1 r b fun x hx=>hf x (by simp [hx])
  refine ⟨c,by rw [D2,b1,ae,c1],?_⟩
  rw [c2,b2]
  simp [tH]
include ho
theorem T9{i:Nat}(hi:i≤p.Funcs.length){st:Stmt}{a:Nat}{pl:Level}{ok:Bool}(hs:bw p i st=0)(hpl:bc (MM p) pl) :
  ∃ b,uw p l a st pl ok=some b∧(b=true↔ok=true∧asks p l.Vars l.Funcs st pl):=by
 obtain ⟨_,r,r',a1,a2,a3,a4,a5⟩:=tn h ho hi hR hR (yw _ _) hpl hpl (le_refl _ _) hs
 obtain ⟨b,b1,b2⟩:=M1 h hR r ok a4
 refine ⟨b,by unfold uw;rw [a1,ae,aa (by omega),b1],?_⟩
 rw [b2]
 exact vK fun _=>⟨fun hh fs hfs=>by rw [a1] at hfs;cases hfs;exact hh,fun hh=>hh r a1⟩
mutual
theorem WX{i:Nat}(hi:i≤p.Funcs.length):∀ (st:Stmt)(a:Nat)(pl:Level)(ok:Bool),uk (bw p i) st=0→oQ st≤50→a+oQ st≤1000→bc (MM p) pl→
  ∃ b,Ew p (fun _=>l.Vars) (uw p l) st a pl ok=some (a+oQ st,b)∧(b=true↔ok=true∧Ap (MM p) l.Vars (asks p l.Vars l.Funcs) st pl)
 | ⟨k,v,o,e,args,th,el⟩,a,pl,ok,he,hc,ha,hpl=>by
  obtain ⟨e1,e2,e3⟩:=BR he
  have hlen:=(tn h ho hi hR hR (yw _ _) hpl hpl (le_refl _ _) e1).1
  have hcnt:=yn ⟨k,v,o,e,args,th,el⟩
  have l1:=fA th
  have l2:=fA el
  simp only at hlen hcnt e2 e3
  obtain ⟨b,t1,t2⟩:=T9 h ho hR hi (a:=a) (ok:=ok) e1 hpl
  rw [F3,aa ⟨by omega,by simp only;omega,by simp only;omega,by simp only;omega⟩,t1,ae,EE]
  by_cases h7:7≤k
  ·rw [aa h7]
   have hex:=(AY e1).2.2.2.2.1 (by simp only [eu];exact av ⟨by omega,by omega⟩)
   simp only at hex
   have hq:=of_eq h hR hex hpl
   have hsz:=dU (MM p) pl (jU (MM p) l.Vars e)
   simp only
   rw [hq,ae]
   obtain ⟨u,u1,u2⟩:=Bn hi th (a+1) _ b e2 (by omega) (by omega) hsz
   obtain ⟨w,w1,w2⟩:=Bn hi el (a+1+bb th) _ u e3 (by omega) (by omega) hsz
   rw [u1,ae,w1]
   refine ⟨w,by rw [hcnt];congr 2;omega,?_⟩
   rw [w2,u2,t2]
   exact ⟨fun ⟨⟨⟨q1,q2⟩,q3⟩,q4⟩=>⟨q1,q2,fun _=>⟨q3,q4⟩⟩,fun ⟨q1,q2,q3⟩=>⟨⟨⟨q1,q2⟩,(q3 h7).1⟩,(q3 h7).2⟩⟩
  ·rw [ab h7]
   have hk0:k<7:=by omega
   have z:th.length=0∧el.length=0:=by
    unfold bw at e1
    split at e1
    ·exact absurd e1 (by decide)
    split at e1
    ·exact absurd e1 (by decide)
    split at e1
    ·exact absurd e1 (by decide)
    ·rename_i h3
     simp only at h3
     constructor
     ·rcases qa th.length with hz | hz
      ·exact hz
      ·exact absurd (.inr (.inr (.inr (.inr (.inl ⟨hk0,hz⟩))))) h3
     ·rcases qa el.length with hz | hz
      ·exact hz
      ·exact absurd (.inr (.inr (.inr (.inr (.inr ⟨by omega,hz⟩))))) h3
   have z1:th=[]:=qg.1 z.1
   have z2:el=[]:=qg.1 z.2
   subst z1 z2
   refine ⟨b,by rw [hcnt];simp [bb],?_⟩
   rw [t2]
   exact vK fun _=>⟨fun q=>⟨q,fun hh=>absurd hh h7⟩,fun q=>q.1⟩
theorem Bn{i:Nat}(hi:i≤p.Funcs.length):∀ (L:List Stmt)(a:Nat)(pl:Level)(ok:Bool),cZ (bw p i) L=0→bb L≤50→a+bb L≤1000→bc (MM p) pl→
  ∃ b,k9 p (fun _=>l.Vars) (uw p l) L a pl ok=some (a+bb L,b)∧(b=true↔ok=true∧nh (MM p) l.Vars (asks p l.Vars l.Funcs) L pl)
 | [],a,pl,ok,he,hc,ha,hpl=>⟨ok,by rw [k9,bb];rfl,by rw [nh];simp⟩
 | x::r,a,pl,ok,he,hc,ha,hpl=>by
  rw [bb] at hc ha
  have he1:=yr he x (by simp)
  have he2:cZ (bw p i) r=0:=by
   rw [cZ,ab (by simp [he1])] at he;exact he
  obtain ⟨t,t1,t2⟩:=WX hi x a pl ok he1 (by omega) (by omega) hpl
  obtain ⟨u,u1,u2⟩:=Bn hi r (a+oQ x) pl t he2 (by omega) (by omega) hpl
  refine ⟨u,by rw [k9,t1,ae,u1,bb];congr 2;omega,?_⟩
  rw [u2,t2,nh,tH]
end
theorem OP:∀ (rest:List Func)(i a:Nat)(ok:Bool),p.Funcs.drop i=rest→eh rest≤50→a+eh rest≤1000→
  ∃ b,xx p (fun _=>l.Vars) (fun _=>l.Funcs) (uw p l) rest i a ok=some (a+eh rest,b)∧(b=true↔ok=true∧BW (MM p) l.Vars (asks p l.Vars l.Funcs) l.Funcs rest i)
 | [],i,a,ok,hd,hs,ha=>⟨ok,rfl,by simp [BW]⟩
 | f::rest,i,a,ok,hd,hs,ha=>by
  obtain ⟨hg,hd2,hi,hfn⟩:=EF h ho hd
  obtain ⟨_,_,f3,_⟩:=Eu hfn
  have hsum:eh (f::rest)=bb f.Body+eh rest:=by simp [eh]
  rw [hsum] at hs ha
  have hl:=fA f.Body
  have hiF:i<l.Funcs.length:=by rw [hR.fl];exact hi
  have hq:=aA hiF
  rw [xx,aa (by omega),hq,ae]
  obtain ⟨t,t1,t2⟩:=Bn h ho hR (by omega) f.Body a _ ok f3 (by omega) (by omega) (hR.fs _ (bY hiF))
  obtain ⟨u,u1,u2⟩:=OP rest (i+1) (a+bb f.Body) t hd2 (by omega) (by omega)
  refine ⟨u,by rw [t1,ae,u1,hsum];congr 2;omega,?_⟩
  rw [u2,t2,tH]
  exact vK fun _=>⟨fun ⟨q1,q2⟩=>⟨fun q hq'=>by rw [hq] at hq';cases hq';exact q1,q2⟩,fun ⟨q1,q2⟩=>⟨q1 _ hq,q2⟩⟩
theorem WY(ok:Bool):∃ a b,yv p (fun _=>l.Vars) (fun _=>l.Funcs) (uw p l) ok=some (a,b)∧(b=true↔ok=true∧qK (MM p) l.Vars (asks p l.Vars l.Funcs) p l.Funcs):=by
 have hsum:=ho.sum
 have hf:=ho.funcs
 have hm:=ho.main
 have hl:=fA p.Main
 obtain ⟨t,t1,t2⟩:=OP h ho hR p.Funcs 0 0 ok rfl (show eh p.Funcs≤50 by unfold eh;omega) (show 0+eh p.Funcs≤1000 by unfold eh;omega)
 obtain ⟨u,u1,u2⟩:=Bn h ho hR (aT _) p.Main (0+eh p.Funcs) (ij (MM p)) t ho.mains (by omega) (by unfold eh;omega) (lk _)
 refine ⟨_,u,by unfold yv;rw [aa (by omega),t1,ae,wg h,ae,u1],?_⟩
 rw [u2,t2,tH];rfl
theorem OQ:∀ (rest:List Var)(i:Nat)(ok:Bool),p.Vars.drop i=rest→∃ b,D3 p l rest i ok=some b∧(b=true↔ok=true∧∀ (j:Nat)(v:Var)(q:Level),i≤j→p.Vars[j]? =some v→v.Known=true→l.Vars[j]? =some q→eX (MM p) q (cw p.ah v.Label)∧eX (MM p) (cw p.ah v.Label) q)
 | [],i,ok,hd=>⟨ok,rfl,by
  have:=eo.1 hd
  refine ⟨fun hh=>⟨hh,fun j v q hj hv=>?_⟩,fun hh=>hh.1⟩
  rw [vJ (by omega)] at hv;cases hv⟩
 | v::rest,i,ok,hd=>by
  have hg:p.Vars[i]? =some v:=by
   have:=ak (fun l=>l[0]?) hd
   simpa using this
  have hd2:p.Vars.drop (i+1)=rest:=by
   have:=ak List.tail hd
   simpa using this
  have hi:=(db.1 hg).1
  have hiV:i<l.Vars.length:=by rw [hR.vl];exact hi
  have hq:=aA hiV
  generalize l.Vars[i]=q at hq
  have one:∃ b,(if ok=true then (if v.Known=true then (l.Vars[i]?).bind fun q=>(jD p.ah v.Label).bind fun o=>qW q o else some true) else some false)=some b∧(b=true↔ok=true∧(v.Known=true→eX (MM p) q (cw p.ah v.Label)∧eX (MM p) (cw p.ah v.Label) q)):=by
   cases ok with
   | false=>exact ⟨false,by simp,by simp⟩
   | true=>
    cases hk:v.Known with
    | false=>exact ⟨true,by simp,by simp⟩
    | true=>
     have hlab:=h.vars v (aP hg)
     have s1:=qL hR.vs hq
     have s2:=sB p.ah v.Label
     refine ⟨jS (MM p) q (cw p.ah v.Label)&&jS (MM p) (cw p.ah v.Label) q,?_,by simp⟩
     rw [aa rfl,aa rfl,hq,ae,PW p.ah h.dK _ hlab,ae]
     unfold qW
     rw [tP h.small s1 s2,tP h.small s2 s1,ae]
     cases jS (MM p) q (cw p.ah v.Label)<;>simp
  obtain ⟨b,b1,b2⟩:=one
  obtain ⟨c,c1,c2⟩:=OQ rest (i+1) b hd2
  refine ⟨c,by rw [D3,b1,ae,c1],?_⟩
  rw [c2,b2,tH]
  refine vK fun _=>⟨fun ⟨q1,q2⟩ j w r hj hw hkw hr=>?_,fun q1=>⟨fun hk=>q1 i v q (aT _) hg hk hq,fun j w r hj hw hkw hr=>q1 j w r (by omega) hw hkw hr⟩⟩
  rcases Nat.lt_or_eq_of_le hj with hlt | rfl
  ·exact q2 j w r (by omega) hw hkw hr
  ·rw [hg] at hw;cases hw;rw [hq] at hr;cases hr;exact q1 hkw
end
def Fit(p:Program)(l:aM):Prop:=(∀ (j:Nat)(v:Var)(q:Level),p.Vars[j]? =some v→v.Known=true→l.Vars[j]? =some q→eX (MM p) q (cw p.ah v.Label)∧eX (MM p) (cw p.ah v.Label) q)∧qK (MM p) l.Vars (asks p l.Vars l.Funcs) p l.Funcs
theorem Gh{p:Program}(hp:∀ f∈p.Funcs,f.Params.length≤9223372036854775807)(l:aM):∃ e,my p l=some e∧(dh p≠0→e=dh p)∧(dh p=0→(e=0↔dx p l.Vars l.Funcs)∧(e=0∨e=1)):=by
 unfold my
 rw [Mt hp,ae]
 by_cases hc:dh p=0
 ·have h:=we hc
  have ho:=mZ hc
  have hv16:=ho.vars
  have hf5:=ho.funcs
  rw [ab (by simp [hc])]
  have any:∀ L:List Level,L.length≤1000→dV L p=some (L.any fun x=>!gO p.ah x):=fun L hL=>
   sZ (fun y=>pE y p) _ L (by omega) (fun y _=>by simp [pE,Wx])
  have sz:∀ L:List Level,(L.any fun x=>!gO p.ah x)=false↔∀ x∈L,bc (MM p) x:=fun L=>by
   rw [zy]
   refine forall_congr' fun x=>forall_congr' fun hx=>?_
   have hm:=Ev h.dK
   unfold gO bc MM
   simp only [gu,Bool.not_eq_false,cE]
   omega
  have hj:oF p l=some (decide (¬(l.Vars.length=p.Vars.length∧l.Funcs.length=p.Funcs.length))||(l.Vars.any fun x=>!gO p.ah x)||(l.Funcs.any fun x=>!gO p.ah x)):=by
   unfold oF
   by_cases h1:l.Vars.length=p.Vars.length
   ·rw [ab (by simp [h1])]
    by_cases h2:l.Funcs.length=p.Funcs.length
    ·rw [ab (by simp [h2]),any _ (by omega),any _ (by omega),ae,ae]
     cases (l.Vars.any fun x=>!gO p.ah x)<;>simp [h1,h2]
    ·rw [aa (by simp;omega)];simp [h2]
   ·rw [aa (by simp;omega)];simp [h1]
  rw [hj,ae]
  have key:(decide (¬(l.Vars.length=p.Vars.length∧l.Funcs.length=p.Funcs.length))||(l.Vars.any fun x=>!gO p.ah x)||(l.Funcs.any fun x=>!gO p.ah x))=false↔dx p l.Vars l.Funcs:=by
   rw [zx,zx,sz,sz,zt,vH]
   exact ⟨fun ⟨⟨⟨a,b⟩,c⟩,d⟩=>⟨a,b,c,d⟩,fun r=>⟨⟨⟨r.vl,r.fl⟩,r.vs⟩,r.fs⟩⟩
  generalize (decide (¬(l.Vars.length=p.Vars.length∧l.Funcs.length=p.Funcs.length))||(l.Vars.any fun x=>!gO p.ah x)||(l.Funcs.any fun x=>!gO p.ah x))=z at key
  cases z with
  | true=>exact ⟨1,by rw [aa rfl],fun hn=>absurd hc hn,fun _=>⟨⟨fun h1=>absurd h1 (by decide),fun r=>by simpa using key.2 r⟩,.inr rfl⟩⟩
  | false=>exact ⟨0,by rw [ab (by simp)],fun hn=>absurd hc hn,fun _=>⟨⟨fun _=>key.1 rfl,fun _=>rfl⟩,.inl rfl⟩⟩
 ·rw [aa (by simpa using hc)]
  exact ⟨_,rfl,fun _=>rfl,fun h0=>absurd h0 hc⟩
theorem WZ{p:Program}(hp:∀ f∈p.Funcs,f.Params.length≤9223372036854775807)(hc:dh p=0)(l:aM):∃ b e,iP p l=some (b,e)∧(e=0↔dx p l.Vars l.Funcs)∧(e=0→(b=true↔Fit p l)):=by
 obtain ⟨e,e1,_,e2⟩:=Gh hp l
 have h:=we hc
 have ho:=mZ hc
 have hv16:=ho.vars
 unfold iP
 rw [e1,ae]
 by_cases h0:e=0
 ·rw [ab (by simp [h0]),aa (by omega)]
  have hR:=(e2 hc).1.1 h0
  obtain ⟨a,a1,a2⟩:=OQ h ho hR p.Vars 0 true rfl
  obtain ⟨x,b,b1,b2⟩:=WY h ho hR a
  rw [a1,ae,b1,ae]
  refine ⟨b,0,rfl,⟨fun _=>hR,fun _=>rfl⟩,fun _=>?_⟩
  rw [b2,a2]
  exact ⟨fun ⟨⟨_,q1⟩,q2⟩=>⟨fun j v q=>q1 j v q (b9 _),q2⟩,fun ⟨q1,q2⟩=>⟨⟨rfl,fun j v q _=>q1 j v q⟩,q2⟩⟩
 ·rw [aa (by simpa using h0)]
  exact ⟨false,e,rfl,(e2 hc).1,fun hh=>absurd hh h0⟩
theorem Ua{p:Program}(hp:∀ f∈p.Funcs,f.Params.length≤9223372036854775807)(hc:dh p≠0)(l:aM):iP p l=some (false,dh p):=by
 obtain ⟨e,e1,e2,_⟩:=Gh hp l
 unfold iP
 rw [e1,ae,e2 hc,aa (by simpa using hc)]
end Go.Proofs.YtkkkkondjclcnaaGreat.A
