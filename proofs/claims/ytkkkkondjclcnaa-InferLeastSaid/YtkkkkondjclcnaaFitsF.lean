/- infer.Fits as a plain function. -/
import Derived.Test.YtkkkkondjclcnaaRawG
import Derived.Test.YtkkkkondjclcnaaFR
set_option maxRecDepth 100000
set_option linter.unusedSectionVars false
set_option linter.unusedVariables false
set_option linter.unusedSimpArgs false
set_option linter.constructorNameAsVariable false
namespace Go.Proofs.Ytkkkkondjclcnaa.A
open Go
variable [Lp]
attribute [local simp] gp execOp okB oa dR kx uX ka jC fx St.end_ St.nm List.filter
noncomputable def rk(p:Program)(l:aT)(ok:Bool)(f:bJ):Option Bool:=
 if ok=true then (fY f.To).bind fun j=>
  if f.Func=true then (l.Funcs[j]?).bind fun q=>cT f.Level q
  else (p.Vars[j]?).bind fun v=>if v.Known=true then some true else (l.Vars[j]?).bind fun q=>cT f.Level q
 else some false
noncomputable def vC(p:Program)(l:aT):List bJ→Bool→Option Bool
 | [],ok=>some ok
 | f::r,ok=>(rk p l ok f).bind fun b=>vC p l r b
noncomputable def oz(p:Program)(l:aT)(a:Nat)(st:Stmt)(pl:Level)(ok:Bool):Option Bool:=(nY p l.Vars st pl).bind fun fs=>if fs.length≤2000 then vC p l fs ok else none
noncomputable def vD(p:Program)(l:aT):List Var→Nat→Bool→Option Bool
 | [],_,ok=>some ok
 | v::r,i,ok=>(if ok=true then (if v.Known=true then (l.Vars[i]?).bind fun q=>(e7 p.aa v.Label).bind fun o=>lB q o else some true) else some false).bind fun b=>vD p l r (i+1) b
noncomputable def jx(p:Program)(l:aT):Option (Bool×Int):=
 (nD p l).bind fun e=>if (e !=0)=true then some (false,e) else if p.Vars.length≤1000 then (vD p l p.Vars 0 true).bind fun ok=>
  (rj p (fun _=>l.Vars) (fun _=>l.Funcs) (oz p l) ok).bind fun r=>some (r.2,0) else none
abbrev tB(l:aT):List AV:=[.l 44 (l.Vars.map ah),.l 44 (l.Funcs.map ah)]
abbrev rl(p:Program)(l:aT):List AV:=[.p ⟨0,10⟩ 0,.p ⟨0,7⟩ 0,.e (.a (tB l)) 0,.e (.a (an p)) 0]
structure qE(p:Program)(l:aT)(a:Nat)(ok:Bool)(H:HP):Prop where
 h7:H ⟨0,7⟩=some [.b ok]
 h10:H ⟨0,10⟩=some [.p ⟨0,48⟩ 0]
 hw:H ⟨0,48⟩=some (iQ p (.l 44 (l.Vars.map ah)) (.l 44 (l.Funcs.map ah)) (.f 25 (rl p l)) a)
def jd(p:Program)(l:aT)(fs:List bJ)(k:Nat)(H:HP):St:=⟨[(4,.p ⟨0,7⟩ 0),(5,.e (.a (tB l)) 0),(6,.e (.a (an p)) 0),(15,.l 78 (fs.map cC)),(16,I fs.length),(17,I k)],[],H⟩
set_option maxHeartbeats 8000000 in
theorem FN(p:Program)(l:aT)(dp:Nat)(hd:0<dp)(H:HP)(ok ok':Bool)(h7:H ⟨0,7⟩=some [.b ok])(fs:List bJ)(hl:fs.length≤2000)(k:Nat)(f:bJ)(hg:fs[k]? =some f)(hs:rk p l ok f=some ok') :
  run G Ω0 ⟨dp,false⟩ BS (jd p l fs k H)=some (.nrm,jd p l fs (k+1) (aj H ⟨0,7⟩ [.b ok'])):=by
 have hlt:k<fs.length:=(List.getElem?_eq_some_iff.1 hg).1
 have hk:((k:Int)<(fs.length:Int)):=by omega
 have hwr:=og k (by omega)
 have e1:¬0=dp:=by omega
 apply ak (by simp [jd,hk];rfl)
 apply ak
 ·apply eK (by simp [hk])
  exact db _ _
 apply kq
 apply ak
 ·apply nM
  apply ak (by simp [hg,cC];rfl)
  apply ak (by simp;rfl)
  refine (?_:run G Ω0 _ _ _=some (.nrm,jd p l fs k (aj H ⟨0,7⟩ [.b ok'])))
  unfold rk at hs
  cases hf:f.Func with
  | true=>
   apply eK (by simp [hf])
   cases ok with
   | false=>
    rw [if_neg (by simp)] at hs
    obtain rfl:=Option.some.inj hs
    apply lE 6
    ·rfl
    ·simp
    ·simp [e1,h7]
     rfl
    ·simp [e1,h7]
     rfl
    ·simp [jd]
   | true=>
    rw [if_pos rfl] at hs
    obtain ⟨j,hj,hs⟩:=Option.bind_eq_some_iff.1 hs
    have hj:=oP hj
    rw [if_pos hf] at hs
    obtain ⟨q,hq,hs⟩:=Option.bind_eq_some_iff.1 hs
    have hA:=gG (E:=⟨dp,false⟩) (eX f.Level q ok' hs) (by simp) (by simp)
    apply lE 6
    ·rfl
    ·simp
    ·simp [e1,h7]
     rfl
    ·simp [-bE,e1,h7,hj,hq,ah,hA]
     rfl
    ·simp [jd]
  | false=>
   apply dH (by simp [hf])
   cases ok with
   | false=>
    rw [if_neg (by simp)] at hs
    obtain rfl:=Option.some.inj hs
    apply lE 10
    ·rfl
    ·simp
    ·simp [e1,h7]
     rfl
    ·simp [e1,h7]
     rfl
    ·simp [jd]
   | true=>
    rw [if_pos rfl] at hs
    obtain ⟨j,hj,hs⟩:=Option.bind_eq_some_iff.1 hs
    have hj:=oP hj
    rw [if_neg (by simp [hf])] at hs
    obtain ⟨v,hv,hs⟩:=Option.bind_eq_some_iff.1 hs
    cases hkn:v.Known with
    | true=>
     rw [if_pos hkn] at hs
     obtain rfl:=Option.some.inj hs
     apply lE 10
     ·rfl
     ·simp
     ·simp [e1,h7,hj,hv,bB,hkn]
      rfl
     ·simp [e1,h7]
      rfl
     ·simp [jd]
    | false=>
     rw [if_neg (by simp [hkn])] at hs
     obtain ⟨q,hq,hs⟩:=Option.bind_eq_some_iff.1 hs
     have hA:=gG (E:=⟨dp,false⟩) (eX f.Level q ok' hs) (by simp) (by simp)
     apply lE 10
     ·rfl
     ·simp
     ·simp [e1,h7,hj,hv,bB,hkn]
      rfl
     ·simp [-bE,e1,h7,hj,hq,ah,hA]
      rfl
     ·simp [jd]
 simp [jd,hwr]
theorem wV(p:Program)(l:aT)(ok':Bool)(dp:Nat)(hd:0<dp)(fs:List bJ)(hl:fs.length≤2000):∀ (rest:List bJ)(k:Nat)(ok:Bool)(H:HP),fs.drop k=rest→H ⟨0,7⟩=some [.b ok]→vC p l rest ok=some ok'→
  ∃ z,mI G Ω0 ⟨dp,false⟩ IM (jd p l fs k H)=some (.ex 0,z)∧z.hp ⟨0,7⟩=some [.b ok']∧∀ k:Key,k≠⟨0,7⟩→z.hp k=H k
 | [],k,ok,H,hd2,h7,hs=>by
  have hk:¬((k:Int)<(fs.length:Int)):=by
   have:=List.drop_eq_nil_iff.1 hd2;omega
  obtain rfl:=Option.some.inj hs
  have hz2:∃ z,run G Ω0 ⟨dp,false⟩ BS (jd p l fs k H)=some (.ex 0,z)∧z.hp=H:=by
   apply Exists.intro
   apply And.intro
   ·apply ak (by simp [jd,hk];rfl)
    apply oZ
    apply dH (by simp [hk])
    exact gK _ _ _
   ·rfl
  obtain ⟨z,h1,rfl⟩:=hz2
  exact ⟨z,iW h1 (by simp),h7,fun _ _=>rfl⟩
 | f::rest,k,ok,H,hd2,h7,hs=>by
  obtain ⟨b,h1,h2⟩:=Option.bind_eq_some_iff.1 hs
  have hg:fs[k]? =some f:=by
   have:=congrArg (fun l=>l[0]?) hd2
   simpa using this
  have hd3:fs.drop (k+1)=rest:=by
   have:=congrArg List.tail hd2
   simpa using this
  have r1:=FN p l dp hd H ok b h7 fs hl k f hg h1
  obtain ⟨z,q1,q2,q3⟩:=wV p l ok' dp hd fs hl rest (k+1) b (aj H ⟨0,7⟩ [.b b]) hd3 (cY ..) h2
  refine ⟨z,?_,q2,fun k hk=>(q3 k hk).trans (jj hk)⟩
  rw [gq]
  exact q1
  show (run G Ω0 _ BS (jd p l fs k H)).bind _=_
  rw [r1];rfl
theorem qE.ext{p:Program}{l:aT}{a:Nat}{ok:Bool}{H H':HP}(r:qE p l a ok H)(h:∀ k:Key,k.dp=0→H' k=H k):qE p l a ok H':=
 ⟨(h _ rfl).trans r.h7,(h _ rfl).trans r.h10,(h _ rfl).trans r.hw⟩
set_option maxHeartbeats 8000000 in
theorem GN(p:Program)(l:aT){a:Nat}{st:Stmt}{pl:Level}{ok ok':Bool}{dp:Nat}{H:HP}(h:oz p l a st pl ok=some ok')(hA:st.Args.length≤1000)(hd:0<dp)(hz:aS dp H)(r:qE p l a ok H) :
  ∃ H',call G Ω0 ⟨dp,false⟩ 25 (I (a:Nat)::.a (av st)::.a (aB pl)::rl p l) H=some (.ret (.tp []),H')∧qE p l a ok' H'∧∀ k:Key,k.dp≠0→H' k=H k:=by
 obtain ⟨fs,h1,h2⟩:=Option.bind_eq_some_iff.1 h
 split at h2
 ·rename_i hl
  have e1:¬0=dp:=by omega
  have r7:=r.h10
  have hc:=zg (dp+1) (fun k=>if k.dp=dp then (if 8=k.d then some (av st) else if 9=k.d then some (aB pl) else none) else H k) ⟨0,48⟩ (by show 0<dp+1;omega) p (.l 44 (l.Vars.map ah)) (.l 44 (l.Funcs.map ah)) (.f 25 (rl p l)) a l.Vars (by simp only [if_neg (show ¬(0:Nat)=dp by omega)];exact r.hw) (.l _ _) st pl fs hA h1
  have hb:(fun k:Key=>if k.dp<dp then (if k.dp=dp then (if 8=k.d then some (av st) else if 9=k.d then some (aB pl) else none) else H k) else none)=H:=by
   funext q
   by_cases hq:q.dp<dp
   ·rw [if_pos hq,if_neg (by omega)]
   ·rw [if_neg hq,hz q hq]
  obtain ⟨z,z1,z2,z3⟩:=wV p l ok' dp hd fs hl fs 0 ok H rfl r.h7 h2
  refine ⟨z.hp,?_,⟨z2,(z3 _ (by decide)).trans r.h10,(z3 _ (by decide)).trans r.hw⟩,fun k hk=>z3 k fun e=>hk (by rw [e])⟩
  apply zf TC
  ·apply ak (by simp [e1];rfl)
   refine ak (st1:=jd p l fs 0 H) ?_ ?_
   ·simp [jd,e1,r7,cm,AV.iE,hc,St.back,da,hb]
   apply sP
   rw [iw]
   exact z1
  ·rfl
  ·rfl
 ·cases h2
theorem MD(p:Program)(l:aT):oy p (fun _=>l.Vars) (fun _=>l.Funcs) (oz p l) ⟨0,48⟩ (.l 44 (l.Vars.map ah)) (.l 44 (l.Funcs.map ah)) 25 (rl p l) (qE p l) where
 kw0:=rfl
 eI:=rfl
 copy:=by simp
 copy':=by simp
 box r:=r.hw
 vx r:=.l _ _
 fy r:=.l _ _
 ext r h:=r.ext h
 bump r h hw:=⟨(h _ (by decide) rfl).trans r.h7,(h _ (by decide) rfl).trans r.h10,hw⟩
 call h hA hd hz r:=GN p l h hA hd hz r
def nE(p:Program)(l:aT)(k:Nat)(ok:Bool):St:=⟨[(2,.p ⟨0,2⟩ 0),(3,.p ⟨0,3⟩ 0),(7,.p ⟨0,7⟩ 0),(18,.l 67 (p.Vars.map bB)),(19,I p.Vars.length),(20,I k)],[(2,an p),(3,tB l),(7,[.b ok])],H0⟩
set_option maxHeartbeats 8000000 in
theorem FO(p:Program)(l:aT)(hl:p.Vars.length≤1000)(k:Nat)(ok ok':Bool)(v:Var)(hg:p.Vars[k]? =some v)(hs:(if ok=true then (if v.Known=true then (l.Vars[k]?).bind fun q=>(e7 p.aa v.Label).bind fun o=>lB q o else some true) else some false)=some ok') :
  run G Ω0 E0 Fh (nE p l k ok)=some (.nrm,nE p l (k+1) ok'):=by
 have hlt:k<p.Vars.length:=(List.getElem?_eq_some_iff.1 hg).1
 have hk:((k:Int)<(p.Vars.length:Int)):=by omega
 have hwr:=og k (by omega)
 apply ak (by simp [nE,hk];rfl)
 apply ak
 ·apply eK (by simp [hk])
  exact db _ _
 apply kq
 apply ak
 ·apply nM
  apply ak (by simp [hg,bB];rfl)
  refine (?_:run G Ω0 _ _ _=some (.nrm,nE p l k ok'))
  cases ok with
  | false=>
   rw [if_neg (by simp)] at hs
   obtain rfl:=Option.some.inj hs
   apply lE 10
   ·rfl
   ·simp
   ·simp
    rfl
   ·simp
    rfl
   ·simp [nE]
  | true=>
   rw [if_pos rfl] at hs
   cases hkn:v.Known with
   | false=>
    rw [if_neg (by simp [hkn])] at hs
    obtain rfl:=Option.some.inj hs
    apply lE 10
    ·rfl
    ·simp
    ·simp [hkn]
     rfl
    ·simp
     rfl
    ·simp [nE]
   | true=>
    rw [if_pos hkn] at hs
    obtain ⟨q,hq,hs⟩:=Option.bind_eq_some_iff.1 hs
    obtain ⟨o,ho,hs⟩:=Option.bind_eq_some_iff.1 hs
    have hA:=gG (E:=E0) (pY p.aa v.Label o ho) (by simp) (by simp)
    have hB:=gG (E:=E0) (y4 q o ok' hs) (by simp) (by simp)
    apply lE 10
    ·rfl
    ·simp
    ·simp [hkn,hq,ah]
     rfl
    ·simp [-bE,hq,ah,hA,hB]
     rfl
    ·simp [nE]
 simp [nE,hwr]
theorem Bc(p:Program)(l:aT)(hl:p.Vars.length≤1000)(ok':Bool):∀ (rest:List Var)(k:Nat)(ok:Bool),p.Vars.drop k=rest→vD p l rest k ok=some ok'→
  ∃ z,mI G Ω0 E0 KY (nE p l k ok)=some (.ex 0,z)∧z.aD [2,3,7] [2,3,7]=⟨[(2,.p ⟨0,2⟩ 0),(3,.p ⟨0,3⟩ 0),(7,.p ⟨0,7⟩ 0)],[(2,an p),(3,tB l),(7,[.b ok'])],H0⟩
 | [],k,ok,hd,h=>by
  obtain rfl:=Option.some.inj h
  have hk:¬((k:Int)<(p.Vars.length:Int)):=by
   have:=List.drop_eq_nil_iff.1 hd;omega
  apply Exists.intro
  apply And.intro
  ·refine iW (r:=(.ex 0,?_)) ?_ (by simp)
   rotate_left
   ·show run G Ω0 _ Fh (nE p l k ok)=_
    apply ak (by simp [nE,hk];rfl)
    apply oZ
    apply dH (by simp [hk])
    exact gK _ _ _
  ·simp
 | v::rest,k,ok,hd,h=>by
  obtain ⟨b,hb,h⟩:=Option.bind_eq_some_iff.1 h
  have hg:p.Vars[k]? =some v:=by
   have:=congrArg (fun l=>l[0]?) hd
   simpa using this
  have hd2:p.Vars.drop (k+1)=rest:=by
   have:=congrArg List.tail hd
   simpa using this
  obtain ⟨z,h1,h2⟩:=Bc p l hl ok' rest (k+1) b hd2 h
  refine ⟨z,?_,h2⟩
  rw [gq]
  exact h1
  show (run G Ω0 _ Fh (nE p l k ok)).bind _=_
  rw [FO p l hl k ok b v hg hb];rfl
abbrev CZ(a0:Program)(a1:aT)(r:Bool×Int):Prop:=call G Ω0 E0 7 [.a (an a0),.a (tB a1)] H0=some (.ret (.tp [.b r.1,I r.2]),H0)
set_option maxHeartbeats 8000000 in
theorem sn(a0:Program)(a1:aT)(r:Bool×Int)(h:jx a0 a1=some r):CZ a0 a1 r:=by
 unfold jx at h
 obtain ⟨e,he,h⟩:=Option.bind_eq_some_iff.1 h
 have hR:=gG (E:=E0) (xP a0 a1 e he) (by simp) (by simp)
 show call G Ω0 E0 7 _ _=_
 by_cases h0:(e !=0)=true
 ·rw [if_pos h0] at h
  obtain rfl:=Option.some.inj h
  apply ox G7
  ·apply ak (by simp;rfl)
   apply Au
   apply ak (by simp [-bE,hR];rfl)
   apply ak (by simp [h0];rfl)
   apply eK (by simp)
   apply ak (by simp;rfl)
   exact jR _ _
  ·simp [c7]
  ·rfl
 ·rw [if_neg h0] at h
  split at h
  ·rename_i hl
   obtain ⟨ok,hok,h⟩:=Option.bind_eq_some_iff.1 h
   obtain ⟨⟨a',ok'⟩,hgo,h⟩:=Option.bind_eq_some_iff.1 h
   obtain rfl:=Option.some.inj h
   obtain ⟨z1,v1,v2⟩:=Bc a0 a1 hl ok a0.Vars 0 true rfl hok
   have low:aS 1 (fun k:Key=>if k.dp=0 then (if 7=k.d then some [AV.b ok] else if 10=k.d then some [AV.p ⟨0,48⟩ 0] else if 48=k.d then some (iQ a0 (.l 44 (a1.Vars.map ah)) (.l 44 (a1.Funcs.map ah)) (.f 25 (rl a0 a1)) ((0:Nat):Int)) else none) else none):=fun k hk=>by
    simp only [if_neg (show ¬k.dp=0 by omega)]
   obtain ⟨H',c1,r,c3,c4⟩:=tw (MD a0 a1) (dp:=1) (a:=0) (by decide) low ⟨rfl,rfl,rfl⟩ hgo
   have g7:=r.h7
   have g10:=r.h10
   have g48:=r.hw
   simp at c1
   apply ox G7
   ·apply ak (by simp;rfl)
    apply ak
    ·apply ak (by simp [-bE,hR];rfl)
     apply ak (by simp;rfl)
     apply dH (by simpa using h0)
     exact db _ _
    apply kq
    apply ak (by simp;rfl)
    apply ak
    ·apply ak (by simp;rfl)
     apply sP
     rw [iw]
     exact v1
    show run G Ω0 _ (.kp _ _ KZ) z1=_
    rw [iG,v2]
    apply ak (by simp;rfl)
    apply ak (by simp;rfl)
    apply ak (by simp [cm,AV.iE,c1,St.back,da,g7,g10,g48];rfl)
    apply ak (by simp;rfl)
    exact jR _ _
   ·simp [c7]
   ·rfl
  ·cases h
end Go.Proofs.Ytkkkkondjclcnaa.A
