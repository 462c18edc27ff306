/- infer.Raw and Infer as plain functions: all of it. -/
import Derived.Test.YtkkkkondjclcnaaRawF
set_option maxRecDepth 100000
set_option linter.unusedSectionVars false
set_option linter.unusedVariables false
set_option linter.unusedSimpArgs false
set_option linter.constructorNameAsVariable false
namespace Go.Proofs.Ytkkkkondjclcnaa.A
open Go
variable [Lp]
attribute [local simp] gp execOp okB oa dR kx uX ka jC fx St.end_ St.nm List.filter
noncomputable def wi(p:Program):List Var→List Level→Option (List Level)
 | [],o=>some o
 | v::r,o=>(ec p.aa).bind fun b=>(if v.Known=true then e7 p.aa v.Label else some b).bind fun x=>wi p r (o++[x])
noncomputable def wj(p:Program):List Func→List Level→Option (List Level)
 | [],o=>some o
 | _::r,o=>(ec p.aa).bind fun b=>wj p r (o++[b])
noncomputable def ug(p:Program)(s:bP):Option (bP⊕bP):=if s.ch=true then (rj p bP.V bP.F (nC p) ⟨s.V,s.F,false⟩).bind fun r=>some (.inl r.2) else some (.inr s)
noncomputable def j0(p:Program):Option aT:=
 if p.Vars.length≤1000∧p.Funcs.length≤1000 then (wi p p.Vars []).bind fun V=>(wj p p.Funcs []).bind fun F=>(lp (ug p) ⟨V,F,true⟩).bind fun s=>some ⟨s.V,s.F⟩ else none
abbrev nZ:List AV:=[.l 44 [],.l 44 []]
def sj(p:Program)(k:Nat)(V:List Level):St:=⟨[(1,.p ⟨0,1⟩ 0),(2,.p ⟨0,2⟩ 0),(3,.p ⟨0,3⟩ 0),(10,.l 67 (p.Vars.map bB)),(11,I p.Vars.length),(12,I k)],[(1,an p),(2,nZ),(3,[.o 44 (V.map ah),.o 44 []])],H0⟩
set_option maxHeartbeats 8000000 in
theorem FL(p:Program)(hl:p.Vars.length≤1000)(k:Nat)(V:List Level)(hV:V.length=k)(v:Var)(hg:p.Vars[k]? =some v)(b x:Level)(hb:ec p.aa=some b)(hx:(if v.Known=true then e7 p.aa v.Label else some b)=some x) :
  run G Ω0 E0 BQ (sj p k V)=some (.nrm,sj p (k+1) (V++[x])):=by
 have hlt:k<p.Vars.length:=(List.getElem?_eq_some_iff.1 hg).1
 have hk:((k:Int)<(p.Vars.length:Int)):=by omega
 have hwr:=og k (by omega)
 have hB:=gG (E:=E0) (jc p.aa b hb) (by simp) (by simp)
 have hm:k+1≤maxLen:=Nat.le_trans (show k+1≤1001 by omega) (by decide)
 have hm2:(k+1)*48≤140737488355328:=by omega
 apply ak (by simp [sj,hk];rfl)
 apply ak
 ·apply eK (by simp [hk])
  exact db _ _
 apply kq
 apply ak
 ·apply nM
  apply ak (by simp [hg,bB];rfl)
  apply ak (by simp [-bE,hB];rfl)
  have tail:∀ st:St,st.aD [1,2,3,6,10,11,12] [1,2,3,6,1044000,1044001]=⟨[(1,.p ⟨0,1⟩ 0),(2,.p ⟨0,2⟩ 0),(3,.p ⟨0,3⟩ 0),(6,.p ⟨0,6⟩ 0),(10,.l 67 (p.Vars.map bB)),(11,I p.Vars.length),(12,I k)],[(1,an p),(2,nZ),(3,[.o 44 (V.map ah),.o 44 []]),(6,aB x)],H0⟩→
    run G Ω0 E0 IF st=some (.nrm,⟨[(1,.p ⟨0,1⟩ 0),(2,.p ⟨0,2⟩ 0),(3,.p ⟨0,3⟩ 0),(10,.l 67 (p.Vars.map bB)),(11,I p.Vars.length),(12,I k)],[(1,an p),(2,nZ),(3,[.o 44 ((V++[x]).map ah),.o 44 []])],H0⟩):=by
   intro st hst
   apply kq
   rw [hst]
   simp [IE,hV,hm,hm2,ah]
  cases hkn:v.Known with
  | true=>
   rw [if_pos hkn] at hx
   have hA:=gG (E:=E0) (pY p.aa v.Label x hx) (by simp) (by simp)
   apply ak
   ·apply ak (by simp;rfl)
    apply eK (by simp [hkn])
    simp [-bE,hA]
    rfl
   exact tail _ rfl
  | false=>
   rw [if_neg (by simp [hkn])] at hx
   obtain rfl:=Option.some.inj hx
   apply ak
   ·apply ak (by simp;rfl)
    apply dH (by simp [hkn])
    exact db _ _
   exact tail _ rfl
 simp [sj,hwr]
theorem A9(p:Program)(hl:p.Vars.length≤1000):∀ (rest:List Var)(k:Nat)(V V':List Level),p.Vars.drop k=rest→V.length=k→wi p rest V=some V'→
  ∃ z,mI G Ω0 E0 IG (sj p k V)=some (.ex 0,z)∧z.aD [1,2,3] [1,2,3,1044000,1044001]=⟨[(1,.p ⟨0,1⟩ 0),(2,.p ⟨0,2⟩ 0),(3,.p ⟨0,3⟩ 0)],[(1,an p),(2,nZ),(3,[.o 44 (V'.map ah),.o 44 []])],H0⟩
 | [],k,V,V',hd,hV,h=>by
  obtain rfl:=Option.some.inj h
  have hk:¬((k:Int)<(p.Vars.length:Int)):=by
   have:=List.drop_eq_nil_iff.1 hd;omega
  apply Exists.intro
  apply And.intro
  ·refine iW (r:=(.ex 0,?_)) ?_ (by simp)
   rotate_left
   ·show run G Ω0 _ BQ (sj p k V)=_
    apply ak (by simp [sj,hk];rfl)
    apply oZ
    apply dH (by simp [hk])
    exact gK _ _ _
  ·simp
 | v::rest,k,V,V',hd,hV,h=>by
  obtain ⟨b,hb,h⟩:=Option.bind_eq_some_iff.1 h
  obtain ⟨x,hx,h⟩:=Option.bind_eq_some_iff.1 h
  have hg:p.Vars[k]? =some v:=by
   have:=congrArg (fun l=>l[0]?) hd
   simpa using this
  have hd2:p.Vars.drop (k+1)=rest:=by
   have:=congrArg List.tail hd
   simpa using this
  obtain ⟨z,h1,h2⟩:=A9 p hl rest (k+1) (V++[x]) V' hd2 (by simp [hV]) h
  refine ⟨z,?_,h2⟩
  rw [gq]
  exact h1
  show (run G Ω0 _ BQ (sj p k V)).bind _=_
  rw [FL p hl k V hV v hg b x hb hx];rfl
def pJ(p:Program)(k:Nat)(V F:List Level):St:=⟨[(1,.p ⟨0,1⟩ 0),(2,.p ⟨0,2⟩ 0),(3,.p ⟨0,3⟩ 0),(35,I p.Funcs.length),(36,I k)],[(1,an p),(2,nZ),(3,[.o 44 (V.map ah),.o 44 (F.map ah)])],H0⟩
set_option maxHeartbeats 8000000 in
theorem zi(p:Program)(hl:p.Funcs.length≤1000)(V:List Level):∀ (rest:List Func)(k:Nat)(F F':List Level),p.Funcs.drop k=rest→F.length=k→wj p rest F=some F'→
  ∃ z,mI G Ω0 E0 IH (pJ p k V F)=some (.ex 2,z)∧z.aD [1,2,3] [1,2,3,1044000,1044001]=⟨[(1,.p ⟨0,1⟩ 0),(2,.p ⟨0,2⟩ 0),(3,.p ⟨0,3⟩ 0)],[(1,an p),(2,nZ),(3,[.o 44 (V.map ah),.o 44 (F'.map ah)])],H0⟩
 | [],k,F,F',hd,hF,h=>by
  obtain rfl:=Option.some.inj h
  have hk:¬((k:Int)<(p.Funcs.length:Int)):=by
   have:=List.drop_eq_nil_iff.1 hd;omega
  apply Exists.intro
  apply And.intro
  ·refine iW (r:=(.ex 2,?_)) ?_ (by simp)
   rotate_left
   ·show run G Ω0 _ BR (pJ p k V F)=_
    apply ak (by simp [pJ,hk];rfl)
    apply oZ
    apply dH (by simp [hk])
    exact gK _ _ _
  ·simp
 | f::rest,k,F,F',hd,hF,h=>by
  obtain ⟨b,hb,h⟩:=Option.bind_eq_some_iff.1 h
  have hlt:k<p.Funcs.length:=by
   have h1:=congrArg List.length hd
   simp only [List.length_drop,List.length_cons] at h1
   omega
  have hd2:p.Funcs.drop (k+1)=rest:=by
   have:=congrArg List.tail hd
   simpa using this
  have hk:((k:Int)<(p.Funcs.length:Int)):=by omega
  have hwr:=og k (by omega)
  have hB:=gG (E:=E0) (jc p.aa b hb) (by simp) (by simp)
  have hm:k+1≤maxLen:=Nat.le_trans (show k+1≤1001 by omega) (by decide)
  have hm2:(k+1)*48≤140737488355328:=by omega
  obtain ⟨z,h1,h2⟩:=zi p hl V rest (k+1) (F++[b]) F' hd2 (by simp [hF]) h
  refine ⟨z,?_,h2⟩
  rw [gq]
  exact h1
  show (run G Ω0 _ BR (pJ p k V F)).bind _=_
  have:run G Ω0 E0 BR (pJ p k V F)=some (.nrm,pJ p (k+1) V (F++[b])):=by
   apply ak (by simp [pJ,hk];rfl)
   apply ak
   ·apply eK (by simp [hk])
    exact db _ _
   apply kq
   apply ak
   ·apply nM
    simp [-bE,hB,hF,hm,hm2]
    rfl
   simp [pJ,hwr,ah]
  rw [this];rfl
@[simp] theorem H9 (k:Key):∀ V:List Level,AV.bR k (cR V)=true
 | []=>rfl
 | l::r=>by
  have ih:=H9 k r
  show AV.bR k (.l _ _::.l _ _::cR r)=true
  simp only [AV.bR,AV.aW,ih,Bool.and_self]
@[simp] theorem GM (dp:Nat):∀ V:List Level,AV.bN dp (cR V)=true
 | []=>rfl
 | l::r=>by
  have ih:=GM dp r
  show AV.bN dp (.l _ _::.l _ _::cR r)=true
  simp only [AV.bN,AV.deep,ih,Bool.and_self]
theorem Ba(V:List Level):(V.map ah).flatMap AV.cl=cR V:=by
 rw [List.flatMap_map];rfl
abbrev vA(b:Bool)(k:Key)(n:Nat):AV:=if b=true then .sp k 0 n 2 else .l 44 []
def bX(p:Program)(bV bF:Bool)(nV nF:Nat)(s:bP)(d:AV)(a:Nat):St:=
 ⟨[(1,.p ⟨0,1⟩ 0),(2,.p ⟨0,2⟩ 0),(3,.p ⟨0,3⟩ 0),(7,.p ⟨0,7⟩ 0),(8,.p ⟨0,8⟩ 0),(50,.p ⟨0,50⟩ 0)],(1,an p)::(2,nZ)::(3,[vA bV kV nV,vA bF kF nF])::(7,[.p ⟨0,50⟩ 0])::(8,[.b s.ch])::(50,iQ p (vA bV kV nV) (vA bF kF nF) d a)::((if bV=true then [(1044000,cR s.V)] else [])++(if bF=true then [(1044001,cR s.F)] else [])),H0⟩
theorem EB(V:List Level):((V.map ah).all fun e=>e.nc==2)=true:=Tb ah _ (fun _=>rfl) V
set_option maxHeartbeats 8000000 in
theorem pins(p:Program)(V F:List Level):∃ st,run G Ω0 E0 (.rg [.vM 3 0 1044000 2,.vM 3 1 1044001 2] [gp 47 (.ld (some 8) (.t 1)),gp 48 (.ld (some 2) (.t 3)),gp 49 (.bd [(.i .i64 0),(.l 93 []),(.l 3 []),(.l 60 []),(.l 60 []),(.l 67 []),(.l 85 []),(.l 74 []),(.l 44 []),(.l 44 []),.nf,(.i .i64 0)] [(0,8,(.t 47)),(8,2,(.t 48))]),gp 50 (.bx (.t 49)),gp 7 (.al [.z]),⟨none,.st 1 (.t 7) (.t 50),none,false⟩] [1,2,3,7,50] [1,2,3,7,50,1044000,1044001])
  ⟨[(1,.p ⟨0,1⟩ 0),(2,.p ⟨0,2⟩ 0),(3,.p ⟨0,3⟩ 0)],[(1,an p),(2,nZ),(3,[.o 44 (V.map ah),.o 44 (F.map ah)])],H0⟩=some (.nrm,st)∧
  run G Ω0 E0 (.rg [] [gp 8 (.al [(.b false)]),⟨none,.st 1 (.t 8) (.c (.b true)),none,false⟩] [1,2,3,7,8,50] [1,2,3,7,8,50,1044000,1044001]) st=some (.nrm,bX p (!V.isEmpty) (!F.isEmpty) V.length F.length ⟨V,F,true⟩ .nf 0):=by
 have h1:=Ba V
 have h2:=Ba F
 have h3:=EB V
 have h4:=EB F
 simp only [List.all_map] at h3 h4
 by_cases hV:V=[]
 ·subst hV
  by_cases hF:F=[]
  ·subst hF
   apply Exists.intro
   apply And.intro
   ·simp
    rfl
   simp [bX]
  ·have hF2:F.isEmpty=false:=by simp [hF]
   apply Exists.intro
   apply And.intro
   ·simp [hF,h2,v7,ah]
    rfl
   simp [bX,hF2]
 ·have hV2:V.isEmpty=false:=by simp [hV]
  by_cases hF:F=[]
  ·subst hF
   apply Exists.intro
   apply And.intro
   ·simp [hV,h1,v7,ah]
    rfl
   simp [bX,hV2]
  ·have hF2:F.isEmpty=false:=by simp [hF]
   apply Exists.intro
   apply And.intro
   ·simp [hV,hF,h1,h2,v7,ah]
    rfl
   simp [bX,hV2,hF2]
structure tA(bV bF:Bool)(nV nF:Nat)(s:bP):Prop where
 v1:bV=true→s.V.length=nV∧0<nV
 v0:bV=false→s.V=[]
 f1:bF=true→s.F.length=nF∧0<nF
 f0:bF=false→s.F=[]
theorem wk{H:HP}{k k':Key}{n:Nat}{ls:List Level}(h:vz H k (.sp k' 0 n 2) ls):ls.length=n∧H k=some (cR ls):=by
 rcases h with ⟨h,_⟩ | ⟨h,h2⟩
 ·cases h
 ·injection h with _ _ h _;exact ⟨h.symm,h2⟩
theorem wm{H:HP}{k:Key}{ls:List Level}(h:vz H k (.l 44 []) ls):ls=[]:=by
 rcases h with ⟨_,h⟩ | ⟨h,_⟩
 ·exact h
 ·cases h
set_option maxHeartbeats 16000000 in
theorem FM(p:Program)(bV bF:Bool)(nV nF:Nat)(s s':bP)(d:AV)(a a':Nat)(hch:s.ch=true)(hI:tA bV bF nV nF s)(hs:rj p bP.V bP.F (nC p) ⟨s.V,s.F,false⟩=some (a',s'))(hd:d= .nf∨d= .u) :
  tA bV bF nV nF s'∧∃ st,run G Ω0 E0 yp (bX p bV bF nV nF s d a)=some (.nrm,st)∧st.aD [1,2,3,7,8,50] [1,2,3,7,8,50,1044000,1044001]=bX p bV bF nV nF s' .u a':=by
 have low:aS 1 (fun k=>(bX p bV bF nV nF ⟨s.V,s.F,false⟩ (.f 35 mn) a).box 0 k):=fun k hk=>by
  show (if k.dp=0 then _ else none)=none
  rw [if_neg (by omega)]
 cases bV with
 | true=>
  cases bF with
  | true=>
   obtain ⟨H',c1,r,c3,c4⟩:=tw (B4 p (.sp kV 0 nV 2) (.sp kF 0 nF 2)) (dp:=1) (a:=a) (H:=fun k=>(bX p true true nV nF ⟨s.V,s.F,false⟩ (.f 35 mn) a).box 0 k) (by decide) low ⟨rfl,rfl,rfl,rfl,rfl,rfl,.inr ⟨by rw [(hI.v1 rfl).1],rfl⟩,.inr ⟨by rw [(hI.f1 rfl).1],rfl⟩⟩ hs
   have g1:=r.h1
   have g2:=r.h2
   have g3:=r.h3
   have g7:=r.h7
   have g8:=r.h8
   have g50:=r.hw
   have gV:=wk r.hx
   have gF:=wk r.hy
   refine ⟨⟨fun _=>⟨gV.1,(hI.v1 rfl).2⟩,fun h=>(by cases h),fun _=>⟨gF.1,(hI.f1 rfl).2⟩,fun h=>(by cases h)⟩,?_⟩
   simp [bX] at c1
   apply Exists.intro
   apply And.intro
   ·apply ak
    ·apply ak (by simp [bX];rfl)
     apply eK (by simp [hch])
     exact db _ _
    apply kq
    apply ak
    ·apply nM
     apply ak (by simp;rfl)
     apply ak (by simp;rfl)
     simp [cm,AV.iE,c1,St.back,da,g1,g2,g3,g7,g8,g50,gV.2,gF.2]
     rfl
    apply ak (by simp;rfl)
    simp
    rfl
   ·simp [bX]
  | false=>
   obtain ⟨H',c1,r,c3,c4⟩:=tw (B4 p (.sp kV 0 nV 2) (.l 44 [])) (dp:=1) (a:=a) (H:=fun k=>(bX p true false nV nF ⟨s.V,s.F,false⟩ (.f 35 mn) a).box 0 k) (by decide) low ⟨rfl,rfl,rfl,rfl,rfl,rfl,.inr ⟨by rw [(hI.v1 rfl).1],rfl⟩,.inl ⟨rfl,hI.f0 rfl⟩⟩ hs
   have g1:=r.h1
   have g2:=r.h2
   have g3:=r.h3
   have g7:=r.h7
   have g8:=r.h8
   have g50:=r.hw
   have gV:=wk r.hx
   have gF:=wm r.hy
   refine ⟨⟨fun _=>⟨gV.1,(hI.v1 rfl).2⟩,fun h=>(by cases h),fun h=>(by cases h),fun _=>gF⟩,?_⟩
   simp [bX] at c1
   apply Exists.intro
   apply And.intro
   ·apply ak
    ·apply ak (by simp [bX];rfl)
     apply eK (by simp [hch])
     exact db _ _
    apply kq
    apply ak
    ·apply nM
     apply ak (by simp;rfl)
     apply ak (by simp;rfl)
     simp [cm,AV.iE,c1,St.back,da,g1,g2,g3,g7,g8,g50,gV.2]
     rfl
    apply ak (by simp;rfl)
    simp
    rfl
   ·simp [bX]
 | false=>
  cases bF with
  | true=>
   obtain ⟨H',c1,r,c3,c4⟩:=tw (B4 p (.l 44 []) (.sp kF 0 nF 2)) (dp:=1) (a:=a) (H:=fun k=>(bX p false true nV nF ⟨s.V,s.F,false⟩ (.f 35 mn) a).box 0 k) (by decide) low ⟨rfl,rfl,rfl,rfl,rfl,rfl,.inl ⟨rfl,hI.v0 rfl⟩,.inr ⟨by rw [(hI.f1 rfl).1],rfl⟩⟩ hs
   have g1:=r.h1
   have g2:=r.h2
   have g3:=r.h3
   have g7:=r.h7
   have g8:=r.h8
   have g50:=r.hw
   have gV:=wm r.hx
   have gF:=wk r.hy
   refine ⟨⟨fun h=>(by cases h),fun _=>gV,fun _=>⟨gF.1,(hI.f1 rfl).2⟩,fun h=>(by cases h)⟩,?_⟩
   simp [bX] at c1
   apply Exists.intro
   apply And.intro
   ·apply ak
    ·apply ak (by simp [bX];rfl)
     apply eK (by simp [hch])
     exact db _ _
    apply kq
    apply ak
    ·apply nM
     apply ak (by simp;rfl)
     apply ak (by simp;rfl)
     simp [cm,AV.iE,c1,St.back,da,g1,g2,g3,g7,g8,g50,gF.2]
     rfl
    apply ak (by simp;rfl)
    simp
    rfl
   ·simp [bX]
  | false=>
   obtain ⟨H',c1,r,c3,c4⟩:=tw (B4 p (.l 44 []) (.l 44 [])) (dp:=1) (a:=a) (H:=fun k=>(bX p false false nV nF ⟨s.V,s.F,false⟩ (.f 35 mn) a).box 0 k) (by decide) low ⟨rfl,rfl,rfl,rfl,rfl,rfl,.inl ⟨rfl,hI.v0 rfl⟩,.inl ⟨rfl,hI.f0 rfl⟩⟩ hs
   have g1:=r.h1
   have g2:=r.h2
   have g3:=r.h3
   have g7:=r.h7
   have g8:=r.h8
   have g50:=r.hw
   have gV:=wm r.hx
   have gF:=wm r.hy
   refine ⟨⟨fun h=>(by cases h),fun _=>gV,fun h=>(by cases h),fun _=>gF⟩,?_⟩
   simp [bX] at c1
   apply Exists.intro
   apply And.intro
   ·apply ak
    ·apply ak (by simp [bX];rfl)
     apply eK (by simp [hch])
     exact db _ _
    apply kq
    apply ak
    ·apply nM
     apply ak (by simp;rfl)
     apply ak (by simp;rfl)
     simp [cm,AV.iE,c1,St.back,da,g1,g2,g3,g7,g8,g50]
     rfl
    apply ak (by simp;rfl)
    simp
    rfl
   ·simp [bX]
set_option maxHeartbeats 8000000 in
theorem Ia(p:Program)(bV bF:Bool)(nV nF:Nat)(s:bP)(d:AV)(a:Nat)(hch:s.ch=false)(hI:tA bV bF nV nF s):∃ st,run G Ω0 E0 yp (bX p bV bF nV nF s d a)=some (.ex 4,st)∧
  run G Ω0 E0 (.rg [.unp 3 0,.unp 3 1] [gp 59 (.ld (some 2) (.t 3)),⟨none,.st 2 (.t 2) (.t 59),none,false⟩] [2] [2]) st=some (.nrm,⟨[(2,.p ⟨0,2⟩ 0)],[(2,[.l 44 (s.V.map ah),.l 44 (s.F.map ah)])],H0⟩):=by
 have c1:=ph s.V
 have c2:=ph s.F
 have p1:=vt s.V
 have p2:=vt s.F
 have l1:=pI s.V
 have l2:=pI s.F
 cases bV with
 | true=>
  have hV:=(hI.v1 rfl).1
  rw [hV] at c1 l1
  cases bF with
  | true=>
   have hF:=(hI.f1 rfl).1
   rw [hF] at c2 l2
   apply Exists.intro
   apply And.intro
   ·apply oZ
    apply ak (by simp [bX];rfl)
    apply dH (by simp [hch])
    exact gK _ _ _
   simp [p1,p2,l1,l2,c1,c2,qK,vA,Nat.mul_comm]
  | false=>
   have hF:=hI.f0 rfl
   apply Exists.intro
   apply And.intro
   ·apply oZ
    apply ak (by simp [bX];rfl)
    apply dH (by simp [hch])
    exact gK _ _ _
   simp [p1,l1,c1,hF,qK,vA,Nat.mul_comm]
 | false=>
  have hV:=hI.v0 rfl
  cases bF with
  | true=>
   have hF:=(hI.f1 rfl).1
   rw [hF] at c2 l2
   apply Exists.intro
   apply And.intro
   ·apply oZ
    apply ak (by simp [bX];rfl)
    apply dH (by simp [hch])
    exact gK _ _ _
   simp [p2,l2,c2,hV,qK,vA,Nat.mul_comm]
  | false=>
   have hF:=hI.f0 rfl
   apply Exists.intro
   apply And.intro
   ·apply oZ
    apply ak (by simp [bX];rfl)
    apply dH (by simp [hch])
    exact gK _ _ _
   simp [hV,hF,vA]
theorem Bb(p:Program)(bV bF:Bool)(nV nF:Nat):∀ (n:Nat)(s s':bP)(d:AV)(a:Nat),tA bV bF nV nF s→(d= .nf∨d= .u)→mX (ug p) n s=some s'→
  ∃ st,mI G Ω0 E0 II (bX p bV bF nV nF s d a)=some (.ex 4,st)∧
   run G Ω0 E0 (.rg [.unp 3 0,.unp 3 1] [gp 59 (.ld (some 2) (.t 3)),⟨none,.st 2 (.t 2) (.t 59),none,false⟩] [2] [2]) st=some (.nrm,⟨[(2,.p ⟨0,2⟩ 0)],[(2,[.l 44 (s'.V.map ah),.l 44 (s'.F.map ah)])],H0⟩)
 | 0,s,s',d,a,hI,hd,h=>by cases h
 | n+1,s,s',d,a,hI,hd,h=>by
  have hkeep:(bX p bV bF nV nF s d a).aD [1,2,3,7,8,50] [1,2,3,7,8,50,1044000,1044001]=bX p bV bF nV nF s d a:=by
   cases bV<;>cases bF<;>rfl
  rw [mX] at h
  cases hch:s.ch with
  | true=>
   have hB:ug p s=(rj p bP.V bP.F (nC p) ⟨s.V,s.F,false⟩).bind fun r=>some (.inl r.2):=by unfold ug;rw [if_pos hch]
   rw [hB] at h
   cases hg:rj p bP.V bP.F (nC p) ⟨s.V,s.F,false⟩ with
   | none=>rw [hg] at h;cases h
   | some r=>
    obtain ⟨a',s1⟩:=r
    rw [hg] at h
    obtain ⟨hI1,st,r1,r2⟩:=FM p bV bF nV nF s s1 d a a' hch hI hg hd
    obtain ⟨st2,q1,q2⟩:=Bb p bV bF nV nF n s1 s' .u a' hI1 (.inr rfl) h
    refine ⟨st2,?_,q2⟩
    rw [gq]
    exact q1
    show (run G Ω0 _ yp ((bX p bV bF nV nF s d a).aD [1,2,3,7,8,50] [1,2,3,7,8,50,1044000,1044001])).bind _=_
    rw [hkeep,r1]
    exact congrArg some r2
  | false=>
   have hB:ug p s=some (.inr s):=by unfold ug;rw [if_neg (by simp [hch])]
   rw [hB] at h
   obtain rfl:=Option.some.inj h
   obtain ⟨st,r1,r2⟩:=Ia p bV bF nV nF s d a hch hI
   refine ⟨st,iW ?_ (by simp),r2⟩
   show run G Ω0 _ yp ((bX p bV bF nV nF s d a).aD [1,2,3,7,8,50] [1,2,3,7,8,50,1044000,1044001])=_
   rw [hkeep,r1]
abbrev D1(a0:Program)(r:aT):Prop:=call G Ω0 E0 10 [.a (an a0)] H0=some (.ret (.a [.l 44 (r.Vars.map ah),.l 44 (r.Funcs.map ah)]),H0)
set_option maxHeartbeats 8000000 in
theorem Aw(a0:Program)(r:aT)(h:j0 a0=some r):D1 a0 r:=by
 unfold j0 at h
 split at h
 ·rename_i hl
  obtain ⟨V,hV,h⟩:=Option.bind_eq_some_iff.1 h
  obtain ⟨F,hF,h⟩:=Option.bind_eq_some_iff.1 h
  obtain ⟨s,hs,h⟩:=Option.bind_eq_some_iff.1 h
  obtain rfl:=Option.some.inj h
  obtain ⟨n,hn⟩:=tT hs
  obtain ⟨z1,a1,a2⟩:=A9 a0 hl.1 a0.Vars 0 [] V rfl rfl hV
  obtain ⟨z2,b1,b2⟩:=zi a0 hl.2 V a0.Funcs 0 [] F rfl rfl hF
  obtain ⟨z3,c1,c2⟩:=pins a0 V F
  have hI:tA (!V.isEmpty) (!F.isEmpty) V.length F.length ⟨V,F,true⟩:=by
   refine ⟨fun h=>⟨rfl,?_⟩,fun h=>?_,fun h=>⟨rfl,?_⟩,fun h=>?_⟩
   ·cases V with
    | nil=>cases h
    | cons=>simp
   ·simpa using h
   ·cases F with
    | nil=>cases h
    | cons=>simp
   ·simpa using h
  obtain ⟨z4,d1,d2⟩:=Bb a0 _ _ _ _ n ⟨V,F,true⟩ s .nf 0 hI (.inl rfl) hn
  show call G Ω0 E0 10 _ _=_
  apply ox Ty
  ·apply ak (by simp;rfl)
   apply ak (by simp;rfl)
   apply ak
   ·apply ak (by simp;rfl)
    apply sP
    rw [iw]
    exact a1
   show run G Ω0 _ (.kp _ _ IK) z1=_
   rw [iG,a2]
   apply ak
   ·apply ak (by simp;rfl)
    apply sP
    rw [iw]
    exact b1
   show run G Ω0 _ (.kp _ _ IJ) z2=_
   rw [iG,b2]
   apply ak c1
   apply ak
   ·apply ak c2
    apply sP
    rw [iw]
    show mI _ _ _ _ ((bX _ _ _ _ _ _ _ _).aD [1,2,3,7,8,50] [1,2,3,7,8,50,1044000,1044001])=_
    rw [show ∀ bV bF nV nF s d a,(bX a0 bV bF nV nF s d a).aD [1,2,3,7,8,50] [1,2,3,7,8,50,1044000,1044001]=bX a0 bV bF nV nF s d a from fun bV bF _ _ _ _ _=>by cases bV<;>cases bF<;>rfl]
    exact d1
   apply ak d2
   exact jR _ _
  ·simp [IL]
  ·rfl
 ·cases h
end Go.Proofs.Ytkkkkondjclcnaa.A
