/- What is copied comes with its variables in a row that may be written; the law that writes into it. -/
import Derived.Test.YtkkkkondjclcnaaGreatFC
import Derived.Test.YtkkkkondjclcnaaGreatFI
import Derived.Test.YtkkkkondjclcnaaGreatJudP
set_option maxRecDepth 100000
set_option linter.unusedSectionVars false
set_option linter.unusedVariables false
set_option linter.unusedSimpArgs false
set_option linter.constructorNameAsVariable false
namespace Go.Proofs.YtkkkkondjclcnaaGreat.A
open Go
variable [Lp]
attribute [local simp] gp execOp okB k7 cY iS tE jr jc fM St.end_ St.ir St.rowOf St.Gt St.zO zN List.filter
abbrev Im(v:Var):List AV:=[.b v.Known,.l 138 (v.Label.Read.map au),.l 138 (v.Label.Write.map au)]
def lE(vs:List Var):List AV:=vs.flatMap Im
theorem FJ(vs:List Var):(lE vs).length=3*vs.length:=by
 induction vs with
 | nil=>rfl
 | cons l r ih=>simp only [lE,List.flatMap_cons,List.length_append,List.length_cons,List.length_nil] at ih ⊢;omega
theorem DR:∀ vs:List Var,chunks 3 vs.length (lE vs)=vs.map aW
 | []=>rfl
 | l::r=>by
  have ih:=DR r
  show chunks 3 (r.length+1) (Im l++lE r)=_
  rw [chunks,if_neg (by decide),List.map_cons]
  show AV.a (Im l)::chunks 3 r.length (lE r)=_
  rw [ih];rfl
@[simp] theorem LH (vs:List Var):AV.aK (lE vs)=true:=by
 induction vs with
 | nil=>rfl
 | cons l r ih=>
  show AV.aK (Im l++lE r)=true
  exact zZ (by simp [AV.aK,AV.pure]) ih
@[simp] theorem aa3 (k:Key) (vs:List Var):AV.bM k (lE vs)=true:=rJ _ (LH vs)
theorem Nv(vs:List Var):(vs.map aW).flatMap AV.cl=lE vs:=by
 rw [List.flatMap_map];rfl
theorem FK{u:Var} : ∀ {vs:List Var}{j:Nat},j<vs.length→List.take (j*3) (lE vs)++(Im u++List.drop (j*3+3) (lE vs))=lE (vs.set j u)
 | l::r,0,h=>rfl
 | l::r,j+1,h=>by
  have ih:=FK (u:=u) (vs:=r) (j:=j) (by simpa using h)
  rw [show (j+1)*3=j*3+3 by omega]
  show .b _::.l _ _::.l _ _::(_++_)= .b _::.l _ _::.l _ _::lE (r.set j u)
  rw [←ih];rfl
abbrev y0:Nat:=1083000
attribute [local simp] y0
def nR(r:Program)(c:AV):List AV:=[I r.aa.Many,.l 166 (r.aa.Grants.map aB),.l 3 (r.Speak.map I),.l 81 (r.Ins.map ah),.l 81 (r.Outs.map ah),c,.l 101 (r.Funcs.map aS),.l 92 (r.Main.map ay)]
def yn(r:Program):aQ:=if r.Vars=[] then .ret (.a (ar r)) else .iq 5 (nR r .z) 83 r.Vars.length 3 (lE r.Vars)
set_option maxHeartbeats 8000000 in
theorem Nw(p r:Program)(h:lD p=some r):call G Ω0 E0 34 [.a (ar p)] H0=some (yn r,H0):=by
 unfold lD at h
 split at h
 ·rename_i g1
  split at h
  ·rename_i g2
   obtain ⟨m,hm,h⟩:=Option.bind_eq_some_iff.1 h
   obtain ⟨x5,h5,h⟩:=Option.bind_eq_some_iff.1 h
   obtain ⟨x7,h7,h⟩:=Option.bind_eq_some_iff.1 h
   obtain ⟨x9,h9,h⟩:=Option.bind_eq_some_iff.1 h
   obtain ⟨x11,h11,h⟩:=Option.bind_eq_some_iff.1 h
   obtain rfl:=Option.some.inj h
   have l0:=AB p m _ x5 h5
   have l1:=AE p m x5 _ x7 h7
   have l2:=AG p m x5 x7 _ x9 h9
   have l3:=AI p m x5 x7 x9 _ x11 h11
   have hS:=cR (E:=E0) (vZ p.Main m hm) (by simp) (by simp)
   have b1:p.aa.Grants.length*16≤140737488355328:=by simp at g1;omega
   have b2:p.aa.Grants.length≤maxLen:=by simp at g1;exact Nat.le_trans g1 (by decide)
   have b3:p.Speak.length*8≤140737488355328:=by simp at g2;omega
   have b4:p.Speak.length≤maxLen:=by simp at g2;exact Nat.le_trans g2 (by decide)
   apply gU G34
   ·apply ae (by simp;rfl)
    apply ae
    ·apply kv 8
     ·rfl
     ·simp
     ·simp [aB,zL,b1,b2]
      rfl
     ·exact gq 7 (by simp [zL,b3,b4];rfl) (by simp [-bk,hS];rfl)
     ·simp
      rfl
    apply ae
    ·apply ae (by simp;rfl)
     apply qc
     rw [ey]
     exact l0
    apply fG
    apply ae
    ·apply ae (by simp;rfl)
     apply qc
     rw [ey]
     exact l1
    apply fG
    apply ae
    ·apply ae (by simp;rfl)
     apply qc
     rw [ey]
     exact l2
    apply fG
    apply ae
    ·apply ae (by simp;rfl)
     apply qc
     rw [ey]
     exact l3
    apply ae (st1:=⟨[(2,.p ⟨0,2⟩ 0)],(2,nR ⟨⟨p.aa.Many,p.aa.Grants⟩,p.Speak,x5.2.2,x7.2.2,x9.2.2,x11.2.2,m⟩ (if x9.2.2=[] then .l 83 [] else .sp ⟨0,y0⟩ 0 x9.2.2.length 3))::(if x9.2.2=[] then [] else [(y0,lE x9.2.2)]),H0⟩)
    ·have hf:=Nv x9.2.2
     by_cases hv:x9.2.2=[]
     ·rw [if_pos hv,if_pos hv]
      simp [hv,nR]
     ·rw [if_neg hv,if_neg hv]
      simp [hv,nR,tc,aW,hf]
    exact db _ _
   ·by_cases hv:x9.2.2=[]
    ·simp [hv,nR,yn,L9,St.result,St.mY,St.ub,St.zM,St.lJ]
    ·simp [hv,y0,nR,yn,L9,St.result,St.mY,St.ub,St.zM,St.lJ,od]
   ·rfl
  ·cases h
 ·cases h
abbrev v0:Var:=⟨false,⟨[],[]⟩⟩
def ed(p:Program):Program:=⟨p.aa,p.Speak,p.Ins,p.Outs,List.replicate p.Vars.length v0,p.Funcs,p.Main⟩
def sY(k:Nat)(vs:List Var):List Var:=List.replicate k v0++vs.drop k
theorem Cy{k:Nat}{vs:List Var}(h:k≤vs.length):(sY k vs).length=vs.length:=by simp [sY];omega
theorem PR{k:Nat}{vs:List Var}(h:k<vs.length):(sY k vs).set k v0=sY (k+1) vs:=by
 unfold sY
 rw [List.set_append,if_neg (by simp),List.length_replicate,Nat.sub_self,List.drop_eq_getElem_cons h,List.set_cons_zero,List.replicate_succ']
 simp
def tz(p r:Program)(k:Nat):St:=⟨[(1,.p ⟨0,1⟩ 0),(5,.p ⟨0,5⟩ 0),(6,I k)],[(1,ar p),(5,nR r (.sp ⟨0,y0⟩ 0 r.Vars.length 3)),(y0,lE (sY k r.Vars))],H0⟩
set_option maxHeartbeats 8000000 in
theorem FL(p r:Program)(hl:r.Vars.length≤1000):∀ (m k:Nat),k+m=r.Vars.length→∃ z,ju G Ω0 E0 K1 (tz p r k)=some (.ex 0,z)∧z.aH [1,5] [1,5,y0]=(tz p r r.Vars.length).aH [1,5] [1,5,y0]
 | 0,k,hk=>by
  obtain rfl:k=r.Vars.length:=by omega
  refine ⟨_,ig (r:=(.ex 0,?_)) ?_ (by simp),?_⟩
  rotate_left
  ·show run G Ω0 _ GX _=_
   apply rq
   apply ae (by simp [tz,nR];rfl)
   apply bS (by simp)
   exact iC _ _ _
  ·simp [tz,nR,K1]
 | m+1,k,hk=>by
  have hlt:k<r.Vars.length:=by omega
  have hwr:=qA k (by omega)
  have hq:=FK (u:=v0) (vs:=sY k r.Vars) (j:=k) (by rw [Cy (by omega)];exact hlt)
  rw [PR hlt] at hq
  have hfl:=FJ (sY k r.Vars)
  rw [Cy (by omega)] at hfl
  have hle:k*3+3≤(lE (sY k r.Vars)).length:=by omega
  have hs:run G Ω0 E0 GX (tz p r k)=some (.nrm,tz p r (k+1)):=by
   apply ae
   ·apply ae (by simp [tz,nR];rfl)
    apply dE (by simp [hlt])
    exact bU _ _
   apply fG
   apply ae
   ·apply ku
    simp [hlt,hle,nR]
    rfl
   simp [tz,hwr,nR,←hq]
  obtain ⟨z,h1,h2⟩:=FL p r hl m (k+1) (by omega)
  refine ⟨z,?_,h2⟩
  rw [iE]
  exact h1
  show (run G Ω0 _ GX (tz p r k)).bind _=_
  rw [hs];rfl
abbrev VA(l:fp):List AV:=[.l 45 (l.Vars.map aE),.l 45 (l.Funcs.map aE)]
def y1(p:Program)(l m:fp)(k:Nat):St:=⟨[(1,.p ⟨0,1⟩ 0),(7,.p ⟨0,7⟩ 0),(8,.p ⟨0,8⟩ 0),(10,I k)],[(1,ar p),(7,VA l),(8,VA m)],H0⟩
set_option maxHeartbeats 8000000 in
theorem FM(p:Program)(l m:fp)(hl:l.Vars.length≤1000)(hm:m.Vars.length=l.Vars.length)(hf:∀ (i:Nat)(a b:Level),m.Vars[i]? =some a→l.Vars[i]? =some b→qW p.aa a b=some (true,0)) :
  ∀ (n k:Nat),k+n=l.Vars.length→∃ z,ju G Ω0 E0 Sm (y1 p l m k)=some (.ex 2,z)∧z.hp=H0
 | 0,k,hk=>by
  obtain rfl:k=l.Vars.length:=by omega
  refine ⟨_,ig (r:=(.ex 2,?_)) ?_ (by simp),?_⟩
  rotate_left
  ·show run G Ω0 _ K2 _=_
   apply rq
   apply ae (by simp [y1];rfl)
   apply bS (by simp)
   exact iC _ _ _
  ·rfl
 | n+1,k,hk=>by
  have hlt:k<l.Vars.length:=by omega
  have hwr:=qA k (by omega)
  have g1:=List.getElem?_eq_getElem hlt
  have g2:=List.getElem?_eq_getElem (show k<m.Vars.length by omega)
  generalize l.Vars[k]=b at g1
  generalize m.Vars[k]=a at g2
  have hF:=cR (E:=E0) (Ce p.aa a b (true,0) (hf k a b g2 g1)) (by simp) (by simp)
  have hs:run G Ω0 E0 K2 (y1 p l m k)=some (.nrm,y1 p l m (k+1)):=by
   apply ae
   ·apply ae (by simp [y1];rfl)
    apply dE (by simp [hlt])
    exact bU _ _
   apply fG
   apply ae
   ·apply ku
    apply ae
    ·apply kv 7
     ·rfl
     ·simp
     ·simp [g2,aE]
      rfl
     ·exact gq 5 (by simp [g1,aE];rfl) (by simp [-bk,hF];rfl)
     ·simp
      rfl
    apply ae (by simp;rfl)
    apply bS (by simp)
    exact bU _ _
   simp [y1,hwr]
  obtain ⟨z,h1,h2⟩:=FM p l m hl hm hf n (k+1) (by omega)
  refine ⟨z,?_,h2⟩
  rw [iE]
  exact h1
  show (run G Ω0 _ K2 (y1 p l m k)).bind _=_
  rw [hs];rfl
set_option maxHeartbeats 8000000 in
theorem Ko(p:Program)(ok:Bool)(e:Int)(h:mD p=some (ok,e))(hb:¬(e=0∧ok=true)):call G Ω0 E0 6 [.a (ar p)] H0=some (.ret (.b true),H0):=by
 have hF:=cR (E:=E0) (wW p (ok,e) h) (by simp) (by simp)
 have hB1:call G Ω0 ⟨0,false⟩ 16 [] (fun _=>none)=some (.ret (.b true),fun _=>none):=uD true rfl
 have hB2:call G Ω0 ⟨0,false⟩ 33 [] (fun _=>none)=some (.ret (.b true),fun _=>none):=uE true rfl
 have hJ:Ω0 31 []=some (.b true):=rfl
 apply gU G6
 ·apply ae (by simp;rfl)
  apply ae (by simp [-bk,hF];rfl)
  apply ae
  ·apply ae (by simp [hB1,hB2,hJ];rfl)
   apply bS (by simp)
   exact bU _ _
  apply fG
  apply yP
  by_cases he:e=0
  ·have hok:ok=false:=by cases ok<;>simp_all
   subst he hok
   apply ae (by simp;rfl)
   apply dE (by simp)
   apply ae (by simp;rfl)
   exact db _ _
  ·apply ae (by simp [he];rfl)
   apply dE (by simp)
   apply ae (by simp;rfl)
   exact db _ _
 ·simp [c6]
 ·rfl
abbrev acw(p r:Program):St:=⟨[(1,.p ⟨0,1⟩ 0),(5,.p ⟨0,5⟩ 0)],[(1,ar p),(5,ar r)],H0⟩
theorem VB{E:Env}{pre:List uy}{ops:List dL}{kf kb:List Nat}{st st1:St}{r:aI×St}(h0:qP E st pre=some st1)(h:run G Ω0 E (.rg [] ops kf kb) st1=some r):run G Ω0 E (.rg pre ops kf kb) st=some r:=by
 rw [tG,h0,Option.bind_some]
 rw [tG] at h
 exact h
set_option maxHeartbeats 8000000 in
theorem PS(p r:Program)(l m:fp)(h:mD p=some (true,0))(hr:lD p=some r)(hv:r.Vars.length≤1000)(h1:nm p=some (l,0))(h2:nm (ed r)=some (m,0))
  (hl:l.Vars.length≤1000) (hm:m.Vars.length=l.Vars.length) (hf:∀ (i:Nat)(a b:Level),m.Vars[i]? =some a→l.Vars[i]? =some b→qW p.aa a b=some (true,0)):call G Ω0 E0 6 [.a (ar p)] H0=some (.ret (.b true),H0):=by
 have hF:=cR (E:=E0) (wW p (true,0) h) (by simp) (by simp)
 have hB1:call G Ω0 ⟨0,false⟩ 16 [] (fun _=>none)=some (.ret (.b true),fun _=>none):=uD true rfl
 have hB2:call G Ω0 ⟨0,false⟩ 33 [] (fun _=>none)=some (.ret (.b true),fun _=>none):=uE true rfl
 have hJ:Ω0 31 []=some (.b true):=rfl
 have hC:=Nw p r hr
 have hI1:=cR (E:=E0) (wa p (l,0) h1) (by simp) (by simp)
 have hI2:=cR (E:=E0) (wa (ed r) (m,0) h2) (by simp) (by simp)
 obtain ⟨z2,hz2,hz3⟩:=FM p l m hl hm hf l.Vars.length 0 (by simp)
 have tail:∀ z:St,(∃ z',(z.aH [1,5] [1,5,y0])=z'∧qP E0 z' [.unp 5 5]=some (acw p (ed r)))→run G Ω0 E0 Sn z=some (.ret,⟨[(2,.b true)],[],H0⟩):=by
  rintro z ⟨z',rfl,hz⟩
  generalize ed r=q at hz hI2
  apply fG
  apply ae
  ·apply VB hz
   simp [-bk,hI1]
   rfl
  apply ae
  ·simp [-bk,hI2]
   rfl
  apply ae
  ·apply ae (by simp [hm];rfl)
   apply bS (by simp)
   exact bU _ _
  apply fG
  apply ae
  ·apply ae (by simp;rfl)
   apply qc
   rw [ey]
   exact hz2
  apply ae (by simp [hz3];rfl)
  exact db _ _
 apply gU G6
 ·apply ae (by simp;rfl)
  apply ae (by simp [-bk,hF];rfl)
  apply ae
  ·apply ae (by simp [hB1,hB2,hJ];rfl)
   apply bS (by simp)
   exact bU _ _
  apply fG
  apply ae
  ·apply ae (by simp;rfl)
   apply bS (by simp)
   exact bU _ _
  apply fG
  by_cases hr0:r.Vars=[]
  ·apply ae (by simp [A8,hC,yn,hr0];rfl)
   apply ae
   ·apply ae (by simp;rfl)
    apply qc
    rw [ey]
    refine ig (r:=(.ex 0,?_)) ?_ (by simp)
    rotate_left
    show run G Ω0 _ GX _=_
    apply rq
    apply ae (by simp [hr0];rfl)
    apply bS (by simp [hr0])
    exact iC _ _ _
   apply tail
   refine ⟨_,rfl,?_⟩
   simp [hr0,ed,K1]
  ·obtain ⟨z1,g1,g2⟩:=FL p r hv r.Vars.length 0 (by simp)
   apply ae (by simp [A8,hC,yn,hr0,tc,nR];rfl)
   apply ae
   ·apply ae (by simp;rfl)
    apply qc
    rw [ey]
    exact g1
   apply tail
   refine ⟨_,g2,?_⟩
   have c1:=DR (sY r.Vars.length r.Vars)
   have c2:=FJ (sY r.Vars.length r.Vars)
   rw [Cy (Nat.le_refl _)] at c1 c2
   have c3:sY r.Vars.length r.Vars=List.replicate r.Vars.length v0:=by simp [sY]
   simp [tz,nR,od,c1,c2,Nat.mul_comm]
   rw [c3]
   exact ⟨rfl,rfl,rfl,rfl,rfl,rfl,rfl,rfl⟩
 ·simp [c6]
 ·rfl
theorem DS(p:Program):bg (ed p)=bg p:=by
 funext i s
 unfold bg fY tN bg.cq
 simp only [ed,List.length_replicate]
theorem LI(p:Program)(e:ak):bg.cq (ed p) e=bg.cq p e:=by
 unfold bg.cq
 simp only [ed,List.length_replicate]
theorem PT(p:Program)(i:Int)(f:Func):wR (ed p) i f=wR p i f:=by
 unfold wR
 rw [DS,LI]
 simp only [ed,List.length_replicate]
theorem FN(p:Program):∀ (l:List Func)(i:Nat),mx (ed p) i l=mx p i l
 | [],_=>rfl
 | f::r,i=>by rw [mx,mx,PT,FN p r]
variable [Lp]
theorem LJ{p:Program}(h:lr p=0):lr (ed p)=0:=by
 have e1:br (fun v:Var=>fB p.aa.Many v.Label) (List.replicate p.Vars.length v0)=0:=by
  induction p.Vars.length with
  | zero=>rfl
  | succ n ih=>
   rw [List.replicate_succ,zz,if_neg (by simp [fB,qX,br,da])]
   exact ih
 have e2:(List.replicate p.Vars.length v0).any (fun v=>!v.Known&&decide (0<v.Label.Read.length+v.Label.Write.length))=false:=by
  rw [List.any_eq_false]
  intro v hv
  rw [(List.mem_replicate.1 hv).2]
  simp
 unfold lr at h
 split at h
 ·exact absurd h ‹_›
 rename_i a1
 split at h
 ·exact absurd h (by decide)
 rename_i a2
 split at h
 ·exact absurd h (by decide)
 rename_i a3
 split at h
 ·exact absurd h ‹_›
 rename_i a4
 have a2':¬(16<(ed p).Vars.length∨5<p.Ins.length∨5<p.Outs.length∨5<p.Funcs.length∨p.aa.Many<(p.Speak.length:Int)):=by
  simp only [ed,List.length_replicate];exact a2
 exact (if_neg a1).trans<|(if_neg a2').trans<|(if_neg a3).trans<|(if_neg a4).trans<|(if_neg (fun hn=>hn e1)).trans<|if_neg (by show ¬((List.replicate p.Vars.length v0).any _=true);rw [e2];simp)
theorem Ju{p:Program}(h:oI p=0):oI (ed p)=0:=by
 unfold oI at h ⊢
 rw [FN,DS]
 by_cases h1:lr p=0
 ·rw [if_neg (by simp [h1])] at h
  rw [if_neg (by simp [LJ h1])]
  exact h
 ·rw [if_pos h1] at h;exact absurd h h1
theorem FO(p:Program)(V:List Level)(pl:Level)(ps:List Int):∀ (es:List ak)(i:Nat)(o:List cb),my (ed p) V pl ps es i o=my p V pl ps es i o
 | [],_,_=>rfl
 | e::r,i,o=>by
  rw [my,my]
  show (lQ p V pl e).bind _=_
  congr 1;funext l;congr 1;funext n
  exact FO p V pl ps r (i+1) _
theorem LK(p:Program)(V:List Level)(s:Stmt)(pl:Level):fw (ed p) V s pl=fw p V s pl:=by
 unfold fw
 simp only [FO]
 rfl
theorem rF{a k:Int}{b:Bool}(h:lA a k b=[]):b=false:=by
 unfold lA at h
 cases b with
 | false=>rfl
 | true=>simp at h
theorem Io{α β:Type}{g:α→List β} : ∀ {L:List α},L.flatMap g=[]→∀ x∈L,g x=[]
 | y::L,hL,x,hx=>by
  rw [List.flatMap_cons] at hL
  obtain ⟨h1,h2⟩:=List.append_eq_nil_iff.1 hL
  rcases List.mem_cons.1 hx with rfl | hx
  ·exact h1
  ·exact Io h2 x hx
theorem Nx{p:Program}(h:pV p){a b:Level}(ha:bz (MM p) a)(hb:bz (MM p) b):DA p.aa [a,b]=0:=by
 have hm:=sP h.eG
 obtain ⟨a1,a2⟩:=ha
 obtain ⟨b1,b2⟩:=hb
 unfold DA
 rw [if_neg (by simp [h.eG]),if_neg]
 simp [xX,a1,a2,b1,b2]
 omega
section
variable {p:Program}(h:pV p)(ho:zy p){m:fp}(hV:gY p m.Vars m.Funcs)
include h ho hV
theorem Ny{i:Nat}(hi:i≤p.Funcs.length){s:Stmt}(hs:bg p i s=0){a:Int}{pl:Level}(hpl:bz (MM p) pl)(hf:tT p m.Vars s a pl=[])(hr:asks p m.Vars m.Funcs s pl):asks (ed p) m.Vars m.Funcs s pl:=by
 intro fs hfs f hm
 rw [LK] at hfs
 have hrf:=hr fs hfs f hm
 have hget:∀ t,m.Vars[f.To.toNat]? =some t→m.Vars.getD f.To.toNat (dZ (MM p))=t:=fun t ht=>by rw [List.getD_eq_getElem?_getD,ht];rfl
 have hok:DL p m.Vars s pl=true→rr (ed p) (MM p) m.Vars m.Funcs f:=fun hk=>by
  have h1:okF p m.Vars f=true:=by
   unfold DL at hk
   refine List.all_eq_true.1 hk f ?_
   unfold vW;rw [hfs];exact hm
  unfold okF at h1
  unfold rr at hrf ⊢
  cases hfn:f.Func with
  | true=>rw [hfn,if_pos rfl] at hrf;rw [if_pos rfl];exact hrf
  | false=>
   rw [if_neg (by simp)]
   intro v t _ _ ht
   rw [hfn,Bool.false_or,hget t ht] at h1
   exact h1
 show rr (ed p) (MM p) m.Vars m.Funcs f
 unfold tT at hf
 by_cases k1:s.Kind=1
 ·rw [if_pos k1] at hf;exact hok (by simpa using rF hf)
 rw [if_neg k1] at hf
 by_cases k2:s.Kind=2
 ·rw [if_pos k2] at hf;exact hok (by simpa using rF hf)
 rw [if_neg k2] at hf
 by_cases k3:s.Kind=3
 ·rw [if_pos k3] at hf
  have h1:=rF hf
  refine hok ?_
  cases hk:DL p m.Vars s pl with
  | true=>rfl
  | false=>rw [hk] at h1;simp at h1
 rw [if_neg k3] at hf
 by_cases k4:s.Kind=4
 ·unfold fw at hfs
  simp [k1,k2,k3,k4] at hfs
  subst hfs;cases hm
 rw [if_neg k4] at hf
 obtain ⟨_,g2,_,_,g5,_⟩:=vd hs
 by_cases k56:s.Kind=5∨s.Kind=6
 ·rw [if_pos k56] at hf
  have he:=g5 (by rcases k56 with k | k<;>(rw [k];rfl))
  have hof:=of_eq h hV he hpl
  obtain ⟨f1,hf2⟩:=List.append_eq_nil_iff.1 hf
  obtain ⟨_,hf3⟩:=List.append_eq_nil_iff.1 hf2
  obtain ⟨_,hf4⟩:=List.append_eq_nil_iff.1 hf3
  have t1:=rF f1
  simp only [Bool.not_eq_false'] at t1
  have t1:=le_iff.1 t1
  by_cases k5:s.Kind=5
  ·rw [if_pos k5] at hf4
   obtain ⟨f5,_⟩:=List.append_eq_nil_iff.1 hf4
   have t2:=rF f5
   simp only [Bool.not_eq_false',sO,List.all_eq_true,List.mem_range,Bool.or_eq_true,Bool.not_eq_true'] at t2
   unfold fw at hfs
   rw [if_neg k1,if_neg k2,if_neg k3,if_pos k5,hof,Option.bind_some] at hfs
   obtain rfl:=Option.some.inj hfs
   obtain rfl:=List.mem_singleton.1 hm
   unfold rr
   rw [if_neg (by simp)]
   intro v t _ _ ht
   rw [hget t ht] at t1 t2
   refine le_iff.2 fun k hk=>⟨(t1 k hk).1,fun hw=>?_⟩
   simp only [cg] at hw
   rw [DH hk,Bool.or_eq_true] at hw
   rcases hw with hw | hw
   ·exact (t1 k hk).2 hw
   ·exact (t2 k hk).resolve_left (by simp [hw])
  ·have k6:s.Kind=6:=k56.resolve_left k5
   rw [if_neg k5] at hf4
   have t2:=rF hf4
   simp only [Bool.not_eq_false',sO,List.all_eq_true,List.mem_range,Bool.or_eq_true,Bool.not_eq_true'] at t2
   unfold fw at hfs
   rw [if_neg k1,if_neg k2,if_neg k3,if_neg k5,if_pos k6,hof,Option.bind_some] at hfs
   obtain rfl:=Option.some.inj hfs
   obtain rfl:=List.mem_singleton.1 hm
   unfold rr
   rw [if_neg (by simp)]
   intro v t _ _ ht
   rw [hget t ht] at t1 t2
   refine le_iff.2 fun k hk=>⟨fun hw=>?_,(t1 k hk).2⟩
   simp only [cg]
   rw [Av hk,(t1 k hk).1 hw,(t2 k hk).resolve_left (by simp [hw])];rfl
 ·have k5:¬s.Kind=5:=fun e=>k56 (.inl e)
  have k6:¬s.Kind=6:=fun e=>k56 (.inr e)
  unfold fw at hfs
  simp [k1,k2,k3,k5,k6] at hfs
  subst hfs;cases hm
theorem PU(hr:vP (MM p) m.Vars (asks p m.Vars m.Funcs) p m.Funcs)(hf:EO p m=[]):vP (MM p) m.Vars (asks (ed p) m.Vars m.Funcs) (ed p) m.Funcs:=by
 have h1:=(Kl (p:=p) hV.fl).1 hr
 refine (Kl (p:=ed p) hV.fl).2 fun x hx=>?_
 have hx':x∈qJ (MM p) m.Vars p m.Funcs:=hx
 obtain ⟨⟨i,hi,hs⟩,hpl⟩:=FE h ho hV x hx'
 exact Ny h ho hV hi hs hpl (Io hf x hx') (h1 x hx')
end
theorem PV(p:Program)(hp:∀ f∈p.Funcs,f.Params.length≤9223372036854775807):call G Ω0 E0 6 [.a (ar p)] H0=some (.ret (.b true),H0):=by
 have hc:=HG hp
 by_cases h0:oI p=0
 ·have h:=M3 h0
  have ho:=BM h0
  obtain ⟨l,l1,l2,l3,l4⟩:=RG h ho
  have hj:=Jt h ho l1 l2
  by_cases hf:EO p l=[]
  ·have hq:=Ju h0
   have h':=M3 hq
   have ho':=BM hq
   have hall:=PU h ho l2 l3 hf
   obtain ⟨m,m1,m2,m3,m4,m5,m6⟩:=Nh h' ho' (W:=l.Vars) (E:=l.Funcs) ⟨by rw [l2.vl];simp [ed],l2.fl,l2.vs,l2.fs⟩ (fun i v b hv hk _=>by
    rw [show (ed p).Vars=List.replicate p.Vars.length v0 from rfl,List.getElem?_replicate] at hv
    split at hv
    ·obtain rfl:=Option.some.inj hv;cases hk
    ·cases hv) hall
   have hc':kS (ed p)=some 0:=by rw [HG (p:=ed p) hp,hq]
   have hlen:m.Vars.length=l.Vars.length:=m4.1
   refine PS p p l m ?_ (RM h ho) (by have:=ho.vars;omega) ?_ ?_ (by rw [l2.vl];have:=ho.vars;omega) hlen fun i a b ha hb=>?_
   ·unfold mD mC
    rw [hc,h0,hj,hf];rfl
   ·unfold nm
    rw [hc,h0,l1];rfl
   ·unfold nm
    rw [hc',m1];rfl
   ·have s1:=m2.vs a (List.mem_of_getElem? ha)
    have s2:=l2.vs b (List.mem_of_getElem? hb)
    have hle:=m4.2 i a b ha hb
    unfold qW
    rw [Rw p.aa _ (by simp),Option.bind_some,Nx h s1 s2]
    simp only [bne_self_eq_false,Bool.false_eq_true,if_false]
    rw [sQ h.small s1 s2,Option.bind_some]
    show some (ly (MM p) a b,(0:Int))=_
    rw [show ly (MM p) a b=true from hle]
  ·refine Ko p false 0 ?_ (by simp)
   unfold mD mC
   rw [hc,h0,hj]
   simp [hf]
 ·refine Ko p false (oI p) ?_ (by simp)
  unfold mD mC
  rw [hc]
  simp [h0]
end Go.Proofs.YtkkkkondjclcnaaGreat.A
