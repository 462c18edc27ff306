/- infer.Walker as plain functions: what the rows of levels are; the flows that a command asks for. -/
import Derived.Test.YtkkkkondjclcnaaLevelF
set_option maxRecDepth 100000
set_option linter.unusedSectionVars false
set_option linter.unusedVariables false
set_option linter.unusedSimpArgs false
set_option linter.constructorNameAsVariable false
namespace Go.Proofs.Ytkkkkondjclcnaa.A
open Go
variable [Lp]
abbrev ml(e:aw):List AV:=[(I e.Kind),(I e.N),(.l 53 (e.Args.map aG))]
def cR(ls:List Level):List AV:=ls.flatMap aB
theorem pI(ls:List Level):(cR ls).length=2*ls.length:=by
 induction ls with
 | nil=>rfl
 | cons l r ih=>simp only [cR,List.flatMap_cons,List.length_append,List.length_cons,List.length_nil] at ih ⊢;omega
theorem ph:∀ ls:List Level,chunks 2 ls.length (cR ls)=ls.map ah
 | []=>rfl
 | l::r=>by
  have ih:=ph r
  show chunks 2 (r.length+1) (aB l++cR r)=_
  rw [chunks,if_neg (by decide),List.map_cons]
  show AV.a (aB l)::chunks 2 r.length (cR r)=_
  rw [ih];rfl
theorem vt(ls:List Level):AV.aO (cR ls)=true:=by
 induction ls with
 | nil=>rfl
 | cons l r ih=>
  show AV.aO (aB l++cR r)=true
  exact Cl (by simp [AV.aO,AV.pure]) ih
abbrev kV:Key:=⟨0,1044000⟩
abbrev kF:Key:=⟨0,1044001⟩
inductive tu(H:HP):AV→List Level→Prop where
 | l (t:TypeId) (ls:List Level):tu H (.l t (ls.map ah)) ls
 | sp (k:Key) (ls:List Level) (h:H k=some (cR ls)) (hk:k=kV∨k=kF):tu H (.sp k 0 ls.length 2) ls
theorem vu{q:Level} : ∀ {ls:List Level}{j:Nat},ls[j]? =some q→j*2+2≤(cR ls).length∧List.take 2 (List.drop (j*2) (cR ls))=aB q
 | [],j,h=>by simp at h
 | l::r,0,h=>by
  obtain rfl:l=q:=by simpa using h
  exact ⟨by rw [pI,List.length_cons];omega,rfl⟩
 | l::r,j+1,h=>by
  obtain ⟨h1,h2⟩:=vu (ls:=r) (j:=j) (by simpa using h)
  refine ⟨by rw [pI] at h1 ⊢;simp only [List.length_cons];omega,?_⟩
  rw [show (j+1)*2=j*2+2 by omega]
  exact h2
theorem Kj{E:Env}{st:St}{x:AV}{ls:List Level}(hE:E.dp≠0)(h:tu st.hp x ls):∃ t tys,st.eI E.dp x=some (.l t (ls.map ah),tys)∧(tys=[]∨tys=[44]):=by
 cases h with
 | l=>exact ⟨_,_,sc _ _ (by simp [AV.pure]),.inl rfl⟩
 | sp k _ h hk=>
  have hb:st.box E.dp k=some (cR ls):=by
   rcases hk with rfl | rfl<;>simp only [St.box,if_neg (Ne.symm hE)]<;>exact h
  have hkd:1000000≤k.d∧(k.d - 1000000) / 1000=44:=by rcases hk with rfl | rfl<;>decide
  refine ⟨0,[44],?_,.inr rfl⟩
  unfold St.eI
  simp only [hb,Option.bind_some,List.drop_zero,ph,hkd.2]
  rw [if_pos]
  simp [hkd.1,vt,pI,Nat.mul_comm]
theorem CV{E:Env}{st:St}{x:AV}{p:Program}{ls:List Level}{e:aw}{r:Level}(hE:E.dp≠0)(h:tu st.hp x ls)(hF:iA p ls e=some r) :
  bE (call G Ω0) Ω0 E st 0 38 [.a (an p),x,.a (ml e)]=some (.a (aB r),st):=by
 obtain ⟨t,tys,h1,h2⟩:=Kj hE h
 have h3:=wL t p ls e r hF
 unfold bE
 have hp:(.a (an p):AV).pure=true:=by simp [AV.pure,AV.aO]
 have he:(.a (ml e):AV).pure=true:=by simp [AV.pure,AV.aO]
 simp only [St.cI,sc _ _ hp,sc _ _ he,h1,Option.bind_some]
 have h4:call G Ω0 ⟨0,false⟩ 38 [.a (an p),.l t (ls.map ah),.a (ml e)] (fun _=>none)=some (.ret (.a (aB r)),fun _=>none):=h3
 rw [h4]
 have hpr:(.a (aB r):AV).pure=true:=by simp [AV.pure,AV.aO]
 simp only [Option.bind_some,hpr,Bool.true_and,List.nil_append,List.append_nil]
 rcases h2 with rfl | rfl
 ·simp
 ·simp [HE]
abbrev iQ(p:Program)(x y f:AV)(a:Int):List AV:=[(I p.aa.Many),(.l 93 (p.aa.Grants.map ax)),(.l 3 (p.Speak.map (I))),(.l 60 (p.Ins.map ar)),(.l 60 (p.Outs.map ar)),(.l 67 (p.Vars.map bB)),(.l 85 (p.Funcs.map bC)),(.l 74 (p.Main.map aI)),x,y,f,I a]
theorem gG{E:Env}{f:FuncId}{args:List AV}{r:AV}(h:call G Ω0 ⟨0,false⟩ f args (fun _=>none)=some (.ret r,fun _=>none))(hp:AV.aO args=true)(hr:r.pure=true)(st:St) :
  bE (call G Ω0) Ω0 E st 0 f args=some (r,st):=by
 unfold bE
 simp only [va _ _ hp,Option.bind_some,h,hr]
 rfl
set_option maxHeartbeats 4000000 in
theorem Kk(dp:Nat)(ro:Bool)(H:HP)(kc kw:Key)(hkc:kc.dp<dp)(hkw:kw.dp<dp)(p:Program)(x y f:AV)(a:Int)(V:List Level)(hc:H kc=some [.p kw 0])(hw:H kw=some (iQ p x y f a))(hx:tu H x V)
  (place:Level) (e:aw) (l r:Level) (hl:iA p V e=some l) (hr:cE place l=some r) :
  call G Ω0 ⟨dp,ro⟩ 52 [.a (ml e),.e (.a (aB place)) 0,.p kc 0] H=some (.ret (.a (aB r)),H):=by
 have e1:¬kc.dp=dp:=by omega
 have e2:¬kw.dp=dp:=by omega
 have e3:∀ d,¬kc=⟨dp,d⟩:=fun d=>bH hkc
 have hB:=gG (E:=⟨dp,ro⟩) (iN place l r hr) (by simp) (by simp)
 have hL:∀ st:St,st.hp=H→bE (call G Ω0) Ω0 ⟨dp,ro⟩ st 0 38 [.a (an p),x,.a (ml e)]=some (.a (aB l),st):=fun st hs=>CV (E:=⟨dp,ro⟩) (by show dp≠0;omega) (by rw [hs];exact hx) hl
 rw [nS,T5,Option.bind_some]
 cases hx<;>simp [-bE,I7,gp,execOp,e1,e2,hc,hw,okB,oa,dR,kx,uX,ka,jC,hL,hB,e3,fx,St.end_,St.nm]
noncomputable def jw(p:Program)(V:List Level)(place:Level)(e:aw):Option Level:=(iA p V e).bind fun l=>cE place l
@[simp] theorem UE (H:HP) (t:TypeId) (ls:List Level):tu H (.l t (ls.map ah)) ls:=.l t ls
theorem HX{p:Program}{V:List Level}{place:Level}{e:aw}{r:Level}(h:jw p V place e=some r){dp:Nat}{ro:Bool}{kc kw:Key}{x y f:AV}{a:Int}(hkc:kc.dp<dp)(hkw:kw.dp<dp)(H:HP)(hc:H kc=some [.p kw 0])(hw:H kw=some (iQ p x y f a))(hx:tu H x V) :
  call G Ω0 ⟨dp,ro⟩ 52 [.a (ml e),.e (.a (aB place)) 0,.p kc 0] H=some (.ret (.a (aB r)),H):=by
 obtain ⟨l,h1,h2⟩:=Option.bind_eq_some_iff.1 h
 exact Kk dp ro H kc kw hkc hkw p x y f a V hc hw hx place e l r h1 h2
noncomputable def ov(p:Program)(V:List Level)(place:Level)(ps:List Int):List aw→Nat→List bJ→Option (List bJ)
 | [],_,out=>some out
 | e::r,i,out=>(jw p V place e).bind fun l=>(ps[i]?).bind fun n=>ov p V place ps r (i+1) (out++[⟨l,n,false⟩])
noncomputable def nY(p:Program)(V:List Level)(s:Stmt)(place:Level):Option (List bJ):=
 if s.Kind=1 then (jw p V place s.Expr).bind fun l=>some [⟨l,s.Var,false⟩]
 else if s.Kind=2 then (fY s.Other).bind fun j=>(p.Funcs[j]?).bind fun f=>(ov p V place f.Params s.Args 0 []).bind fun out=>
  (jw p V place f.Result).bind fun l=>some (out++[⟨l,s.Var,false⟩,⟨place,s.Other,true⟩])
 else if s.Kind=3 then (fY s.Other).bind fun j=>(p.Ins[j]?).bind fun b=>(e7 p.aa b).bind fun o=>(cE place o).bind fun l=>some [⟨l,s.Var,false⟩]
 else if s.Kind=5 then (jw p V place s.Expr).bind fun l=>some [⟨⟨place.Readers,l.Writers⟩,s.Var,false⟩]
 else if s.Kind=6 then (jw p V place s.Expr).bind fun l=>some [⟨⟨l.Readers,place.Writers⟩,s.Var,false⟩]
 else some []
section
variable {E:Env}{x y:AC}{st st1:St}{r:Option (aE×St)}
theorem ak(h1:run G Ω0 E x st=some (.nrm,st1))(h2:run G Ω0 E y st1=r):run G Ω0 E (.sq x y) st=r:=by rw [px,h1];exact h2
theorem Au(h1:run G Ω0 E x st=some (.ret,st1)):run G Ω0 E (.sq x y) st=some (.ret,st1):=by rw [px,h1];rfl
theorem oZ{id:Nat}(h1:run G Ω0 E x st=some (.ex id,st1)):run G Ω0 E (.sq x y) st=some (.ex id,st1):=by rw [px,h1];rfl
theorem eK{c:aA}(h:nQ (st.ev c)=some true)(h2:run G Ω0 E x st=r):run G Ω0 E (.ite c x y) st=r:=by rw [run_ite,h];exact h2
theorem dH{c:aA}(h:nQ (st.ev c)=some false)(h2:run G Ω0 E y st=r):run G Ω0 E (.ite c x y) st=r:=by rw [run_ite,h];exact h2
theorem nM{id:Nat}(h1:run G Ω0 E x st=some (.nrm,st1)):run G Ω0 E (.bl id x) st=some (.nrm,st1):=by rw [oc,h1];rfl
theorem CW{id:Nat}(h1:run G Ω0 E x st=some (.ret,st1)):run G Ω0 E (.bl id x) st=some (.ret,st1):=by rw [oc,h1];rfl
theorem sP{id:Nat}(h1:run G Ω0 E x st=some (.ex id,st1)):run G Ω0 E (.bl id x) st=some (.nrm,st1):=by rw [oc,h1];simp only [Option.bind_some,inBlock,if_true]
theorem kq{kf kb:List Nat}(h:run G Ω0 E x (st.aD kf kb)=r):run G Ω0 E (.kp kf kb x) st=r:=by rw [iG];exact h
theorem A4{s1 s2:St} : ∀ (n:Nat){ops:List aY}{s:St},im (call G Ω0) Ω0 E s (ops.take n)=some s1→im (call G Ω0) Ω0 E s1 (ops.drop n)=some s2→im (call G Ω0) Ω0 E s ops=some s2
 | 0,ops,s,h1,h2=>by obtain rfl:=Option.some.inj h1;exact h2
 | n+1,[],s,h1,h2=>by obtain rfl:=Option.some.inj h1;exact h2
 | n+1,p::ps,s,h1,h2=>by
  obtain ⟨s3,h3,h4⟩:=Option.bind_eq_some_iff.1 h1
  exact Option.bind_eq_some_iff.2 ⟨s3,h3,A4 n h4 h2⟩
theorem lE(n:Nat){pre:List qJ}{mks:List Nat}{ops:List aY}{kf kb:List Nat}{st st1 s1 s2 s3:St}(h0:pa E st pre=some st1)(hm:(mks.all (ob E.dp st1)&&ops.all (kx E.dp st1))=true)(h1:im (call G Ω0) Ω0 E st1 (ops.take n)=some s1)(h2:im (call G Ω0) Ω0 E s1 (ops.drop n)=some s2)(h3:s2.aD kf kb=s3) :
  run G Ω0 E (.dg pre mks ops kf kb) st=some (.nrm,s3):=by
 rw [Cc,h0,Option.bind_some,if_pos hm,A4 n h1 h2,Option.bind_some,h3]
theorem ox{f:FuncId}{fn:a8}{args:List AV}{hp hp':HP}{z:aR}(hG:G f=some fn)(h:run G Ω0 E fn.code ⟨iq 0 args,[],hp⟩=some (.ret,st))(he:st.end_ E fn.res=some z)(hh:st.hp=hp'):call G Ω0 E f args hp=some (z,hp'):=by
 rw [nS,hG,Option.bind_some,h];simp only [Option.bind_some,he,hh]
theorem zf{f:FuncId}{fn:a8}{args:List AV}{hp hp':HP}{z:aR}(hG:G f=some fn)(h:run G Ω0 E fn.code ⟨iq 0 args,[],hp⟩=some (.nrm,st))(he:st.end_ E fn.res=some z)(hh:st.hp=hp'):call G Ω0 E f args hp=some (z,hp'):=by
 rw [nS,hG,Option.bind_some,h];simp only [Option.bind_some,he,hh]
end
end Go.Proofs.Ytkkkkondjclcnaa.A
