/- infer.Walker as plain functions: what the rows of levels are; the flows that a command asks for. -/
import Derived.Test.YtkkkkondjclcnaaGreatLevelF
set_option maxRecDepth 100000
set_option linter.unusedSectionVars false
set_option linter.unusedVariables false
set_option linter.unusedSimpArgs false
set_option linter.constructorNameAsVariable false
namespace Go.Proofs.YtkkkkondjclcnaaGreat.A
open Go
variable [Lp]
abbrev mV(e:ak):List AV:=[(I e.Kind),(I e.N),(.l 37 (e.Args.map az))]
def dD(ls:List Level):List AV:=ls.flatMap av
theorem tR(ls:List Level):(dD ls).length=2*ls.length:=by
 induction ls with
 | nil=>rfl
 | cons l r ih=>simp only [dD,List.flatMap_cons,List.length_append,List.length_cons,List.length_nil] at ih ⊢;omega
theorem tr:∀ ls:List Level,chunks 2 ls.length (dD ls)=ls.map aE
 | []=>rfl
 | l::r=>by
  have ih:=tr r
  show chunks 2 (r.length+1) (av l++dD r)=_
  rw [chunks,if_neg (by decide),List.map_cons]
  show AV.a (av l)::chunks 2 r.length (dD r)=_
  rw [ih];rfl
theorem Ap(ls:List Level):AV.aK (dD ls)=true:=by
 induction ls with
 | nil=>rfl
 | cons l r ih=>
  show AV.aK (av l++dD r)=true
  exact zZ (by simp [AV.aK,AV.pure]) ih
abbrev kV:Key:=⟨0,1045000⟩
abbrev kF:Key:=⟨0,1045001⟩
inductive yb(H:HP):AV→List Level→Prop where
 | l (t:TypeId) (ls:List Level):yb H (.l t (ls.map aE)) ls
 | sp (k:Key) (ls:List Level) (h:H k=some (dD ls)) (hk:k=kV∨k=kF):yb H (.sp k 0 ls.length 2) ls
theorem Aq{q:Level} : ∀ {ls:List Level}{j:Nat},ls[j]? =some q→j*2+2≤(dD ls).length∧List.take 2 (List.drop (j*2) (dD ls))=av q
 | [],j,h=>by simp at h
 | l::r,0,h=>by
  obtain rfl:l=q:=by simpa using h
  exact ⟨by rw [tR,List.length_cons];omega,rfl⟩
 | l::r,j+1,h=>by
  obtain ⟨h1,h2⟩:=Aq (ls:=r) (j:=j) (by simpa using h)
  refine ⟨by rw [tR] at h1 ⊢;simp only [List.length_cons];omega,?_⟩
  rw [show (j+1)*2=j*2+2 by omega]
  exact h2
theorem Ry{E:Env}{st:St}{x:AV}{ls:List Level}(hE:E.dp≠0)(h:yb st.hp x ls):∃ t tys,st.fL E.dp x=some (.l t (ls.map aE),tys)∧(tys=[]∨tys=[45]):=by
 cases h with
 | l=>exact ⟨_,_,wJ _ _ (by simp [AV.pure]),.inl rfl⟩
 | sp k _ h hk=>
  have hb:st.box E.dp k=some (dD ls):=by
   rcases hk with rfl | rfl<;>simp only [St.box,if_neg (Ne.symm hE)]<;>exact h
  have hkd:1000000≤k.d∧(k.d - 1000000) / 1000=45:=by rcases hk with rfl | rfl<;>decide
  refine ⟨0,[45],?_,.inr rfl⟩
  unfold St.fL St.oe
  simp only [hb,Option.bind_some,List.drop_zero,tr,hkd.2]
  rw [if_pos]
  simp [hkd.1,Ap,tR,Nat.mul_comm]
theorem yO{E:Env}{st:St}{x:AV}{p:Program}{ls:List Level}{e:ak}{r:Level}(hE:E.dp≠0)(h:yb st.hp x ls)(hF:e7 p ls e=some r) :
  bk (call G Ω0) Ω0 E st 0 46 [.a (ar p),x,.a (mV e)]=some (.a (av r),st):=by
 obtain ⟨t,tys,h1,h2⟩:=Ry hE h
 have h3:=BF t p ls e r hF
 unfold bk
 have hp:(.a (ar p):AV).pure=true:=by simp [AV.pure,AV.aK]
 have he:(.a (mV e):AV).pure=true:=by simp [AV.pure,AV.aK]
 simp only [St.du,wJ _ _ hp,wJ _ _ he,h1,Option.bind_some]
 have h4:call G Ω0 ⟨0,false⟩ 46 [.a (ar p),.l t (ls.map aE),.a (mV e)] (fun _=>none)=some (.ret (.a (av r)),fun _=>none):=h3
 rw [h4]
 have hpr:(.a (av r):AV).pure=true:=by simp [AV.pure,AV.aK]
 simp only [Option.bind_some,hpr,Bool.true_and,List.nil_append,List.append_nil]
 rcases h2 with rfl | rfl
 ·simp
 ·simp [Pf]
abbrev bA(p:Program)(x y f:AV)(a:Int)(tl:List AV):List AV:=(I p.aa.Many)::(.l 166 (p.aa.Grants.map aB))::(.l 3 (p.Speak.map (I)))::(.l 81 (p.Ins.map ah))::(.l 81 (p.Outs.map ah))::(.l 83 (p.Vars.map aW))::(.l 101 (p.Funcs.map aS))::(.l 92 (p.Main.map ay))::x::y::f::I a::tl
theorem cR{E:Env}{f:FuncId}{args:List AV}{r:AV}(h:call G Ω0 ⟨0,false⟩ f args (fun _=>none)=some (.ret r,fun _=>none))(hp:AV.aK args=true)(hr:r.pure=true)(st:St) :
  bk (call G Ω0) Ω0 E st 0 f args=some (r,st):=by
 unfold bk
 simp only [zY _ _ hp,Option.bind_some,h,hr]
 rfl
set_option maxHeartbeats 4000000 in
theorem Rz(dp:Nat)(ro:Bool)(H:HP)(kc kw:Key)(hkc:kc.dp<dp)(hkw:kw.dp<dp)(p:Program)(x y f:AV)(a:Int)(tl:List AV)(V:List Level)(hc:H kc=some [.p kw 0])(hw:H kw=some (bA p x y f a tl))(hx:yb H x V)
  (place:Level) (e:ak) (l r:Level) (hl:e7 p V e=some l) (hr:cE place l=some r) :
  call G Ω0 ⟨dp,ro⟩ 108 [.a (mV e),.e (.a (av place)) 0,.p kc 0] H=some (.ret (.a (av r)),H):=by
 have e1:¬kc.dp=dp:=by omega
 have e2:¬kw.dp=dp:=by omega
 have e3:∀ d,¬kc=⟨dp,d⟩:=fun d=>aP hkc
 have hB:=cR (E:=⟨dp,ro⟩) (fW place l r hr) (by simp) (by simp)
 have hL:∀ st:St,st.hp=H→bk (call G Ω0) Ω0 ⟨dp,ro⟩ st 0 46 [.a (ar p),x,.a (mV e)]=some (.a (av l),st):=fun st hs=>yO (E:=⟨dp,ro⟩) (by show dp≠0;omega) (by rw [hs];exact hx) hl
 rw [np,abE,Option.bind_some]
 cases hx<;>simp [-bk,K3,gp,execOp,e1,e2,hc,hw,okB,k7,cY,iS,tE,jr,jc,hL,hB,e3,fM,St.end_,St.ir]
noncomputable def lQ(p:Program)(V:List Level)(place:Level)(e:ak):Option Level:=(e7 p V e).bind fun l=>cE place l
@[simp] theorem ade (H:HP) (t:TypeId) (ls:List Level):yb H (.l t (ls.map aE)) ls:=.l t ls
theorem Pw{p:Program}{V:List Level}{place:Level}{e:ak}{r:Level}(h:lQ p V place e=some r){dp:Nat}{ro:Bool}{kc kw:Key}{x y f:AV}{a:Int}{tl:List AV}(hkc:kc.dp<dp)(hkw:kw.dp<dp)(H:HP)(hc:H kc=some [.p kw 0])(hw:H kw=some (bA p x y f a tl))(hx:yb H x V) :
  call G Ω0 ⟨dp,ro⟩ 108 [.a (mV e),.e (.a (av place)) 0,.p kc 0] H=some (.ret (.a (av r)),H):=by
 obtain ⟨l,h1,h2⟩:=Option.bind_eq_some_iff.1 h
 exact Rz dp ro H kc kw hkc hkw p x y f a tl V hc hw hx place e l r h1 h2
noncomputable def my(p:Program)(V:List Level)(place:Level)(ps:List Int):List ak→Nat→List cb→Option (List cb)
 | [],_,out=>some out
 | e::r,i,out=>(lQ p V place e).bind fun l=>(ps[i]?).bind fun n=>my p V place ps r (i+1) (out++[⟨l,n,false⟩])
noncomputable def fw(p:Program)(V:List Level)(s:Stmt)(place:Level):Option (List cb):=
 if s.Kind=1 then (lQ p V place s.Expr).bind fun l=>some [⟨l,s.Var,false⟩]
 else if s.Kind=2 then (dG s.Other).bind fun j=>(p.Funcs[j]?).bind fun f=>(my p V place f.Params s.Args 0 []).bind fun out=>
  (lQ p V place f.Result).bind fun l=>some (out++[⟨l,s.Var,false⟩,⟨place,s.Other,true⟩])
 else if s.Kind=3 then (dG s.Other).bind fun j=>(p.Ins[j]?).bind fun b=>(jD p.aa b).bind fun o=>(cE place o).bind fun l=>some [⟨l,s.Var,false⟩]
 else if s.Kind=5 then (lQ p V place s.Expr).bind fun l=>some [⟨⟨place.Readers,l.Writers⟩,s.Var,false⟩]
 else if s.Kind=6 then (lQ p V place s.Expr).bind fun l=>some [⟨⟨l.Readers,place.Writers⟩,s.Var,false⟩]
 else some []
section
variable {E:Env}{x y:AC}{st st1:St}{r:Option (aI×St)}
theorem ae(h1:run G Ω0 E x st=some (.nrm,st1))(h2:run G Ω0 E y st1=r):run G Ω0 E (.sq x y) st=r:=by rw [k9,h1];exact h2
theorem yP(h1:run G Ω0 E x st=some (.ret,st1)):run G Ω0 E (.sq x y) st=some (.ret,st1):=by rw [k9,h1];rfl
theorem rq{id:Nat}(h1:run G Ω0 E x st=some (.ex id,st1)):run G Ω0 E (.sq x y) st=some (.ex id,st1):=by rw [k9,h1];rfl
theorem dE{c:aO}(h:pK (st.ev c)=some true)(h2:run G Ω0 E x st=r):run G Ω0 E (.ite c x y) st=r:=by rw [run_ite,h];exact h2
theorem bS{c:aO}(h:pK (st.ev c)=some false)(h2:run G Ω0 E y st=r):run G Ω0 E (.ite c x y) st=r:=by rw [run_ite,h];exact h2
theorem ku{id:Nat}(h1:run G Ω0 E x st=some (.nrm,st1)):run G Ω0 E (.bl id x) st=some (.nrm,st1):=by rw [l8,h1];rfl
theorem Ck{id:Nat}(h1:run G Ω0 E x st=some (.ret,st1)):run G Ω0 E (.bl id x) st=some (.ret,st1):=by rw [l8,h1];rfl
theorem qc{id:Nat}(h1:run G Ω0 E x st=some (.ex id,st1)):run G Ω0 E (.bl id x) st=some (.nrm,st1):=by rw [l8,h1];simp only [Option.bind_some,inBlock,if_true]
theorem fG{kf kb:List Nat}(h:run G Ω0 E x (st.aH kf kb)=r):run G Ω0 E (.kp kf kb x) st=r:=by rw [iD];exact h
theorem gq{s1 s2:St} : ∀ (n:Nat){ops:List bw}{s:St},kD (call G Ω0) Ω0 E s (ops.take n)=some s1→kD (call G Ω0) Ω0 E s1 (ops.drop n)=some s2→kD (call G Ω0) Ω0 E s ops=some s2
 | 0,ops,s,h1,h2=>by obtain rfl:=Option.some.inj h1;exact h2
 | n+1,[],s,h1,h2=>by obtain rfl:=Option.some.inj h1;exact h2
 | n+1,p::ps,s,h1,h2=>by
  obtain ⟨s3,h3,h4⟩:=Option.bind_eq_some_iff.1 h1
  exact Option.bind_eq_some_iff.2 ⟨s3,h3,gq n h4 h2⟩
theorem kv(n:Nat){pre:List uy}{mks:List Nat}{ops:List bw}{kf kb:List Nat}{st st1 s1 s2 s3:St}(h0:qP E st pre=some st1)(hm:(mks.all (rL E.dp st1)&&ops.all (iS E.dp st1))=true)(h1:kD (call G Ω0) Ω0 E st1 (ops.take n)=some s1)(h2:kD (call G Ω0) Ω0 E s1 (ops.drop n)=some s2)(h3:s2.aH kf kb=s3) :
  run G Ω0 E (.dg pre mks ops kf kb) st=some (.nrm,s3):=by
 rw [GO,h0,Option.bind_some,if_pos hm,gq n h1 h2,Option.bind_some,h3]
theorem gU{f:FuncId}{fn:aZ}{args:List AV}{hp hp':HP}{z:aQ}(hG:G f=some fn)(h:run G Ω0 E fn.code ⟨fO 0 args,[],hp⟩=some (.ret,st))(he:st.end_ E fn.res=some z)(hh:st.hp=hp'):call G Ω0 E f args hp=some (z,hp'):=by
 rw [np,hG,Option.bind_some,h];simp only [Option.bind_some,he,hh]
theorem mz{f:FuncId}{fn:aZ}{args:List AV}{hp hp':HP}{z:aQ}(hG:G f=some fn)(h:run G Ω0 E fn.code ⟨fO 0 args,[],hp⟩=some (.nrm,st))(he:st.end_ E fn.res=some z)(hh:st.hp=hp'):call G Ω0 E f args hp=some (z,hp'):=by
 rw [np,hG,Option.bind_some,h];simp only [Option.bind_some,he,hh]
end
end Go.Proofs.YtkkkkondjclcnaaGreat.A
