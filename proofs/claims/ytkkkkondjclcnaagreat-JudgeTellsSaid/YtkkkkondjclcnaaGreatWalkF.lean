/- infer.Walker as plain functions: what the rows of levels are; the flows that a command asks for. -/
import Derived.Test.YtkkkkondjclcnaaGreatLevelF
import Derived.Test.YtkkkkondjclcnaaGreatStepF
set_option linter.all false
set_option maxRecDepth 100000
namespace Go.Proofs.YtkkkkondjclcnaaGreat.A
open Go
variable [Lp]
abbrev ny(e:aB):List AV:=[(I e.Kind),(I e.N),(.l 37 (e.Args.map aT))]
def en(ls:List Level):List AV:=ls.flatMap ax
theorem pQ(ls:List Level):(en ls).length=2*ls.length:=by
 induction ls with
 | nil=>rfl
 | cons l r ih=>simp only [en,uY,eK,cC,jk] at ih ⊢;omega
theorem oI:∀ ls:List Level,chunks 2 ls.length (en ls)=ls.map aI
 | []=>rfl
 | l::r=>by
  have ih:=oI r
  show chunks 2 (r.length+1) (ax l++en r)=_
  rw [chunks,aa (by decide),fj]
  show AV.a (ax l)::chunks 2 r.length (en r)=_
  rw [ih];rfl
theorem vN(ls:List Level):AV.aX (en ls)=true:=by
 induction ls with
 | nil=>rfl
 | cons l r ih=>
  show AV.aX (ax l++en r)=true
  exact Ov (by simp [AV.aX,AV.pure]) ih
abbrev kV:Key:=⟨0,1045000⟩
abbrev kF:Key:=⟨0,1045001⟩
inductive Dz(H:HP):AV→List Level→Prop where
 | l (t:TypeId) (ls:List Level):Dz H (.l t (ls.map aI)) ls
 | sp (k:Key) (ls:List Level) (h:H k=some (en ls)) (hk:k=kV∨k=kF):Dz H (.sp k 0 ls.length 2) ls
theorem yS{q:Level} : ∀ {ls:List Level}{j:Nat},ls[j]? =some q→j*2+2≤(en ls).length∧List.take 2 (List.drop (j*2) (en ls))=ax q
 | [],j,h=>by simp at h
 | l::r,0,h=>by
  obtain rfl:l=q:=by simpa using h
  exact ⟨by rw [pQ,cC];omega,rfl⟩
 | l::r,j+1,h=>by
  obtain ⟨h1,h2⟩:=yS (ls:=r) (j:=j) (by simpa using h)
  refine ⟨by rw [pQ] at h1 ⊢;simp only [cC];omega,?_⟩
  rw [show (j+1)*2=j*2+2 by omega]
  exact h2
variable {E:Env}{st:St}{x:AV}{ls:List Level}
theorem ZC(hE:E.dp≠0)(h:Dz st.hp x ls):∃ t tys,st.jl E.dp x=some (.l t (ls.map aI),tys)∧(tys=[]∨tys=[45]):=by
 cases h with
 | l=>exact ⟨_,_,yE _ _ (by simp [AV.pure]),.inl rfl⟩
 | sp k _ h hk=>
  have hb:st.box E.dp k=some (en ls):=by
   rcases hk with rfl | rfl<;>simp only [St.box,aa (pT hE)]<;>exact h
  have m:1000000≤k.d∧(k.d - 1000000) / 1000=45:=by rcases hk with rfl | rfl<;>decide
  refine ⟨0,[45],?_,.inr rfl⟩
  unfold St.jl St.oV
  simp only [hb,ad,BD,oI,m.2]
  rw [ab]
  simp [m.1,vN,pQ,mV]
variable {p:Program}{e:aB}{r:Level}
theorem Eo(hE:E.dp≠0)(h:Dz st.hp x ls)(hF:jg p ls e=some r):
  aF (call G Ω0) Ω0 E st 0 46 [.a (av p),x,.a (ny e)]=some (.a (ax r),st):=by
 obtain ⟨t,tys,h1,h2⟩:=ZC hE h
 have h3:=HD t p ls e r hF
 unfold aF
 have hp:(.a (av p):AV).pure=true:=by simp [AV.pure,AV.aX]
 have he:(.a (ny e):AV).pure=true:=by simp [AV.pure,AV.aX]
 simp only [St.fk,yE _ _ hp,yE _ _ he,h1,ad]
 have h4:call G Ω0 ⟨0,false⟩ 46 [.a (av p),.l t (ls.map aI),.a (ny e)] (fun _=>none)=some (.ret (.a (ax r)),fun _=>none):=h3
 rw [h4]
 have u:(.a (ax r):AV).pure=true:=by simp [AV.pure,AV.aX]
 simp only [ad,u,mQ,dZ,mW]
 rcases h2 with rfl | rfl
 ·simp
 ·simp [AG]
abbrev cK(p:Program)(x y f:AV)(a:Int)(tl:List AV):List AV:=(I p.ak.Many)::(.l 166 (p.ak.Grants.map ct))::(.l 3 (p.Speak.map (I)))::(.l 81 (p.Ins.map aH))::(.l 81 (p.Outs.map aH))::(.l 83 (p.Vars.map eo))::(.l 101 (p.Funcs.map eO))::(.l 92 (p.Main.map bK))::x::y::f::I a::tl
set_option maxHeartbeats 4000000 in
theorem ZD(dp:Nat)(ro:Bool)(H:HP)(kc kw:Key)(c:kc.dp<dp)(g:kw.dp<dp)(p:Program)(x y f:AV)(a:Int)(tl:List AV)(V:List Level)(hc:H kc=some [.p kw 0])(hw:H kw=some (cK p x y f a tl))(hx:Dz H x V)
  (place:Level) (e:aB) (l r:Level) (hl:jg p V e=some l) (hr:er place l=some r) :
  call G Ω0 ⟨dp,ro⟩ 108 [.a (ny e),.e (.a (ax place)) 0,.p kc 0] H=some (.ret (.a (ax r)),H):=by
 have e1:¬kc.dp=dp:=by omega
 have e2:¬kw.dp=dp:=by omega
 have e3:∀ d,¬kc=⟨dp,d⟩:=fun d=>bD c
 have hB:=aZ (E:=⟨dp,ro⟩) (jX place l r hr) (by simp) (by simp)
 have hL:∀ st:St,st.hp=H→aF (call G Ω0) Ω0 ⟨dp,ro⟩ st 0 46 [.a (av p),x,.a (ny e)]=some (.a (ax l),st):=fun st hs=>Eo (E:=⟨dp,ro⟩) (by show dp≠0;omega) (by rw [hs];exact hx) hl
 rw [qR,alP,ad]
 cases hx<;>simp [-aF,V6,gp,execOp,e1,e2,hc,hw,okB,gv,df,fT,pJ,iZ,ir,hL,hB,e3,ft,St.end_,St.fU]
noncomputable def pB(p:Program)(V:List Level)(place:Level)(e:aB):Option Level:=(jg p V e).bind fun l=>er place l
@[simp] theorem anO (H:HP) (t:TypeId) (ls:List Level):Dz H (.l t (ls.map aI)) ls:=.l t ls
theorem WI{V:List Level}{place:Level}(h:pB p V place e=some r){dp:Nat}{ro:Bool}{kc kw:Key}{y f:AV}{a:Int}{tl:List AV}(c:kc.dp<dp)(g:kw.dp<dp)(H:HP)(hc:H kc=some [.p kw 0])(hw:H kw=some (cK p x y f a tl))(hx:Dz H x V):
  call G Ω0 ⟨dp,ro⟩ 108 [.a (ny e),.e (.a (ax place)) 0,.p kc 0] H=some (.ret (.a (ax r)),H):=by
 obtain ⟨l,h1,h2⟩:=ah.1 h
 exact ZD dp ro H kc kw c g p x y f a tl V hc hw hx place e l r h1 h2
noncomputable def qO(p:Program)(V:List Level)(place:Level)(ps:List Int):List aB→Nat→List dq→Option (List dq)
 | [],_,out=>some out
 | e::r,i,out=>(pB p V place e).bind fun l=>(ps[i]?).bind fun n=>qO p V place ps r (i+1) (out++[⟨l,n,false⟩])
noncomputable def nN(p:Program)(V:List Level)(s:Stmt)(place:Level):Option (List dq):=
 if s.Kind=1 then (pB p V place s.Expr).bind fun l=>some [⟨l,s.Var,false⟩]
 else if s.Kind=2 then (dV s.Other).bind fun j=>(p.Funcs[j]?).bind fun f=>(qO p V place f.Params s.Args 0 []).bind fun out=>
  (pB p V place f.Result).bind fun l=>some (out++[⟨l,s.Var,false⟩,⟨place,s.Other,true⟩])
 else if s.Kind=3 then (dV s.Other).bind fun j=>(p.Ins[j]?).bind fun b=>(mg p.ak b).bind fun o=>(er place o).bind fun l=>some [⟨l,s.Var,false⟩]
 else if s.Kind=5 then (pB p V place s.Expr).bind fun l=>some [⟨⟨place.Readers,l.Writers⟩,s.Var,false⟩]
 else if s.Kind=6 then (pB p V place s.Expr).bind fun l=>some [⟨⟨l.Readers,place.Writers⟩,s.Var,false⟩]
 else some []
end Go.Proofs.YtkkkkondjclcnaaGreat.A
