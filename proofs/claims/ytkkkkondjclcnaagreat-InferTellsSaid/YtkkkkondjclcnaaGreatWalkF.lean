/- infer.Walker as plain functions: what the rows of levels are; the flows that a command asks for. -/
import Derived.Test.YtkkkkondjclcnaaGreatLevelF
import Derived.Test.YtkkkkondjclcnaaGreatStepF
set_option linter.all false
set_option maxRecDepth 100000
namespace Go.Proofs.YtkkkkondjclcnaaGreat.A
open Go
variable [Lp]
abbrev ny(e:ax):List AV:=[(I e.Kind),(I e.N),(.l 37 (e.Args.map aL))]
def dy(ls:List Level):List AV:=ls.flatMap aJ
theorem n6(ls:List Level):(dy ls).length=2*ls.length:=by
 induction ls with
 | nil=>rfl
 | cons l r ih=>simp only [dy,CN,cC,bD,iC] at ih ⊢;omega
theorem m9:∀ ls:List Level,chunks 2 ls.length (dy ls)=ls.map aq
 | []=>rfl
 | l::r=>by
  have ih:=m9 r
  show chunks 2 (r.length+1) (aJ l++dy r)=_
  rw [chunks,ab (by decide),cq]
  show AV.a (aJ l)::chunks 2 r.length (dy r)=_
  rw [ih];rfl
theorem tQ(ls:List Level):AV.bk (dy ls)=true:=by
 induction ls with
 | nil=>rfl
 | cons l r ih=>
  show AV.bk (aJ l++dy r)=true
  exact LA (by simp [AV.bk,AV.pure]) ih
abbrev kV:Key:=⟨0,1045000⟩
abbrev kF:Key:=⟨0,1045001⟩
inductive A3(H:HP):AV→List Level→Prop where
 | l (t:TypeId) (ls:List Level):A3 H (.l t (ls.map aq)) ls
 | sp (k:Key) (ls:List Level) (h:H k=some (dy ls)) (hk:k=kV∨k=kF):A3 H (.sp k 0 ls.length 2) ls
theorem wh{q:Level} : ∀ {ls:List Level}{j:Nat},ls[j]? =some q→j*2+2≤(dy ls).length∧List.take 2 (List.drop (j*2) (dy ls))=aJ q
 | [],j,h=>by simp at h
 | l::r,0,h=>by
  obtain rfl:l=q:=by simpa using h
  exact ⟨by rw [n6,bD];omega,rfl⟩
 | l::r,j+1,h=>by
  obtain ⟨h1,h2⟩:=wh (ls:=r) (j:=j) (by simpa using h)
  refine ⟨by rw [n6] at h1 ⊢;simp only [bD];omega,?_⟩
  rw [show (j+1)*2=j*2+2 by omega]
  exact h2
theorem Wz{E:Env}{st:St}{x:AV}{ls:List Level}(hE:E.dp≠0)(h:A3 st.hp x ls):∃ t tys,st.ic E.dp x=some (.l t (ls.map aq),tys)∧(tys=[]∨tys=[45]):=by
 cases h with
 | l=>exact ⟨_,_,vU _ _ (by simp [AV.pure]),.inl rfl⟩
 | sp k _ h hk=>
  have hb:st.box E.dp k=some (dy ls):=by
   rcases hk with rfl | rfl<;>simp only [St.box,ab (pU hE)]<;>exact h
  have hkd:1000000≤k.d∧(k.d - 1000000) / 1000=45:=by rcases hk with rfl | rfl<;>decide
  refine ⟨0,[45],?_,.inr rfl⟩
  unfold St.ic St.nC
  simp only [hb,ae,tD,m9,hkd.2]
  rw [aa]
  simp [hkd.1,tQ,n6,kl]
theorem Mw{E:Env}{st:St}{x:AV}{p:Program}{ls:List Level}{e:ax}{r:Level}(hE:E.dp≠0)(h:A3 st.hp x ls)(hF:iX p ls e=some r) :
  aS (call G Ω0) Ω0 E st 0 46 [.a (ar p),x,.a (ny e)]=some (.a (aJ r),st):=by
 obtain ⟨t,tys,h1,h2⟩:=Wz hE h
 have h3:=wW t p ls e r hF
 unfold aS
 have hp:(.a (ar p):AV).pure=true:=by simp [AV.pure,AV.bk]
 have he:(.a (ny e):AV).pure=true:=by simp [AV.pure,AV.bk]
 simp only [St.ep,vU _ _ hp,vU _ _ he,h1,ae]
 have h4:call G Ω0 ⟨0,false⟩ 46 [.a (ar p),.l t (ls.map aq),.a (ny e)] (fun _=>none)=some (.ret (.a (aJ r)),fun _=>none):=h3
 rw [h4]
 have hpr:(.a (aJ r):AV).pure=true:=by simp [AV.pure,AV.bk]
 simp only [ae,hpr,gY,dX,p8]
 rcases h2 with rfl | rfl
 ·simp
 ·simp [xV]
abbrev mc(p:Program)(x y f:AV)(a:Int)(tl:List AV):List AV:=(I p.ah.Many)::(.l 166 (p.ah.Grants.map aE))::(.l 3 (p.Speak.map (I)))::(.l 81 (p.Ins.map az))::(.l 81 (p.Outs.map az))::(.l 83 (p.Vars.map cn))::(.l 101 (p.Funcs.map ct))::(.l 92 (p.Main.map aV))::x::y::f::I a::tl
set_option maxHeartbeats 4000000 in
theorem WA(dp:Nat)(ro:Bool)(H:HP)(kc kw:Key)(hkc:kc.dp<dp)(hkw:kw.dp<dp)(p:Program)(x y f:AV)(a:Int)(tl:List AV)(V:List Level)(hc:H kc=some [.p kw 0])(hw:H kw=some (mc p x y f a tl))(hx:A3 H x V)
  (place:Level) (e:ax) (l r:Level) (hl:iX p V e=some l) (hr:ew place l=some r) :
  call G Ω0 ⟨dp,ro⟩ 108 [.a (ny e),.e (.a (aJ place)) 0,.p kc 0] H=some (.ret (.a (aJ r)),H):=by
 have e1:¬kc.dp=dp:=by omega
 have e2:¬kw.dp=dp:=by omega
 have e3:∀ d,¬kc=⟨dp,d⟩:=fun d=>de hkc
 have hB:=bM (E:=⟨dp,ro⟩) (mL place l r hr) (by simp) (by simp)
 have hL:∀ st:St,st.hp=H→aS (call G Ω0) Ω0 ⟨dp,ro⟩ st 0 46 [.a (ar p),x,.a (ny e)]=some (.a (aJ l),st):=fun st hs=>Mw (E:=⟨dp,ro⟩) (by show dp≠0;omega) (by rw [hs];exact hx) hl
 rw [tL,aiC,ae]
 cases hx<;>simp [-aS,Pg,gp,execOp,e1,e2,hc,hw,okB,ja,er,iG,tX,mg,jt,hL,hB,e3,iZ,St.end_,St.jZ]
noncomputable def nQ(p:Program)(V:List Level)(place:Level)(e:ax):Option Level:=(iX p V e).bind fun l=>ew place l
@[simp] theorem akq (H:HP) (t:TypeId) (ls:List Level):A3 H (.l t (ls.map aq)) ls:=.l t ls
theorem TR{p:Program}{V:List Level}{place:Level}{e:ax}{r:Level}(h:nQ p V place e=some r){dp:Nat}{ro:Bool}{kc kw:Key}{x y f:AV}{a:Int}{tl:List AV}(hkc:kc.dp<dp)(hkw:kw.dp<dp)(H:HP)(hc:H kc=some [.p kw 0])(hw:H kw=some (mc p x y f a tl))(hx:A3 H x V) :
  call G Ω0 ⟨dp,ro⟩ 108 [.a (ny e),.e (.a (aJ place)) 0,.p kc 0] H=some (.ret (.a (aJ r)),H):=by
 obtain ⟨l,h1,h2⟩:=af.1 h
 exact WA dp ro H kc kw hkc hkw p x y f a tl V hc hw hx place e l r h1 h2
noncomputable def oT(p:Program)(V:List Level)(place:Level)(ps:List Int):List ax→Nat→List cY→Option (List cY)
 | [],_,out=>some out
 | e::r,i,out=>(nQ p V place e).bind fun l=>(ps[i]?).bind fun n=>oT p V place ps r (i+1) (out++[⟨l,n,false⟩])
noncomputable def oV(p:Program)(V:List Level)(s:Stmt)(place:Level):Option (List cY):=
 if s.Kind=1 then (nQ p V place s.Expr).bind fun l=>some [⟨l,s.Var,false⟩]
 else if s.Kind=2 then (eI s.Other).bind fun j=>(p.Funcs[j]?).bind fun f=>(oT p V place f.Params s.Args 0 []).bind fun out=>
  (nQ p V place f.Result).bind fun l=>some (out++[⟨l,s.Var,false⟩,⟨place,s.Other,true⟩])
 else if s.Kind=3 then (eI s.Other).bind fun j=>(p.Ins[j]?).bind fun b=>(jD p.ah b).bind fun o=>(ew place o).bind fun l=>some [⟨l,s.Var,false⟩]
 else if s.Kind=5 then (nQ p V place s.Expr).bind fun l=>some [⟨⟨place.Readers,l.Writers⟩,s.Var,false⟩]
 else if s.Kind=6 then (nQ p V place s.Expr).bind fun l=>some [⟨⟨l.Readers,place.Writers⟩,s.Var,false⟩]
 else some []
end Go.Proofs.YtkkkkondjclcnaaGreat.A
