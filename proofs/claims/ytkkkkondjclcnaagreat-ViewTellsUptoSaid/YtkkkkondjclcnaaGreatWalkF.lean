/- infer.Walker as plain functions: what the rows of levels are; the flows that a command asks for. -/
import Derived.Test.YtkkkkondjclcnaaGreatLevelF
import Derived.Test.YtkkkkondjclcnaaGreatStepF
set_option linter.all false
set_option maxRecDepth 100000
namespace Go.Proofs.YtkkkkondjclcnaaGreat.A
open Go
variable [Lp]
abbrev oP(e:az):List AV:=[(I e.Kind),(I e.N),(.l 37 (e.Args.map aQ))]
def dA(ls:List Level):List AV:=ls.flatMap aN
theorem om(ls:List Level):(dA ls).length=2*ls.length:=by
 induction ls with
 | nil=>rfl
 | cons l r ih=>simp only [dA,CC,cH,bu,ig] at ih ⊢;omega
theorem nC:∀ ls:List Level,chunks 2 ls.length (dA ls)=ls.map aT
 | []=>rfl
 | l::r=>by
  have ih:=nC r
  show chunks 2 (r.length+1) (aN l++dA r)=_
  rw [chunks,ad (by decide),bZ]
  show AV.a (aN l)::chunks 2 r.length (dA r)=_
  rw [ih];rfl
theorem tN(ls:List Level):AV.bk (dA ls)=true:=by
 induction ls with
 | nil=>rfl
 | cons l r ih=>
  show AV.bk (aN l++dA r)=true
  exact Lr (by simp [AV.bk,AV.pure]) ih
abbrev kV:Key:=⟨0,1045000⟩
abbrev kF:Key:=⟨0,1045001⟩
inductive AO(H:HP):AV→List Level→Prop where
 | l (t:TypeId) (ls:List Level):AO H (.l t (ls.map aT)) ls
 | sp (k:Key) (ls:List Level) (h:H k=some (dA ls)) (hk:k=kV∨k=kF):AO H (.sp k 0 ls.length 2) ls
theorem wi{q:Level} : ∀ {ls:List Level}{j:Nat},ls[j]? =some q→j*2+2≤(dA ls).length∧List.take 2 (List.drop (j*2) (dA ls))=aN q
 | [],j,h=>by simp at h
 | l::r,0,h=>by
  obtain rfl:l=q:=by simpa using h
  exact ⟨by rw [om,bu];omega,rfl⟩
 | l::r,j+1,h=>by
  obtain ⟨h1,h2⟩:=wi (ls:=r) (j:=j) (by simpa using h)
  refine ⟨by rw [om] at h1 ⊢;simp only [bu];omega,?_⟩
  rw [show (j+1)*2=j*2+2 by omega]
  exact h2
theorem WG{E:Env}{st:St}{x:AV}{ls:List Level}(hE:E.dp≠0)(h:AO st.hp x ls):∃ t tys,st.iD E.dp x=some (.l t (ls.map aT),tys)∧(tys=[]∨tys=[45]):=by
 cases h with
 | l=>exact ⟨_,_,vX _ _ (by simp [AV.pure]),.inl rfl⟩
 | sp k _ h hk=>
  have hb:st.box E.dp k=some (dA ls):=by
   rcases hk with rfl | rfl<;>simp only [St.box,ad (p8 hE)]<;>exact h
  have hkd:1000000≤k.d∧(k.d - 1000000) / 1000=45:=by rcases hk with rfl | rfl<;>decide
  refine ⟨0,[45],?_,.inr rfl⟩
  unfold St.iD St.nQ
  simp only [hb,af,tC,nC,hkd.2]
  rw [ab]
  simp [hkd.1,tN,om,kz]
theorem Ml{E:Env}{st:St}{x:AV}{p:Program}{ls:List Level}{e:az}{r:Level}(hE:E.dp≠0)(h:AO st.hp x ls)(hF:mr p ls e=some r) :
  aU (call G Ω0) Ω0 E st 0 46 [.a (ar p),x,.a (oP e)]=some (.a (aN r),st):=by
 obtain ⟨t,tys,h1,h2⟩:=WG hE h
 have h3:=EC t p ls e r hF
 unfold aU
 have hp:(.a (ar p):AV).pure=true:=by simp [AV.pure,AV.bk]
 have he:(.a (oP e):AV).pure=true:=by simp [AV.pure,AV.bk]
 simp only [St.ew,vX _ _ hp,vX _ _ he,h1,af]
 have h4:call G Ω0 ⟨0,false⟩ 46 [.a (ar p),.l t (ls.map aT),.a (oP e)] (fun _=>none)=some (.ret (.a (aN r)),fun _=>none):=h3
 rw [h4]
 have hpr:(.a (aN r):AV).pure=true:=by simp [AV.pure,AV.bk]
 simp only [af,hpr,jr,ea,qg]
 rcases h2 with rfl | rfl
 ·simp
 ·simp [xP]
abbrev nK(p:Program)(x y f:AV)(a:Int)(tl:List AV):List AV:=(I p.aj.Many)::(.l 166 (p.aj.Grants.map aG))::(.l 3 (p.Speak.map (I)))::(.l 81 (p.Ins.map ay))::(.l 81 (p.Outs.map ay))::(.l 83 (p.Vars.map cJ))::(.l 101 (p.Funcs.map cA))::(.l 92 (p.Main.map aV))::x::y::f::I a::tl
set_option maxHeartbeats 4000000 in
theorem WH(dp:Nat)(ro:Bool)(H:HP)(kc kw:Key)(hkc:kc.dp<dp)(hkw:kw.dp<dp)(p:Program)(x y f:AV)(a:Int)(tl:List AV)(V:List Level)(hc:H kc=some [.p kw 0])(hw:H kw=some (nK p x y f a tl))(hx:AO H x V)
  (place:Level) (e:az) (l r:Level) (hl:mr p V e=some l) (hr:ez place l=some r) :
  call G Ω0 ⟨dp,ro⟩ 108 [.a (oP e),.e (.a (aN place)) 0,.p kc 0] H=some (.ret (.a (aN r)),H):=by
 have e1:¬kc.dp=dp:=by omega
 have e2:¬kw.dp=dp:=by omega
 have e3:∀ d,¬kc=⟨dp,d⟩:=fun d=>cP hkc
 have hB:=cw (E:=⟨dp,ro⟩) (mR place l r hr) (by simp) (by simp)
 have hL:∀ st:St,st.hp=H→aU (call G Ω0) Ω0 ⟨dp,ro⟩ st 0 46 [.a (ar p),x,.a (oP e)]=some (.a (aN l),st):=fun st hs=>Ml (E:=⟨dp,ro⟩) (by show dp≠0;omega) (by rw [hs];exact hx) hl
 rw [tK,ajn,af]
 cases hx<;>simp [-aU,Pa,gp,execOp,e1,e2,hc,hw,okB,jK,eG,jf,uE,lV,jR,hL,hB,e3,iK,St.end_,St.k9]
noncomputable def oa(p:Program)(V:List Level)(place:Level)(e:az):Option Level:=(mr p V e).bind fun l=>ez place l
@[simp] theorem ald (H:HP) (t:TypeId) (ls:List Level):AO H (.l t (ls.map aT)) ls:=.l t ls
theorem TN{p:Program}{V:List Level}{place:Level}{e:az}{r:Level}(h:oa p V place e=some r){dp:Nat}{ro:Bool}{kc kw:Key}{x y f:AV}{a:Int}{tl:List AV}(hkc:kc.dp<dp)(hkw:kw.dp<dp)(H:HP)(hc:H kc=some [.p kw 0])(hw:H kw=some (nK p x y f a tl))(hx:AO H x V) :
  call G Ω0 ⟨dp,ro⟩ 108 [.a (oP e),.e (.a (aN place)) 0,.p kc 0] H=some (.ret (.a (aN r)),H):=by
 obtain ⟨l,h1,h2⟩:=ah.1 h
 exact WH dp ro H kc kw hkc hkw p x y f a tl V hc hw hx place e l r h1 h2
noncomputable def o8(p:Program)(V:List Level)(place:Level)(ps:List Int):List az→Nat→List dL→Option (List dL)
 | [],_,out=>some out
 | e::r,i,out=>(oa p V place e).bind fun l=>(ps[i]?).bind fun n=>o8 p V place ps r (i+1) (out++[⟨l,n,false⟩])
noncomputable def rC(p:Program)(V:List Level)(s:Stmt)(place:Level):Option (List dL):=
 if s.Kind=1 then (oa p V place s.Expr).bind fun l=>some [⟨l,s.Var,false⟩]
 else if s.Kind=2 then (ed s.Other).bind fun j=>(p.Funcs[j]?).bind fun f=>(o8 p V place f.Params s.Args 0 []).bind fun out=>
  (oa p V place f.Result).bind fun l=>some (out++[⟨l,s.Var,false⟩,⟨place,s.Other,true⟩])
 else if s.Kind=3 then (ed s.Other).bind fun j=>(p.Ins[j]?).bind fun b=>(lx p.aj b).bind fun o=>(ez place o).bind fun l=>some [⟨l,s.Var,false⟩]
 else if s.Kind=5 then (oa p V place s.Expr).bind fun l=>some [⟨⟨place.Readers,l.Writers⟩,s.Var,false⟩]
 else if s.Kind=6 then (oa p V place s.Expr).bind fun l=>some [⟨⟨l.Readers,place.Writers⟩,s.Var,false⟩]
 else some []
end Go.Proofs.YtkkkkondjclcnaaGreat.A
