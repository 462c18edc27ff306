/- infer.Walker as plain functions: what the rows of levels are; the flows that a command asks for. -/
import Derived.Test.YtlmphbbhaeampaaGreatLevelF
import Derived.Test.YtlmphbbhaeampaaGreatStepF
set_option linter.all false
set_option maxRecDepth 100000
namespace Go.Proofs.YtlmphbbhaeampaaGreat.A
open Go
variable [Lp]
abbrev rO(e:aK):List AV:=[(I e.Kind),(I e.N),(.l 89 (e.Args.map bM))]
def fe(ls:List Level):List AV:=ls.flatMap bG
theorem wN(ls:List Level):(fe ls).length=2*ls.length:=by
 induction ls with
 | nil=>rfl
 | cons l r ih=>simp only [fe,Dw,nU,eM,qE] at ih ⊢;omega
theorem v8:∀ ls:List Level,chunks 2 ls.length (fe ls)=ls.map aF
 | []=>rfl
 | l::r=>by
  have ih:=v8 r
  show chunks 2 (r.length+1) (bG l++fe r)=_
  rw [chunks,ab (by decide),eu]
  show AV.a (bG l)::chunks 2 r.length (fe r)=_
  rw [ih];rfl
theorem Et(ls:List Level):AV.bJ (fe ls)=true:=by
 induction ls with
 | nil=>rfl
 | cons l r ih=>
  show AV.bJ (bG l++fe r)=true
  exact L6 (by simp [AV.bJ,AV.pure]) ih
abbrev kV:Key:=⟨0,1113000⟩
abbrev kF:Key:=⟨0,1113001⟩
inductive BN(H:HP):AV→List Level→Prop where
 | l (t:TypeId) (ls:List Level):BN H (.l t (ls.map aF)) ls
 | sp (k:Key) (ls:List Level) (h:H k=some (fe ls)) (hk:k=kV∨k=kF):BN H (.sp k 0 ls.length 2) ls
theorem Eu{q:Level} : ∀ {ls:List Level}{j:Nat},ls[j]? =some q→j*2+2≤(fe ls).length∧List.take 2 (List.drop (j*2) (fe ls))=bG q
 | [],j,h=>by simp at h
 | l::r,0,h=>by
  obtain rfl:l=q:=by simpa using h
  exact ⟨by rw [wN,eM];omega,rfl⟩
 | l::r,j+1,h=>by
  obtain ⟨h1,h2⟩:=Eu (ls:=r) (j:=j) (by simpa using h)
  refine ⟨by rw [wN] at h1 ⊢;simp only [eM];omega,?_⟩
  rw [show (j+1)*2=j*2+2 by omega]
  exact h2
variable {E:Env}{st:St}{x:AV}{ls:List Level}
theorem Wq(hE:E.dp≠0)(h:BN st.hp x ls):∃ t tys,st.jE E.dp x=some (.l t (ls.map aF),tys)∧(tys=[]∨tys=[113]):=by
 cases h with
 | l=>exact ⟨_,_,zZ _ _ (by simp [AV.pure]),.inl rfl⟩
 | sp k _ h hk=>
  have hb:st.box E.dp k=some (fe ls):=by
   rcases hk with rfl | rfl<;>simp only [St.box,ab (cC hE)]<;>exact h
  have m:1000000≤k.d∧(k.d - 1000000) / 1000=113:=by rcases hk with rfl | rfl<;>decide
  refine ⟨0,[113],?_,.inr rfl⟩
  unfold St.jE St.qH
  simp only [hb,ad,List.drop_zero,v8,m.2]
  rw [af]
  simp [m.1,Et,wN,sO]
variable {p:Program}{e:aK}{r:Level}
theorem Nb(hE:E.dp≠0)(h:BN st.hp x ls)(hF:jD p ls e=some r):
  dj (call G Ω0) Ω0 E st 0 177 [.a (aD p),x,.a (rO e)]=some (.a (bG r),st):=by
 obtain ⟨t,tys,h1,h2⟩:=Wq hE h
 have h3:=xq t p ls e r hF
 unfold dj
 have hp:(.a (aD p):AV).pure=true:=by simp [AV.pure,AV.bJ]
 have he:(.a (rO e):AV).pure=true:=by simp [AV.pure,AV.bJ]
 simp only [St.eX,zZ _ _ hp,zZ _ _ he,h1,ad]
 have h4:call G Ω0 ⟨0,false⟩ 177 [.a (aD p),.l t (ls.map aF),.a (rO e)] (fun _=>none)=some (.ret (.a (bG r)),fun _=>none):=h3
 rw [h4]
 have u:(.a (bG r):AV).pure=true:=by simp [AV.pure,AV.bJ]
 simp only [ad,u,sL,eN,zE]
 rcases h2 with rfl | rfl
 ·simp
 ·simp [Mb]
abbrev og(p:Program)(x y f:AV)(a:Int)(tl:List AV):List AV:=(I p.an.Many)::(.l 79 (p.an.Grants.map bW))::(.l 3 (p.Speak.map (I)))::(.l 83 (p.Ins.map aS))::(.l 83 (p.Outs.map aS))::(.l 86 (p.Vars.map dA))::(.l 91 (p.Funcs.map cQ))::(.l 111 (p.Main.map bK))::x::y::f::I a::tl
set_option maxHeartbeats 4000000 in
theorem Wr(dp:Nat)(ro:Bool)(H:HP)(kc kw:Key)(c:kc.dp<dp)(g:kw.dp<dp)(p:Program)(x y f:AV)(a:Int)(tl:List AV)(V:List Level)(hc:H kc=some [.p kw 0])(hw:H kw=some (og p x y f a tl))(hx:BN H x V)
  (place:Level) (e:aK) (l r:Level) (hl:jD p V e=some l) (hr:dL place l=some r) :
  call G Ω0 ⟨dp,ro⟩ 214 [.a (rO e),.e (.a (bG place)) 0,.p kc 0] H=some (.ret (.a (bG r)),H):=by
 have e1:¬kc.dp=dp:=by omega
 have e2:¬kw.dp=dp:=by omega
 have e3:∀ d,¬kc=⟨dp,d⟩:=fun d=>aM c
 have hB:=mi (E:=⟨dp,ro⟩) (ie place l r hr) (by simp) (by simp)
 have hL:∀ st:St,st.hp=H→dj (call G Ω0) Ω0 ⟨dp,ro⟩ st 0 177 [.a (aD p),x,.a (rO e)]=some (.a (bG l),st):=fun st hs=>Nb (E:=⟨dp,ro⟩) (by show dp≠0;omega) (by rw [hs];exact hx) hl
 rw [pP,ahO,ad]
 cases hx<;>(simp [-dj,Tp,gp,execOp,e1,e2,hc,hw,okB,gZ,gj,lM,yg,lL,jF,hL,hB,e3,jK];unfold St.end_ St.result;simp)
noncomputable def oP(p:Program)(V:List Level)(place:Level)(e:aK):Option Level:=(jD p V e).bind fun l=>dL place l
@[simp] theorem aiR (H:HP) (t:TypeId) (ls:List Level):BN H (.l t (ls.map aF)) ls:=.l t ls
theorem Uz{V:List Level}{place:Level}(h:oP p V place e=some r){dp:Nat}{ro:Bool}{kc kw:Key}{y f:AV}{a:Int}{tl:List AV}(c:kc.dp<dp)(g:kw.dp<dp)(H:HP)(hc:H kc=some [.p kw 0])(hw:H kw=some (og p x y f a tl))(hx:BN H x V):
  call G Ω0 ⟨dp,ro⟩ 214 [.a (rO e),.e (.a (bG place)) 0,.p kc 0] H=some (.ret (.a (bG r)),H):=by
 obtain ⟨l,h1,h2⟩:=aj.1 h
 exact Wr dp ro H kc kw c g p x y f a tl V hc hw hx place e l r h1 h2
noncomputable def um(p:Program)(V:List Level)(place:Level)(ps:List Int):List aK→Nat→List eJ→Option (List eJ)
 | [],_,out=>some out
 | e::r,i,out=>(oP p V place e).bind fun l=>(ps[i]?).bind fun n=>um p V place ps r (i+1) (out++[⟨l,n,false⟩])
noncomputable def vE(p:Program)(V:List Level)(s:Stmt)(place:Level):Option (List eJ):=
 if s.Kind=1 then (oP p V place s.Expr).bind fun l=>some [⟨l,s.Var,false⟩]
 else if s.Kind=2 then (cV s.Other).bind fun j=>(p.Funcs[j]?).bind fun f=>(um p V place f.Params s.Args 0 []).bind fun out=>
  (oP p V place f.Result).bind fun l=>some (out++[⟨l,s.Var,false⟩,⟨place,s.Other,true⟩])
 else if s.Kind=3 then (cV s.Other).bind fun j=>(p.Ins[j]?).bind fun b=>(iB p.an b).bind fun o=>(dL place o).bind fun l=>some [⟨l,s.Var,false⟩]
 else if s.Kind=5 then (oP p V place s.Expr).bind fun l=>some [⟨⟨place.Readers,l.Writers⟩,s.Var,false⟩]
 else if s.Kind=6 then (oP p V place s.Expr).bind fun l=>some [⟨⟨l.Readers,place.Writers⟩,s.Var,false⟩]
 else some []
end Go.Proofs.YtlmphbbhaeampaaGreat.A
