/- infer.Level as a plain function: a range over the variables of an expression. -/
import Derived.Test.YtkkkkondjclcnaaGreatFE
set_option linter.all false
set_option maxRecDepth 100000
namespace Go.Proofs.YtkkkkondjclcnaaGreat.A
open Go
section
variable {G:sb}{Ω:ef}{E:Env}
theorem J8{dp x:Nat}{y b:AC} : ∀ (ns:List Int)(st:St),Fin (rounds dp (run G Ω E) x y b ns st) fun n=>rounds dp (exec G Ω n E) x y b ns st
 | [],st=>Fin.same _
 | n::ns,st=>by
  unfold rounds
  refine Fin.ite (Fin.bind (oW _ _ _) fun q=>?_) (Fin.same _)
  split
  ·refine Fin.bind (oW _ _ _) fun r=>?_
   split
   ·exact J8 ns _
   ·exact Fin.same _
  ·exact Fin.same _
theorem Pn(st:St)(g:aY)(x:Nat)(y b:AC):run G Ω E (.ru g x y b) st=if E.ro=true then none else (vU Ω (st.ev g)).bind fun ns=>rounds E.dp (run G Ω ⟨E.dp+1,false⟩) x y b ns st:=
 yz (fun _=>rfl) (fun n=>bk.ite (bk.refl _) (bk.bind (bk.refl _) fun ns=>Cu (fun c st=>lR n _ c st) ns st))
  (Fin.ite (Fin.same _) (Fin.bind (Fin.same _) fun ns=>J8 ns st))
end
mutual
def mj:aB→List Int
 | ⟨k,n,args⟩=>if k=2 then n::qN args else qN args
def qN:List aB→List Int
 | []=>[]
 | x::r=>mj x++qN r
end
mutual
theorem RL:∀ x:aB,vV (aT x)=some (mj x)
 | ⟨k,n,args⟩=>by
  simp only [aT,vV,RM args,fE,mj]
theorem RM:∀ l:List aB,zK (vI l)=some (qN l)
 | []=>by simp only [vI,zK,qN]
 | x::r=>by simp only [vI,zK,RL x,RM r,ad,fE,qN]
end
theorem Po(x:aB):vU Ω0 (.f 146 [.e (aT x) 0])=some (mj x):=by
 have h:Ω0 146 [.u,.e (aT x) 0]=some (.l 0 ((mj x).map (AV.i .i64))):=by
  show BO _=_
  simp only [BO,RL,fE]
 have hc:(AV.f 146 [.e (aT x) 0]).copy=true:=rfl
 unfold vU
 simp only [hc,az,h,ad,Jo]
variable [Lp]
abbrev ax(l:Level):List AV:=[(.l 4 (l.Readers.map AV.b)),(.l 4 (l.Writers.map AV.b))]
noncomputable def Dw(vars:List Level):List Int→Level→Option Level
 | [],v=>some v
 | n::ns,v=>(dV n).bind fun j=>(vars[j]?).bind fun l=>(er v l).bind fun o=>Dw vars ns o
noncomputable def jg(a0:Program)(a1:List Level)(a2:aB):Option Level:=(ju a0.ak).bind fun b=>Dw a1 (mj a2) b
def Dx:AC:=(.rg [] [gp 8 (.as (.t 14))] [4,6,7,8] [4,6,7])
def Dy:AC:=(.bl 1 (.dg [] [] [⟨gp 15 (.ld (some 2) (.t 7)),true,[7],[],true,[],[],[]⟩,⟨gp 16 (.ld none (.t 4)),true,[4],[],true,[],[],[]⟩,⟨gp 17 (.mv (.t 8)),true,[8],[],false,[],[],[]⟩,⟨gp 18 (.ia 2 none (.t 16) (.t 17)),true,[16,17],[],true,[],[],[]⟩,⟨gp 19 (.ld (some 2) (.t 18)),true,[18],[],true,[],[],[]⟩,⟨gp 20 (.ca 0 98 [(.t 15),(.t 19)]),false,[],[],false,[],[],[]⟩,⟨⟨none,.st 2 (.t 7) (.t 20),none,false⟩,false,[],[],false,[],[],[]⟩] [4,6,7] [4,6,7]))
set_option maxHeartbeats 2000000 in
theorem QO(t:Nat)(hp:HP)(out:Level)(vars:List Level)(j:Nat)(lv o:Level)(h7:hp ⟨0,7⟩=some (ax out))(h4:hp ⟨0,4⟩=some [.l t (vars.map aI)])(hv:vars[j]? =some lv)
  (hB:call G Ω0 ⟨0,false⟩ 98 [.a (ax out),.a (ax lv)] (fun _=>none)=some (.ret (.a (ax o)),fun _=>none)) :
  run G Ω0 ⟨1,false⟩ Dy ⟨[(4,.p ⟨0,4⟩ 0),(6,.p ⟨0,6⟩ 0),(7,.p ⟨0,7⟩ 0),(8,.i .i64 j)],[],hp⟩=
   some (.nrm,⟨[(4,.p ⟨0,4⟩ 0),(6,.p ⟨0,6⟩ 0),(7,.p ⟨0,7⟩ 0)],[],ar hp ⟨0,7⟩ (ax o)⟩):=by
 simp [Dy,gp,execOp,h7,h4,hv,aI,hB,okB,df,fT,ax,pick,pJ,iZ,ir]
def np(t:Nat)(vars:List Level)(e:aB)(v:Level):St:=⟨[(4,.p ⟨0,4⟩ 0),(6,.p ⟨0,6⟩ 0),(7,.p ⟨0,7⟩ 0),(13,.f 146 [.e (aT e) 0])],[(4,[.l t (vars.map aI)]),(6,[.l 4 [],.l 4 []]),(7,ax v)],H0⟩
theorem Gf(t:Nat)(vars:List Level)(e:aB):∀ (ns:List Int)(v o:Level),Dw vars ns v=some o→rounds 0 (run G Ω0 ⟨1,false⟩) 14 Dx Dy ns (np t vars e v)=some (.nrm,np t vars e o)
 | [],v,o,h=>by obtain rfl:=af h;rfl
 | n::ns,v,o,h=>by
  obtain ⟨j,hj,h1⟩:=ah.1 h
  obtain ⟨l,hl,h2⟩:=ah.1 h1
  obtain ⟨o1,ho,h3⟩:=ah.1 h2
  clear h h1 h2
  obtain rfl:=iV hj
  have hB:=jX v l o1 ho
  have hy:run G Ω0 ⟨1,false⟩ Dx ((np t vars e v).inner 0 14 j)=some (.nrm,⟨[(4,.p ⟨0,4⟩ 0),(6,.p ⟨0,6⟩ 0),(7,.p ⟨0,7⟩ 0),(8,.i .i64 j)],[],fun k=>(np t vars e v).box 0 k⟩):=by
   unfold Dx
   rw [yA]
   rfl
  have hb:=QO t (fun k=>(np t vars e v).box 0 k) v vars j l o1 rfl rfl hl hB
  unfold rounds
  rw [ab (by rfl),hy]
  simp only [ad]
  rw [hb]
  simp only [ad]
  have hs:(np t vars e v).back 0 (ar (fun k=>(np t vars e v).box 0 k) ⟨0,7⟩ (ax o1))=np t vars e o1:=by
   unfold St.back
   have h1:(fun k:Key=>if k.dp<0 then ar (fun k=>(np t vars e v).box 0 k) ⟨0,7⟩ (ax o1) k else none)=H0:=by funext k;simp
   rw [h1]
   rfl
  rw [hs]
  exact Gf t vars e ns o1 o h3
theorem Gg(e:aB):call G Ω0 ⟨0,false⟩ 113 [aT e] (fun _=>none)=some (.ret (.f 146 [.e (aT e) 0]),fun _=>none):=by
 rw [dj]
 exact Ou 10 (by kernel_rfl)
abbrev LN(t:Nat)(a0:Program)(a1:List Level)(a2:aB)(r:Level):Prop:=call G Ω0 E0 46 [sj a0,.l t (a1.map aI),.a [(I a2.Kind),(I a2.N),(.l 37 (a2.Args.map aT))]] H0=some (.ret (.a (ax r)),H0)
theorem HD(t:Nat)(a0:Program)(a1:List Level)(a2:aB)(r:Level)(h:jg a0 a1 a2=some r):LN t a0 a1 a2 r:=by
 obtain ⟨b,hb,h⟩:=ah.1 h
 have hB:=oQ a0.ak b hb
 have hr:=Gf t a1 a2 (mj a2) b r h
 have hU:=Gg a2
 have d:run G Ω0 E0 (.ru (.t 13) 14 Dx Dy) (np t a1 a2 b)=some (.nrm,np t a1 a2 r):=by
  rw [Pn,aa (by decide)]
  show (vU Ω0 (.f 146 [.e (aT a2) 0])).bind _=_
  rw [Po,ad]
  exact hr
 have hX:=dj a2
 rw [hX] at hU
 have hA:run G Ω0 E0 (.rg [] [gp 3 (.bx (.t 0)),gp 4 (.bx (.t 1)),gp 5 (.bx (.t 2)),gp 6 (.al [(.l 4 []),(.l 4 [])])] [3,4,5,6] [3,4,5,6]) ⟨jy 0 [sj a0,.l t (a1.map aI),.a [(I a2.Kind),(I a2.N),(.l 37 (a2.Args.map aT))]],[],H0⟩=
   some (.nrm,⟨[(3,.p ⟨0,3⟩ 0),(4,.p ⟨0,4⟩ 0),(5,.p ⟨0,5⟩ 0),(6,.p ⟨0,6⟩ 0)],[(3,(sj a0).cl),(4,[.l t (a1.map aI)]),(5,[(I a2.Kind),(I a2.N),(.l 37 (a2.Args.map aT))]),(6,[.l 4 [],.l 4 []])],H0⟩):=by
  rw [yA]
  rfl
 have m:run G Ω0 E0 (.rg [] [gp 9 (.fa 0 (.t 3)),gp 10 (.ld (some 2) (.t 9)),gp 11 (.ca 0 96 [(.t 10)]),gp 7 (.al [(.l 4 []),(.l 4 [])]),⟨none,.st 2 (.t 7) (.t 11),none,false⟩] [4,5,6,7] [4,5,6,7]) ⟨[(3,.p ⟨0,3⟩ 0),(4,.p ⟨0,4⟩ 0),(5,.p ⟨0,5⟩ 0),(6,.p ⟨0,6⟩ 0)],[(3,(sj a0).cl),(4,[.l t (a1.map aI)]),(5,[(I a2.Kind),(I a2.N),(.l 37 (a2.Args.map aT))]),(6,[.l 4 [],.l 4 []])],H0⟩=
   some (.nrm,⟨[(4,.p ⟨0,4⟩ 0),(5,.p ⟨0,5⟩ 0),(6,.p ⟨0,6⟩ 0),(7,.p ⟨0,7⟩ 0)],[(4,[.l t (a1.map aI)]),(5,[(I a2.Kind),(I a2.N),(.l 37 (a2.Args.map aT))]),(6,[.l 4 [],.l 4 []]),(7,ax b)],H0⟩):=by
  simp [gp,execOp,hB,sj,pick,ax,ft]
 have hC:run G Ω0 E0 (.rg [] [gp 12 (.ld (some 3) (.t 5)),gp 13 (.ca 0 113 [(.t 12)])] [4,6,7,13] [4,6,7]) ⟨[(4,.p ⟨0,4⟩ 0),(5,.p ⟨0,5⟩ 0),(6,.p ⟨0,6⟩ 0),(7,.p ⟨0,7⟩ 0)],[(4,[.l t (a1.map aI)]),(5,[(I a2.Kind),(I a2.N),(.l 37 (a2.Args.map aT))]),(6,[.l 4 [],.l 4 []]),(7,ax b)],H0⟩=
   some (.nrm,np t a1 a2 b):=by
  simp [gp,execOp,hU,pick,np,hX]
 have hD:run G Ω0 E0 (.rg [] [gp 21 (.ld (some 2) (.t 7)),⟨none,.st 2 (.t 6) (.t 21),none,false⟩] [6] [6]) (np t a1 a2 r)=some (.nrm,⟨[(6,.p ⟨0,6⟩ 0)],[(6,ax r)],H0⟩):=by
  simp [gp,execOp,pick,np,ax]
 have hc:c46=⟨(.sq (.rg [] [gp 3 (.bx (.t 0)),gp 4 (.bx (.t 1)),gp 5 (.bx (.t 2)),gp 6 (.al [(.l 4 []),(.l 4 [])])] [3,4,5,6] [3,4,5,6]) (.sq (.rg [] [gp 9 (.fa 0 (.t 3)),gp 10 (.ld (some 2) (.t 9)),gp 11 (.ca 0 96 [(.t 10)]),gp 7 (.al [(.l 4 []),(.l 4 [])]),⟨none,.st 2 (.t 7) (.t 11),none,false⟩] [4,5,6,7] [4,5,6,7])
   (.sq (.sq (.rg [] [gp 12 (.ld (some 3) (.t 5)),gp 13 (.ca 0 113 [(.t 12)])] [4,6,7,13] [4,6,7]) (.bl 0 (.ru (.t 13) 14 Dx Dy))) (.sq (.rg [] [gp 21 (.ld (some 2) (.t 7)),⟨none,.st 2 (.t 6) (.t 21),none,false⟩] [6] [6]) .rt)))),[.c 6 (some 2)]⟩:=rfl
 show call G Ω0 E0 46 _ _=_
 rw [qR,G46,ad,hc]
 simp only [n3,hA,m,hC,hD,n4,d,ad,qZ,inBlock,cQ]
 rfl
end Go.Proofs.YtkkkkondjclcnaaGreat.A
