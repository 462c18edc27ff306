/- infer.Level as a plain function: a range over the variables of an expression. -/
import Derived.Test.YtkkkkondjclcnaaGreatFE
set_option linter.all false
set_option maxRecDepth 100000
namespace Go.Proofs.YtkkkkondjclcnaaGreat.A
open Go
section
variable {G:qv}{Ω:du}{E:Env}
theorem Hn{dp x:Nat}{y b:AC} : ∀ (ns:List Int)(st:St),Fin (rounds dp (run G Ω E) x y b ns st) fun n=>rounds dp (exec G Ω n E) x y b ns st
 | [],st=>Fin.same _
 | n::ns,st=>by
  unfold rounds
  refine Fin.ite (Fin.bind (nS _ _ _) fun q=>?_) (Fin.same _)
  split
  ·refine Fin.bind (nS _ _ _) fun r=>?_
   split
   ·exact Hn ns _
   ·exact Fin.same _
  ·exact Fin.same _
theorem ace(st:St)(g:ba)(x:Nat)(y b:AC):run G Ω E (.ru g x y b) st=if E.ro=true then none else (xG Ω (st.ev g)).bind fun ns=>rounds E.dp (run G Ω ⟨E.dp+1,false⟩) x y b ns st:=
 vT (fun _=>rfl) (fun n=>bb.ite (bb.refl _) (bb.bind (bb.refl _) fun ns=>zS (fun c st=>nR n _ c st) ns st))
  (Fin.ite (Fin.same _) (Fin.bind (Fin.same _) fun ns=>Hn ns st))
end
mutual
def pI:az→List Int
 | ⟨k,n,args⟩=>if k=2 then n::o7 args else o7 args
def o7:List az→List Int
 | []=>[]
 | x::r=>pI x++o7 r
end
mutual
theorem Ol:∀ x:az,tU (aQ x)=some (pI x)
 | ⟨k,n,args⟩=>by
  simp only [aQ,tU,Om args,gv,pI]
theorem Om:∀ l:List az,xi (tL l)=some (o7 l)
 | []=>by simp only [tL,xi,o7]
 | x::r=>by simp only [tL,xi,Ol x,Om r,af,gv,o7]
end
theorem acf(x:az):xG Ω0 (.f 146 [.e (aQ x) 0])=some (pI x):=by
 have h:Ω0 146 [.u,.e (aQ x) 0]=some (.l 0 ((pI x).map (AV.i .i64))):=by
  show Ag _=_
  simp only [Ag,Ol,gv]
 have hc:(AV.f 146 [.e (aQ x) 0]).copy=true:=rfl
 unfold xG
 simp only [hc,aq,h,af,Bf]
variable [Lp]
abbrev aN(l:Level):List AV:=[(.l 4 (l.Readers.map AV.b)),(.l 4 (l.Writers.map AV.b))]
noncomputable def AL(vars:List Level):List Int→Level→Option Level
 | [],v=>some v
 | n::ns,v=>(ed n).bind fun j=>(vars[j]?).bind fun l=>(ez v l).bind fun o=>AL vars ns o
noncomputable def mr(a0:Program)(a1:List Level)(a2:az):Option Level:=(ix a0.aj).bind fun b=>AL a1 (pI a2) b
def AM:AC:=(.rg [] [gp 8 (.as (.t 14))] [4,6,7,8] [4,6,7])
def AN:AC:=(.bl 1 (.dg [] [] [⟨gp 15 (.ld (some 2) (.t 7)),true,[7],[],true,[],[],[]⟩,⟨gp 16 (.ld none (.t 4)),true,[4],[],true,[],[],[]⟩,⟨gp 17 (.mv (.t 8)),true,[8],[],false,[],[],[]⟩,⟨gp 18 (.ia 2 none (.t 16) (.t 17)),true,[16,17],[],true,[],[],[]⟩,⟨gp 19 (.ld (some 2) (.t 18)),true,[18],[],true,[],[],[]⟩,⟨gp 20 (.ca 0 98 [(.t 15),(.t 19)]),false,[],[],false,[],[],[]⟩,⟨⟨none,.st 2 (.t 7) (.t 20),none,false⟩,false,[],[],false,[],[],[]⟩] [4,6,7] [4,6,7]))
set_option maxHeartbeats 2000000 in
theorem NB(t:Nat)(hp:HP)(out:Level)(vars:List Level)(j:Nat)(lv o:Level)(h7:hp ⟨0,7⟩=some (aN out))(h4:hp ⟨0,4⟩=some [.l t (vars.map aT)])(hv:vars[j]? =some lv)
  (hB:call G Ω0 ⟨0,false⟩ 98 [.a (aN out),.a (aN lv)] (fun _=>none)=some (.ret (.a (aN o)),fun _=>none)) :
  run G Ω0 ⟨1,false⟩ AN ⟨[(4,.p ⟨0,4⟩ 0),(6,.p ⟨0,6⟩ 0),(7,.p ⟨0,7⟩ 0),(8,.i .i64 j)],[],hp⟩=
   some (.nrm,⟨[(4,.p ⟨0,4⟩ 0),(6,.p ⟨0,6⟩ 0),(7,.p ⟨0,7⟩ 0)],[],aF hp ⟨0,7⟩ (aN o)⟩):=by
 simp [AN,gp,execOp,h7,h4,hv,aT,hB,okB,eG,jf,aN,pick,uE,lV,jR]
def ma(t:Nat)(vars:List Level)(e:az)(v:Level):St:=⟨[(4,.p ⟨0,4⟩ 0),(6,.p ⟨0,6⟩ 0),(7,.p ⟨0,7⟩ 0),(13,.f 146 [.e (aQ e) 0])],[(4,[.l t (vars.map aT)]),(6,[.l 4 [],.l 4 []]),(7,aN v)],H0⟩
theorem Dn(t:Nat)(vars:List Level)(e:az):∀ (ns:List Int)(v o:Level),AL vars ns v=some o→rounds 0 (run G Ω0 ⟨1,false⟩) 14 AM AN ns (ma t vars e v)=some (.nrm,ma t vars e o)
 | [],v,o,h=>by obtain rfl:=aa h;rfl
 | n::ns,v,o,h=>by
  obtain ⟨j,hj,h1⟩:=ah.1 h
  obtain ⟨l,hl,h2⟩:=ah.1 h1
  obtain ⟨o1,ho,h3⟩:=ah.1 h2
  clear h h1 h2
  obtain rfl:=pb hj
  have hB:=mR v l o1 ho
  have hy:run G Ω0 ⟨1,false⟩ AM ((ma t vars e v).inner 0 14 j)=some (.nrm,⟨[(4,.p ⟨0,4⟩ 0),(6,.p ⟨0,6⟩ 0),(7,.p ⟨0,7⟩ 0),(8,.i .i64 j)],[],fun k=>(ma t vars e v).box 0 k⟩):=by
   unfold AM
   rw [Af]
   rfl
  have hb:=NB t (fun k=>(ma t vars e v).box 0 k) v vars j l o1 rfl rfl hl hB
  unfold rounds
  rw [ab (by rfl),hy]
  simp only [af]
  rw [hb]
  simp only [af]
  have hs:(ma t vars e v).back 0 (aF (fun k=>(ma t vars e v).box 0 k) ⟨0,7⟩ (aN o1))=ma t vars e o1:=by
   unfold St.back
   have h1:(fun k:Key=>if k.dp<0 then aF (fun k=>(ma t vars e v).box 0 k) ⟨0,7⟩ (aN o1) k else none)=H0:=by funext k;simp
   rw [h1]
   rfl
  rw [hs]
  exact Dn t vars e ns o1 o h3
theorem Rt(e:az):call G Ω0 ⟨0,false⟩ 113 [aQ e] (fun _=>none)=some (.ret (.f 146 [.e (aQ e) 0]),fun _=>none):=by
 rw [dI]
 exact Lq 10 (by kernel_rfl)
abbrev I5(t:Nat)(a0:Program)(a1:List Level)(a2:az)(r:Level):Prop:=call G Ω0 E0 46 [qy a0,.l t (a1.map aT),.a [(I a2.Kind),(I a2.N),(.l 37 (a2.Args.map aQ))]] H0=some (.ret (.a (aN r)),H0)
theorem EC(t:Nat)(a0:Program)(a1:List Level)(a2:az)(r:Level)(h:mr a0 a1 a2=some r):I5 t a0 a1 a2 r:=by
 obtain ⟨b,hb,h⟩:=ah.1 h
 have hB:=nJ a0.aj b hb
 have hr:=Dn t a1 a2 (pI a2) b r h
 have hU:=Rt a2
 have hru:run G Ω0 E0 (.ru (.t 13) 14 AM AN) (ma t a1 a2 b)=some (.nrm,ma t a1 a2 r):=by
  rw [ace,ad (by decide)]
  show (xG Ω0 (.f 146 [.e (aQ a2) 0])).bind _=_
  rw [acf,af]
  exact hr
 have hX:=dI a2
 rw [hX] at hU
 have hA:run G Ω0 E0 (.rg [] [gp 3 (.bx (.t 0)),gp 4 (.bx (.t 1)),gp 5 (.bx (.t 2)),gp 6 (.al [(.l 4 []),(.l 4 [])])] [3,4,5,6] [3,4,5,6]) ⟨jL 0 [qy a0,.l t (a1.map aT),.a [(I a2.Kind),(I a2.N),(.l 37 (a2.Args.map aQ))]],[],H0⟩=
   some (.nrm,⟨[(3,.p ⟨0,3⟩ 0),(4,.p ⟨0,4⟩ 0),(5,.p ⟨0,5⟩ 0),(6,.p ⟨0,6⟩ 0)],[(3,(qy a0).cl),(4,[.l t (a1.map aT)]),(5,[(I a2.Kind),(I a2.N),(.l 37 (a2.Args.map aQ))]),(6,[.l 4 [],.l 4 []])],H0⟩):=by
  rw [Af]
  rfl
 have hB':run G Ω0 E0 (.rg [] [gp 9 (.fa 0 (.t 3)),gp 10 (.ld (some 2) (.t 9)),gp 11 (.ca 0 96 [(.t 10)]),gp 7 (.al [(.l 4 []),(.l 4 [])]),⟨none,.st 2 (.t 7) (.t 11),none,false⟩] [4,5,6,7] [4,5,6,7]) ⟨[(3,.p ⟨0,3⟩ 0),(4,.p ⟨0,4⟩ 0),(5,.p ⟨0,5⟩ 0),(6,.p ⟨0,6⟩ 0)],[(3,(qy a0).cl),(4,[.l t (a1.map aT)]),(5,[(I a2.Kind),(I a2.N),(.l 37 (a2.Args.map aQ))]),(6,[.l 4 [],.l 4 []])],H0⟩=
   some (.nrm,⟨[(4,.p ⟨0,4⟩ 0),(5,.p ⟨0,5⟩ 0),(6,.p ⟨0,6⟩ 0),(7,.p ⟨0,7⟩ 0)],[(4,[.l t (a1.map aT)]),(5,[(I a2.Kind),(I a2.N),(.l 37 (a2.Args.map aQ))]),(6,[.l 4 [],.l 4 []]),(7,aN b)],H0⟩):=by
  simp [gp,execOp,hB,qy,pick,aN,iK]
 have hC:run G Ω0 E0 (.rg [] [gp 12 (.ld (some 3) (.t 5)),gp 13 (.ca 0 113 [(.t 12)])] [4,6,7,13] [4,6,7]) ⟨[(4,.p ⟨0,4⟩ 0),(5,.p ⟨0,5⟩ 0),(6,.p ⟨0,6⟩ 0),(7,.p ⟨0,7⟩ 0)],[(4,[.l t (a1.map aT)]),(5,[(I a2.Kind),(I a2.N),(.l 37 (a2.Args.map aQ))]),(6,[.l 4 [],.l 4 []]),(7,aN b)],H0⟩=
   some (.nrm,ma t a1 a2 b):=by
  simp [gp,execOp,hU,pick,ma,hX]
 have hD:run G Ω0 E0 (.rg [] [gp 21 (.ld (some 2) (.t 7)),⟨none,.st 2 (.t 6) (.t 21),none,false⟩] [6] [6]) (ma t a1 a2 r)=some (.nrm,⟨[(6,.p ⟨0,6⟩ 0)],[(6,aN r)],H0⟩):=by
  simp [gp,execOp,pick,ma,aN]
 have hc:U2=⟨(.sq (.rg [] [gp 3 (.bx (.t 0)),gp 4 (.bx (.t 1)),gp 5 (.bx (.t 2)),gp 6 (.al [(.l 4 []),(.l 4 [])])] [3,4,5,6] [3,4,5,6]) (.sq (.rg [] [gp 9 (.fa 0 (.t 3)),gp 10 (.ld (some 2) (.t 9)),gp 11 (.ca 0 96 [(.t 10)]),gp 7 (.al [(.l 4 []),(.l 4 [])]),⟨none,.st 2 (.t 7) (.t 11),none,false⟩] [4,5,6,7] [4,5,6,7])
   (.sq (.sq (.rg [] [gp 12 (.ld (some 3) (.t 5)),gp 13 (.ca 0 113 [(.t 12)])] [4,6,7,13] [4,6,7]) (.bl 0 (.ru (.t 13) 14 AM AN))) (.sq (.rg [] [gp 21 (.ld (some 2) (.t 7)),⟨none,.st 2 (.t 6) (.t 21),none,false⟩] [6] [6]) .rt)))),[.c 6 (some 2)]⟩:=rfl
 show call G Ω0 E0 46 _ _=_
 rw [tK,G46,af,hc]
 simp only [vU,hA,hB',hC,hD,sr,hru,af,wz,inBlock,eE]
 rfl
end Go.Proofs.YtkkkkondjclcnaaGreat.A
