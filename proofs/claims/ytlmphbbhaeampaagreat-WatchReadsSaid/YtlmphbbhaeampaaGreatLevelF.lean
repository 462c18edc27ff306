/- infer.Level as a plain function: a range over the variables of an expression. -/
import Derived.Test.YtlmphbbhaeampaaGreatFE
set_option linter.all false
set_option maxRecDepth 100000
namespace Go.Proofs.YtlmphbbhaeampaaGreat.A
open Go
section
variable {G:qG}{Ω:dK}{E:Env}
theorem HW{dp x:Nat}{y b:AC} : ∀ (ns:List Int)(st:St),Fin (rounds dp (run G Ω E) x y b ns st) fun n=>rounds dp (exec G Ω n E) x y b ns st
 | [],st=>Fin.same _
 | n::ns,st=>by
  unfold rounds
  refine Fin.ite (Fin.bind (oi _ _ _) fun q=>?_) (Fin.same _)
  split
  ·refine Fin.bind (oi _ _ _) fun r=>?_
   split
   ·exact HW ns _
   ·exact Fin.same _
  ·exact Fin.same _
theorem MP(st:St)(g:bz)(x:Nat)(y b:AC):run G Ω E (.ru g x y b) st=if E.ro=true then none else (tF Ω (st.ev g)).bind fun ns=>rounds E.dp (run G Ω ⟨E.dp+1,false⟩) x y b ns st:=
 wB (fun _=>rfl) (fun n=>bD.ite (bD.refl _) (bD.bind (bD.refl _) fun ns=>Av (fun c st=>np n _ c st) ns st))
  (Fin.ite (Fin.same _) (Fin.bind (Fin.same _) fun ns=>HW ns st))
end
mutual
def jQ:aK→List Int
 | ⟨k,n,args⟩=>if k=2 then n::oM args else oM args
def oM:List aK→List Int
 | []=>[]
 | x::r=>jQ x++oM r
end
mutual
theorem Pd:∀ x:aK,tG (bM x)=some (jQ x)
 | ⟨k,n,args⟩=>by
  simp only [bM,tG,Pe args,jf,jQ]
theorem Pe:∀ l:List aK,xy (tq l)=some (oM l)
 | []=>by simp only [tq,xy,oM]
 | x::r=>by simp only [tq,xy,Pd x,Pe r,ad,jf,oM]
end
theorem MQ(x:aK):tF Ω0 (.f 230 [.e (bM x) 0])=some (jQ x):=by
 have h:Ω0 230 [.u,.e (bM x) 0]=some (.l 0 ((jQ x).map (AV.i .i64))):=by
  show A1 _=_
  simp only [A1,Pd,jf]
 have hc:(AV.f 230 [.e (bM x) 0]).copy=true:=rfl
 unfold tF
 simp only [hc,aA,h,ad,GZ]
variable [Lp]
abbrev bG(l:Level):List AV:=[(.l 4 (l.Readers.map AV.b)),(.l 4 (l.Writers.map AV.b))]
noncomputable def Bw(vars:List Level):List Int→Level→Option Level
 | [],v=>some v
 | n::ns,v=>(cV n).bind fun j=>(vars[j]?).bind fun l=>(dL v l).bind fun o=>Bw vars ns o
noncomputable def jD(a0:Program)(a1:List Level)(a2:aK):Option Level:=(fk a0.an).bind fun b=>Bw a1 (jQ a2) b
def Bx:AC:=(.rg [] [gp 8 (.as (.t 14))] [4,6,7,8] [4,6,7])
def By:AC:=(.bl 1 (.dg [] [] [⟨gp 15 (.ld (some 2) (.t 7)),true,[7],[],true,[],[],[]⟩,⟨gp 16 (.ld none (.t 4)),true,[4],[],true,[],[],[]⟩,⟨gp 17 (.mv (.t 8)),true,[8],[],false,[],[],[]⟩,⟨gp 18 (.ia 2 none (.t 16) (.t 17)),true,[16,17],[],true,[],[],[]⟩,⟨gp 19 (.ld (some 2) (.t 18)),true,[18],[],true,[],[],[]⟩,⟨gp 20 (.ca 0 115 [(.t 15),(.t 19)]),false,[],[],false,[],[],[]⟩,⟨⟨none,.st 2 (.t 7) (.t 20),none,false⟩,false,[],[],false,[],[],[]⟩] [4,6,7] [4,6,7]))
set_option maxHeartbeats 2000000 in
theorem N6(t:Nat)(hp:HP)(out:Level)(vars:List Level)(j:Nat)(lv o:Level)(h7:hp ⟨0,7⟩=some (bG out))(h4:hp ⟨0,4⟩=some [.l t (vars.map aF)])(hv:vars[j]? =some lv)
  (hB:call G Ω0 ⟨0,false⟩ 115 [.a (bG out),.a (bG lv)] (fun _=>none)=some (.ret (.a (bG o)),fun _=>none)) :
  run G Ω0 ⟨1,false⟩ By ⟨[(4,.p ⟨0,4⟩ 0),(6,.p ⟨0,6⟩ 0),(7,.p ⟨0,7⟩ 0),(8,.i .i64 j)],[],hp⟩=
   some (.nrm,⟨[(4,.p ⟨0,4⟩ 0),(6,.p ⟨0,6⟩ 0),(7,.p ⟨0,7⟩ 0)],[],aq hp ⟨0,7⟩ (bG o)⟩):=by
 simp [By,gp,execOp,h7,h4,hv,aF,hB,okB,gj,lM,bG,pick,yg,lL,jF]
def mG(t:Nat)(vars:List Level)(e:aK)(v:Level):St:=⟨[(4,.p ⟨0,4⟩ 0),(6,.p ⟨0,6⟩ 0),(7,.p ⟨0,7⟩ 0),(13,.f 230 [.e (bM e) 0])],[(4,[.l t (vars.map aF)]),(6,[.l 4 [],.l 4 []]),(7,bG v)],H0⟩
theorem Eg(t:Nat)(vars:List Level)(e:aK):∀ (ns:List Int)(v o:Level),Bw vars ns v=some o→rounds 0 (run G Ω0 ⟨1,false⟩) 14 Bx By ns (mG t vars e v)=some (.nrm,mG t vars e o)
 | [],v,o,h=>by obtain rfl:=ah h;rfl
 | n::ns,v,o,h=>by
  obtain ⟨j,hj,h1⟩:=aj.1 h
  obtain ⟨l,hl,h2⟩:=aj.1 h1
  obtain ⟨o1,ho,h3⟩:=aj.1 h2
  clear h h1 h2
  obtain rfl:=rr hj
  have hB:=ie v l o1 ho
  have hy:run G Ω0 ⟨1,false⟩ Bx ((mG t vars e v).inner 0 14 j)=some (.nrm,⟨[(4,.p ⟨0,4⟩ 0),(6,.p ⟨0,6⟩ 0),(7,.p ⟨0,7⟩ 0),(8,.i .i64 j)],[],fun k=>(mG t vars e v).box 0 k⟩):=by
   unfold Bx
   rw [yk]
   rfl
  have hb:=N6 t (fun k=>(mG t vars e v).box 0 k) v vars j l o1 rfl rfl hl hB
  unfold rounds
  rw [af (by rfl),hy]
  simp only [ad]
  rw [hb]
  simp only [ad]
  have hs:(mG t vars e v).back 0 (aq (fun k=>(mG t vars e v).box 0 k) ⟨0,7⟩ (bG o1))=mG t vars e o1:=by
   unfold St.back
   have h1:(fun k:Key=>if k.dp<0 then aq (fun k=>(mG t vars e v).box 0 k) ⟨0,7⟩ (bG o1) k else none)=H0:=by funext k;simp
   rw [h1]
   rfl
  rw [hs]
  exact Eg t vars e ns o1 o h3
theorem Eh(e:aK):call G Ω0 ⟨0,false⟩ 218 [bM e] (fun _=>none)=some (.ret (.f 230 [.e (bM e) 0]),fun _=>none):=by
 rw [fT]
 exact L5 10 (by kernel_rfl)
abbrev Bz(t:Nat)(a0:Program)(a1:List Level)(a2:aK)(r:Level):Prop:=call G Ω0 E0 177 [qP a0,.l t (a1.map aF),.a [(I a2.Kind),(I a2.N),(.l 89 (a2.Args.map bM))]] H0=some (.ret (.a (bG r)),H0)
theorem xq(t:Nat)(a0:Program)(a1:List Level)(a2:aK)(r:Level)(h:jD a0 a1 a2=some r):Bz t a0 a1 a2 r:=by
 obtain ⟨b,hb,h⟩:=aj.1 h
 have hB:=jy a0.an b hb
 have hr:=Eg t a1 a2 (jQ a2) b r h
 have hU:=Eh a2
 have d:run G Ω0 E0 (.ru (.t 13) 14 Bx By) (mG t a1 a2 b)=some (.nrm,mG t a1 a2 r):=by
  rw [MP,ab (by decide)]
  show (tF Ω0 (.f 230 [.e (bM a2) 0])).bind _=_
  rw [MQ,ad]
  exact hr
 have hX:=fT a2
 rw [hX] at hU
 have hA:run G Ω0 E0 (.rg [] [gp 3 (.bx (.t 0)),gp 4 (.bx (.t 1)),gp 5 (.bx (.t 2)),gp 6 (.al [(.l 4 []),(.l 4 [])])] [3,4,5,6] [3,4,5,6]) ⟨kq 0 [qP a0,.l t (a1.map aF),.a [(I a2.Kind),(I a2.N),(.l 89 (a2.Args.map bM))]],[],H0⟩=
   some (.nrm,⟨[(3,.p ⟨0,3⟩ 0),(4,.p ⟨0,4⟩ 0),(5,.p ⟨0,5⟩ 0),(6,.p ⟨0,6⟩ 0)],[(3,(qP a0).cl),(4,[.l t (a1.map aF)]),(5,[(I a2.Kind),(I a2.N),(.l 89 (a2.Args.map bM))]),(6,[.l 4 [],.l 4 []])],H0⟩):=by
  rw [yk]
  rfl
 have m:run G Ω0 E0 (.rg [] [gp 9 (.fa 0 (.t 3)),gp 10 (.ld (some 2) (.t 9)),gp 11 (.ca 0 66 [(.t 10)]),gp 7 (.al [(.l 4 []),(.l 4 [])]),⟨none,.st 2 (.t 7) (.t 11),none,false⟩] [4,5,6,7] [4,5,6,7]) ⟨[(3,.p ⟨0,3⟩ 0),(4,.p ⟨0,4⟩ 0),(5,.p ⟨0,5⟩ 0),(6,.p ⟨0,6⟩ 0)],[(3,(qP a0).cl),(4,[.l t (a1.map aF)]),(5,[(I a2.Kind),(I a2.N),(.l 89 (a2.Args.map bM))]),(6,[.l 4 [],.l 4 []])],H0⟩=
   some (.nrm,⟨[(4,.p ⟨0,4⟩ 0),(5,.p ⟨0,5⟩ 0),(6,.p ⟨0,6⟩ 0),(7,.p ⟨0,7⟩ 0)],[(4,[.l t (a1.map aF)]),(5,[(I a2.Kind),(I a2.N),(.l 89 (a2.Args.map bM))]),(6,[.l 4 [],.l 4 []]),(7,bG b)],H0⟩):=by
  simp [gp,execOp,hB,qP,pick,bG,jK]
 have hC:run G Ω0 E0 (.rg [] [gp 12 (.ld (some 3) (.t 5)),gp 13 (.ca 0 218 [(.t 12)])] [4,6,7,13] [4,6,7]) ⟨[(4,.p ⟨0,4⟩ 0),(5,.p ⟨0,5⟩ 0),(6,.p ⟨0,6⟩ 0),(7,.p ⟨0,7⟩ 0)],[(4,[.l t (a1.map aF)]),(5,[(I a2.Kind),(I a2.N),(.l 89 (a2.Args.map bM))]),(6,[.l 4 [],.l 4 []]),(7,bG b)],H0⟩=
   some (.nrm,mG t a1 a2 b):=by
  simp [gp,execOp,hU,pick,mG,hX]
 have hD:run G Ω0 E0 (.rg [] [gp 21 (.ld (some 2) (.t 7)),⟨none,.st 2 (.t 6) (.t 21),none,false⟩] [6] [6]) (mG t a1 a2 r)=some (.nrm,⟨[(6,.p ⟨0,6⟩ 0)],[(6,bG r)],H0⟩):=by
  simp [gp,execOp,pick,mG,bG]
 have hc:Tm=⟨(.sq (.rg [] [gp 3 (.bx (.t 0)),gp 4 (.bx (.t 1)),gp 5 (.bx (.t 2)),gp 6 (.al [(.l 4 []),(.l 4 [])])] [3,4,5,6] [3,4,5,6]) (.sq (.rg [] [gp 9 (.fa 0 (.t 3)),gp 10 (.ld (some 2) (.t 9)),gp 11 (.ca 0 66 [(.t 10)]),gp 7 (.al [(.l 4 []),(.l 4 [])]),⟨none,.st 2 (.t 7) (.t 11),none,false⟩] [4,5,6,7] [4,5,6,7])
   (.sq (.sq (.rg [] [gp 12 (.ld (some 3) (.t 5)),gp 13 (.ca 0 218 [(.t 12)])] [4,6,7,13] [4,6,7]) (.bl 0 (.ru (.t 13) 14 Bx By))) (.sq (.rg [] [gp 21 (.ld (some 2) (.t 7)),⟨none,.st 2 (.t 6) (.t 21),none,false⟩] [6] [6]) .rt)))),[.c 6 (some 2)]⟩:=rfl
 show call G Ω0 E0 177 _ _=_
 rw [pP,aho,ad,hc]
 simp only [nq,hA,m,hC,hD,qI,d,ad,pU,inBlock,iN]
 rfl
abbrev KT(a0:Program)(a1:List Level)(a2:aK)(r:Level):Prop:=Bz 113 a0 a1 a2 r
theorem Gr(a0:Program)(a1:List Level)(a2:aK)(r:Level)(h:jD a0 a1 a2=some r):KT a0 a1 a2 r:=xq _ a0 a1 a2 r h
end Go.Proofs.YtlmphbbhaeampaaGreat.A
