/- infer.Level as a plain function: a range over the variables of an expression. -/
import Derived.Test.YtlmphbbhaeampaaGreatFE
set_option linter.all false
set_option maxRecDepth 100000
namespace Go.Proofs.YtlmphbbhaeampaaGreat.A
open Go
section
variable {G:sd}{Ω:ej}{E:Env}
theorem K7{dp x:Nat}{y b:AC} : ∀ (ns:List Int)(st:St),Fin (rounds dp (run G Ω E) x y b ns st) fun n=>rounds dp (exec G Ω n E) x y b ns st
 | [],st=>Fin.same _
 | n::ns,st=>by
  unfold rounds
  refine Fin.ite (Fin.bind (pd _ _ _) fun q=>?_) (Fin.same _)
  split
  ·refine Fin.bind (pd _ _ _) fun r=>?_
   split
   ·exact K7 ns _
   ·exact Fin.same _
  ·exact Fin.same _
theorem Qn(st:St)(g:bY)(x:Nat)(y b:AC):run G Ω E (.ru g x y b) st=if E.ro=true then none else (vQ Ω (st.ev g)).bind fun ns=>rounds E.dp (run G Ω ⟨E.dp+1,false⟩) x y b ns st:=
 zc (fun _=>rfl) (fun n=>cu.ite (cu.refl _) (cu.bind (cu.refl _) fun ns=>C2 (fun c st=>pc n _ c st) ns st))
  (Fin.ite (Fin.same _) (Fin.bind (Fin.same _) fun ns=>K7 ns st))
end
mutual
def mE:ay→List Int
 | ⟨k,n,args⟩=>if k=2 then n::qQ args else qQ args
def qQ:List ay→List Int
 | []=>[]
 | x::r=>mE x++qQ r
end
mutual
theorem SM:∀ x:ay,vS (bw x)=some (mE x)
 | ⟨k,n,args⟩=>by
  simp only [bw,vS,SN args,kJ,mE]
theorem SN:∀ l:List ay,Ah (vD l)=some (qQ l)
 | []=>by simp only [vD,Ah,qQ]
 | x::r=>by simp only [vD,Ah,SM x,SN r,ab,kJ,qQ]
end
theorem Qo(x:ay):vQ Ω0 (.f 230 [.e (bw x) 0])=some (mE x):=by
 have h:Ω0 230 [.u,.e (bw x) 0]=some (.l 0 ((mE x).map (AV.i .i64))):=by
  show Dz _=_
  simp only [Dz,SM,kJ]
 have hc:(AV.f 230 [.e (bw x) 0]).copy=true:=rfl
 unfold vQ
 simp only [hc,aH,h,ab,Kd]
variable [Lp]
abbrev dX(l:Level):List AV:=[(.l 4 (l.Readers.map AV.b)),(.l 4 (l.Writers.map AV.b))]
noncomputable def DV(vars:List Level):List Int→Level→Option Level
 | [],v=>some v
 | n::ns,v=>(cU n).bind fun j=>(vars[j]?).bind fun l=>(nr v l).bind fun o=>DV vars ns o
noncomputable def qR(a0:Program)(a1:List Level)(a2:ay):Option Level:=(mZ a0.ak).bind fun b=>DV a1 (mE a2) b
def DW:AC:=(.rg [] [gp 8 (.as (.t 14))] [4,6,7,8] [4,6,7])
def DX:AC:=(.bl 1 (.dg [] [] [⟨gp 15 (.ld (some 2) (.t 7)),true,[7],[],true,[],[],[]⟩,⟨gp 16 (.ld none (.t 4)),true,[4],[],true,[],[],[]⟩,⟨gp 17 (.mv (.t 8)),true,[8],[],false,[],[],[]⟩,⟨gp 18 (.ia 2 none (.t 16) (.t 17)),true,[16,17],[],true,[],[],[]⟩,⟨gp 19 (.ld (some 2) (.t 18)),true,[18],[],true,[],[],[]⟩,⟨gp 20 (.ca 0 115 [(.t 15),(.t 19)]),false,[],[],false,[],[],[]⟩,⟨⟨none,.st 2 (.t 7) (.t 20),none,false⟩,false,[],[],false,[],[],[]⟩] [4,6,7] [4,6,7]))
set_option maxHeartbeats 2000000 in
theorem RG(t:Nat)(hp:HP)(out:Level)(vars:List Level)(j:Nat)(lv o:Level)(h7:hp ⟨0,7⟩=some (dX out))(h4:hp ⟨0,4⟩=some [.l t (vars.map aC)])(hv:vars[j]? =some lv)
  (hB:call G Ω0 ⟨0,false⟩ 115 [.a (dX out),.a (dX lv)] (fun _=>none)=some (.ret (.a (dX o)),fun _=>none)) :
  run G Ω0 ⟨1,false⟩ DX ⟨[(4,.p ⟨0,4⟩ 0),(6,.p ⟨0,6⟩ 0),(7,.p ⟨0,7⟩ 0),(8,.i .i64 j)],[],hp⟩=
   some (.nrm,⟨[(4,.p ⟨0,4⟩ 0),(6,.p ⟨0,6⟩ 0),(7,.p ⟨0,7⟩ 0)],[],ar hp ⟨0,7⟩ (dX o)⟩):=by
 simp [DX,gp,execOp,h7,h4,hv,aC,hB,okB,jq,n9,dX,pick,Dy,pa,kL]
def ny(t:Nat)(vars:List Level)(e:ay)(v:Level):St:=⟨[(4,.p ⟨0,4⟩ 0),(6,.p ⟨0,6⟩ 0),(7,.p ⟨0,7⟩ 0),(13,.f 230 [.e (bw e) 0])],[(4,[.l t (vars.map aC)]),(6,[.l 4 [],.l 4 []]),(7,dX v)],H0⟩
theorem GS(t:Nat)(vars:List Level)(e:ay):∀ (ns:List Int)(v o:Level),DV vars ns v=some o→rounds 0 (run G Ω0 ⟨1,false⟩) 14 DW DX ns (ny t vars e v)=some (.nrm,ny t vars e o)
 | [],v,o,h=>by obtain rfl:=aq h;rfl
 | n::ns,v,o,h=>by
  obtain ⟨j,hj,h1⟩:=au.1 h
  obtain ⟨l,hl,h2⟩:=au.1 h1
  obtain ⟨o1,ho,h3⟩:=au.1 h2
  clear h h1 h2
  obtain rfl:=xR hj
  have hB:=rC v l o1 ho
  have hy:run G Ω0 ⟨1,false⟩ DW ((ny t vars e v).inner 0 14 j)=some (.nrm,⟨[(4,.p ⟨0,4⟩ 0),(6,.p ⟨0,6⟩ 0),(7,.p ⟨0,7⟩ 0),(8,.i .i64 j)],[],fun k=>(ny t vars e v).box 0 k⟩):=by
   unfold DW
   rw [zd]
   rfl
  have hb:=RG t (fun k=>(ny t vars e v).box 0 k) v vars j l o1 rfl rfl hl hB
  unfold rounds
  rw [af (by rfl),hy]
  simp only [ab]
  rw [hb]
  simp only [ab]
  have hs:(ny t vars e v).back 0 (ar (fun k=>(ny t vars e v).box 0 k) ⟨0,7⟩ (dX o1))=ny t vars e o1:=by
   unfold St.back
   have h1:(fun k:Key=>if k.dp<0 then ar (fun k=>(ny t vars e v).box 0 k) ⟨0,7⟩ (dX o1) k else none)=H0:=by funext k;simp
   rw [h1]
   rfl
  rw [hs]
  exact GS t vars e ns o1 o h3
theorem GU(e:ay):call G Ω0 ⟨0,false⟩ 218 [bw e] (fun _=>none)=some (.ret (.f 230 [.e (bw e) 0]),fun _=>none):=by
 rw [di]
 exact Px 10 (by kernel_rfl)
abbrev DY(t:Nat)(a0:Program)(a1:List Level)(a2:ay)(r:Level):Prop:=call G Ω0 E0 177 [sn a0,.l t (a1.map aC),.a [(I a2.Kind),(I a2.N),(.l 89 (a2.Args.map bw))]] H0=some (.ret (.a (dX r)),H0)
theorem Ih(t:Nat)(a0:Program)(a1:List Level)(a2:ay)(r:Level)(h:qR a0 a1 a2=some r):DY t a0 a1 a2 r:=by
 obtain ⟨b,hb,h⟩:=au.1 h
 have hB:=ub a0.ak b hb
 have hr:=GS t a1 a2 (mE a2) b r h
 have hU:=GU a2
 have d:run G Ω0 E0 (.ru (.t 13) 14 DW DX) (ny t a1 a2 b)=some (.nrm,ny t a1 a2 r):=by
  rw [Qn,ah (by decide)]
  show (vQ Ω0 (.f 230 [.e (bw a2) 0])).bind _=_
  rw [Qo,ab]
  exact hr
 have hX:=di a2
 rw [hX] at hU
 have hA:run G Ω0 E0 (.rg [] [gp 3 (.bx (.t 0)),gp 4 (.bx (.t 1)),gp 5 (.bx (.t 2)),gp 6 (.al [(.l 4 []),(.l 4 [])])] [3,4,5,6] [3,4,5,6]) ⟨lC 0 [sn a0,.l t (a1.map aC),.a [(I a2.Kind),(I a2.N),(.l 89 (a2.Args.map bw))]],[],H0⟩=
   some (.nrm,⟨[(3,.p ⟨0,3⟩ 0),(4,.p ⟨0,4⟩ 0),(5,.p ⟨0,5⟩ 0),(6,.p ⟨0,6⟩ 0)],[(3,(sn a0).cl),(4,[.l t (a1.map aC)]),(5,[(I a2.Kind),(I a2.N),(.l 89 (a2.Args.map bw))]),(6,[.l 4 [],.l 4 []])],H0⟩):=by
  rw [zd]
  rfl
 have m:run G Ω0 E0 (.rg [] [gp 9 (.fa 0 (.t 3)),gp 10 (.ld (some 2) (.t 9)),gp 11 (.ca 0 66 [(.t 10)]),gp 7 (.al [(.l 4 []),(.l 4 [])]),⟨none,.st 2 (.t 7) (.t 11),none,false⟩] [4,5,6,7] [4,5,6,7]) ⟨[(3,.p ⟨0,3⟩ 0),(4,.p ⟨0,4⟩ 0),(5,.p ⟨0,5⟩ 0),(6,.p ⟨0,6⟩ 0)],[(3,(sn a0).cl),(4,[.l t (a1.map aC)]),(5,[(I a2.Kind),(I a2.N),(.l 89 (a2.Args.map bw))]),(6,[.l 4 [],.l 4 []])],H0⟩=
   some (.nrm,⟨[(4,.p ⟨0,4⟩ 0),(5,.p ⟨0,5⟩ 0),(6,.p ⟨0,6⟩ 0),(7,.p ⟨0,7⟩ 0)],[(4,[.l t (a1.map aC)]),(5,[(I a2.Kind),(I a2.N),(.l 89 (a2.Args.map bw))]),(6,[.l 4 [],.l 4 []]),(7,dX b)],H0⟩):=by
  simp [gp,execOp,hB,sn,pick,dX,mq]
 have hC:run G Ω0 E0 (.rg [] [gp 12 (.ld (some 3) (.t 5)),gp 13 (.ca 0 218 [(.t 12)])] [4,6,7,13] [4,6,7]) ⟨[(4,.p ⟨0,4⟩ 0),(5,.p ⟨0,5⟩ 0),(6,.p ⟨0,6⟩ 0),(7,.p ⟨0,7⟩ 0)],[(4,[.l t (a1.map aC)]),(5,[(I a2.Kind),(I a2.N),(.l 89 (a2.Args.map bw))]),(6,[.l 4 [],.l 4 []]),(7,dX b)],H0⟩=
   some (.nrm,ny t a1 a2 b):=by
  simp [gp,execOp,hU,pick,ny,hX]
 have hD:run G Ω0 E0 (.rg [] [gp 21 (.ld (some 2) (.t 7)),⟨none,.st 2 (.t 6) (.t 21),none,false⟩] [6] [6]) (ny t a1 a2 r)=some (.nrm,⟨[(6,.p ⟨0,6⟩ 0)],[(6,dX r)],H0⟩):=by
  simp [gp,execOp,pick,ny,dX]
 have hc:WQ=⟨(.sq (.rg [] [gp 3 (.bx (.t 0)),gp 4 (.bx (.t 1)),gp 5 (.bx (.t 2)),gp 6 (.al [(.l 4 []),(.l 4 [])])] [3,4,5,6] [3,4,5,6]) (.sq (.rg [] [gp 9 (.fa 0 (.t 3)),gp 10 (.ld (some 2) (.t 9)),gp 11 (.ca 0 66 [(.t 10)]),gp 7 (.al [(.l 4 []),(.l 4 [])]),⟨none,.st 2 (.t 7) (.t 11),none,false⟩] [4,5,6,7] [4,5,6,7])
   (.sq (.sq (.rg [] [gp 12 (.ld (some 3) (.t 5)),gp 13 (.ca 0 218 [(.t 12)])] [4,6,7,13] [4,6,7]) (.bl 0 (.ru (.t 13) 14 DW DX))) (.sq (.rg [] [gp 21 (.ld (some 2) (.t 7)),⟨none,.st 2 (.t 6) (.t 21),none,false⟩] [6] [6]) .rt)))),[.c 6 (some 2)]⟩:=rfl
 show call G Ω0 E0 177 _ _=_
 rw [vz,aoC,ab,hc]
 simp only [ob,hA,m,hC,hD,sg,d,ab,qZ,inBlock,kA]
 rfl
abbrev Oj(a0:Program)(a1:List Level)(a2:ay)(r:Level):Prop:=DY 113 a0 a1 a2 r
theorem Jz(a0:Program)(a1:List Level)(a2:ay)(r:Level)(h:qR a0 a1 a2=some r):Oj a0 a1 a2 r:=Ih _ a0 a1 a2 r h
end Go.Proofs.YtlmphbbhaeampaaGreat.A
