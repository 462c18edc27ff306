/- infer.Level as a plain function: a range over the variables of an expression. -/
import Derived.Test.YtkkkkondjclcnaaGreatFE
set_option linter.all false
set_option maxRecDepth 100000
namespace Go.Proofs.YtkkkkondjclcnaaGreat.A
open Go
section
variable {G:qi}{Ω:dt}{E:Env}
theorem Hv{dp x:Nat}{y b:AC} : ∀ (ns:List Int)(st:St),Fin (rounds dp (run G Ω E) x y b ns st) fun n=>rounds dp (exec G Ω n E) x y b ns st
 | [],st=>Fin.same _
 | n::ns,st=>by
  unfold rounds
  refine Fin.ite (Fin.bind (nE _ _ _) fun q=>?_) (Fin.same _)
  split
  ·refine Fin.bind (nE _ _ _) fun r=>?_
   split
   ·exact Hv ns _
   ·exact Fin.same _
  ·exact Fin.same _
theorem abS(st:St)(g:ba)(x:Nat)(y b:AC):run G Ω E (.ru g x y b) st=if E.ro=true then none else (xM Ω (st.ev g)).bind fun ns=>rounds E.dp (run G Ω ⟨E.dp+1,false⟩) x y b ns st:=
 vR (fun _=>rfl) (fun n=>bh.ite (bh.refl _) (bh.bind (bh.refl _) fun ns=>Ag (fun c st=>nD n _ c st) ns st))
  (Fin.ite (Fin.same _) (Fin.bind (Fin.same _) fun ns=>Hv ns st))
end
mutual
def py:ax→List Int
 | ⟨k,n,args⟩=>if k=2 then n::oR args else oR args
def oR:List ax→List Int
 | []=>[]
 | x::r=>py x++oR r
end
mutual
theorem Ou:∀ x:ax,tZ (aL x)=some (py x)
 | ⟨k,n,args⟩=>by
  simp only [aL,tZ,Ov args,fg,py]
theorem Ov:∀ l:List ax,xi (tN l)=some (oR l)
 | []=>by simp only [tN,xi,oR]
 | x::r=>by simp only [tN,xi,Ou x,Ov r,ae,fg,oR]
end
theorem abT(x:ax):xM Ω0 (.f 146 [.e (aL x) 0])=some (py x):=by
 have h:Ω0 146 [.u,.e (aL x) 0]=some (.l 0 ((py x).map (AV.i .i64))):=by
  show Aw _=_
  simp only [Aw,Ou,fg]
 have hc:(AV.f 146 [.e (aL x) 0]).copy=true:=rfl
 unfold xM
 simp only [hc,an,h,ae,GB]
variable [Lp]
abbrev aJ(l:Level):List AV:=[(.l 4 (l.Readers.map AV.b)),(.l 4 (l.Writers.map AV.b))]
noncomputable def AZ(vars:List Level):List Int→Level→Option Level
 | [],v=>some v
 | n::ns,v=>(eI n).bind fun j=>(vars[j]?).bind fun l=>(ew v l).bind fun o=>AZ vars ns o
noncomputable def iX(a0:Program)(a1:List Level)(a2:ax):Option Level:=(ir a0.ah).bind fun b=>AZ a1 (py a2) b
def A0:AC:=(.rg [] [gp 8 (.as (.t 14))] [4,6,7,8] [4,6,7])
def A1:AC:=(.bl 1 (.dg [] [] [⟨gp 15 (.ld (some 2) (.t 7)),true,[7],[],true,[],[],[]⟩,⟨gp 16 (.ld none (.t 4)),true,[4],[],true,[],[],[]⟩,⟨gp 17 (.mv (.t 8)),true,[8],[],false,[],[],[]⟩,⟨gp 18 (.ia 2 none (.t 16) (.t 17)),true,[16,17],[],true,[],[],[]⟩,⟨gp 19 (.ld (some 2) (.t 18)),true,[18],[],true,[],[],[]⟩,⟨gp 20 (.ca 0 98 [(.t 15),(.t 19)]),false,[],[],false,[],[],[]⟩,⟨⟨none,.st 2 (.t 7) (.t 20),none,false⟩,false,[],[],false,[],[],[]⟩] [4,6,7] [4,6,7]))
set_option maxHeartbeats 2000000 in
theorem NH(t:Nat)(hp:HP)(out:Level)(vars:List Level)(j:Nat)(lv o:Level)(h7:hp ⟨0,7⟩=some (aJ out))(h4:hp ⟨0,4⟩=some [.l t (vars.map aq)])(hv:vars[j]? =some lv)
  (hB:call G Ω0 ⟨0,false⟩ 98 [.a (aJ out),.a (aJ lv)] (fun _=>none)=some (.ret (.a (aJ o)),fun _=>none)) :
  run G Ω0 ⟨1,false⟩ A1 ⟨[(4,.p ⟨0,4⟩ 0),(6,.p ⟨0,6⟩ 0),(7,.p ⟨0,7⟩ 0),(8,.i .i64 j)],[],hp⟩=
   some (.nrm,⟨[(4,.p ⟨0,4⟩ 0),(6,.p ⟨0,6⟩ 0),(7,.p ⟨0,7⟩ 0)],[],aG hp ⟨0,7⟩ (aJ o)⟩):=by
 simp [A1,gp,execOp,h7,h4,hv,aq,hB,okB,er,iG,aJ,pick,tX,mg,jt]
def lU(t:Nat)(vars:List Level)(e:ax)(v:Level):St:=⟨[(4,.p ⟨0,4⟩ 0),(6,.p ⟨0,6⟩ 0),(7,.p ⟨0,7⟩ 0),(13,.f 146 [.e (aL e) 0])],[(4,[.l t (vars.map aq)]),(6,[.l 4 [],.l 4 []]),(7,aJ v)],H0⟩
theorem DE(t:Nat)(vars:List Level)(e:ax):∀ (ns:List Int)(v o:Level),AZ vars ns v=some o→rounds 0 (run G Ω0 ⟨1,false⟩) 14 A0 A1 ns (lU t vars e v)=some (.nrm,lU t vars e o)
 | [],v,o,h=>by obtain rfl:=ad h;rfl
 | n::ns,v,o,h=>by
  obtain ⟨j,hj,h1⟩:=af.1 h
  obtain ⟨l,hl,h2⟩:=af.1 h1
  obtain ⟨o1,ho,h3⟩:=af.1 h2
  clear h h1 h2
  obtain rfl:=mj hj
  have hB:=mL v l o1 ho
  have hy:run G Ω0 ⟨1,false⟩ A0 ((lU t vars e v).inner 0 14 j)=some (.nrm,⟨[(4,.p ⟨0,4⟩ 0),(6,.p ⟨0,6⟩ 0),(7,.p ⟨0,7⟩ 0),(8,.i .i64 j)],[],fun k=>(lU t vars e v).box 0 k⟩):=by
   unfold A0
   rw [Av]
   rfl
  have hb:=NH t (fun k=>(lU t vars e v).box 0 k) v vars j l o1 rfl rfl hl hB
  unfold rounds
  rw [aa (by rfl),hy]
  simp only [ae]
  rw [hb]
  simp only [ae]
  have hs:(lU t vars e v).back 0 (aG (fun k=>(lU t vars e v).box 0 k) ⟨0,7⟩ (aJ o1))=lU t vars e o1:=by
   unfold St.back
   have h1:(fun k:Key=>if k.dp<0 then aG (fun k=>(lU t vars e v).box 0 k) ⟨0,7⟩ (aJ o1) k else none)=H0:=by funext k;simp
   rw [h1]
   rfl
  rw [hs]
  exact DE t vars e ns o1 o h3
theorem RF(e:ax):call G Ω0 ⟨0,false⟩ 113 [aL e] (fun _=>none)=some (.ret (.f 146 [.e (aL e) 0]),fun _=>none):=by
 rw [dm]
 exact Lz 10 (by kernel_rfl)
abbrev A2(t:Nat)(a0:Program)(a1:List Level)(a2:ax)(r:Level):Prop:=call G Ω0 E0 46 [qt a0,.l t (a1.map aq),.a [(I a2.Kind),(I a2.N),(.l 37 (a2.Args.map aL))]] H0=some (.ret (.a (aJ r)),H0)
theorem wW(t:Nat)(a0:Program)(a1:List Level)(a2:ax)(r:Level)(h:iX a0 a1 a2=some r):A2 t a0 a1 a2 r:=by
 obtain ⟨b,hb,h⟩:=af.1 h
 have hB:=nx a0.ah b hb
 have hr:=DE t a1 a2 (py a2) b r h
 have hU:=RF a2
 have hru:run G Ω0 E0 (.ru (.t 13) 14 A0 A1) (lU t a1 a2 b)=some (.nrm,lU t a1 a2 r):=by
  rw [abS,ab (by decide)]
  show (xM Ω0 (.f 146 [.e (aL a2) 0])).bind _=_
  rw [abT,ae]
  exact hr
 have hX:=dm a2
 rw [hX] at hU
 have hA:run G Ω0 E0 (.rg [] [gp 3 (.bx (.t 0)),gp 4 (.bx (.t 1)),gp 5 (.bx (.t 2)),gp 6 (.al [(.l 4 []),(.l 4 [])])] [3,4,5,6] [3,4,5,6]) ⟨jB 0 [qt a0,.l t (a1.map aq),.a [(I a2.Kind),(I a2.N),(.l 37 (a2.Args.map aL))]],[],H0⟩=
   some (.nrm,⟨[(3,.p ⟨0,3⟩ 0),(4,.p ⟨0,4⟩ 0),(5,.p ⟨0,5⟩ 0),(6,.p ⟨0,6⟩ 0)],[(3,(qt a0).cl),(4,[.l t (a1.map aq)]),(5,[(I a2.Kind),(I a2.N),(.l 37 (a2.Args.map aL))]),(6,[.l 4 [],.l 4 []])],H0⟩):=by
  rw [Av]
  rfl
 have hB':run G Ω0 E0 (.rg [] [gp 9 (.fa 0 (.t 3)),gp 10 (.ld (some 2) (.t 9)),gp 11 (.ca 0 96 [(.t 10)]),gp 7 (.al [(.l 4 []),(.l 4 [])]),⟨none,.st 2 (.t 7) (.t 11),none,false⟩] [4,5,6,7] [4,5,6,7]) ⟨[(3,.p ⟨0,3⟩ 0),(4,.p ⟨0,4⟩ 0),(5,.p ⟨0,5⟩ 0),(6,.p ⟨0,6⟩ 0)],[(3,(qt a0).cl),(4,[.l t (a1.map aq)]),(5,[(I a2.Kind),(I a2.N),(.l 37 (a2.Args.map aL))]),(6,[.l 4 [],.l 4 []])],H0⟩=
   some (.nrm,⟨[(4,.p ⟨0,4⟩ 0),(5,.p ⟨0,5⟩ 0),(6,.p ⟨0,6⟩ 0),(7,.p ⟨0,7⟩ 0)],[(4,[.l t (a1.map aq)]),(5,[(I a2.Kind),(I a2.N),(.l 37 (a2.Args.map aL))]),(6,[.l 4 [],.l 4 []]),(7,aJ b)],H0⟩):=by
  simp [gp,execOp,hB,qt,pick,aJ,iZ]
 have hC:run G Ω0 E0 (.rg [] [gp 12 (.ld (some 3) (.t 5)),gp 13 (.ca 0 113 [(.t 12)])] [4,6,7,13] [4,6,7]) ⟨[(4,.p ⟨0,4⟩ 0),(5,.p ⟨0,5⟩ 0),(6,.p ⟨0,6⟩ 0),(7,.p ⟨0,7⟩ 0)],[(4,[.l t (a1.map aq)]),(5,[(I a2.Kind),(I a2.N),(.l 37 (a2.Args.map aL))]),(6,[.l 4 [],.l 4 []]),(7,aJ b)],H0⟩=
   some (.nrm,lU t a1 a2 b):=by
  simp [gp,execOp,hU,pick,lU,hX]
 have hD:run G Ω0 E0 (.rg [] [gp 21 (.ld (some 2) (.t 7)),⟨none,.st 2 (.t 6) (.t 21),none,false⟩] [6] [6]) (lU t a1 a2 r)=some (.nrm,⟨[(6,.p ⟨0,6⟩ 0)],[(6,aJ r)],H0⟩):=by
  simp [gp,execOp,pick,lU,aJ]
 have hc:U2=⟨(.sq (.rg [] [gp 3 (.bx (.t 0)),gp 4 (.bx (.t 1)),gp 5 (.bx (.t 2)),gp 6 (.al [(.l 4 []),(.l 4 [])])] [3,4,5,6] [3,4,5,6]) (.sq (.rg [] [gp 9 (.fa 0 (.t 3)),gp 10 (.ld (some 2) (.t 9)),gp 11 (.ca 0 96 [(.t 10)]),gp 7 (.al [(.l 4 []),(.l 4 [])]),⟨none,.st 2 (.t 7) (.t 11),none,false⟩] [4,5,6,7] [4,5,6,7])
   (.sq (.sq (.rg [] [gp 12 (.ld (some 3) (.t 5)),gp 13 (.ca 0 113 [(.t 12)])] [4,6,7,13] [4,6,7]) (.bl 0 (.ru (.t 13) 14 A0 A1))) (.sq (.rg [] [gp 21 (.ld (some 2) (.t 7)),⟨none,.st 2 (.t 6) (.t 21),none,false⟩] [6] [6]) .rt)))),[.c 6 (some 2)]⟩:=rfl
 show call G Ω0 E0 46 _ _=_
 rw [tL,G46,ae,hc]
 simp only [vS,hA,hB',hC,hD,sw,hru,ae,wz,inBlock,ef]
 rfl
abbrev KA(a0:Program)(a1:List Level)(a2:ax)(r:Level):Prop:=A2 45 a0 a1 a2 r
theorem F1(a0:Program)(a1:List Level)(a2:ax)(r:Level)(h:iX a0 a1 a2=some r):KA a0 a1 a2 r:=wW _ a0 a1 a2 r h
end Go.Proofs.YtkkkkondjclcnaaGreat.A
