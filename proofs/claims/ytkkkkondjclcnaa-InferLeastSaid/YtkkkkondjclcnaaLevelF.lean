/- infer.Level as a plain function: a range over the variables of an expression. -/
import Derived.Test.YtkkkkondjclcnaaFE
set_option maxRecDepth 100000
set_option linter.unusedSectionVars false
set_option linter.unusedVariables false
set_option linter.unusedSimpArgs false
set_option linter.constructorNameAsVariable false
namespace Go.Proofs.Ytkkkkondjclcnaa.A
open Go
section
variable {G:kY}{Ω:bL}{E:Env}
theorem zd{dp x:Nat}{y b:AC} : ∀ (ns:List Int)(st:St),Fin (rounds dp (run G Ω E) x y b ns st) fun n=>rounds dp (exec G Ω n E) x y b ns st
 | [],st=>Fin.same _
 | n::ns,st=>by
  unfold rounds
  refine Fin.ite (Fin.bind (je _ _ _) fun q=>?_) (Fin.same _)
  split
  ·refine Fin.bind (je _ _ _) fun r=>?_
   split
   ·exact zd ns _
   ·exact Fin.same _
  ·exact Fin.same _
theorem MA(st:St)(g:aA)(x:Nat)(y b:AC):run G Ω E (.ru g x y b) st=if E.ro=true then none else (qM Ω (st.ev g)).bind fun ns=>rounds E.dp (run G Ω ⟨E.dp+1,false⟩) x y b ns st:=
 pw (fun _=>rfl) (fun n=>aC.ite (aC.refl _) (aC.bind (aC.refl _) fun ns=>sH (fun c st=>iF n _ c st) ns st))
  (Fin.ite (Fin.same _) (Fin.bind (Fin.same _) fun ns=>zd ns st))
end
mutual
def nz:aw→List Int
 | ⟨k,n,args⟩=>if k=2 then n::m8 args else m8 args
def m8:List aw→List Int
 | []=>[]
 | x::r=>nz x++m8 r
end
mutual
theorem Ew:∀ x:aw,od (aG x)=some (nz x)
 | ⟨k,n,args⟩=>by
  simp only [aG,od,Ex args,Option.map_some,nz]
theorem Ex:∀ l:List aw,qf (nU l)=some (m8 l)
 | []=>by simp only [nU,qf,m8]
 | x::r=>by simp only [nU,qf,Ew x,Ex r,Option.bind_some,Option.map_some,m8]
end
theorem MB(x:aw):qM Ω0 (.f 83 [.e (aG x) 0])=some (nz x):=by
 have h:Ω0 83 [.u,.e (aG x) 0]=some (.l 0 ((nz x).map (AV.i .i64))):=by
  show sV _=_
  simp only [sV,Ew,Option.map_some]
 have hc:(AV.f 83 [.e (aG x) 0]).copy=true:=rfl
 unfold qM
 simp only [hc,if_true,h,Option.bind_some,yn]
variable [Lp]
abbrev aB(l:Level):List AV:=[(.l 4 (l.Readers.map AV.b)),(.l 4 (l.Writers.map AV.b))]
noncomputable def tn(vars:List Level):List Int→Level→Option Level
 | [],v=>some v
 | n::ns,v=>(fY n).bind fun j=>(vars[j]?).bind fun l=>(cE v l).bind fun o=>tn vars ns o
noncomputable def iA(a0:Program)(a1:List Level)(a2:aw):Option Level:=(ec a0.aa).bind fun b=>tn a1 (nz a2) b
def tq:AC:=(.rg [] [gp 8 (.as (.t 14))] [4,6,7,8] [4,6,7])
def tr:AC:=(.bl 1 (.dg [] [] [⟨gp 15 (.ld (some 2) (.t 7)),true,[7],[],true,[],[],[]⟩,⟨gp 16 (.ld none (.t 4)),true,[4],[],true,[],[],[]⟩,⟨gp 17 (.mv (.t 8)),true,[8],[],false,[],[],[]⟩,⟨gp 18 (.ia 2 none (.t 16) (.t 17)),true,[16,17],[],true,[],[],[]⟩,⟨gp 19 (.ld (some 2) (.t 18)),true,[18],[],true,[],[],[]⟩,⟨gp 20 (.ca 0 36 [(.t 15),(.t 19)]),false,[],[],false,[],[],[]⟩,⟨⟨none,.st 2 (.t 7) (.t 20),none,false⟩,false,[],[],false,[],[],[]⟩] [4,6,7] [4,6,7]))
set_option maxHeartbeats 2000000 in
theorem D0(t:Nat)(hp:HP)(out:Level)(vars:List Level)(j:Nat)(lv o:Level)(h7:hp ⟨0,7⟩=some (aB out))(h4:hp ⟨0,4⟩=some [.l t (vars.map ah)])(hv:vars[j]? =some lv)
  (hB:call G Ω0 ⟨0,false⟩ 36 [.a (aB out),.a (aB lv)] (fun _=>none)=some (.ret (.a (aB o)),fun _=>none)) :
  run G Ω0 ⟨1,false⟩ tr ⟨[(4,.p ⟨0,4⟩ 0),(6,.p ⟨0,6⟩ 0),(7,.p ⟨0,7⟩ 0),(8,.i .i64 j)],[],hp⟩=
   some (.nrm,⟨[(4,.p ⟨0,4⟩ 0),(6,.p ⟨0,6⟩ 0),(7,.p ⟨0,7⟩ 0)],[],aj hp ⟨0,7⟩ (aB o)⟩):=by
 simp [tr,gp,execOp,h7,h4,hv,ah,hB,okB,dR,kx,aB,pick,uX,ka,jC]
def ib(t:Nat)(vars:List Level)(e:aw)(v:Level):St:=⟨[(4,.p ⟨0,4⟩ 0),(6,.p ⟨0,6⟩ 0),(7,.p ⟨0,7⟩ 0),(13,.f 83 [.e (aG e) 0])],[(4,[.l t (vars.map ah)]),(6,[.l 4 [],.l 4 []]),(7,aB v)],H0⟩
theorem vq(t:Nat)(vars:List Level)(e:aw):∀ (ns:List Int)(v o:Level),tn vars ns v=some o→rounds 0 (run G Ω0 ⟨1,false⟩) 14 tq tr ns (ib t vars e v)=some (.nrm,ib t vars e o)
 | [],v,o,h=>by obtain rfl:=Option.some.inj h;rfl
 | n::ns,v,o,h=>by
  obtain ⟨j,hj,h1⟩:=Option.bind_eq_some_iff.1 h
  obtain ⟨l,hl,h2⟩:=Option.bind_eq_some_iff.1 h1
  obtain ⟨o1,ho,h3⟩:=Option.bind_eq_some_iff.1 h2
  clear h h1 h2
  obtain rfl:=oP hj
  have hB:=iN v l o1 ho
  have hy:run G Ω0 ⟨1,false⟩ tq ((ib t vars e v).inner 0 14 j)=some (.nrm,⟨[(4,.p ⟨0,4⟩ 0),(6,.p ⟨0,6⟩ 0),(7,.p ⟨0,7⟩ 0),(8,.i .i64 j)],[],fun k=>(ib t vars e v).box 0 k⟩):=by
   unfold tq
   rw [ym]
   rfl
  have hb:=D0 t (fun k=>(ib t vars e v).box 0 k) v vars j l o1 rfl rfl hl hB
  unfold rounds
  rw [if_pos (by rfl),hy]
  simp only [Option.bind_some]
  rw [hb]
  simp only [Option.bind_some]
  have hs:(ib t vars e v).back 0 (aj (fun k=>(ib t vars e v).box 0 k) ⟨0,7⟩ (aB o1))=ib t vars e o1:=by
   unfold St.back
   have h1:(fun k:Key=>if k.dp<0 then aj (fun k=>(ib t vars e v).box 0 k) ⟨0,7⟩ (aB o1) k else none)=H0:=by funext k;simp
   rw [h1]
   rfl
  rw [hs]
  exact vq t vars e ns o1 o h3
theorem GB(e:aw):call G Ω0 ⟨0,false⟩ 69 [aG e] (fun _=>none)=some (.ret (.f 83 [.e (aG e) 0]),fun _=>none):=by
 rw [iJ]
 exact Ck 10 (by kernel_rfl)
abbrev At(t:Nat)(a0:Program)(a1:List Level)(a2:aw)(r:Level):Prop:=call G Ω0 E0 38 [k4 a0,.l t (a1.map ah),.a [(I a2.Kind),(I a2.N),(.l 53 (a2.Args.map aG))]] H0=some (.ret (.a (aB r)),H0)
theorem wL(t:Nat)(a0:Program)(a1:List Level)(a2:aw)(r:Level)(h:iA a0 a1 a2=some r):At t a0 a1 a2 r:=by
 obtain ⟨b,hb,h⟩:=Option.bind_eq_some_iff.1 h
 have hB:=jc a0.aa b hb
 have hr:=vq t a1 a2 (nz a2) b r h
 have hU:=GB a2
 have hru:run G Ω0 E0 (.ru (.t 13) 14 tq tr) (ib t a1 a2 b)=some (.nrm,ib t a1 a2 r):=by
  rw [MA,if_neg (by decide)]
  show (qM Ω0 (.f 83 [.e (aG a2) 0])).bind _=_
  rw [MB,Option.bind_some]
  exact hr
 have hX:=iJ a2
 rw [hX] at hU
 have hA:run G Ω0 E0 (.rg [] [gp 3 (.bx (.t 0)),gp 4 (.bx (.t 1)),gp 5 (.bx (.t 2)),gp 6 (.al [(.l 4 []),(.l 4 [])])] [3,4,5,6] [3,4,5,6]) ⟨iq 0 [k4 a0,.l t (a1.map ah),.a [(I a2.Kind),(I a2.N),(.l 53 (a2.Args.map aG))]],[],H0⟩=
   some (.nrm,⟨[(3,.p ⟨0,3⟩ 0),(4,.p ⟨0,4⟩ 0),(5,.p ⟨0,5⟩ 0),(6,.p ⟨0,6⟩ 0)],[(3,(k4 a0).cl),(4,[.l t (a1.map ah)]),(5,[(I a2.Kind),(I a2.N),(.l 53 (a2.Args.map aG))]),(6,[.l 4 [],.l 4 []])],H0⟩):=by
  rw [ym]
  rfl
 have hB':run G Ω0 E0 (.rg [] [gp 9 (.fa 0 (.t 3)),gp 10 (.ld (some 2) (.t 9)),gp 11 (.ca 0 34 [(.t 10)]),gp 7 (.al [(.l 4 []),(.l 4 [])]),⟨none,.st 2 (.t 7) (.t 11),none,false⟩] [4,5,6,7] [4,5,6,7]) ⟨[(3,.p ⟨0,3⟩ 0),(4,.p ⟨0,4⟩ 0),(5,.p ⟨0,5⟩ 0),(6,.p ⟨0,6⟩ 0)],[(3,(k4 a0).cl),(4,[.l t (a1.map ah)]),(5,[(I a2.Kind),(I a2.N),(.l 53 (a2.Args.map aG))]),(6,[.l 4 [],.l 4 []])],H0⟩=
   some (.nrm,⟨[(4,.p ⟨0,4⟩ 0),(5,.p ⟨0,5⟩ 0),(6,.p ⟨0,6⟩ 0),(7,.p ⟨0,7⟩ 0)],[(4,[.l t (a1.map ah)]),(5,[(I a2.Kind),(I a2.N),(.l 53 (a2.Args.map aG))]),(6,[.l 4 [],.l 4 []]),(7,aB b)],H0⟩):=by
  simp [gp,execOp,hB,k4,pick,aB,fx]
 have hC:run G Ω0 E0 (.rg [] [gp 12 (.ld (some 3) (.t 5)),gp 13 (.ca 0 69 [(.t 12)])] [4,6,7,13] [4,6,7]) ⟨[(4,.p ⟨0,4⟩ 0),(5,.p ⟨0,5⟩ 0),(6,.p ⟨0,6⟩ 0),(7,.p ⟨0,7⟩ 0)],[(4,[.l t (a1.map ah)]),(5,[(I a2.Kind),(I a2.N),(.l 53 (a2.Args.map aG))]),(6,[.l 4 [],.l 4 []]),(7,aB b)],H0⟩=
   some (.nrm,ib t a1 a2 b):=by
  simp [gp,execOp,hU,pick,ib,hX]
 have hD:run G Ω0 E0 (.rg [] [gp 21 (.ld (some 2) (.t 7)),⟨none,.st 2 (.t 6) (.t 21),none,false⟩] [6] [6]) (ib t a1 a2 r)=some (.nrm,⟨[(6,.p ⟨0,6⟩ 0)],[(6,aB r)],H0⟩):=by
  simp [gp,execOp,pick,ib,aB]
 have hc:IY=⟨(.sq (.rg [] [gp 3 (.bx (.t 0)),gp 4 (.bx (.t 1)),gp 5 (.bx (.t 2)),gp 6 (.al [(.l 4 []),(.l 4 [])])] [3,4,5,6] [3,4,5,6]) (.sq (.rg [] [gp 9 (.fa 0 (.t 3)),gp 10 (.ld (some 2) (.t 9)),gp 11 (.ca 0 34 [(.t 10)]),gp 7 (.al [(.l 4 []),(.l 4 [])]),⟨none,.st 2 (.t 7) (.t 11),none,false⟩] [4,5,6,7] [4,5,6,7])
   (.sq (.sq (.rg [] [gp 12 (.ld (some 3) (.t 5)),gp 13 (.ca 0 69 [(.t 12)])] [4,6,7,13] [4,6,7]) (.bl 0 (.ru (.t 13) 14 tq tr))) (.sq (.rg [] [gp 21 (.ld (some 2) (.t 7)),⟨none,.st 2 (.t 6) (.t 21),none,false⟩] [6] [6]) .rt)))),[.c 6 (some 2)]⟩:=rfl
 show call G Ω0 E0 38 _ _=_
 rw [nS,TO,Option.bind_some,hc]
 simp only [px,hA,hB',hC,hD,oc,hru,Option.bind_some,pR,inBlock,jR]
 rfl
end Go.Proofs.Ytkkkkondjclcnaa.A
