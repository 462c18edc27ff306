/- infer.Level as a plain function: a range over the variables of an expression. -/
import Derived.Test.YtkkkkondjclcnaaGreatFE
set_option maxRecDepth 100000
set_option linter.unusedSectionVars false
set_option linter.unusedVariables false
set_option linter.unusedSimpArgs false
set_option linter.constructorNameAsVariable false
namespace Go.Proofs.YtkkkkondjclcnaaGreat.A
open Go
section
variable {G:oc}{Ω:cm}{E:Env}
theorem DC{dp x:Nat}{y b:AC} : ∀ (ns:List Int)(st:St),Fin (rounds dp (run G Ω E) x y b ns st) fun n=>rounds dp (exec G Ω n E) x y b ns st
 | [],st=>Fin.same _
 | n::ns,st=>by
  unfold rounds
  refine Fin.ite (Fin.bind (lZ _ _ _) fun q=>?_) (Fin.same _)
  split
  ·refine Fin.bind (lZ _ _ _) fun r=>?_
   split
   ·exact DC ns _
   ·exact Fin.same _
  ·exact Fin.same _
theorem HK(st:St)(g:aO)(x:Nat)(y b:AC):run G Ω E (.ru g x y b) st=if E.ro=true then none else (rM Ω (st.ev g)).bind fun ns=>rounds E.dp (run G Ω ⟨E.dp+1,false⟩) x y b ns st:=
 tF (fun _=>rfl) (fun n=>aM.ite (aM.refl _) (aM.bind (aM.refl _) fun ns=>xi (fun c st=>gP n _ c st) ns st))
  (Fin.ite (Fin.same _) (Fin.bind (Fin.same _) fun ns=>DC ns st))
end
mutual
def lW:ak→List Int
 | ⟨k,n,args⟩=>if k=2 then n::qG args else qG args
def qG:List ak→List Int
 | []=>[]
 | x::r=>lW x++qG r
end
mutual
theorem J6:∀ x:ak,rO (az x)=some (lW x)
 | ⟨k,n,args⟩=>by
  simp only [az,rO,J7 args,Option.map_some,lW]
theorem J7:∀ l:List ak,uH (rA l)=some (qG l)
 | []=>by simp only [rA,uH,qG]
 | x::r=>by simp only [rA,uH,J6 x,J7 r,Option.bind_some,Option.map_some,qG]
end
theorem HL(x:ak):rM Ω0 (.f 146 [.e (az x) 0])=some (lW x):=by
 have h:Ω0 146 [.u,.e (az x) 0]=some (.l 0 ((lW x).map (AV.i .i64))):=by
  show wG _=_
  simp only [wG,J6,Option.map_some]
 have hc:(AV.f 146 [.e (az x) 0]).copy=true:=rfl
 unfold rM
 simp only [hc,if_true,h,Option.bind_some,CT]
variable [Lp]
abbrev av(l:Level):List AV:=[(.l 4 (l.Readers.map AV.b)),(.l 4 (l.Writers.map AV.b))]
noncomputable def xY(vars:List Level):List Int→Level→Option Level
 | [],v=>some v
 | n::ns,v=>(dG n).bind fun j=>(vars[j]?).bind fun l=>(cE v l).bind fun o=>xY vars ns o
noncomputable def e7(a0:Program)(a1:List Level)(a2:ak):Option Level:=(fu a0.aa).bind fun b=>xY a1 (lW a2) b
def xZ:AC:=(.rg [] [gp 8 (.as (.t 14))] [4,6,7,8] [4,6,7])
def ya:AC:=(.bl 1 (.dg [] [] [⟨gp 15 (.ld (some 2) (.t 7)),true,[7],[],true,[],[],[]⟩,⟨gp 16 (.ld none (.t 4)),true,[4],[],true,[],[],[]⟩,⟨gp 17 (.mv (.t 8)),true,[8],[],false,[],[],[]⟩,⟨gp 18 (.ia 2 none (.t 16) (.t 17)),true,[16,17],[],true,[],[],[]⟩,⟨gp 19 (.ld (some 2) (.t 18)),true,[18],[],true,[],[],[]⟩,⟨gp 20 (.ca 0 98 [(.t 15),(.t 19)]),false,[],[],false,[],[],[]⟩,⟨⟨none,.st 2 (.t 7) (.t 20),none,false⟩,false,[],[],false,[],[],[]⟩] [4,6,7] [4,6,7]))
set_option maxHeartbeats 2000000 in
theorem Jm(t:Nat)(hp:HP)(out:Level)(vars:List Level)(j:Nat)(lv o:Level)(h7:hp ⟨0,7⟩=some (av out))(h4:hp ⟨0,4⟩=some [.l t (vars.map aE)])(hv:vars[j]? =some lv)
  (hB:call G Ω0 ⟨0,false⟩ 98 [.a (av out),.a (av lv)] (fun _=>none)=some (.ret (.a (av o)),fun _=>none)) :
  run G Ω0 ⟨1,false⟩ ya ⟨[(4,.p ⟨0,4⟩ 0),(6,.p ⟨0,6⟩ 0),(7,.p ⟨0,7⟩ 0),(8,.i .i64 j)],[],hp⟩=
   some (.nrm,⟨[(4,.p ⟨0,4⟩ 0),(6,.p ⟨0,6⟩ 0),(7,.p ⟨0,7⟩ 0)],[],ab hp ⟨0,7⟩ (av o)⟩):=by
 simp [ya,gp,execOp,h7,h4,hv,aE,hB,okB,cY,iS,av,pick,tE,jr,jc]
def kt(t:Nat)(vars:List Level)(e:ak)(v:Level):St:=⟨[(4,.p ⟨0,4⟩ 0),(6,.p ⟨0,6⟩ 0),(7,.p ⟨0,7⟩ 0),(13,.f 146 [.e (az e) 0])],[(4,[.l t (vars.map aE)]),(6,[.l 4 [],.l 4 []]),(7,av v)],H0⟩
theorem An(t:Nat)(vars:List Level)(e:ak):∀ (ns:List Int)(v o:Level),xY vars ns v=some o→rounds 0 (run G Ω0 ⟨1,false⟩) 14 xZ ya ns (kt t vars e v)=some (.nrm,kt t vars e o)
 | [],v,o,h=>by obtain rfl:=Option.some.inj h;rfl
 | n::ns,v,o,h=>by
  obtain ⟨j,hj,h1⟩:=Option.bind_eq_some_iff.1 h
  obtain ⟨l,hl,h2⟩:=Option.bind_eq_some_iff.1 h1
  obtain ⟨o1,ho,h3⟩:=Option.bind_eq_some_iff.1 h2
  clear h h1 h2
  obtain rfl:=jQ hj
  have hB:=fW v l o1 ho
  have hy:run G Ω0 ⟨1,false⟩ xZ ((kt t vars e v).inner 0 14 j)=some (.nrm,⟨[(4,.p ⟨0,4⟩ 0),(6,.p ⟨0,6⟩ 0),(7,.p ⟨0,7⟩ 0),(8,.i .i64 j)],[],fun k=>(kt t vars e v).box 0 k⟩):=by
   unfold xZ
   rw [tG]
   rfl
  have hb:=Jm t (fun k=>(kt t vars e v).box 0 k) v vars j l o1 rfl rfl hl hB
  unfold rounds
  rw [if_pos (by rfl),hy]
  simp only [Option.bind_some]
  rw [hb]
  simp only [Option.bind_some]
  have hs:(kt t vars e v).back 0 (ab (fun k=>(kt t vars e v).box 0 k) ⟨0,7⟩ (av o1))=kt t vars e o1:=by
   unfold St.back
   have h1:(fun k:Key=>if k.dp<0 then ab (fun k=>(kt t vars e v).box 0 k) ⟨0,7⟩ (av o1) k else none)=H0:=by funext k;simp
   rw [h1]
   rfl
  rw [hs]
  exact An t vars e ns o1 o h3
theorem Ao(e:ak):call G Ω0 ⟨0,false⟩ 113 [az e] (fun _=>none)=some (.ret (.f 146 [.e (az e) 0]),fun _=>none):=by
 rw [dt]
 exact Hf 10 (by kernel_rfl)
abbrev EF(t:Nat)(a0:Program)(a1:List Level)(a2:ak)(r:Level):Prop:=call G Ω0 E0 46 [om a0,.l t (a1.map aE),.a [(I a2.Kind),(I a2.N),(.l 37 (a2.Args.map az))]] H0=some (.ret (.a (av r)),H0)
theorem BF(t:Nat)(a0:Program)(a1:List Level)(a2:ak)(r:Level)(h:e7 a0 a1 a2=some r):EF t a0 a1 a2 r:=by
 obtain ⟨b,hb,h⟩:=Option.bind_eq_some_iff.1 h
 have hB:=lV a0.aa b hb
 have hr:=An t a1 a2 (lW a2) b r h
 have hU:=Ao a2
 have hru:run G Ω0 E0 (.ru (.t 13) 14 xZ ya) (kt t a1 a2 b)=some (.nrm,kt t a1 a2 r):=by
  rw [HK,if_neg (by decide)]
  show (rM Ω0 (.f 146 [.e (az a2) 0])).bind _=_
  rw [HL,Option.bind_some]
  exact hr
 have hX:=dt a2
 rw [hX] at hU
 have hA:run G Ω0 E0 (.rg [] [gp 3 (.bx (.t 0)),gp 4 (.bx (.t 1)),gp 5 (.bx (.t 2)),gp 6 (.al [(.l 4 []),(.l 4 [])])] [3,4,5,6] [3,4,5,6]) ⟨fO 0 [om a0,.l t (a1.map aE),.a [(I a2.Kind),(I a2.N),(.l 37 (a2.Args.map az))]],[],H0⟩=
   some (.nrm,⟨[(3,.p ⟨0,3⟩ 0),(4,.p ⟨0,4⟩ 0),(5,.p ⟨0,5⟩ 0),(6,.p ⟨0,6⟩ 0)],[(3,(om a0).cl),(4,[.l t (a1.map aE)]),(5,[(I a2.Kind),(I a2.N),(.l 37 (a2.Args.map az))]),(6,[.l 4 [],.l 4 []])],H0⟩):=by
  rw [tG]
  rfl
 have hB':run G Ω0 E0 (.rg [] [gp 9 (.fa 0 (.t 3)),gp 10 (.ld (some 2) (.t 9)),gp 11 (.ca 0 96 [(.t 10)]),gp 7 (.al [(.l 4 []),(.l 4 [])]),⟨none,.st 2 (.t 7) (.t 11),none,false⟩] [4,5,6,7] [4,5,6,7]) ⟨[(3,.p ⟨0,3⟩ 0),(4,.p ⟨0,4⟩ 0),(5,.p ⟨0,5⟩ 0),(6,.p ⟨0,6⟩ 0)],[(3,(om a0).cl),(4,[.l t (a1.map aE)]),(5,[(I a2.Kind),(I a2.N),(.l 37 (a2.Args.map az))]),(6,[.l 4 [],.l 4 []])],H0⟩=
   some (.nrm,⟨[(4,.p ⟨0,4⟩ 0),(5,.p ⟨0,5⟩ 0),(6,.p ⟨0,6⟩ 0),(7,.p ⟨0,7⟩ 0)],[(4,[.l t (a1.map aE)]),(5,[(I a2.Kind),(I a2.N),(.l 37 (a2.Args.map az))]),(6,[.l 4 [],.l 4 []]),(7,av b)],H0⟩):=by
  simp [gp,execOp,hB,om,pick,av,fM]
 have hC:run G Ω0 E0 (.rg [] [gp 12 (.ld (some 3) (.t 5)),gp 13 (.ca 0 113 [(.t 12)])] [4,6,7,13] [4,6,7]) ⟨[(4,.p ⟨0,4⟩ 0),(5,.p ⟨0,5⟩ 0),(6,.p ⟨0,6⟩ 0),(7,.p ⟨0,7⟩ 0)],[(4,[.l t (a1.map aE)]),(5,[(I a2.Kind),(I a2.N),(.l 37 (a2.Args.map az))]),(6,[.l 4 [],.l 4 []]),(7,av b)],H0⟩=
   some (.nrm,kt t a1 a2 b):=by
  simp [gp,execOp,hU,pick,kt,hX]
 have hD:run G Ω0 E0 (.rg [] [gp 21 (.ld (some 2) (.t 7)),⟨none,.st 2 (.t 6) (.t 21),none,false⟩] [6] [6]) (kt t a1 a2 r)=some (.nrm,⟨[(6,.p ⟨0,6⟩ 0)],[(6,av r)],H0⟩):=by
  simp [gp,execOp,pick,kt,av]
 have hc:Qv=⟨(.sq (.rg [] [gp 3 (.bx (.t 0)),gp 4 (.bx (.t 1)),gp 5 (.bx (.t 2)),gp 6 (.al [(.l 4 []),(.l 4 [])])] [3,4,5,6] [3,4,5,6]) (.sq (.rg [] [gp 9 (.fa 0 (.t 3)),gp 10 (.ld (some 2) (.t 9)),gp 11 (.ca 0 96 [(.t 10)]),gp 7 (.al [(.l 4 []),(.l 4 [])]),⟨none,.st 2 (.t 7) (.t 11),none,false⟩] [4,5,6,7] [4,5,6,7])
   (.sq (.sq (.rg [] [gp 12 (.ld (some 3) (.t 5)),gp 13 (.ca 0 113 [(.t 12)])] [4,6,7,13] [4,6,7]) (.bl 0 (.ru (.t 13) 14 xZ ya))) (.sq (.rg [] [gp 21 (.ld (some 2) (.t 7)),⟨none,.st 2 (.t 6) (.t 21),none,false⟩] [6] [6]) .rt)))),[.c 6 (some 2)]⟩:=rfl
 show call G Ω0 E0 46 _ _=_
 rw [np,G46,Option.bind_some,hc]
 simp only [k9,hA,hB',hC,hD,l8,hru,Option.bind_some,nu,inBlock,db]
 rfl
end Go.Proofs.YtkkkkondjclcnaaGreat.A
