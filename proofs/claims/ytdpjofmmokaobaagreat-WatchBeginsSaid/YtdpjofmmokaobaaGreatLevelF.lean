/- infer.Level as a plain function: a range over the variables of an expression. -/
import Derived.Test.YtdpjofmmokaobaaGreatFE
set_option maxRecDepth 100000
set_option linter.unusedSectionVars false
set_option linter.unusedVariables false
set_option linter.unusedSimpArgs false
set_option linter.constructorNameAsVariable false
namespace Go.Proofs.YtdpjofmmokaobaaGreat.A
open Go
section
variable {G:nu}{Ω:cK}{E:Env}
theorem CL{dp x:Nat}{y b:AC} : ∀ (ns:List Int)(st:St),Fin (rounds dp (run G Ω E) x y b ns st) fun n=>rounds dp (exec G Ω n E) x y b ns st
 | [],st=>Fin.same _
 | n::ns,st=>by
  unfold rounds
  refine Fin.ite (Fin.bind (lu _ _ _) fun q=>?_) (Fin.same _)
  split
  ·refine Fin.bind (lu _ _ _) fun r=>?_
   split
   ·exact CL ns _
   ·exact Fin.same _
  ·exact Fin.same _
theorem GC(st:St)(g:bj)(x:Nat)(y b:AC):run G Ω E (.ru g x y b) st=if E.ro=true then none else (qy Ω (st.ev g)).bind fun ns=>rounds E.dp (run G Ω ⟨E.dp+1,false⟩) x y b ns st:=
 sc (fun _=>rfl) (fun n=>aM.ite (aM.refl _) (aM.bind (aM.refl _) fun ns=>vW (fun c st=>kA n _ c st) ns st))
  (Fin.ite (Fin.same _) (Fin.bind (Fin.same _) fun ns=>CL ns st))
end
mutual
def pQ:aE→List Int
 | ⟨k,n,args⟩=>if k=2 then n::pE args else pE args
def pE:List aE→List Int
 | []=>[]
 | x::r=>pQ x++pE r
end
mutual
theorem Iw:∀ x:aE,qA (aT x)=some (pQ x)
 | ⟨k,n,args⟩=>by
  simp only [aT,qA,Ix args,Option.map_some,pQ]
theorem Ix:∀ l:List aE,s9 (qi l)=some (pE l)
 | []=>by simp only [qi,s9,pE]
 | x::r=>by simp only [qi,s9,Iw x,Ix r,Option.bind_some,Option.map_some,pE]
end
theorem GD(x:aE):qy Ω0 (.f 172 [.e (aT x) 0])=some (pQ x):=by
 have h:Ω0 172 [.u,.e (aT x) 0]=some (.l 0 ((pQ x).map (AV.i .i64))):=by
  show wC _=_
  simp only [wC,Iw,Option.map_some]
 have hc:(AV.f 172 [.e (aT x) 0]).copy=true:=rfl
 unfold qy
 simp only [hc,if_true,h,Option.bind_some,BY]
variable [Lp]
abbrev jS(l:Level):List AV:=[(.l 4 (l.Readers.map AV.b)),(.l 4 (l.Writers.map AV.b))]
noncomputable def wX(vars:List Level):List Int→Level→Option Level
 | [],v=>some v
 | n::ns,v=>(cX n).bind fun j=>(vars[j]?).bind fun l=>(jE v l).bind fun o=>wX vars ns o
noncomputable def pR(a0:Program)(a1:List Level)(a2:aE):Option Level:=(jw a0.ah).bind fun b=>wX a1 (pQ a2) b
def wY:AC:=(.rg [] [gp 8 (.as (.t 14))] [4,6,7,8] [4,6,7])
def wZ:AC:=(.bl 1 (.dg [] [] [⟨gp 15 (.ld (some 2) (.t 7)),true,[7],[],true,[],[],[]⟩,⟨gp 16 (.ld none (.t 4)),true,[4],[],true,[],[],[]⟩,⟨gp 17 (.mv (.t 8)),true,[8],[],false,[],[],[]⟩,⟨gp 18 (.ia 2 none (.t 16) (.t 17)),true,[16,17],[],true,[],[],[]⟩,⟨gp 19 (.ld (some 2) (.t 18)),true,[18],[],true,[],[],[]⟩,⟨gp 20 (.ca 0 62 [(.t 15),(.t 19)]),false,[],[],false,[],[],[]⟩,⟨⟨none,.st 2 (.t 7) (.t 20),none,false⟩,false,[],[],false,[],[],[]⟩] [4,6,7] [4,6,7]))
set_option maxHeartbeats 2000000 in
theorem HM(hp:HP)(out:Level)(vars:List Level)(j:Nat)(lv o:Level)(h7:hp ⟨0,7⟩=some (jS out))(h4:hp ⟨0,4⟩=some [.l 54 (vars.map av)])(hv:vars[j]? =some lv)
  (hB:call G Ω0 ⟨0,false⟩ 62 [.a (jS out),.a (jS lv)] (fun _=>none)=some (.ret (.a (jS o)),fun _=>none)) :
  run G Ω0 ⟨1,false⟩ wZ ⟨[(4,.p ⟨0,4⟩ 0),(6,.p ⟨0,6⟩ 0),(7,.p ⟨0,7⟩ 0),(8,.i .i64 j)],[],hp⟩=
   some (.nrm,⟨[(4,.p ⟨0,4⟩ 0),(6,.p ⟨0,6⟩ 0),(7,.p ⟨0,7⟩ 0)],[],ad hp ⟨0,7⟩ (jS o)⟩):=by
 simp [wZ,gp,execOp,h7,h4,hv,av,hB,okB,gn,rJ,jS,pick,Ey,nv,cu]
def jT(vars:List Level)(e:aE)(v:Level):St:=⟨[(4,.p ⟨0,4⟩ 0),(6,.p ⟨0,6⟩ 0),(7,.p ⟨0,7⟩ 0),(13,.f 172 [.e (aT e) 0])],[(4,[.l 54 (vars.map av)]),(6,[.l 4 [],.l 4 []]),(7,jS v)],H0⟩
theorem zx(vars:List Level)(e:aE):∀ (ns:List Int)(v o:Level),wX vars ns v=some o→rounds 0 (run G Ω0 ⟨1,false⟩) 14 wY wZ ns (jT vars e v)=some (.nrm,jT vars e o)
 | [],v,o,h=>by obtain rfl:=Option.some.inj h;rfl
 | n::ns,v,o,h=>by
  obtain ⟨j,hj,h1⟩:=Option.bind_eq_some_iff.1 h
  obtain ⟨l,hl,h2⟩:=Option.bind_eq_some_iff.1 h1
  obtain ⟨o1,ho,h3⟩:=Option.bind_eq_some_iff.1 h2
  clear h h1 h2
  obtain rfl:=tI hj
  have hB:=mV v l o1 ho
  have hy:run G Ω0 ⟨1,false⟩ wY ((jT vars e v).inner 0 14 j)=some (.nrm,⟨[(4,.p ⟨0,4⟩ 0),(6,.p ⟨0,6⟩ 0),(7,.p ⟨0,7⟩ 0),(8,.i .i64 j)],[],fun k=>(jT vars e v).box 0 k⟩):=by
   unfold wY
   rw [wB]
   rfl
  have hb:=HM (fun k=>(jT vars e v).box 0 k) v vars j l o1 rfl rfl hl hB
  unfold rounds
  rw [if_pos (by rfl),hy]
  simp only [Option.bind_some]
  rw [hb]
  simp only [Option.bind_some]
  have hs:(jT vars e v).back 0 (ad (fun k=>(jT vars e v).box 0 k) ⟨0,7⟩ (jS o1))=jT vars e o1:=by
   unfold St.back
   have h1:(fun k:Key=>if k.dp<0 then ad (fun k=>(jT vars e v).box 0 k) ⟨0,7⟩ (jS o1) k else none)=H0:=by funext k;simp
   rw [h1]
   rfl
  rw [hs]
  exact zx vars e ns o1 o h3
theorem zy(e:aE):call G Ω0 ⟨0,false⟩ 170 [aT e] (fun _=>none)=some (.ret (.f 172 [.e (aT e) 0]),fun _=>none):=by
 rw [eS]
 exact FQ 10 (by kernel_rfl)
abbrev Fh(a0:Program)(a1:List Level)(a2:aE)(r:Level):Prop:=call G Ω0 E0 165 [ny a0,.l 54 (a1.map av),.a [(I a2.Kind),(I a2.N),(.l 86 (a2.Args.map aT))]] H0=some (.ret (.a (jS r)),H0)
theorem Bx(a0:Program)(a1:List Level)(a2:aE)(r:Level)(h:pR a0 a1 a2=some r):Fh a0 a1 a2 r:=by
 obtain ⟨b,hb,h⟩:=Option.bind_eq_some_iff.1 h
 have hB:=oU a0.ah b hb
 have hr:=zx a1 a2 (pQ a2) b r h
 have hU:=zy a2
 have hru:run G Ω0 E0 (.ru (.t 13) 14 wY wZ) (jT a1 a2 b)=some (.nrm,jT a1 a2 r):=by
  rw [GC,if_neg (by decide)]
  show (qy Ω0 (.f 172 [.e (aT a2) 0])).bind _=_
  rw [GD,Option.bind_some]
  exact hr
 have hX:=eS a2
 rw [hX] at hU
 have hA:run G Ω0 E0 (.rg [] [gp 3 (.bx (.t 0)),gp 4 (.bx (.t 1)),gp 5 (.bx (.t 2)),gp 6 (.al [(.l 4 []),(.l 4 [])])] [3,4,5,6] [3,4,5,6]) ⟨kg 0 [ny a0,.l 54 (a1.map av),.a [(I a2.Kind),(I a2.N),(.l 86 (a2.Args.map aT))]],[],H0⟩=
   some (.nrm,⟨[(3,.p ⟨0,3⟩ 0),(4,.p ⟨0,4⟩ 0),(5,.p ⟨0,5⟩ 0),(6,.p ⟨0,6⟩ 0)],[(3,(ny a0).cl),(4,[.l 54 (a1.map av)]),(5,[(I a2.Kind),(I a2.N),(.l 86 (a2.Args.map aT))]),(6,[.l 4 [],.l 4 []])],H0⟩):=by
  rw [wB]
  rfl
 have hB':run G Ω0 E0 (.rg [] [gp 9 (.fa 0 (.t 3)),gp 10 (.ld (some 2) (.t 9)),gp 11 (.ca 0 21 [(.t 10)]),gp 7 (.al [(.l 4 []),(.l 4 [])]),⟨none,.st 2 (.t 7) (.t 11),none,false⟩] [4,5,6,7] [4,5,6,7]) ⟨[(3,.p ⟨0,3⟩ 0),(4,.p ⟨0,4⟩ 0),(5,.p ⟨0,5⟩ 0),(6,.p ⟨0,6⟩ 0)],[(3,(ny a0).cl),(4,[.l 54 (a1.map av)]),(5,[(I a2.Kind),(I a2.N),(.l 86 (a2.Args.map aT))]),(6,[.l 4 [],.l 4 []])],H0⟩=
   some (.nrm,⟨[(4,.p ⟨0,4⟩ 0),(5,.p ⟨0,5⟩ 0),(6,.p ⟨0,6⟩ 0),(7,.p ⟨0,7⟩ 0)],[(4,[.l 54 (a1.map av)]),(5,[(I a2.Kind),(I a2.N),(.l 86 (a2.Args.map aT))]),(6,[.l 4 [],.l 4 []]),(7,jS b)],H0⟩):=by
  simp [gp,execOp,hB,ny,pick,jS,lg]
 have hC:run G Ω0 E0 (.rg [] [gp 12 (.ld (some 3) (.t 5)),gp 13 (.ca 0 170 [(.t 12)])] [4,6,7,13] [4,6,7]) ⟨[(4,.p ⟨0,4⟩ 0),(5,.p ⟨0,5⟩ 0),(6,.p ⟨0,6⟩ 0),(7,.p ⟨0,7⟩ 0)],[(4,[.l 54 (a1.map av)]),(5,[(I a2.Kind),(I a2.N),(.l 86 (a2.Args.map aT))]),(6,[.l 4 [],.l 4 []]),(7,jS b)],H0⟩=
   some (.nrm,jT a1 a2 b):=by
  simp [gp,execOp,hU,pick,jT,hX]
 have hD:run G Ω0 E0 (.rg [] [gp 21 (.ld (some 2) (.t 7)),⟨none,.st 2 (.t 6) (.t 21),none,false⟩] [6] [6]) (jT a1 a2 r)=some (.nrm,⟨[(6,.p ⟨0,6⟩ 0)],[(6,jS r)],H0⟩):=by
  simp [gp,execOp,pick,jT,jS]
 have hc:I6=⟨(.sq (.rg [] [gp 3 (.bx (.t 0)),gp 4 (.bx (.t 1)),gp 5 (.bx (.t 2)),gp 6 (.al [(.l 4 []),(.l 4 [])])] [3,4,5,6] [3,4,5,6]) (.sq (.rg [] [gp 9 (.fa 0 (.t 3)),gp 10 (.ld (some 2) (.t 9)),gp 11 (.ca 0 21 [(.t 10)]),gp 7 (.al [(.l 4 []),(.l 4 [])]),⟨none,.st 2 (.t 7) (.t 11),none,false⟩] [4,5,6,7] [4,5,6,7])
   (.sq (.sq (.rg [] [gp 12 (.ld (some 3) (.t 5)),gp 13 (.ca 0 170 [(.t 12)])] [4,6,7,13] [4,6,7]) (.bl 0 (.ru (.t 13) 14 wY wZ))) (.sq (.rg [] [gp 21 (.ld (some 2) (.t 7)),⟨none,.st 2 (.t 6) (.t 21),none,false⟩] [6] [6]) .rt)))),[.c 6 (some 2)]⟩:=rfl
 show call G Ω0 E0 165 _ _=_
 rw [rf,Z1,Option.bind_some,hc]
 simp only [nx,hA,hB',hC,hD,pr,hru,Option.bind_some,mJ,inBlock,qz]
 rfl
end Go.Proofs.YtdpjofmmokaobaaGreat.A
