/- infer.Level as a plain function: a range over the variables of an expression. -/
import Derived.Test.YtdpjofmmokaobaaGreatFE
set_option maxRecDepth 100000
set_option linter.unusedSectionVars false
set_option linter.unusedVariables false
set_option linter.unusedSimpArgs false
set_option linter.constructorNameAsVariable false
namespace Go.Proofs.YtdpjofmmokaobaaGreat.A
open Go
section
variable {G:mY}{Ω:cD}{E:Env}
theorem Ca{dp x:Nat}{y b:AC} : ∀ (ns:List Int)(st:St),Fin (rounds dp (run G Ω E) x y b ns st) fun n=>rounds dp (exec G Ω n E) x y b ns st
 | [],st=>Fin.same _
 | n::ns,st=>by
  unfold rounds
  refine Fin.ite (Fin.bind (kR _ _ _) fun q=>?_) (Fin.same _)
  split
  ·refine Fin.bind (kR _ _ _) fun r=>?_
   split
   ·exact Ca ns _
   ·exact Fin.same _
  ·exact Fin.same _
theorem FU(st:St)(g:a8)(x:Nat)(y b:AC):run G Ω E (.ru g x y b) st=if E.ro=true then none else (qp Ω (st.ev g)).bind fun ns=>rounds E.dp (run G Ω ⟨E.dp+1,false⟩) x y b ns st:=
 rT (fun _=>rfl) (fun n=>aJ.ite (aJ.refl _) (aJ.bind (aJ.refl _) fun ns=>vz (fun c st=>kl n _ c st) ns st))
  (Fin.ite (Fin.same _) (Fin.bind (Fin.same _) fun ns=>Ca ns st))
end
mutual
def pI:aC→List Int
 | ⟨k,n,args⟩=>if k=2 then n::pn args else pn args
def pn:List aC→List Int
 | []=>[]
 | x::r=>pI x++pn r
end
mutual
theorem HL:∀ x:aC,qu (aR x)=some (pI x)
 | ⟨k,n,args⟩=>by
  simp only [aR,qu,HM args,Option.map_some,pI]
theorem HM:∀ l:List aC,sO (qa l)=some (pn l)
 | []=>by simp only [qa,sO,pn]
 | x::r=>by simp only [qa,sO,HL x,HM r,Option.bind_some,Option.map_some,pn]
end
theorem FV(x:aC):qp Ω0 (.f 172 [.e (aR x) 0])=some (pI x):=by
 have h:Ω0 172 [.u,.e (aR x) 0]=some (.l 0 ((pI x).map (AV.i .i64))):=by
  show vW _=_
  simp only [vW,HL,Option.map_some]
 have hc:(AV.f 172 [.e (aR x) 0]).copy=true:=rfl
 unfold qp
 simp only [hc,if_true,h,Option.bind_some,Bt]
variable [Lp]
abbrev jG(l:Level):List AV:=[(.l 4 (l.Readers.map AV.b)),(.l 4 (l.Writers.map AV.b))]
noncomputable def wz(vars:List Level):List Int→Level→Option Level
 | [],v=>some v
 | n::ns,v=>(cQ n).bind fun j=>(vars[j]?).bind fun l=>(ju v l).bind fun o=>wz vars ns o
noncomputable def pJ(a0:Program)(a1:List Level)(a2:aC):Option Level:=(jh a0.af).bind fun b=>wz a1 (pI a2) b
def wA:AC:=(.rg [] [gp 8 (.as (.t 14))] [4,6,7,8] [4,6,7])
def wB:AC:=(.bl 1 (.dg [] [] [⟨gp 15 (.ld (some 2) (.t 7)),true,[7],[],true,[],[],[]⟩,⟨gp 16 (.ld none (.t 4)),true,[4],[],true,[],[],[]⟩,⟨gp 17 (.mv (.t 8)),true,[8],[],false,[],[],[]⟩,⟨gp 18 (.ia 2 none (.t 16) (.t 17)),true,[16,17],[],true,[],[],[]⟩,⟨gp 19 (.ld (some 2) (.t 18)),true,[18],[],true,[],[],[]⟩,⟨gp 20 (.ca 0 62 [(.t 15),(.t 19)]),false,[],[],false,[],[],[]⟩,⟨⟨none,.st 2 (.t 7) (.t 20),none,false⟩,false,[],[],false,[],[],[]⟩] [4,6,7] [4,6,7]))
set_option maxHeartbeats 2000000 in
theorem G7(hp:HP)(out:Level)(vars:List Level)(j:Nat)(lv o:Level)(h7:hp ⟨0,7⟩=some (jG out))(h4:hp ⟨0,4⟩=some [.l 54 (vars.map au)])(hv:vars[j]? =some lv)
  (hB:call G Ω0 ⟨0,false⟩ 62 [.a (jG out),.a (jG lv)] (fun _=>none)=some (.ret (.a (jG o)),fun _=>none)) :
  run G Ω0 ⟨1,false⟩ wB ⟨[(4,.p ⟨0,4⟩ 0),(6,.p ⟨0,6⟩ 0),(7,.p ⟨0,7⟩ 0),(8,.i .i64 j)],[],hp⟩=
   some (.nrm,⟨[(4,.p ⟨0,4⟩ 0),(6,.p ⟨0,6⟩ 0),(7,.p ⟨0,7⟩ 0)],[],ad hp ⟨0,7⟩ (jG o)⟩):=by
 simp [wB,gp,execOp,h7,h4,hv,au,hB,okB,ga,rA,jG,pick,DO,mZ,cg]
def jH(vars:List Level)(e:aC)(v:Level):St:=⟨[(4,.p ⟨0,4⟩ 0),(6,.p ⟨0,6⟩ 0),(7,.p ⟨0,7⟩ 0),(13,.f 172 [.e (aR e) 0])],[(4,[.l 54 (vars.map au)]),(6,[.l 4 [],.l 4 []]),(7,jG v)],H0⟩
theorem yV(vars:List Level)(e:aC):∀ (ns:List Int)(v o:Level),wz vars ns v=some o→rounds 0 (run G Ω0 ⟨1,false⟩) 14 wA wB ns (jH vars e v)=some (.nrm,jH vars e o)
 | [],v,o,h=>by obtain rfl:=Option.some.inj h;rfl
 | n::ns,v,o,h=>by
  obtain ⟨j,hj,h1⟩:=Option.bind_eq_some_iff.1 h
  obtain ⟨l,hl,h2⟩:=Option.bind_eq_some_iff.1 h1
  obtain ⟨o1,ho,h3⟩:=Option.bind_eq_some_iff.1 h2
  clear h h1 h2
  obtain rfl:=th hj
  have hB:=mx v l o1 ho
  have hy:run G Ω0 ⟨1,false⟩ wA ((jH vars e v).inner 0 14 j)=some (.nrm,⟨[(4,.p ⟨0,4⟩ 0),(6,.p ⟨0,6⟩ 0),(7,.p ⟨0,7⟩ 0),(8,.i .i64 j)],[],fun k=>(jH vars e v).box 0 k⟩):=by
   unfold wA
   rw [vV]
   rfl
  have hb:=G7 (fun k=>(jH vars e v).box 0 k) v vars j l o1 rfl rfl hl hB
  unfold rounds
  rw [if_pos (by rfl),hy]
  simp only [Option.bind_some]
  rw [hb]
  simp only [Option.bind_some]
  have hs:(jH vars e v).back 0 (ad (fun k=>(jH vars e v).box 0 k) ⟨0,7⟩ (jG o1))=jH vars e o1:=by
   unfold St.back
   have h1:(fun k:Key=>if k.dp<0 then ad (fun k=>(jH vars e v).box 0 k) ⟨0,7⟩ (jG o1) k else none)=H0:=by funext k;simp
   rw [h1]
   rfl
  rw [hs]
  exact yV vars e ns o1 o h3
theorem yW(e:aC):call G Ω0 ⟨0,false⟩ 170 [aR e] (fun _=>none)=some (.ret (.f 172 [.e (aR e) 0]),fun _=>none):=by
 rw [eN]
 exact E9 10 (by kernel_rfl)
abbrev Ew(a0:Program)(a1:List Level)(a2:aC)(r:Level):Prop:=call G Ω0 E0 165 [m5 a0,.l 54 (a1.map au),.a [(I a2.Kind),(I a2.N),(.l 86 (a2.Args.map aR))]] H0=some (.ret (.a (jG r)),H0)
theorem AY(a0:Program)(a1:List Level)(a2:aC)(r:Level)(h:pJ a0 a1 a2=some r):Ew a0 a1 a2 r:=by
 obtain ⟨b,hb,h⟩:=Option.bind_eq_some_iff.1 h
 have hB:=oE a0.af b hb
 have hr:=yV a1 a2 (pI a2) b r h
 have hU:=yW a2
 have hru:run G Ω0 E0 (.ru (.t 13) 14 wA wB) (jH a1 a2 b)=some (.nrm,jH a1 a2 r):=by
  rw [FU,if_neg (by decide)]
  show (qp Ω0 (.f 172 [.e (aR a2) 0])).bind _=_
  rw [FV,Option.bind_some]
  exact hr
 have hX:=eN a2
 rw [hX] at hU
 have hA:run G Ω0 E0 (.rg [] [gp 3 (.bx (.t 0)),gp 4 (.bx (.t 1)),gp 5 (.bx (.t 2)),gp 6 (.al [(.l 4 []),(.l 4 [])])] [3,4,5,6] [3,4,5,6]) ⟨jR 0 [m5 a0,.l 54 (a1.map au),.a [(I a2.Kind),(I a2.N),(.l 86 (a2.Args.map aR))]],[],H0⟩=
   some (.nrm,⟨[(3,.p ⟨0,3⟩ 0),(4,.p ⟨0,4⟩ 0),(5,.p ⟨0,5⟩ 0),(6,.p ⟨0,6⟩ 0)],[(3,(m5 a0).cl),(4,[.l 54 (a1.map au)]),(5,[(I a2.Kind),(I a2.N),(.l 86 (a2.Args.map aR))]),(6,[.l 4 [],.l 4 []])],H0⟩):=by
  rw [vV]
  rfl
 have hB':run G Ω0 E0 (.rg [] [gp 9 (.fa 0 (.t 3)),gp 10 (.ld (some 2) (.t 9)),gp 11 (.ca 0 21 [(.t 10)]),gp 7 (.al [(.l 4 []),(.l 4 [])]),⟨none,.st 2 (.t 7) (.t 11),none,false⟩] [4,5,6,7] [4,5,6,7]) ⟨[(3,.p ⟨0,3⟩ 0),(4,.p ⟨0,4⟩ 0),(5,.p ⟨0,5⟩ 0),(6,.p ⟨0,6⟩ 0)],[(3,(m5 a0).cl),(4,[.l 54 (a1.map au)]),(5,[(I a2.Kind),(I a2.N),(.l 86 (a2.Args.map aR))]),(6,[.l 4 [],.l 4 []])],H0⟩=
   some (.nrm,⟨[(4,.p ⟨0,4⟩ 0),(5,.p ⟨0,5⟩ 0),(6,.p ⟨0,6⟩ 0),(7,.p ⟨0,7⟩ 0)],[(4,[.l 54 (a1.map au)]),(5,[(I a2.Kind),(I a2.N),(.l 86 (a2.Args.map aR))]),(6,[.l 4 [],.l 4 []]),(7,jG b)],H0⟩):=by
  simp [gp,execOp,hB,m5,pick,jG,kN]
 have hC:run G Ω0 E0 (.rg [] [gp 12 (.ld (some 3) (.t 5)),gp 13 (.ca 0 170 [(.t 12)])] [4,6,7,13] [4,6,7]) ⟨[(4,.p ⟨0,4⟩ 0),(5,.p ⟨0,5⟩ 0),(6,.p ⟨0,6⟩ 0),(7,.p ⟨0,7⟩ 0)],[(4,[.l 54 (a1.map au)]),(5,[(I a2.Kind),(I a2.N),(.l 86 (a2.Args.map aR))]),(6,[.l 4 [],.l 4 []]),(7,jG b)],H0⟩=
   some (.nrm,jH a1 a2 b):=by
  simp [gp,execOp,hU,pick,jH,hX]
 have hD:run G Ω0 E0 (.rg [] [gp 21 (.ld (some 2) (.t 7)),⟨none,.st 2 (.t 6) (.t 21),none,false⟩] [6] [6]) (jH a1 a2 r)=some (.nrm,⟨[(6,.p ⟨0,6⟩ 0)],[(6,jG r)],H0⟩):=by
  simp [gp,execOp,pick,jH,jG]
 have hc:Iq=⟨(.sq (.rg [] [gp 3 (.bx (.t 0)),gp 4 (.bx (.t 1)),gp 5 (.bx (.t 2)),gp 6 (.al [(.l 4 []),(.l 4 [])])] [3,4,5,6] [3,4,5,6]) (.sq (.rg [] [gp 9 (.fa 0 (.t 3)),gp 10 (.ld (some 2) (.t 9)),gp 11 (.ca 0 21 [(.t 10)]),gp 7 (.al [(.l 4 []),(.l 4 [])]),⟨none,.st 2 (.t 7) (.t 11),none,false⟩] [4,5,6,7] [4,5,6,7])
   (.sq (.sq (.rg [] [gp 12 (.ld (some 3) (.t 5)),gp 13 (.ca 0 170 [(.t 12)])] [4,6,7,13] [4,6,7]) (.bl 0 (.ru (.t 13) 14 wA wB))) (.sq (.rg [] [gp 21 (.ld (some 2) (.t 7)),⟨none,.st 2 (.t 6) (.t 21),none,false⟩] [6] [6]) .rt)))),[.c 6 (some 2)]⟩:=rfl
 show call G Ω0 E0 165 _ _=_
 rw [qY,Z5,Option.bind_some,hc]
 simp only [m0,hA,hB',hC,hD,o7,hru,Option.bind_some,me,inBlock,qt]
 rfl
end Go.Proofs.YtdpjofmmokaobaaGreat.A
