/- The reference's levels of expressions, and its list of all commands with their places, as plain functions. -/
import Derived.Test.YtkkkkondjclcnaaGreatRawF
import Derived.Test.YtkkkkondjclcnaaGreatFQ
set_option linter.all false
set_option maxRecDepth 100000
namespace Go.Proofs.YtkkkkondjclcnaaGreat.A
open Go
variable [Lp]
attribute [local simp] gp execOp okB ja er iG tX mg jt iZ St.end_ St.jZ Ip consume List.filter
noncomputable def yG(vars:List Level):List ax→Level→Option Level
 | [],v=>some v
 | x::r,v=>if x.Kind=2 then (eI x.N).bind fun j=>(vars[j]?).bind fun w=>(dj v w).bind fun q=>yG vars r q else yG vars r v
noncomputable def kA(p:Program)(vars:List Level)(e:ax):Option Level:=
 (fE p.ah).bind fun b=>(ur e).bind fun l=>if l.length≤1000000 then yG vars l b else none
def yH(t:TypeId)(vars:List Level)(l:List ax)(v:Level)(k:Nat):St:=⟨[(1,.l t (vars.map aq)),(6,.p ⟨0,6⟩ 0),(7,.p ⟨0,7⟩ 0),(8,.l 37 (l.map aL)),(9,I k)],[(6,aJ ⟨[],[]⟩),(7,aJ v)],H0⟩
set_option maxHeartbeats 8000000 in
theorem DX(t:TypeId)(vars:List Level)(l:List ax)(hl:l.length≤1000000):∀ (rest:List ax)(k:Nat)(v r:Level),l.drop k=rest→yG vars rest v=some r→
  ∃ z,fL G Ω0 E0 UK (yH t vars l v k)=some (.ex 0,z)∧run G Ω0 E0 (.rg [] [gp 37 (.ld (some 2) (.t 7)),⟨none,.st 2 (.t 6) (.t 37),none,false⟩] [6] [6]) z=some (.nrm,⟨[(6,.p ⟨0,6⟩ 0)],[(6,aJ r)],H0⟩)
 | [],k,v,r,hd,h=>by
  obtain rfl:=ad h
  have hk:¬((k:Int)<(l.length:Int)):=by
   have:=eo.1 hd;omega
  apply Exists.intro
  apply And.intro
  ·refine cT (r:=(.ex 0,?_)) ?_ (by simp)
   rotate_left
   ·show run G Ω0 _ Ek (yH t vars l v k)=_
    apply ig
    apply aj (by simp [yH,hk];rfl)
    apply bQ (by simp [hk])
    exact du _ _ _
  ·simp
 | x::rest,k,v,r,hd,h=>by
  have hlt:k<l.length:=by
   have h1:=ak List.length hd
   simp only [hZ,bD] at h1
   omega
  have hg:l[k]? =some x:=by
   have:=ak (fun l=>l[0]?) hd
   simpa using this
  have hd2:l.drop (k+1)=rest:=by
   have:=ak List.tail hd
   simpa using this
  have hk:((k:Int)<(l.length:Int)):=by omega
  have hwr:=fq k (by omega)
  rw [yG] at h
  by_cases h2:x.Kind=2
  ·rw [aa h2] at h
   obtain ⟨j,hj,h⟩:=af.1 h
   obtain ⟨w,hw,h⟩:=af.1 h
   obtain ⟨q,hq,h⟩:=af.1 h
   have hj:=mj hj
   have hJ:=bM (E:=E0) (iU v w q hq) (by simp) (by simp)
   obtain ⟨z,a1,a2⟩:=DX t vars l hl rest (k+1) q r hd2 h
   refine ⟨z,?_,a2⟩
   have hr:run G Ω0 E0 Ek (yH t vars l v k)=some (.nrm,yH t vars l q (k+1)):=by
    apply aj
    ·apply aj (by simp [yH,hk];rfl)
     apply cL (by simp [hk])
     exact bB _ _
    apply dz
    apply aj
    ·apply eE
     apply aj (by simp [hg,dm];rfl)
     apply cL (by simp [h2])
     apply dO 9
     ·rfl
     ·simp
     ·simp [hg,dm,hj,hw,aq]
      rfl
     ·simp [-aS,hJ]
      rfl
     ·simp
      rfl
    simp [yH,hwr]
   rw [cP (st1:=yH t vars l q (k+1))]
   ·exact a1
   ·show (run G Ω0 _ Ek (yH t vars l v k)).bind _=_
    rw [hr];rfl
  ·rw [ab h2] at h
   obtain ⟨z,a1,a2⟩:=DX t vars l hl rest (k+1) v r hd2 h
   refine ⟨z,?_,a2⟩
   have hr:run G Ω0 E0 Ek (yH t vars l v k)=some (.nrm,yH t vars l v (k+1)):=by
    apply aj
    ·apply aj (by simp [yH,hk];rfl)
     apply cL (by simp [hk])
     exact bB _ _
    apply dz
    apply aj
    ·apply eE
     apply aj (by simp [hg,dm];rfl)
     apply bQ (by simp [h2])
     exact bB _ _
    simp [yH,hwr]
   rw [cP (st1:=yH t vars l v (k+1))]
   ·exact a1
   ·show (run G Ω0 _ Ek (yH t vars l v k)).bind _=_
    rw [hr];rfl
set_option maxHeartbeats 8000000 in
theorem sh(t:TypeId)(p:Program)(vars:List Level)(e:ax)(r:Level)(h:kA p vars e=some r) :
  call G Ω0 E0 15 [.a (ar p),.l t (vars.map aq),.a (ny e)] H0=some (.ret (.a (aJ r)),H0):=by
 obtain ⟨b,hb,h⟩:=af.1 h
 obtain ⟨l,hl,h⟩:=af.1 h
 split at h
 ·rename_i hlen
  have hB:=bM (E:=E0) (mS p.ah b hb) (by simp) (by simp)
  have hP:=bM (E:=E0) (zU e l hl) (by simp) (by simp)
  obtain ⟨z,a1,a2⟩:=DX t vars l hlen l 0 b r rfl h
  apply eK G15
  ·apply aj (by simp;rfl)
   apply aj (by simp [-aS,hB];rfl)
   apply aj (by simp [-aS,hP];rfl)
   apply aj
   ·apply aj (by simp;rfl)
    apply lN
    rw [dF]
    exact a1
   apply aj a2
   exact ef _ _
  ·simp [UL]
  ·rfl
 ·cases h
abbrev KJ(a0:Program)(a1:List Level)(a2:ax)(r:Level):Prop:=call G Ω0 E0 15 [.a (ar a0),.l 45 (a1.map aq),.a (ny a2)] H0=some (.ret (.a (aJ r)),H0)
theorem Ge(a0:Program)(a1:List Level)(a2:ax)(r:Level)(h:kA a0 a1 a2=some r):KJ a0 a1 a2 r:=sh _ a0 a1 a2 r h
noncomputable def atR(p:Program)(V:List Level)(pl:Level)(e:ax):Option Level:=(kA p V e).bind fun x=>dj pl x
mutual
noncomputable def MJ(p:Program)(V:List Level):Stmt→Level→List aZ→Option (List aZ)
 | ⟨k,v,o,e,args,th,el⟩,pl,out=>if out.length≤1000000∧th.length≤1000∧el.length≤1000 then
   if 7≤k then (atR p V pl e).bind fun q=>(tu p V th q (out++[⟨⟨k,v,o,e,args,th,el⟩,out.length,pl⟩])).bind fun out2=>tu p V el q out2
   else some (out++[⟨⟨k,v,o,e,args,th,el⟩,out.length,pl⟩]) else none
noncomputable def tu(p:Program)(V:List Level):List Stmt→Level→List aZ→Option (List aZ)
 | [],_,out=>some out
 | x::r,pl,out=>(MJ p V x pl out).bind fun o=>tu p V r pl o
end
theorem OL(p:Program)(V:List Level)(s:Stmt)(pl:Level)(out:List aZ):MJ p V s pl out=if out.length≤1000000∧s.Then.length≤1000∧s.Else.length≤1000 then
   if 7≤s.Kind then (atR p V pl s.Expr).bind fun q=>(tu p V s.Then q (out++[⟨s,out.length,pl⟩])).bind fun out2=>tu p V s.Else q out2
   else some (out++[⟨s,out.length,pl⟩]) else none:=by cases s;rw [MJ]
section
variable (p:Program)(V F:List Level)(t1 t2:TypeId)
abbrev Ck:List AV:=[.l t1 (V.map aq),.l t2 (F.map aq)]
def DY(dp:Nat)(L:List Stmt)(pl:Level)(out:List aZ)(k:Nat):St:=
 ⟨[(2,.l 92 (L.map aV)),(4,.o 113 (out.map cg)),(5,.p ⟨dp,5⟩ 0),(6,.p ⟨dp,6⟩ 0),(8,.p ⟨dp,8⟩ 0),(11,I k)],[(5,ar p),(6,Ck V F t1 t2),(8,aJ pl)],fun _=>none⟩
def Lm(L:List Stmt):Prop:=∀ ⦃dp:Nat⦄ ⦃pl:Level⦄ ⦃out out':List aZ⦄,L.length≤1000→tu p V L pl out=some out'→
 call G Ω0 ⟨dp,false⟩ 117 [.a (ar p),.a (Ck V F t1 t2),.l 92 (L.map aV),.a (aJ pl),.o 113 (out.map cg)] (fun _=>none)=some (.row 113 (out'.map cg),fun _=>none)
def P6(st:Stmt):Prop:=∀ ⦃dp:Nat⦄ ⦃pl:Level⦄ ⦃out out':List aZ⦄ ⦃L:List Stmt⦄ ⦃k:Nat⦄,L.length≤1000→L[k]? =some st→MJ p V st pl out=some out'→
 run G Ω0 ⟨dp,false⟩ GJ (DY p V F t1 t2 dp L pl out k)=some (.nrm,DY p V F t1 t2 dp L pl out' (k+1))
variable {p V F t1 t2}
set_option maxHeartbeats 8000000 in
theorem MK{L:List Stmt}(h:∀ st∈L,P6 p V F t1 t2 st):Lm p V F t1 t2 L:=by
 intro dp pl out out' hL hs
 have key:∀ (rest:List Stmt)(k:Nat)(out:List aZ),L.drop k=rest→tu p V rest pl out=some out'→
   ∃ z,fL G Ω0 ⟨dp,false⟩ QK (DY p V F t1 t2 dp L pl out k)=some (.ex 0,z)∧run G Ω0 ⟨dp,false⟩ (.rg [] [gp 57 (.mv (.t 4)),gp 10 (.as (.t 57))] [4,10] []) z=some (.nrm,⟨[(4,.o 113 (out'.map cg)),(10,.r (.s 4))],[],fun _=>none⟩):=by
  intro rest
  induction rest with
  | nil=>
   intro k out hd hs
   have hk:¬((k:Int)<(L.length:Int)):=by
    have:=eo.1 hd;omega
   rw [tu] at hs
   obtain rfl:=ad hs
   apply Exists.intro
   apply And.intro
   ·refine cT (r:=(.ex 0,?_)) ?_ (by simp)
    rotate_left
    ·show run G Ω0 _ GJ (DY p V F t1 t2 dp L pl out k)=_
     apply ig
     apply aj (by simp [DY,hk];rfl)
     apply bQ (by simp [hk])
     exact du _ _ _
   ·simp
  | cons st rest ih=>
   intro k out hd hs
   rw [tu] at hs
   obtain ⟨o1,h1,h2⟩:=af.1 hs
   have hlt:k<L.length:=by
    have h1:=ak List.length hd
    simp only [hZ,bD] at h1
    omega
   have hg:L[k]? =some st:=by
    have:=ak (fun l=>l[0]?) hd
    simpa using this
   have hd2:L.drop (k+1)=rest:=by
    have:=ak List.tail hd
    simpa using this
   have r1:=h st (by rw [←vA k L,hd];simp) (dp:=dp) (k:=k) hL hg h1
   obtain ⟨z,q1,q2⟩:=ih (k+1) o1 hd2 h2
   refine ⟨z,?_,q2⟩
   rw [cP (st1:=DY p V F t1 t2 dp L pl o1 (k+1))]
   ·exact q1
   ·show (run G Ω0 _ GJ (DY p V F t1 t2 dp L pl out k)).bind _=_
    rw [r1];rfl
 obtain ⟨z,q1,q2⟩:=key L 0 out rfl hs
 apply eK aiK
 ·apply aj (by simp;rfl)
  apply aj
  ·apply aj (by simp;rfl)
   apply lN
   rw [dF]
   exact q1
  apply aj q2
  exact ef _ _
 ·simp [Ph,St.rowOf,St.result,St.qj,St.xK]
 ·rfl
set_option maxHeartbeats 16000000 in
theorem R6{st:Stmt}(hT:Lm p V F t1 t2 st.Then)(hE:Lm p V F t1 t2 st.Else):P6 p V F t1 t2 st:=by
 intro dp pl out out' L k hL hg hs
 rw [OL] at hs
 have hlt:k<L.length:=(db.1 hg).1
 have hk:((k:Int)<(L.length:Int)):=by omega
 have hwr:=fq k (by omega)
 split at hs
 ·rename_i hc
  obtain ⟨c1,c2,c3⟩:=hc
  have hm:out.length+1≤maxLen:=bU (show out.length+1≤1000001 by omega) (by decide)
  have hm2:(out.length+1)*192≤140737488355328:=by omega
  by_cases h7:7≤st.Kind
  ·rw [aa h7] at hs
   obtain ⟨q,hq,hs⟩:=af.1 hs
   obtain ⟨o2,h2,h3⟩:=af.1 hs
   obtain ⟨x,hx,hj⟩:=af.1 hq
   have hX:=bM (E:=⟨dp,false⟩) (sh t1 p V st.Expr x hx) (by simp [AV.bk,AV.pure]) (by simp)
   have hJ:=bM (E:=⟨dp,false⟩) (iU pl x q hj) (by simp) (by simp)
   have e1:=hT (dp:=dp+1) c2 h2
   have e2:=hE (dp:=dp+1) c3 h3
   simp [cg] at e1 e2
   apply aj
   ·apply aj (by simp [DY,hk];rfl)
    apply cL (by simp [hk])
    exact bB _ _
   apply dz
   apply aj
   ·apply eE
    apply aj (by simp [hg,ie];rfl)
    apply aj (by simp [hm,hm2];rfl)
    apply aj (by simp;rfl)
    apply cL (by simpa using h7)
    apply aj
    ·apply dO 6
     ·rfl
     ·simp
     ·simp
      rfl
     ·simp [-aS,hX,hJ]
      rfl
     ·simp
      rfl
    apply aj (by simp [e1,cg];rfl)
    simp [e2,cg]
    rfl
   simp [DY,hwr,cg]
  ·rw [ab h7] at hs
   obtain rfl:=ad hs
   apply aj
   ·apply aj (by simp [DY,hk];rfl)
    apply cL (by simp [hk])
    exact bB _ _
   apply dz
   apply aj
   ·apply eE
    apply aj (by simp [hg,ie];rfl)
    apply aj (by simp [hm,hm2];rfl)
    apply aj (by simp;rfl)
    apply bQ (by simpa using h7)
    exact bB _ _
   simp [DY,hwr,cg]
 ·cases hs
mutual
theorem WQ:∀ st:Stmt,P6 p V F t1 t2 st
 | ⟨_,_,_,_,_,th,el⟩=>R6 (MK (EG th)) (MK (EG el))
 termination_by structural st=>st
theorem EG:∀ l:List Stmt,∀ st∈l,P6 p V F t1 t2 st
 | [],_,h=>absurd h (by simp)
 | a::r,st,h=>by
  have h1:=WQ a
  have h2:=EG r
  exact (cQ.1 h).elim (fun e=>e▸h1) fun h=>h2 st h
 termination_by structural l=>l
end
theorem ab7(L:List Stmt):Lm p V F t1 t2 L:=MK (EG L)
noncomputable def qR(p:Program)(V F:List Level):List Func→Nat→List aZ→Option (List aZ)
 | [],_,out=>(fE p.ah).bind fun b=>if p.Main.length≤1000 then tu p V p.Main b out else none
 | f::r,i,out=>(fE p.ah).bind fun _=>(F[i]?).bind fun q=>if f.Body.length≤1000 then (tu p V f.Body q out).bind fun o=>qR p V F r (i+1) o else none
inductive P7:AV→List aZ→Prop where
 | n:P7 .n []
 | o (es:List aZ):P7 (.o 113 (es.map cg)) es
def rW(p:Program)(V F:List Level)(t1 t2:TypeId)(x:AV)(k:Nat):St:=⟨[(2,.p ⟨0,2⟩ 0),(3,.p ⟨0,3⟩ 0),(5,x),(6,I k)],[(2,ar p),(3,Ck V F t1 t2)],H0⟩
set_option maxHeartbeats 8000000 in
theorem ML(x:AV)(out o:List aZ)(hx:P7 x out)(k:Nat)(B:List Stmt)(q:Level)(hB:B.length≤1000)(h:tu p V B q out=some o) :
  run G Ω0 E0 Vl ⟨[(2,.p ⟨0,2⟩ 0),(3,.p ⟨0,3⟩ 0),(5,x),(6,I k),(7,.l 92 (B.map aV)),(8,.p ⟨0,8⟩ 0)],[(2,ar p),(3,Ck V F t1 t2),(8,aJ q)],H0⟩=some (.nrm,rW p V F t1 t2 (.o 113 (o.map cg)) k):=by
 have e1:=ab7 (p:=p) (V:=V) (F:=F) (t1:=t1) (t2:=t2) B (dp:=1) hB h
 simp [cg] at e1
 apply dz
 unfold Vk
 cases hx with
 | n=>
  simp at e1
  simp [e1,rW,cg]
 | o=>
  simp [e1,rW,cg]
set_option maxHeartbeats 8000000 in
theorem Ka(hf:p.Funcs.length≤1000)(out':List aZ):∀ (rest:List Func)(k:Nat)(x:AV)(out:List aZ),p.Funcs.drop k=rest→k≤p.Funcs.length→P7 x out→qR p V F rest k out=some out'→
  ∃ z,fL G Ω0 E0 Vm (rW p V F t1 t2 x k)=some (.ex 0,z)∧run G Ω0 E0 (.rg [] [gp 43 (.mv (.t 5)),gp 4 (.as (.t 43))] [4,5] []) z=some (.nrm,⟨[(4,.r (.s 5)),(5,.o 113 (out'.map cg))],[],H0⟩)
 | [],k,x,out,hd,hkl,hx,hs=>by
  have hk:k=p.Funcs.length:=by
   have:=eo.1 hd;omega
  subst hk
  have hwr:=fq p.Funcs.length (by omega)
  rw [qR] at hs
  obtain ⟨b,hb,hs⟩:=af.1 hs
  split at hs
  ·rename_i hm
   have hB:=bM (E:=E0) (mS p.ah b hb) (by simp) (by simp)
   have hC:=ML (t1:=t1) (t2:=t2) (F:=F) x out out' hx p.Funcs.length p.Main b hm hs
   have hr:run G Ω0 E0 El (rW p V F t1 t2 x p.Funcs.length)=some (.nrm,rW p V F t1 t2 (.o 113 (out'.map cg)) (p.Funcs.length+1)):=by
    cases hx<;>(
    apply aj
    ·apply aj (by simp [rW];rfl)
     apply cL (by simp)
     exact bB _ _
    apply dz
    apply aj
    ·apply eE
     apply aj
     ·apply dO 4
      ·rfl
      ·simp [rW]
      ·simp [rW]
       rfl
      ·simp [-aS,hB]
       rfl
      ·simp
       rfl
     apply aj
     ·apply aj (by simp;rfl)
      apply bQ (by simp)
      exact bB _ _
     refine Eq.trans (Lj ?_) hC
     rfl
    simp [rW,hwr])
   have hk2:¬(((p.Funcs.length:Int)+1)≤(p.Funcs.length:Int)):=by omega
   have he:∃ z,run G Ω0 E0 El (rW p V F t1 t2 (.o 113 (out'.map cg)) (p.Funcs.length+1))=some (.ex 0,z)∧run G Ω0 E0 (.rg [] [gp 43 (.mv (.t 5)),gp 4 (.as (.t 43))] [4,5] []) z=some (.nrm,⟨[(4,.r (.s 5)),(5,.o 113 (out'.map cg))],[],H0⟩):=by
    apply Exists.intro
    apply And.intro
    ·apply ig
     apply aj (by simp [rW];rfl)
     apply bQ (by simp;omega)
     exact du _ _ _
    ·simp
   obtain ⟨z,h1,h2⟩:=he
   refine ⟨z,?_,h2⟩
   rw [cP (st1:=rW p V F t1 t2 (.o 113 (out'.map cg)) (p.Funcs.length+1))]
   ·exact cT h1 (by simp)
   ·show (run G Ω0 _ El (rW p V F t1 t2 x p.Funcs.length)).bind _=_
    rw [hr];rfl
  ·cases hs
 | f::rest,k,x,out,hd,hkl,hx,hs=>by
  have hlt:k<p.Funcs.length:=by
   have h1:=ak List.length hd
   simp only [hZ,bD] at h1
   omega
  have hg:p.Funcs[k]? =some f:=by
   have:=ak (fun l=>l[0]?) hd
   simpa using this
  have hd2:p.Funcs.drop (k+1)=rest:=by
   have:=ak List.tail hd
   simpa using this
  have hk1:((k:Int)≤(p.Funcs.length:Int)):=by omega
  have hk2:((k:Int)<(p.Funcs.length:Int)):=by omega
  have hwr:=fq k (by omega)
  rw [qR] at hs
  obtain ⟨b,hb,hs⟩:=af.1 hs
  obtain ⟨q,hq,hs⟩:=af.1 hs
  split at hs
  ·rename_i hm
   obtain ⟨o,ho,hs⟩:=af.1 hs
   have hB:=bM (E:=E0) (mS p.ah b hb) (by simp) (by simp)
   have hC:=ML (t1:=t1) (t2:=t2) (F:=F) x out o hx k f.Body q hm ho
   obtain ⟨z,a1,a2⟩:=Ka hf out' rest (k+1) _ o hd2 (by omega) (.o o) hs
   refine ⟨z,?_,a2⟩
   have hr:run G Ω0 E0 El (rW p V F t1 t2 x k)=some (.nrm,rW p V F t1 t2 (.o 113 (o.map cg)) (k+1)):=by
    cases hx<;>(
    apply aj
    ·apply aj (by simp [rW,hk1];rfl)
     apply cL (by simp [hk1])
     exact bB _ _
    apply dz
    apply aj
    ·apply eE
     apply aj
     ·apply dO 4
      ·rfl
      ·simp [rW]
      ·simp [rW]
       rfl
      ·simp [-aS,hB]
       rfl
      ·simp
       rfl
     apply aj
     ·apply aj (by simp;rfl)
      apply cL (by simp [hlt])
      apply dO 11
      ·rfl
      ·simp
      ·simp [hg,hq,ct,aq]
       rfl
      ·simp
       rfl
      ·simp
       rfl
     refine Eq.trans (Lj ?_) hC
     rfl
    simp [rW,hwr])
   rw [cP (st1:=rW p V F t1 t2 (.o 113 (o.map cg)) (k+1))]
   ·exact a1
   ·show (run G Ω0 _ El (rW p V F t1 t2 x k)).bind _=_
    rw [hr];rfl
  ·cases hs
end
noncomputable def jW(p:Program)(m:aM):Option (List aZ):=if p.Funcs.length≤1000 then qR p m.Vars m.Funcs p.Funcs 0 [] else none
set_option maxHeartbeats 8000000 in
theorem yI(p:Program)(V F:List Level)(t1 t2:TypeId)(r:List aZ)(h:jW p ⟨V,F⟩=some r) :
  call G Ω0 E0 57 [.a (ar p),.a (Ck V F t1 t2)] H0=some (.ret (.l 113 (r.map cg)),H0):=by
 unfold jW at h
 split at h
 ·rename_i hf
  obtain ⟨z,a1,a2⟩:=Ka (t1:=t1) (t2:=t2) hf r p.Funcs 0 .n [] rfl (b9 _) .n h
  apply eK G57
  ·apply aj (by simp;rfl)
   apply aj (by simp;rfl)
   apply aj
   ·apply aj (by simp;rfl)
    apply lN
    rw [dF]
    exact a1
   apply aj a2
   exact ef _ _
  ·simp [Vn,cg]
  ·rfl
 ·cases h
abbrev MN(a0:Program)(a1:aM)(r:List aZ):Prop:=call G Ω0 E0 57 [.a (ar a0),.a (Ck a1.Vars a1.Funcs 45 45)] H0=some (.ret (.l 113 (r.map cg)),H0)
theorem HR(a0:Program)(a1:aM)(r:List aZ)(h:jW a0 a1=some r):MN a0 a1 r:=yI _ _ _ _ _ r h
variable [Lp]
attribute [local simp] gp execOp okB ja er iG tX mg jt iZ St.end_ St.jZ consume List.filter
abbrev P8(p:Program)(V F:List Level)(t1 t2:TypeId)(x:aZ):List AV:=[.e (.a (xF x)) 0,.e (.a (ar p)) 0,.e (.a (Ck V F t1 t2)) 0]
section
variable (p:Program)(V F:List Level)(t1 t2:TypeId)
set_option maxHeartbeats 8000000 in
theorem yJ(x:aZ)(e:ax)(r:Level)(h:atR p V x.Place e=some r) :
  call G Ω0 E0 118 (.a (ny e)::P8 p V F t1 t2 x) H0=some (.ret (.a (aJ r)),H0):=by
 obtain ⟨l,hl,hj⟩:=af.1 h
 have hX:=bM (E:=E0) (sh t1 p V e l hl) (by simp) (by simp)
 have hJ:=bM (E:=E0) (iU x.Place l r hj) (by simp) (by simp)
 apply eK aiL
 ·apply aj (by simp;rfl)
  apply aj
  ·apply dO 6
   ·rfl
   ·simp
   ·simp
    rfl
   ·simp [-aS,hX,hJ]
    rfl
   ·simp
    rfl
  exact ef _ _
 ·simp [Pj]
 ·rfl
noncomputable def vi(pl:Level)(ps:List Int):List ax→Nat→List cD→Option (List cD)
 | [],_,out=>some out
 | e::r,k,out=>(atR p V pl e).bind fun l=>(ps[k]?).bind fun n=>vi pl ps r (k+1) (out++[⟨l,n⟩])
noncomputable def MO(s:Stmt)(pl:Level):Option (List cD):=
 if s.Kind=1 then (atR p V pl s.Expr).bind fun l=>some [⟨l,s.Var⟩]
 else if s.Kind=2 then (eI s.Other).bind fun j=>(p.Funcs[j]?).bind fun f=>if s.Args.length≤1000∧p.Funcs.length≤1000 then (vi p V pl f.Params s.Args 0 []).bind fun out=>(atR p V pl f.Result).bind fun l=>some (out++[⟨l,s.Var⟩,⟨pl,-1 - s.Other⟩]) else none
 else if s.Kind=3 then (eI s.Other).bind fun j=>(p.Ins[j]?).bind fun b=>(lr p.ah b).bind fun o=>(dj pl o).bind fun l=>some [⟨l,s.Var⟩]
 else if s.Kind=5 then (atR p V pl s.Expr).bind fun l=>some [⟨⟨pl.Readers,l.Writers⟩,s.Var⟩]
 else if s.Kind=6 then (atR p V pl s.Expr).bind fun l=>some [⟨⟨l.Readers,pl.Writers⟩,s.Var⟩]
 else some []
theorem Fi(pl:Level)(ps:List Int):∀ (rest:List ax)(k:Nat)(o r:List cD),vi p V pl ps rest k o=some r→r.length=o.length+rest.length
 | [],k,o,r,h=>by obtain rfl:=ad h;rfl
 | e::rest,k,o,r,h=>by
  obtain ⟨l,_,h⟩:=af.1 h
  obtain ⟨n,_,h⟩:=af.1 h
  rw [Fi pl ps rest _ _ _ h];simp;omega
variable {p V F t1 t2}
def vj(x:aZ)(f:Func)(k:Nat)(out:List cD):St:=⟨[(5,.e (.a (xF x)) 0),(7,.p ⟨0,7⟩ 0),(8,.f 118 (P8 p V F t1 t2 x)),(9,.o 115 (out.map cG)),(10,.p ⟨0,10⟩ 0),(11,I k)],[(7,bC x.S),(10,dB f)],H0⟩
set_option maxHeartbeats 8000000 in
theorem MP(x:aZ)(f:Func)(hs:x.S.Args.length≤1000):∀ (rest:List ax)(k:Nat)(out res:List cD),x.S.Args.drop k=rest→out.length=k→vi p V x.Place f.Params rest k out=some res→
   ∃ z,fL G Ω0 E0 Vp (vj (p:=p) (V:=V) (F:=F) (t1:=t1) (t2:=t2) x f k out)=some (.ex 1,z)∧z.aN [5,7,8,9,10] [3,4,5,7,10]=(vj (p:=p) (V:=V) (F:=F) (t1:=t1) (t2:=t2) x f k res).aN [5,7,8,9,10] [3,4,5,7,10]
 | [],k,out,res,hd,ho,h=>by
  obtain rfl:=ad h
  have hk:¬((k:Int)<(x.S.Args.length:Int)):=by
   have:=eo.1 hd;omega
  refine ⟨_,cT (r:=(.ex 1,?_)) ?_ (by simp),?_⟩
  rotate_left
  ·show run G Ω0 _ K6 (vj x f k out)=_
   apply ig
   apply aj (by simp [vj,hk];rfl)
   apply bQ (by simp [hk])
   exact du _ _ _
  ·simp [vj]
 | e::rest,k,out,res,hd,ho,h=>by
  obtain ⟨l,hl,h⟩:=af.1 h
  obtain ⟨n,hn,h⟩:=af.1 h
  have hlt:k<x.S.Args.length:=by
   have h1:=ak List.length hd
   simp only [hZ,bD] at h1
   omega
  have hg:x.S.Args[k]? =some e:=by
   have:=ak (fun l=>l[0]?) hd
   simpa using this
  have hd2:x.S.Args.drop (k+1)=rest:=by
   have:=ak List.tail hd
   simpa using this
  have hw:=fq k (by omega)
  have hk:((k:Int)<(x.S.Args.length:Int)):=by omega
  have hm:k+1≤maxLen:=bU (show k+1≤1001 by omega) (by decide)
  have hb:(k+1)*56≤140737488355328:=by omega
  have hW:=bM (E:=E0) (yJ p V F t1 t2 x e l hl) (by simp [AV.pure,AV.bk]) (by simp)
  have hr:run G Ω0 E0 K6 (vj (p:=p) (V:=V) (F:=F) (t1:=t1) (t2:=t2) x f k out)=some (.nrm,vj (p:=p) (V:=V) (F:=F) (t1:=t1) (t2:=t2) x f (k+1) (out++[⟨l,n⟩])):=by
   apply aj
   ·apply aj (by simp [vj,hk];rfl)
    apply cL (by simp [hlt])
    exact bB _ _
   apply dz
   apply aj
   ·apply eE
    apply dO 7
    ·rfl
    ·simp
    ·simp [hg,dm]
     rfl
    ·simp [-aS,hW,hn,ho,hm,hb]
     rfl
    ·simp
     rfl
   simp [hw,vj,cG]
  obtain ⟨z,hz,hz2⟩:=MP x f hs rest (k+1) _ res hd2 (by simp [ho]) h
  refine ⟨z,?_,?_⟩
  ·rw [cP (st1:=vj x f (k+1) (out++[⟨l,n⟩]))]
   ·exact hz
   ·show (run G Ω0 _ K6 (vj x f k out)).bind _=_
    rw [hr];rfl
  ·rw [hz2];rfl
abbrev zZ(p:Program)(V F:List Level)(t1 t2:TypeId)(x:aZ)(r:List cD):Prop:=call G Ω0 E0 58 [.a (ar p),.a (Ck V F t1 t2),.a (xF x)] H0=some (.ret (.l 115 (r.map cG)),H0)
set_option maxHeartbeats 8000000 in
theorem ag5(x:aZ)(h1:x.S.Kind=1)(l:Level)(hl:atR p V x.Place x.S.Expr=some l):zZ p V F t1 t2 x [⟨l,x.S.Var⟩]:=by
 have hW:=bM (E:=E0) (yJ p V F t1 t2 x x.S.Expr l hl) (by simp [AV.pure,AV.bk]) (by simp)
 apply eK N3
 ·apply aj (by simp;rfl)
  apply aj (by simp;rfl)
  apply aj (by simp;rfl)
  apply aj (by simp;rfl)
  apply aj
  ·apply aj (by simp;rfl)
   apply eE
   apply aj (by simp;rfl)
   apply cL (by simp [h1])
   apply dO 4
   ·rfl
   ·simp
   ·simp
    rfl
   ·simp [-aS,hW,cG]
    rfl
   ·simp
    rfl
  apply aj (by simp;rfl)
  exact ef _ _
 ·simp [GI,cG]
 ·rfl
set_option maxHeartbeats 8000000 in
theorem ag6(x:aZ)(h1:¬x.S.Kind=1)(h2:x.S.Kind=2)(j:Nat)(h5:x.S.Other=j)(f:Func)(h6:p.Funcs[j]? =some f)(hs:x.S.Args.length≤1000)(hf:p.Funcs.length≤1000)(out:List cD)(h7:vi p V x.Place f.Params x.S.Args 0 []=some out)(l:Level)(h8:atR p V x.Place f.Result=some l):zZ p V F t1 t2 x (out++[⟨l,x.S.Var⟩,⟨x.Place,-1 - x.S.Other⟩]):=by
 have hW:=bM (E:=E0) (yJ p V F t1 t2 x f.Result l h8) (by simp [AV.pure,AV.bk]) (by simp)
 have ho:out.length=x.S.Args.length:=by simpa using Fi _ _ _ _ _ _ _ _ h7
 have hm:out.length+2≤maxLen:=bU (show out.length+2≤1002 by omega) (by decide)
 have hb:(out.length+2)*56≤140737488355328:=by omega
 have hj:j<p.Funcs.length:=(db.1 h6).1
 have hw:IntKind.i64.wrap (-1 - (j:Int))= -1 - (j:Int):=wrap64 (by omega) (by omega)
 obtain ⟨z,hz,hz2⟩:=MP (F:=F) (t1:=t1) (t2:=t2) x f hs x.S.Args 0 [] out rfl rfl h7
 apply eK N3
 ·apply aj (by simp;rfl)
  apply aj (by simp;rfl)
  apply aj (by simp;rfl)
  apply aj (by simp;rfl)
  apply aj
  ·apply aj (by simp;rfl)
   apply eE
   apply aj (by simp;rfl)
   apply bQ (by simp [h1])
   apply aj (by simp;rfl)
   apply cL (by simp [h2])
   refine aj (st1:=⟨[(5,.e (.a (xF x)) 0),(7,.p ⟨0,7⟩ 0),(8,.f 118 (P8 p V F t1 t2 x)),(9,.o 115 []),(10,.p ⟨0,10⟩ 0)],[(7,bC x.S),(10,dB f)],H0⟩) (by simp [h5,h6,ct]) ?_
   apply aj
   ·apply aj (by simp;rfl)
    apply lN
    rw [dF]
    exact hz
   show run G Ω0 _ (.kp _ _ Vq) z=_
   rw [jE,hz2]
   apply dO 4
   ·rfl
   ·simp [vj]
   ·simp [vj]
    rfl
   ·simp [-aS,hW,h5,hw,hm,hb,cG]
    rfl
   ·simp
    rfl
  apply aj (by simp;rfl)
  exact ef _ _
 ·simp [GI,cG,h5]
 ·rfl
set_option maxHeartbeats 8000000 in
theorem ag7(x:aZ)(h1:¬x.S.Kind=1)(h2:¬x.S.Kind=2)(h3:x.S.Kind=3)(j:Nat)(hj:x.S.Other=j)(b:Label)(hb:p.Ins[j]? =some b)(o l:Level)(ho:lr p.ah b=some o)(hl:dj x.Place o=some l):zZ p V F t1 t2 x [⟨l,x.S.Var⟩]:=by
 have hA:=bM (E:=E0) (vg p.ah b o ho) (by simp) (by simp)
 have hB:=bM (E:=E0) (iU x.Place o l hl) (by simp) (by simp)
 apply eK N3
 ·apply aj (by simp;rfl)
  apply aj (by simp;rfl)
  apply aj (by simp;rfl)
  apply aj (by simp;rfl)
  apply aj
  ·apply aj (by simp;rfl)
   apply eE
   apply aj (by simp;rfl)
   apply bQ (by simp [h1])
   apply aj (by simp;rfl)
   apply bQ (by simp [h2])
   apply aj (by simp;rfl)
   apply cL (by simp [h3])
   apply dO 11
   ·rfl
   ·simp
   ·simp [hj,hb,az]
    rfl
   ·simp [-aS,hA,hB,cG]
    rfl
   ·simp
    rfl
  apply aj (by simp;rfl)
  exact ef _ _
 ·simp [GI,cG]
 ·rfl
set_option maxHeartbeats 8000000 in
theorem ag8(x:aZ)(h1:¬x.S.Kind=1)(h2:¬x.S.Kind=2)(h3:¬x.S.Kind=3)(h5:x.S.Kind=5)(l:Level)(hl:atR p V x.Place x.S.Expr=some l):zZ p V F t1 t2 x [⟨⟨x.Place.Readers,l.Writers⟩,x.S.Var⟩]:=by
 have hW:=bM (E:=E0) (yJ p V F t1 t2 x x.S.Expr l hl) (by simp [AV.pure,AV.bk]) (by simp)
 apply eK N3
 ·apply aj (by simp;rfl)
  apply aj (by simp;rfl)
  apply aj (by simp;rfl)
  apply aj (by simp;rfl)
  apply aj
  ·apply aj (by simp;rfl)
   apply eE
   apply aj (by simp;rfl)
   apply bQ (by simp [h1])
   apply aj (by simp;rfl)
   apply bQ (by simp [h2])
   apply aj (by simp;rfl)
   apply bQ (by simp [h3])
   apply aj (by simp;rfl)
   apply cL (by simp [h5])
   apply dO 7
   ·rfl
   ·simp
   ·simp
    rfl
   ·simp [-aS,hW,cG]
    rfl
   ·simp
    rfl
  apply aj (by simp;rfl)
  exact ef _ _
 ·simp [GI,cG]
 ·rfl
set_option maxHeartbeats 8000000 in
theorem ag9(x:aZ)(h1:¬x.S.Kind=1)(h2:¬x.S.Kind=2)(h3:¬x.S.Kind=3)(h5:¬x.S.Kind=5)(h6:x.S.Kind=6)(l:Level)(hl:atR p V x.Place x.S.Expr=some l):zZ p V F t1 t2 x [⟨⟨l.Readers,x.Place.Writers⟩,x.S.Var⟩]:=by
 have hW:=bM (E:=E0) (yJ p V F t1 t2 x x.S.Expr l hl) (by simp [AV.pure,AV.bk]) (by simp)
 apply eK N3
 ·apply aj (by simp;rfl)
  apply aj (by simp;rfl)
  apply aj (by simp;rfl)
  apply aj (by simp;rfl)
  apply aj
  ·apply aj (by simp;rfl)
   apply eE
   apply aj (by simp;rfl)
   apply bQ (by simp [h1])
   apply aj (by simp;rfl)
   apply bQ (by simp [h2])
   apply aj (by simp;rfl)
   apply bQ (by simp [h3])
   apply aj (by simp;rfl)
   apply bQ (by simp [h5])
   apply aj (by simp;rfl)
   apply cL (by simp [h6])
   apply dO 4
   ·rfl
   ·simp
   ·simp
    rfl
   ·simp [-aS,hW,cG]
    rfl
   ·simp
    rfl
  apply aj (by simp;rfl)
  exact ef _ _
 ·simp [GI,cG]
 ·rfl
set_option maxHeartbeats 8000000 in
theorem aha(x:aZ)(h1:¬x.S.Kind=1)(h2:¬x.S.Kind=2)(h3:¬x.S.Kind=3)(h5:¬x.S.Kind=5)(h6:¬x.S.Kind=6):zZ p V F t1 t2 x []:=by
 apply eK N3
 ·apply aj (by simp;rfl)
  apply aj (by simp;rfl)
  apply aj (by simp;rfl)
  apply aj (by simp;rfl)
  apply aj
  ·apply aj (by simp;rfl)
   apply eE
   apply aj (by simp;rfl)
   apply bQ (by simp [h1])
   apply aj (by simp;rfl)
   apply bQ (by simp [h2])
   apply aj (by simp;rfl)
   apply bQ (by simp [h3])
   apply aj (by simp;rfl)
   apply bQ (by simp [h5])
   apply aj (by simp;rfl)
   apply bQ (by simp [h6])
   exact bB _ _
  apply aj (by simp;rfl)
  exact ef _ _
 ·simp [GI,cG]
 ·rfl
end
noncomputable def nj(p:Program)(m:aM)(x:aZ):Option (List cD):=MO p m.Vars x.S x.Place
theorem z6(p:Program)(V F:List Level)(t1 t2:TypeId)(x:aZ)(r:List cD)(h:nj p ⟨V,F⟩ x=some r):zZ p V F t1 t2 x r:=by
 unfold nj MO at h
 simp only at h
 by_cases h1:x.S.Kind=1
 ·rw [aa h1] at h
  obtain ⟨l,hl,h⟩:=af.1 h
  obtain rfl:=ad h
  exact ag5 x h1 l hl
 rw [ab h1] at h
 by_cases h2:x.S.Kind=2
 ·rw [aa h2] at h
  obtain ⟨j,hj,h⟩:=af.1 h
  obtain ⟨f,hf,h⟩:=af.1 h
  split at h
  ·rename_i hs
   obtain ⟨out,ho,h⟩:=af.1 h
   obtain ⟨l,hl,h⟩:=af.1 h
   obtain rfl:=ad h
   exact ag6 x h1 h2 j (mj hj) f hf hs.1 hs.2 out ho l hl
  ·cases h
 rw [ab h2] at h
 by_cases h3:x.S.Kind=3
 ·rw [aa h3] at h
  obtain ⟨j,hj,h⟩:=af.1 h
  obtain ⟨b,hb,h⟩:=af.1 h
  obtain ⟨o,ho,h⟩:=af.1 h
  obtain ⟨l,hl,h⟩:=af.1 h
  obtain rfl:=ad h
  exact ag7 x h1 h2 h3 j (mj hj) b hb o l ho hl
 rw [ab h3] at h
 by_cases h5:x.S.Kind=5
 ·rw [aa h5] at h
  obtain ⟨l,hl,h⟩:=af.1 h
  obtain rfl:=ad h
  exact ag8 x h1 h2 h3 h5 l hl
 rw [ab h5] at h
 by_cases h6:x.S.Kind=6
 ·rw [aa h6] at h
  obtain ⟨l,hl,h⟩:=af.1 h
  obtain rfl:=ad h
  exact ag9 x h1 h2 h3 h5 h6 l hl
 rw [ab h6] at h
 obtain rfl:=ad h
 exact aha x h1 h2 h3 h5 h6
abbrev NO(a0:Program)(a1:aM)(a2:aZ)(r:List cD):Prop:=zZ a0 a1.Vars a1.Funcs 45 45 a2 r
theorem Jp(a0:Program)(a1:aM)(a2:aZ)(r:List cD)(h:nj a0 a1 a2=some r):NO a0 a1 a2 r:=z6 _ _ _ _ _ _ r h
end Go.Proofs.YtkkkkondjclcnaaGreat.A
