/- The reference's levels of expressions, and its list of all commands with their places, as plain functions. -/
import Derived.Test.YtkkkkondjclcnaaGreatRawF
import Derived.Test.YtkkkkondjclcnaaGreatFQ
set_option linter.all false
set_option maxRecDepth 100000
set_option maxHeartbeats 16000000
namespace Go.Proofs.YtkkkkondjclcnaaGreat.A
open Go
variable [Lp]
attribute [local simp] gp execOp okB gv df fT pJ iZ ir ft St.end_ St.fU KZ consume List.filter
noncomputable def Bg(vars:List Level):List aB→Level→Option Level
 | [],v=>some v
 | x::r,v=>if x.Kind=2 then (dV x.N).bind fun j=>(vars[j]?).bind fun w=>(dN v w).bind fun q=>Bg vars r q else Bg vars r v
noncomputable def nS(p:Program)(vars:List Level)(e:aB):Option Level:=
 (fR p.ak).bind fun b=>(pD e).bind fun l=>if l.length≤1000000 then Bg vars l b else none
def Bh(t:TypeId)(vars:List Level)(l:List aB)(v:Level)(k:Nat):St:=⟨[(1,.l t (vars.map aI)),(6,.p ⟨0,6⟩ 0),(7,.p ⟨0,7⟩ 0),(8,.l 37 (l.map aT)),(9,I k)],[(6,ax ⟨[],[]⟩),(7,ax v)],H0⟩
theorem GB(t:TypeId)(vars:List Level)(l:List aB)(hl:l.length≤1000000):∀ (rest:List aB)(k:Nat)(v r:Level),l.drop k=rest→Bg vars rest v=some r→
  ∃ z,fH G Ω0 E0 XM (Bh t vars l v k)=some (.ex 0,z)∧run G Ω0 E0 (.rg [] [gp 37 (.ld (some 2) (.t 7)),⟨none,.st 2 (.t 6) (.t 37),none,false⟩] [6] [6]) z=some (.nrm,⟨[(6,.p ⟨0,6⟩ 0)],[(6,ax r)],H0⟩)
 | [],k,v,r,hd,h=>by
  obtain rfl:=af h
  have hk:¬((k:Int)<(l.length:Int)):=by
   have:=gP.1 hd;omega
  apply Exists.intro
  apply And.intro
  ·refine dD (r:=(.ex 0,?_)) ?_ (by simp)
   rotate_left
   ·show run G Ω0 _ GX (Bh t vars l v k)=_
    apply iu
    apply aj (by simp [Bh,hk];rfl)
    apply ba (by simp [hk])
    exact dR _ _ _
  ·simp
 | x::rest,k,v,r,hd,h=>by
  have g:k<l.length:=by
   have h1:=an List.length hd
   simp only [kQ,cC] at h1
   omega
  have hg:l[k]? =some x:=by
   have:=an (fun l=>l[0]?) hd
   simpa using this
  have d:l.drop (k+1)=rest:=by
   have:=an List.tail hd
   simpa using this
  have hk:((k:Int)<(l.length:Int)):=by omega
  have c:=iF k (by omega)
  rw [Bg] at h
  by_cases h2:x.Kind=2
  ·rw [ab h2] at h
   obtain ⟨j,hj,h⟩:=ah.1 h
   obtain ⟨w,hw,h⟩:=ah.1 h
   obtain ⟨q,hq,h⟩:=ah.1 h
   have hj:=iV hj
   have hJ:=aZ (E:=E0) (iM v w q hq) (by simp) (by simp)
   obtain ⟨z,a1,a2⟩:=GB t vars l hl rest (k+1) q r d h
   refine ⟨z,?_,a2⟩
   have hr:run G Ω0 E0 GX (Bh t vars l v k)=some (.nrm,Bh t vars l q (k+1)):=by
    apply aj
    ·apply aj (by simp [Bh,hk];rfl)
     apply bT (by simp [hk])
     exact bh _ _
    apply di
    apply aj
    ·apply dI
     apply aj (by simp [hg,dj];rfl)
     apply bT (by simp [h2])
     apply dM 9
     ·rfl
     ·simp
     ·simp [hg,dj,hj,hw,aI]
      rfl
     ·simp [-aF,hJ]
      rfl
     ·simp
      rfl
    simp [Bh,c]
   rw [dz (st1:=Bh t vars l q (k+1))]
   ·exact a1
   ·show (run G Ω0 _ GX (Bh t vars l v k)).bind _=_
    rw [hr];rfl
  ·rw [aa h2] at h
   obtain ⟨z,a1,a2⟩:=GB t vars l hl rest (k+1) v r d h
   refine ⟨z,?_,a2⟩
   have hr:run G Ω0 E0 GX (Bh t vars l v k)=some (.nrm,Bh t vars l v (k+1)):=by
    apply aj
    ·apply aj (by simp [Bh,hk];rfl)
     apply bT (by simp [hk])
     exact bh _ _
    apply di
    apply aj
    ·apply dI
     apply aj (by simp [hg,dj];rfl)
     apply ba (by simp [h2])
     exact bh _ _
    simp [Bh,c]
   rw [dz (st1:=Bh t vars l v (k+1))]
   ·exact a1
   ·show (run G Ω0 _ GX (Bh t vars l v k)).bind _=_
    rw [hr];rfl
theorem ug(t:TypeId)(p:Program)(vars:List Level)(e:aB)(r:Level)(h:nS p vars e=some r) :
  call G Ω0 E0 15 [.a (av p),.l t (vars.map aI),.a (ny e)] H0=some (.ret (.a (ax r)),H0):=by
 obtain ⟨b,hb,h⟩:=ah.1 h
 obtain ⟨l,hl,h⟩:=ah.1 h
 split at h
 ·rename_i hlen
  have hB:=aZ (E:=E0) (lL p.ak b hb) (by simp) (by simp)
  have hP:=aZ (E:=E0) (rL e l hl) (by simp) (by simp)
  obtain ⟨z,a1,a2⟩:=GB t vars l hlen l 0 b r rfl h
  apply dS G15
  ·apply aj (by simp;rfl)
   apply aj (by simp [-aF,hB];rfl)
   apply aj (by simp [-aF,hP];rfl)
   apply aj
   ·apply aj (by simp;rfl)
    apply lu
    rw [dL]
    exact a1
   apply aj a2
   exact cQ _ _
  ·simp [c15]
  ·rfl
 ·cases h
abbrev NC(a0:Program)(a1:List Level)(a2:aB)(r:Level):Prop:=call G Ω0 E0 15 [.a (av a0),.l 45 (a1.map aI),.a (ny a2)] H0=some (.ret (.a (ax r)),H0)
theorem IZ(a0:Program)(a1:List Level)(a2:aB)(r:Level)(h:nS a0 a1 a2=some r):NC a0 a1 a2 r:=ug _ a0 a1 a2 r h
noncomputable def atR(p:Program)(V:List Level)(pl:Level)(e:aB):Option Level:=(nS p V e).bind fun x=>dN pl x
mutual
noncomputable def PI(p:Program)(V:List Level):Stmt→Level→List bq→Option (List bq)
 | ⟨k,v,o,e,args,th,el⟩,pl,out=>if out.length≤1000000∧th.length≤1000∧el.length≤1000 then
   if 7≤k then (atR p V pl e).bind fun q=>(vn p V th q (out++[⟨⟨k,v,o,e,args,th,el⟩,out.length,pl⟩])).bind fun out2=>vn p V el q out2
   else some (out++[⟨⟨k,v,o,e,args,th,el⟩,out.length,pl⟩]) else none
noncomputable def vn(p:Program)(V:List Level):List Stmt→Level→List bq→Option (List bq)
 | [],_,out=>some out
 | x::r,pl,out=>(PI p V x pl out).bind fun o=>vn p V r pl o
end
theorem R5(p:Program)(V:List Level)(s:Stmt)(pl:Level)(out:List bq):PI p V s pl out=if out.length≤1000000∧s.Then.length≤1000∧s.Else.length≤1000 then
   if 7≤s.Kind then (atR p V pl s.Expr).bind fun q=>(vn p V s.Then q (out++[⟨s,out.length,pl⟩])).bind fun out2=>vn p V s.Else q out2
   else some (out++[⟨s,out.length,pl⟩]) else none:=by cases s;rw [PI]
section
variable (p:Program)(V F:List Level)(t1 t2:TypeId)
abbrev EV:List AV:=[.l t1 (V.map aI),.l t2 (F.map aI)]
def GC(dp:Nat)(L:List Stmt)(pl:Level)(out:List bq)(k:Nat):St:=
 ⟨[(2,.l 92 (L.map bK)),(4,.o 113 (out.map cY)),(5,.p ⟨dp,5⟩ 0),(6,.p ⟨dp,6⟩ 0),(8,.p ⟨dp,8⟩ 0),(11,I k)],[(5,av p),(6,EV V F t1 t2),(8,ax pl)],fun _=>none⟩
def N8(L:List Stmt):Prop:=∀ ⦃dp:Nat⦄ ⦃pl:Level⦄ ⦃out out':List bq⦄,L.length≤1000→vn p V L pl out=some out'→
 call G Ω0 ⟨dp,false⟩ 117 [.a (av p),.a (EV V F t1 t2),.l 92 (L.map bK),.a (ax pl),.o 113 (out.map cY)] (fun _=>none)=some (.row 113 (out'.map cY),fun _=>none)
def Tp(st:Stmt):Prop:=∀ ⦃dp:Nat⦄ ⦃pl:Level⦄ ⦃out out':List bq⦄ ⦃L:List Stmt⦄ ⦃k:Nat⦄,L.length≤1000→L[k]? =some st→PI p V st pl out=some out'→
 run G Ω0 ⟨dp,false⟩ Jt (GC p V F t1 t2 dp L pl out k)=some (.nrm,GC p V F t1 t2 dp L pl out' (k+1))
variable {p V F t1 t2}
theorem PJ{L:List Stmt}(h:∀ st∈L,Tp p V F t1 t2 st):N8 p V F t1 t2 L:=by
 intro dp pl out out' hL hs
 have key:∀ (rest:List Stmt)(k:Nat)(out:List bq),L.drop k=rest→vn p V rest pl out=some out'→
   ∃ z,fH G Ω0 ⟨dp,false⟩ T7 (GC p V F t1 t2 dp L pl out k)=some (.ex 0,z)∧run G Ω0 ⟨dp,false⟩ (.rg [] [gp 57 (.mv (.t 4)),gp 10 (.as (.t 57))] [4,10] []) z=some (.nrm,⟨[(4,.o 113 (out'.map cY)),(10,.r (.s 4))],[],fun _=>none⟩):=by
  intro rest
  induction rest with
  | nil=>
   intro k out hd hs
   have hk:¬((k:Int)<(L.length:Int)):=by
    have:=gP.1 hd;omega
   rw [vn] at hs
   obtain rfl:=af hs
   apply Exists.intro
   apply And.intro
   ·refine dD (r:=(.ex 0,?_)) ?_ (by simp)
    rotate_left
    ·show run G Ω0 _ Jt (GC p V F t1 t2 dp L pl out k)=_
     apply iu
     apply aj (by simp [GC,hk];rfl)
     apply ba (by simp [hk])
     exact dR _ _ _
   ·simp
  | cons st rest ih=>
   intro k out hd hs
   rw [vn] at hs
   obtain ⟨o1,h1,h2⟩:=ah.1 hs
   have g:k<L.length:=by
    have h1:=an List.length hd
    simp only [kQ,cC] at h1
    omega
   have hg:L[k]? =some st:=by
    have:=an (fun l=>l[0]?) hd
    simpa using this
   have d:L.drop (k+1)=rest:=by
    have:=an List.tail hd
    simpa using this
   have r1:=h st (by rw [←BF k L,hd];simp) (dp:=dp) (k:=k) hL hg h1
   obtain ⟨z,q1,q2⟩:=ih (k+1) o1 d h2
   refine ⟨z,?_,q2⟩
   rw [dz (st1:=GC p V F t1 t2 dp L pl o1 (k+1))]
   ·exact q1
   ·show (run G Ω0 _ Jt (GC p V F t1 t2 dp L pl out k)).bind _=_
    rw [r1];rfl
 obtain ⟨z,q1,q2⟩:=key L 0 out rfl hs
 apply dS alX
 ·apply aj (by simp;rfl)
  apply aj
  ·apply aj (by simp;rfl)
   apply lu
   rw [dL]
   exact q1
  apply aj q2
  exact cQ _ _
 ·simp [V7,St.rowOf,St.result,St.sc,St.Ay]
 ·rfl
theorem Vs{st:Stmt}(hT:N8 p V F t1 t2 st.Then)(hE:N8 p V F t1 t2 st.Else):Tp p V F t1 t2 st:=by
 intro dp pl out out' L k hL hg hs
 rw [R5] at hs
 have g:k<L.length:=(eb.1 hg).1
 have hk:((k:Int)<(L.length:Int)):=by omega
 have c:=iF k (by omega)
 split at hs
 ·rename_i hc
  obtain ⟨c1,c2,c3⟩:=hc
  have hm:out.length+1≤maxLen:=bS (show out.length+1≤1000001 by omega) (by decide)
  have y:(out.length+1)*192≤140737488355328:=by omega
  by_cases h7:7≤st.Kind
  ·rw [ab h7] at hs
   obtain ⟨q,hq,hs⟩:=ah.1 hs
   obtain ⟨o2,h2,h3⟩:=ah.1 hs
   obtain ⟨x,hx,hj⟩:=ah.1 hq
   have hX:=aZ (E:=⟨dp,false⟩) (ug t1 p V st.Expr x hx) (by simp [AV.aX,AV.pure]) (by simp)
   have hJ:=aZ (E:=⟨dp,false⟩) (iM pl x q hj) (by simp) (by simp)
   have e1:=hT (dp:=dp+1) c2 h2
   have e2:=hE (dp:=dp+1) c3 h3
   simp [cY] at e1 e2
   apply aj
   ·apply aj (by simp [GC,hk];rfl)
    apply bT (by simp [hk])
    exact bh _ _
   apply di
   apply aj
   ·apply dI
    apply aj (by simp [hg,jm];rfl)
    apply aj (by simp [hm,y];rfl)
    apply aj (by simp;rfl)
    apply bT (by simpa using h7)
    apply aj
    ·apply dM 6
     ·rfl
     ·simp
     ·simp
      rfl
     ·simp [-aF,hX,hJ]
      rfl
     ·simp
      rfl
    apply aj (by simp [e1,cY];rfl)
    simp [e2,cY]
    rfl
   simp [GC,c,cY]
  ·rw [aa h7] at hs
   obtain rfl:=af hs
   apply aj
   ·apply aj (by simp [GC,hk];rfl)
    apply bT (by simp [hk])
    exact bh _ _
   apply di
   apply aj
   ·apply dI
    apply aj (by simp [hg,jm];rfl)
    apply aj (by simp [hm,y];rfl)
    apply aj (by simp;rfl)
    apply ba (by simpa using h7)
    exact bh _ _
   simp [GC,c,cY]
 ·cases hs
mutual
theorem ZQ:∀ st:Stmt,Tp p V F t1 t2 st
 | ⟨_,_,_,_,_,th,el⟩=>Vs (PJ (Hn th)) (PJ (Hn el))
 termination_by structural st=>st
theorem Hn:∀ l:List Stmt,∀ st∈l,Tp p V F t1 t2 st
 | [],_,h=>absurd h (by simp)
 | a::r,st,h=>by
  have h1:=ZQ a
  have h2:=Hn r
  exact (eX.1 h).elim (fun e=>e▸h1) fun h=>h2 st h
 termination_by structural l=>l
end
theorem af6(L:List Stmt):N8 p V F t1 t2 L:=PJ (Hn L)
noncomputable def sO(p:Program)(V F:List Level):List Func→Nat→List bq→Option (List bq)
 | [],_,out=>(fR p.ak).bind fun b=>if p.Main.length≤1000 then vn p V p.Main b out else none
 | f::r,i,out=>(fR p.ak).bind fun _=>(F[i]?).bind fun q=>if f.Body.length≤1000 then (vn p V f.Body q out).bind fun o=>sO p V F r (i+1) o else none
inductive Tq:AV→List bq→Prop where
 | n:Tq .n []
 | o (es:List bq):Tq (.o 113 (es.map cY)) es
def tX(p:Program)(V F:List Level)(t1 t2:TypeId)(x:AV)(k:Nat):St:=⟨[(2,.p ⟨0,2⟩ 0),(3,.p ⟨0,3⟩ 0),(5,x),(6,I k)],[(2,av p),(3,EV V F t1 t2)],H0⟩
theorem PK(x:AV)(out o:List bq)(hx:Tq x out)(k:Nat)(B:List Stmt)(q:Level)(hB:B.length≤1000)(h:vn p V B q out=some o) :
  run G Ω0 E0 Yk ⟨[(2,.p ⟨0,2⟩ 0),(3,.p ⟨0,3⟩ 0),(5,x),(6,I k),(7,.l 92 (B.map bK)),(8,.p ⟨0,8⟩ 0)],[(2,av p),(3,EV V F t1 t2),(8,ax q)],H0⟩=some (.nrm,tX p V F t1 t2 (.o 113 (o.map cY)) k):=by
 have e1:=af6 (p:=p) (V:=V) (F:=F) (t1:=t1) (t2:=t2) B (dp:=1) hB h
 simp [cY] at e1
 apply di
 unfold Yj
 cases hx with
 | n=>
  simp at e1
  simp [e1,tX,cY]
 | o=>
  simp [e1,tX,cY]
theorem MU(hf:p.Funcs.length≤1000)(out':List bq):∀ (rest:List Func)(k:Nat)(x:AV)(out:List bq),p.Funcs.drop k=rest→k≤p.Funcs.length→Tq x out→sO p V F rest k out=some out'→
  ∃ z,fH G Ω0 E0 Yl (tX p V F t1 t2 x k)=some (.ex 0,z)∧run G Ω0 E0 (.rg [] [gp 43 (.mv (.t 5)),gp 4 (.as (.t 43))] [4,5] []) z=some (.nrm,⟨[(4,.r (.s 5)),(5,.o 113 (out'.map cY))],[],H0⟩)
 | [],k,x,out,hd,D,hx,hs=>by
  have hk:k=p.Funcs.length:=by
   have:=gP.1 hd;omega
  subst hk
  have c:=iF p.Funcs.length (by omega)
  rw [sO] at hs
  obtain ⟨b,hb,hs⟩:=ah.1 hs
  split at hs
  ·rename_i hm
   have hB:=aZ (E:=E0) (lL p.ak b hb) (by simp) (by simp)
   have hC:=PK (t1:=t1) (t2:=t2) (F:=F) x out out' hx p.Funcs.length p.Main b hm hs
   have hr:run G Ω0 E0 GY (tX p V F t1 t2 x p.Funcs.length)=some (.nrm,tX p V F t1 t2 (.o 113 (out'.map cY)) (p.Funcs.length+1)):=by
    cases hx<;>(
    apply aj
    ·apply aj (by simp [tX];rfl)
     apply bT (by simp)
     exact bh _ _
    apply di
    apply aj
    ·apply dI
     apply aj
     ·apply dM 4
      ·rfl
      ·simp [tX]
      ·simp [tX]
       rfl
      ·simp [-aF,hB]
       rfl
      ·simp
       rfl
     apply aj
     ·apply aj (by simp;rfl)
      apply ba (by simp)
      exact bh _ _
     refine Eq.trans (N6 ?_) hC
     rfl
    simp [tX,c])
   have H:¬(((p.Funcs.length:Int)+1)≤(p.Funcs.length:Int)):=by omega
   have he:∃ z,run G Ω0 E0 GY (tX p V F t1 t2 (.o 113 (out'.map cY)) (p.Funcs.length+1))=some (.ex 0,z)∧run G Ω0 E0 (.rg [] [gp 43 (.mv (.t 5)),gp 4 (.as (.t 43))] [4,5] []) z=some (.nrm,⟨[(4,.r (.s 5)),(5,.o 113 (out'.map cY))],[],H0⟩):=by
    apply Exists.intro
    apply And.intro
    ·apply iu
     apply aj (by simp [tX];rfl)
     apply ba (by simp;omega)
     exact dR _ _ _
    ·simp
   obtain ⟨z,h1,h2⟩:=he
   refine ⟨z,?_,h2⟩
   rw [dz (st1:=tX p V F t1 t2 (.o 113 (out'.map cY)) (p.Funcs.length+1))]
   ·exact dD h1 (by simp)
   ·show (run G Ω0 _ GY (tX p V F t1 t2 x p.Funcs.length)).bind _=_
    rw [hr];rfl
  ·cases hs
 | f::rest,k,x,out,hd,D,hx,hs=>by
  have g:k<p.Funcs.length:=by
   have h1:=an List.length hd
   simp only [kQ,cC] at h1
   omega
  have hg:p.Funcs[k]? =some f:=by
   have:=an (fun l=>l[0]?) hd
   simpa using this
  have d:p.Funcs.drop (k+1)=rest:=by
   have:=an List.tail hd
   simpa using this
  have C:((k:Int)≤(p.Funcs.length:Int)):=by omega
  have H:((k:Int)<(p.Funcs.length:Int)):=by omega
  have c:=iF k (by omega)
  rw [sO] at hs
  obtain ⟨b,hb,hs⟩:=ah.1 hs
  obtain ⟨q,hq,hs⟩:=ah.1 hs
  split at hs
  ·rename_i hm
   obtain ⟨o,ho,hs⟩:=ah.1 hs
   have hB:=aZ (E:=E0) (lL p.ak b hb) (by simp) (by simp)
   have hC:=PK (t1:=t1) (t2:=t2) (F:=F) x out o hx k f.Body q hm ho
   obtain ⟨z,a1,a2⟩:=MU hf out' rest (k+1) _ o d (by omega) (.o o) hs
   refine ⟨z,?_,a2⟩
   have hr:run G Ω0 E0 GY (tX p V F t1 t2 x k)=some (.nrm,tX p V F t1 t2 (.o 113 (o.map cY)) (k+1)):=by
    cases hx<;>(
    apply aj
    ·apply aj (by simp [tX,C];rfl)
     apply bT (by simp [C])
     exact bh _ _
    apply di
    apply aj
    ·apply dI
     apply aj
     ·apply dM 4
      ·rfl
      ·simp [tX]
      ·simp [tX]
       rfl
      ·simp [-aF,hB]
       rfl
      ·simp
       rfl
     apply aj
     ·apply aj (by simp;rfl)
      apply bT (by simp [g])
      apply dM 11
      ·rfl
      ·simp
      ·simp [hg,hq,eO,aI]
       rfl
      ·simp
       rfl
      ·simp
       rfl
     refine Eq.trans (N6 ?_) hC
     rfl
    simp [tX,c])
   rw [dz (st1:=tX p V F t1 t2 (.o 113 (o.map cY)) (k+1))]
   ·exact a1
   ·show (run G Ω0 _ GY (tX p V F t1 t2 x k)).bind _=_
    rw [hr];rfl
  ·cases hs
end
noncomputable def nv(p:Program)(m:eD):Option (List bq):=if p.Funcs.length≤1000 then sO p m.Vars m.Funcs p.Funcs 0 [] else none
theorem Bi(p:Program)(V F:List Level)(t1 t2:TypeId)(r:List bq)(h:nv p ⟨V,F⟩=some r) :
  call G Ω0 E0 57 [.a (av p),.a (EV V F t1 t2)] H0=some (.ret (.l 113 (r.map cY)),H0):=by
 unfold nv at h
 split at h
 ·rename_i hf
  obtain ⟨z,a1,a2⟩:=MU (t1:=t1) (t2:=t2) hf r p.Funcs 0 .n [] rfl (dc _) .n h
  apply dS G57
  ·apply aj (by simp;rfl)
   apply aj (by simp;rfl)
   apply aj
   ·apply aj (by simp;rfl)
    apply lu
    rw [dL]
    exact a1
   apply aj a2
   exact cQ _ _
  ·simp [c57,cY]
  ·rfl
 ·cases h
abbrev PL(a0:Program)(a1:eD)(r:List bq):Prop:=call G Ω0 E0 57 [.a (av a0),.a (EV a1.Vars a1.Funcs 45 45)] H0=some (.ret (.l 113 (r.map cY)),H0)
theorem KA(a0:Program)(a1:eD)(r:List bq)(h:nv a0 a1=some r):PL a0 a1 r:=Bi _ _ _ _ _ r h
variable [Lp]
attribute [local simp] gp execOp okB gv df fT pJ iZ ir ft St.end_ St.fU consume List.filter
abbrev Tr(p:Program)(V F:List Level)(t1 t2:TypeId)(x:bq):List AV:=[.e (.a (dE x)) 0,.e (.a (av p)) 0,.e (.a (EV V F t1 t2)) 0]
section
variable (p:Program)(V F:List Level)(t1 t2:TypeId)
theorem Bj(x:bq)(e:aB)(r:Level)(h:atR p V x.Place e=some r) :
  call G Ω0 E0 118 (.a (ny e)::Tr p V F t1 t2 x) H0=some (.ret (.a (ax r)),H0):=by
 obtain ⟨l,hl,hj⟩:=ah.1 h
 have hX:=aZ (E:=E0) (ug t1 p V e l hl) (by simp) (by simp)
 have hJ:=aZ (E:=E0) (iM x.Place l r hj) (by simp) (by simp)
 apply dS alY
 ·apply aj (by simp;rfl)
  apply aj
  ·apply dM 6
   ·rfl
   ·simp
   ·simp
    rfl
   ·simp [-aF,hX,hJ]
    rfl
   ·simp
    rfl
  exact cQ _ _
 ·simp [V8]
 ·rfl
noncomputable def xR(pl:Level)(ps:List Int):List aB→Nat→List eF→Option (List eF)
 | [],_,out=>some out
 | e::r,k,out=>(atR p V pl e).bind fun l=>(ps[k]?).bind fun n=>xR pl ps r (k+1) (out++[⟨l,n⟩])
noncomputable def L3(s:Stmt)(pl:Level):Option (List eF):=
 if s.Kind=1 then (atR p V pl s.Expr).bind fun l=>some [⟨l,s.Var⟩]
 else if s.Kind=2 then (dV s.Other).bind fun j=>(p.Funcs[j]?).bind fun f=>if s.Args.length≤1000∧p.Funcs.length≤1000 then (xR p V pl f.Params s.Args 0 []).bind fun out=>(atR p V pl f.Result).bind fun l=>some (out++[⟨l,s.Var⟩,⟨pl,-1 - s.Other⟩]) else none
 else if s.Kind=3 then (dV s.Other).bind fun j=>(p.Ins[j]?).bind fun b=>(lh p.ak b).bind fun o=>(dN pl o).bind fun l=>some [⟨l,s.Var⟩]
 else if s.Kind=5 then (atR p V pl s.Expr).bind fun l=>some [⟨⟨pl.Readers,l.Writers⟩,s.Var⟩]
 else if s.Kind=6 then (atR p V pl s.Expr).bind fun l=>some [⟨⟨l.Readers,pl.Writers⟩,s.Var⟩]
 else some []
theorem H8(pl:Level)(ps:List Int):∀ (rest:List aB)(k:Nat)(o r:List eF),xR p V pl ps rest k o=some r→r.length=o.length+rest.length
 | [],k,o,r,h=>by obtain rfl:=af h;rfl
 | e::rest,k,o,r,h=>by
  obtain ⟨l,_,h⟩:=ah.1 h
  obtain ⟨n,_,h⟩:=ah.1 h
  rw [H8 pl ps rest _ _ _ h];simp;omega
variable {p V F t1 t2}
def xS(x:bq)(f:Func)(k:Nat)(out:List eF):St:=⟨[(5,.e (.a (dE x)) 0),(7,.p ⟨0,7⟩ 0),(8,.f 118 (Tr p V F t1 t2 x)),(9,.o 115 (out.map dG)),(10,.p ⟨0,10⟩ 0),(11,I k)],[(7,aD x.S),(10,eu f)],H0⟩
theorem PM(x:bq)(f:Func)(hs:x.S.Args.length≤1000):∀ (rest:List aB)(k:Nat)(out res:List eF),x.S.Args.drop k=rest→out.length=k→xR p V x.Place f.Params rest k out=some res→
   ∃ z,fH G Ω0 E0 Ym (xS (p:=p) (V:=V) (F:=F) (t1:=t1) (t2:=t2) x f k out)=some (.ex 1,z)∧z.aG [5,7,8,9,10] [3,4,5,7,10]=(xS (p:=p) (V:=V) (F:=F) (t1:=t1) (t2:=t2) x f k res).aG [5,7,8,9,10] [3,4,5,7,10]
 | [],k,out,res,hd,ho,h=>by
  obtain rfl:=af h
  have hk:¬((k:Int)<(x.S.Args.length:Int)):=by
   have:=gP.1 hd;omega
  refine ⟨_,dD (r:=(.ex 1,?_)) ?_ (by simp),?_⟩
  rotate_left
  ·show run G Ω0 _ NT (xS x f k out)=_
   apply iu
   apply aj (by simp [xS,hk];rfl)
   apply ba (by simp [hk])
   exact dR _ _ _
  ·simp [xS]
 | e::rest,k,out,res,hd,ho,h=>by
  obtain ⟨l,hl,h⟩:=ah.1 h
  obtain ⟨n,hn,h⟩:=ah.1 h
  have g:k<x.S.Args.length:=by
   have h1:=an List.length hd
   simp only [kQ,cC] at h1
   omega
  have hg:x.S.Args[k]? =some e:=by
   have:=an (fun l=>l[0]?) hd
   simpa using this
  have d:x.S.Args.drop (k+1)=rest:=by
   have:=an List.tail hd
   simpa using this
  have hw:=iF k (by omega)
  have hk:((k:Int)<(x.S.Args.length:Int)):=by omega
  have hm:k+1≤maxLen:=bS (show k+1≤1001 by omega) (by decide)
  have hb:(k+1)*56≤140737488355328:=by omega
  have hW:=aZ (E:=E0) (Bj p V F t1 t2 x e l hl) (by simp [AV.pure,AV.aX]) (by simp)
  have hr:run G Ω0 E0 NT (xS (p:=p) (V:=V) (F:=F) (t1:=t1) (t2:=t2) x f k out)=some (.nrm,xS (p:=p) (V:=V) (F:=F) (t1:=t1) (t2:=t2) x f (k+1) (out++[⟨l,n⟩])):=by
   apply aj
   ·apply aj (by simp [xS,hk];rfl)
    apply bT (by simp [g])
    exact bh _ _
   apply di
   apply aj
   ·apply dI
    apply dM 7
    ·rfl
    ·simp
    ·simp [hg,dj]
     rfl
    ·simp [-aF,hW,hn,ho,hm,hb]
     rfl
    ·simp
     rfl
   simp [hw,xS,dG]
  obtain ⟨z,hz,u⟩:=PM x f hs rest (k+1) _ res d (by simp [ho]) h
  refine ⟨z,?_,?_⟩
  ·rw [dz (st1:=xS x f (k+1) (out++[⟨l,n⟩]))]
   ·exact hz
   ·show (run G Ω0 _ NT (xS x f k out)).bind _=_
    rw [hr];rfl
  ·rw [u];rfl
abbrev Cg(p:Program)(V F:List Level)(t1 t2:TypeId)(x:bq)(r:List eF):Prop:=call G Ω0 E0 58 [.a (av p),.a (EV V F t1 t2),.a (dE x)] H0=some (.ret (.l 115 (r.map dG)),H0)
theorem akw(x:bq)(h1:x.S.Kind=1)(l:Level)(hl:atR p V x.Place x.S.Expr=some l):Cg p V F t1 t2 x [⟨l,x.S.Var⟩]:=by
 have hW:=aZ (E:=E0) (Bj p V F t1 t2 x x.S.Expr l hl) (by simp [AV.pure,AV.aX]) (by simp)
 apply dS Rk
 ·apply aj (by simp;rfl)
  apply aj (by simp;rfl)
  apply aj (by simp;rfl)
  apply aj (by simp;rfl)
  apply aj
  ·apply aj (by simp;rfl)
   apply dI
   apply aj (by simp;rfl)
   apply bT (by simp [h1])
   apply dM 4
   ·rfl
   ·simp
   ·simp
    rfl
   ·simp [-aF,hW,dG]
    rfl
   ·simp
    rfl
  apply aj (by simp;rfl)
  exact cQ _ _
 ·simp [Ms,dG]
 ·rfl
theorem akx(x:bq)(h1:¬x.S.Kind=1)(h2:x.S.Kind=2)(j:Nat)(h5:x.S.Other=j)(f:Func)(h6:p.Funcs[j]? =some f)(hs:x.S.Args.length≤1000)(hf:p.Funcs.length≤1000)(out:List eF)(h7:xR p V x.Place f.Params x.S.Args 0 []=some out)(l:Level)(h8:atR p V x.Place f.Result=some l):Cg p V F t1 t2 x (out++[⟨l,x.S.Var⟩,⟨x.Place,-1 - x.S.Other⟩]):=by
 have hW:=aZ (E:=E0) (Bj p V F t1 t2 x f.Result l h8) (by simp [AV.pure,AV.aX]) (by simp)
 have ho:out.length=x.S.Args.length:=by simpa using H8 _ _ _ _ _ _ _ _ h7
 have hm:out.length+2≤maxLen:=bS (show out.length+2≤1002 by omega) (by decide)
 have hb:(out.length+2)*56≤140737488355328:=by omega
 have hj:j<p.Funcs.length:=(eb.1 h6).1
 have hw:IntKind.i64.wrap (-1 - (j:Int))= -1 - (j:Int):=wrap64 (by omega) (by omega)
 obtain ⟨z,hz,u⟩:=PM (F:=F) (t1:=t1) (t2:=t2) x f hs x.S.Args 0 [] out rfl rfl h7
 apply dS Rk
 ·apply aj (by simp;rfl)
  apply aj (by simp;rfl)
  apply aj (by simp;rfl)
  apply aj (by simp;rfl)
  apply aj
  ·apply aj (by simp;rfl)
   apply dI
   apply aj (by simp;rfl)
   apply ba (by simp [h1])
   apply aj (by simp;rfl)
   apply bT (by simp [h2])
   refine aj (st1:=⟨[(5,.e (.a (dE x)) 0),(7,.p ⟨0,7⟩ 0),(8,.f 118 (Tr p V F t1 t2 x)),(9,.o 115 []),(10,.p ⟨0,10⟩ 0)],[(7,aD x.S),(10,eu f)],H0⟩) (by simp [h5,h6,eO]) ?_
   apply aj
   ·apply aj (by simp;rfl)
    apply lu
    rw [dL]
    exact hz
   show run G Ω0 _ (.kp _ _ Yn) z=_
   rw [jq,u]
   apply dM 4
   ·rfl
   ·simp [xS]
   ·simp [xS]
    rfl
   ·simp [-aF,hW,h5,hw,hm,hb,dG]
    rfl
   ·simp
    rfl
  apply aj (by simp;rfl)
  exact cQ _ _
 ·simp [Ms,dG,h5]
 ·rfl
theorem aky(x:bq)(h1:¬x.S.Kind=1)(h2:¬x.S.Kind=2)(h3:x.S.Kind=3)(j:Nat)(hj:x.S.Other=j)(b:Label)(hb:p.Ins[j]? =some b)(o l:Level)(ho:lh p.ak b=some o)(hl:dN x.Place o=some l):Cg p V F t1 t2 x [⟨l,x.S.Var⟩]:=by
 have hA:=aZ (E:=E0) (tM p.ak b o ho) (by simp) (by simp)
 have hB:=aZ (E:=E0) (iM x.Place o l hl) (by simp) (by simp)
 apply dS Rk
 ·apply aj (by simp;rfl)
  apply aj (by simp;rfl)
  apply aj (by simp;rfl)
  apply aj (by simp;rfl)
  apply aj
  ·apply aj (by simp;rfl)
   apply dI
   apply aj (by simp;rfl)
   apply ba (by simp [h1])
   apply aj (by simp;rfl)
   apply ba (by simp [h2])
   apply aj (by simp;rfl)
   apply bT (by simp [h3])
   apply dM 11
   ·rfl
   ·simp
   ·simp [hj,hb,aH]
    rfl
   ·simp [-aF,hA,hB,dG]
    rfl
   ·simp
    rfl
  apply aj (by simp;rfl)
  exact cQ _ _
 ·simp [Ms,dG]
 ·rfl
theorem akz(x:bq)(h1:¬x.S.Kind=1)(h2:¬x.S.Kind=2)(h3:¬x.S.Kind=3)(h5:x.S.Kind=5)(l:Level)(hl:atR p V x.Place x.S.Expr=some l):Cg p V F t1 t2 x [⟨⟨x.Place.Readers,l.Writers⟩,x.S.Var⟩]:=by
 have hW:=aZ (E:=E0) (Bj p V F t1 t2 x x.S.Expr l hl) (by simp [AV.pure,AV.aX]) (by simp)
 apply dS Rk
 ·apply aj (by simp;rfl)
  apply aj (by simp;rfl)
  apply aj (by simp;rfl)
  apply aj (by simp;rfl)
  apply aj
  ·apply aj (by simp;rfl)
   apply dI
   apply aj (by simp;rfl)
   apply ba (by simp [h1])
   apply aj (by simp;rfl)
   apply ba (by simp [h2])
   apply aj (by simp;rfl)
   apply ba (by simp [h3])
   apply aj (by simp;rfl)
   apply bT (by simp [h5])
   apply dM 7
   ·rfl
   ·simp
   ·simp
    rfl
   ·simp [-aF,hW,dG]
    rfl
   ·simp
    rfl
  apply aj (by simp;rfl)
  exact cQ _ _
 ·simp [Ms,dG]
 ·rfl
theorem akA(x:bq)(h1:¬x.S.Kind=1)(h2:¬x.S.Kind=2)(h3:¬x.S.Kind=3)(h5:¬x.S.Kind=5)(h6:x.S.Kind=6)(l:Level)(hl:atR p V x.Place x.S.Expr=some l):Cg p V F t1 t2 x [⟨⟨l.Readers,x.Place.Writers⟩,x.S.Var⟩]:=by
 have hW:=aZ (E:=E0) (Bj p V F t1 t2 x x.S.Expr l hl) (by simp [AV.pure,AV.aX]) (by simp)
 apply dS Rk
 ·apply aj (by simp;rfl)
  apply aj (by simp;rfl)
  apply aj (by simp;rfl)
  apply aj (by simp;rfl)
  apply aj
  ·apply aj (by simp;rfl)
   apply dI
   apply aj (by simp;rfl)
   apply ba (by simp [h1])
   apply aj (by simp;rfl)
   apply ba (by simp [h2])
   apply aj (by simp;rfl)
   apply ba (by simp [h3])
   apply aj (by simp;rfl)
   apply ba (by simp [h5])
   apply aj (by simp;rfl)
   apply bT (by simp [h6])
   apply dM 4
   ·rfl
   ·simp
   ·simp
    rfl
   ·simp [-aF,hW,dG]
    rfl
   ·simp
    rfl
  apply aj (by simp;rfl)
  exact cQ _ _
 ·simp [Ms,dG]
 ·rfl
theorem akB(x:bq)(h1:¬x.S.Kind=1)(h2:¬x.S.Kind=2)(h3:¬x.S.Kind=3)(h5:¬x.S.Kind=5)(h6:¬x.S.Kind=6):Cg p V F t1 t2 x []:=by
 apply dS Rk
 ·apply aj (by simp;rfl)
  apply aj (by simp;rfl)
  apply aj (by simp;rfl)
  apply aj (by simp;rfl)
  apply aj
  ·apply aj (by simp;rfl)
   apply dI
   apply aj (by simp;rfl)
   apply ba (by simp [h1])
   apply aj (by simp;rfl)
   apply ba (by simp [h2])
   apply aj (by simp;rfl)
   apply ba (by simp [h3])
   apply aj (by simp;rfl)
   apply ba (by simp [h5])
   apply aj (by simp;rfl)
   apply ba (by simp [h6])
   exact bh _ _
  apply aj (by simp;rfl)
  exact cQ _ _
 ·simp [Ms,dG]
 ·rfl
end
noncomputable def oJ(p:Program)(m:eD)(x:bq):Option (List eF):=L3 p m.Vars x.S x.Place
theorem Ch(p:Program)(V F:List Level)(t1 t2:TypeId)(x:bq)(r:List eF)(h:oJ p ⟨V,F⟩ x=some r):Cg p V F t1 t2 x r:=by
 unfold oJ L3 at h
 simp only at h
 by_cases h1:x.S.Kind=1
 ·rw [ab h1] at h
  obtain ⟨l,hl,h⟩:=ah.1 h
  obtain rfl:=af h
  exact akw x h1 l hl
 rw [aa h1] at h
 by_cases h2:x.S.Kind=2
 ·rw [ab h2] at h
  obtain ⟨j,hj,h⟩:=ah.1 h
  obtain ⟨f,hf,h⟩:=ah.1 h
  split at h
  ·rename_i hs
   obtain ⟨out,ho,h⟩:=ah.1 h
   obtain ⟨l,hl,h⟩:=ah.1 h
   obtain rfl:=af h
   exact akx x h1 h2 j (iV hj) f hf hs.1 hs.2 out ho l hl
  ·cases h
 rw [aa h2] at h
 by_cases h3:x.S.Kind=3
 ·rw [ab h3] at h
  obtain ⟨j,hj,h⟩:=ah.1 h
  obtain ⟨b,hb,h⟩:=ah.1 h
  obtain ⟨o,ho,h⟩:=ah.1 h
  obtain ⟨l,hl,h⟩:=ah.1 h
  obtain rfl:=af h
  exact aky x h1 h2 h3 j (iV hj) b hb o l ho hl
 rw [aa h3] at h
 by_cases h5:x.S.Kind=5
 ·rw [ab h5] at h
  obtain ⟨l,hl,h⟩:=ah.1 h
  obtain rfl:=af h
  exact akz x h1 h2 h3 h5 l hl
 rw [aa h5] at h
 by_cases h6:x.S.Kind=6
 ·rw [ab h6] at h
  obtain ⟨l,hl,h⟩:=ah.1 h
  obtain rfl:=af h
  exact akA x h1 h2 h3 h5 h6 l hl
 rw [aa h6] at h
 obtain rfl:=af h
 exact akB x h1 h2 h3 h5 h6
abbrev QV(a0:Program)(a1:eD)(a2:bq)(r:List eF):Prop:=Cg a0 a1.Vars a1.Funcs 45 45 a2 r
theorem L4(a0:Program)(a1:eD)(a2:bq)(r:List eF)(h:oJ a0 a1 a2=some r):QV a0 a1 a2 r:=Ch _ _ _ _ _ _ r h
end Go.Proofs.YtkkkkondjclcnaaGreat.A
