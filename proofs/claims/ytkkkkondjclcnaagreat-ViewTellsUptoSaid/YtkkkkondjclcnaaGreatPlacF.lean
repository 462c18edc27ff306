/- The reference's levels of expressions, and its list of all commands with their places, as plain functions. -/
import Derived.Test.YtkkkkondjclcnaaGreatRawF
import Derived.Test.YtkkkkondjclcnaaGreatFQ
set_option linter.all false
set_option maxRecDepth 100000
namespace Go.Proofs.YtkkkkondjclcnaaGreat.A
open Go
variable [Lp]
attribute [local simp] gp execOp okB jK eG jf uE lV jR iK St.end_ St.k9 Ig consume List.filter
noncomputable def yr(vars:List Level):List az→Level→Option Level
 | [],v=>some v
 | x::r,v=>if x.Kind=2 then (ed x.N).bind fun j=>(vars[j]?).bind fun w=>(dm v w).bind fun q=>yr vars r q else yr vars r v
noncomputable def sT(p:Program)(vars:List Level)(e:az):Option Level:=
 (fN p.aj).bind fun b=>(uh e).bind fun l=>if l.length≤1000000 then yr vars l b else none
def yt(t:TypeId)(vars:List Level)(l:List az)(v:Level)(k:Nat):St:=⟨[(1,.l t (vars.map aT)),(6,.p ⟨0,6⟩ 0),(7,.p ⟨0,7⟩ 0),(8,.l 37 (l.map aQ)),(9,I k)],[(6,aN ⟨[],[]⟩),(7,aN v)],H0⟩
set_option maxHeartbeats 8000000 in
theorem DK(t:TypeId)(vars:List Level)(l:List az)(hl:l.length≤1000000):∀ (rest:List az)(k:Nat)(v r:Level),l.drop k=rest→yr vars rest v=some r→
  ∃ z,gY G Ω0 E0 UF (yt t vars l v k)=some (.ex 0,z)∧run G Ω0 E0 (.rg [] [gp 37 (.ld (some 2) (.t 7)),⟨none,.st 2 (.t 6) (.t 37),none,false⟩] [6] [6]) z=some (.nrm,⟨[(6,.p ⟨0,6⟩ 0)],[(6,aN r)],H0⟩)
 | [],k,v,r,hd,h=>by
  obtain rfl:=aa h
  have hk:¬((k:Int)<(l.length:Int)):=by
   have:=eW.1 hd;omega
  apply Exists.intro
  apply And.intro
  ·refine di (r:=(.ex 0,?_)) ?_ (by simp)
   rotate_left
   ·show run G Ω0 _ D4 (yt t vars l v k)=_
    apply iQ
    apply ak (by simp [yt,hk];rfl)
    apply cg (by simp [hk])
    exact dN _ _ _
  ·simp
 | x::rest,k,v,r,hd,h=>by
  have hlt:k<l.length:=by
   have h1:=an List.length hd
   simp only [gy,bu] at h1
   omega
  have hg:l[k]? =some x:=by
   have:=an (fun l=>l[0]?) hd
   simpa using this
  have hd2:l.drop (k+1)=rest:=by
   have:=an List.tail hd
   simpa using this
  have hk:((k:Int)<(l.length:Int)):=by omega
  have hwr:=gZ k (by omega)
  rw [yr] at h
  by_cases h2:x.Kind=2
  ·rw [ab h2] at h
   obtain ⟨j,hj,h⟩:=ah.1 h
   obtain ⟨w,hw,h⟩:=ah.1 h
   obtain ⟨q,hq,h⟩:=ah.1 h
   have hj:=pb hj
   have hJ:=cw (E:=E0) (iX v w q hq) (by simp) (by simp)
   obtain ⟨z,a1,a2⟩:=DK t vars l hl rest (k+1) q r hd2 h
   refine ⟨z,?_,a2⟩
   have hr:run G Ω0 E0 D4 (yt t vars l v k)=some (.nrm,yt t vars l q (k+1)):=by
    apply ak
    ·apply ak (by simp [yt,hk];rfl)
     apply cX (by simp [hk])
     exact bM _ _
    apply dU
    apply ak
    ·apply eY
     apply ak (by simp [hg,dI];rfl)
     apply cX (by simp [h2])
     apply eZ 9
     ·rfl
     ·simp
     ·simp [hg,dI,hj,hw,aT]
      rfl
     ·simp [-aU,hJ]
      rfl
     ·simp
      rfl
    simp [yt,hwr]
   rw [c8 (st1:=yt t vars l q (k+1))]
   ·exact a1
   ·show (run G Ω0 _ D4 (yt t vars l v k)).bind _=_
    rw [hr];rfl
  ·rw [ad h2] at h
   obtain ⟨z,a1,a2⟩:=DK t vars l hl rest (k+1) v r hd2 h
   refine ⟨z,?_,a2⟩
   have hr:run G Ω0 E0 D4 (yt t vars l v k)=some (.nrm,yt t vars l v (k+1)):=by
    apply ak
    ·apply ak (by simp [yt,hk];rfl)
     apply cX (by simp [hk])
     exact bM _ _
    apply dU
    apply ak
    ·apply eY
     apply ak (by simp [hg,dI];rfl)
     apply cg (by simp [h2])
     exact bM _ _
    simp [yt,hwr]
   rw [c8 (st1:=yt t vars l v (k+1))]
   ·exact a1
   ·show (run G Ω0 _ D4 (yt t vars l v k)).bind _=_
    rw [hr];rfl
set_option maxHeartbeats 8000000 in
theorem xa(t:TypeId)(p:Program)(vars:List Level)(e:az)(r:Level)(h:sT p vars e=some r) :
  call G Ω0 E0 15 [.a (ar p),.l t (vars.map aT),.a (oP e)] H0=some (.ret (.a (aN r)),H0):=by
 obtain ⟨b,hb,h⟩:=ah.1 h
 obtain ⟨l,hl,h⟩:=ah.1 h
 split at h
 ·rename_i hlen
  have hB:=cw (E:=E0) (m7 p.aj b hb) (by simp) (by simp)
  have hP:=cw (E:=E0) (zF e l hl) (by simp) (by simp)
  obtain ⟨z,a1,a2⟩:=DK t vars l hlen l 0 b r rfl h
  apply fD G15
  ·apply ak (by simp;rfl)
   apply ak (by simp [-aU,hB];rfl)
   apply ak (by simp [-aU,hP];rfl)
   apply ak
   ·apply ak (by simp;rfl)
    apply ny
    rw [eg]
    exact a1
   apply ak a2
   exact eE _ _
  ·simp [UG]
  ·rfl
 ·cases h
noncomputable def atR(p:Program)(V:List Level)(pl:Level)(e:az):Option Level:=(sT p V e).bind fun x=>dm pl x
mutual
noncomputable def MB(p:Program)(V:List Level):Stmt→Level→List bS→Option (List bS)
 | ⟨k,v,o,e,args,th,el⟩,pl,out=>if out.length≤1000000∧th.length≤1000∧el.length≤1000 then
   if 7≤k then (atR p V pl e).bind fun q=>(tn p V th q (out++[⟨⟨k,v,o,e,args,th,el⟩,out.length,pl⟩])).bind fun out2=>tn p V el q out2
   else some (out++[⟨⟨k,v,o,e,args,th,el⟩,out.length,pl⟩]) else none
noncomputable def tn(p:Program)(V:List Level):List Stmt→Level→List bS→Option (List bS)
 | [],_,out=>some out
 | x::r,pl,out=>(MB p V x pl out).bind fun o=>tn p V r pl o
end
theorem OG(p:Program)(V:List Level)(s:Stmt)(pl:Level)(out:List bS):MB p V s pl out=if out.length≤1000000∧s.Then.length≤1000∧s.Else.length≤1000 then
   if 7≤s.Kind then (atR p V pl s.Expr).bind fun q=>(tn p V s.Then q (out++[⟨s,out.length,pl⟩])).bind fun out2=>tn p V s.Else q out2
   else some (out++[⟨s,out.length,pl⟩]) else none:=by cases s;rw [MB]
section
variable (p:Program)(V F:List Level)(t1 t2:TypeId)
abbrev DL:List AV:=[.l t1 (V.map aT),.l t2 (F.map aT)]
def DM(dp:Nat)(L:List Stmt)(pl:Level)(out:List bS)(k:Nat):St:=
 ⟨[(2,.l 92 (L.map aV)),(4,.o 113 (out.map db)),(5,.p ⟨dp,5⟩ 0),(6,.p ⟨dp,6⟩ 0),(8,.p ⟨dp,8⟩ 0),(11,I k)],[(5,ar p),(6,DL V F t1 t2),(8,aN pl)],fun _=>none⟩
def La(L:List Stmt):Prop:=∀ ⦃dp:Nat⦄ ⦃pl:Level⦄ ⦃out out':List bS⦄,L.length≤1000→tn p V L pl out=some out'→
 call G Ω0 ⟨dp,false⟩ 117 [.a (ar p),.a (DL V F t1 t2),.l 92 (L.map aV),.a (aN pl),.o 113 (out.map db)] (fun _=>none)=some (.row 113 (out'.map db),fun _=>none)
def PX(st:Stmt):Prop:=∀ ⦃dp:Nat⦄ ⦃pl:Level⦄ ⦃out out':List bS⦄ ⦃L:List Stmt⦄ ⦃k:Nat⦄,L.length≤1000→L[k]? =some st→MB p V st pl out=some out'→
 run G Ω0 ⟨dp,false⟩ GC (DM p V F t1 t2 dp L pl out k)=some (.nrm,DM p V F t1 t2 dp L pl out' (k+1))
variable {p V F t1 t2}
set_option maxHeartbeats 8000000 in
theorem MC{L:List Stmt}(h:∀ st∈L,PX p V F t1 t2 st):La p V F t1 t2 L:=by
 intro dp pl out out' hL hs
 have key:∀ (rest:List Stmt)(k:Nat)(out:List bS),L.drop k=rest→tn p V rest pl out=some out'→
   ∃ z,gY G Ω0 ⟨dp,false⟩ QB (DM p V F t1 t2 dp L pl out k)=some (.ex 0,z)∧run G Ω0 ⟨dp,false⟩ (.rg [] [gp 57 (.mv (.t 4)),gp 10 (.as (.t 57))] [4,10] []) z=some (.nrm,⟨[(4,.o 113 (out'.map db)),(10,.r (.s 4))],[],fun _=>none⟩):=by
  intro rest
  induction rest with
  | nil=>
   intro k out hd hs
   have hk:¬((k:Int)<(L.length:Int)):=by
    have:=eW.1 hd;omega
   rw [tn] at hs
   obtain rfl:=aa hs
   apply Exists.intro
   apply And.intro
   ·refine di (r:=(.ex 0,?_)) ?_ (by simp)
    rotate_left
    ·show run G Ω0 _ GC (DM p V F t1 t2 dp L pl out k)=_
     apply iQ
     apply ak (by simp [DM,hk];rfl)
     apply cg (by simp [hk])
     exact dN _ _ _
   ·simp
  | cons st rest ih=>
   intro k out hd hs
   rw [tn] at hs
   obtain ⟨o1,h1,h2⟩:=ah.1 hs
   have hlt:k<L.length:=by
    have h1:=an List.length hd
    simp only [gy,bu] at h1
    omega
   have hg:L[k]? =some st:=by
    have:=an (fun l=>l[0]?) hd
    simpa using this
   have hd2:L.drop (k+1)=rest:=by
    have:=an List.tail hd
    simpa using this
   have r1:=h st (by rw [←vE k L,hd];simp) (dp:=dp) (k:=k) hL hg h1
   obtain ⟨z,q1,q2⟩:=ih (k+1) o1 hd2 h2
   refine ⟨z,?_,q2⟩
   rw [c8 (st1:=DM p V F t1 t2 dp L pl o1 (k+1))]
   ·exact q1
   ·show (run G Ω0 _ GC (DM p V F t1 t2 dp L pl out k)).bind _=_
    rw [r1];rfl
 obtain ⟨z,q1,q2⟩:=key L 0 out rfl hs
 apply fD ajv
 ·apply ak (by simp;rfl)
  apply ak
  ·apply ak (by simp;rfl)
   apply ny
   rw [eg]
   exact q1
  apply ak q2
  exact eE _ _
 ·simp [Pb,St.rowOf,St.result,St.qw,St.xF]
 ·rfl
set_option maxHeartbeats 16000000 in
theorem RT{st:Stmt}(hT:La p V F t1 t2 st.Then)(hE:La p V F t1 t2 st.Else):PX p V F t1 t2 st:=by
 intro dp pl out out' L k hL hg hs
 rw [OG] at hs
 have hlt:k<L.length:=(dh.1 hg).1
 have hk:((k:Int)<(L.length:Int)):=by omega
 have hwr:=gZ k (by omega)
 split at hs
 ·rename_i hc
  obtain ⟨c1,c2,c3⟩:=hc
  have hm:out.length+1≤maxLen:=bQ (show out.length+1≤1000001 by omega) (by decide)
  have hm2:(out.length+1)*192≤140737488355328:=by omega
  by_cases h7:7≤st.Kind
  ·rw [ab h7] at hs
   obtain ⟨q,hq,hs⟩:=ah.1 hs
   obtain ⟨o2,h2,h3⟩:=ah.1 hs
   obtain ⟨x,hx,hj⟩:=ah.1 hq
   have hX:=cw (E:=⟨dp,false⟩) (xa t1 p V st.Expr x hx) (by simp [AV.bk,AV.pure]) (by simp)
   have hJ:=cw (E:=⟨dp,false⟩) (iX pl x q hj) (by simp) (by simp)
   have e1:=hT (dp:=dp+1) c2 h2
   have e2:=hE (dp:=dp+1) c3 h3
   simp [db] at e1 e2
   apply ak
   ·apply ak (by simp [DM,hk];rfl)
    apply cX (by simp [hk])
    exact bM _ _
   apply dU
   apply ak
   ·apply eY
    apply ak (by simp [hg,ij];rfl)
    apply ak (by simp [hm,hm2];rfl)
    apply ak (by simp;rfl)
    apply cX (by simpa using h7)
    apply ak
    ·apply eZ 6
     ·rfl
     ·simp
     ·simp
      rfl
     ·simp [-aU,hX,hJ]
      rfl
     ·simp
      rfl
    apply ak (by simp [e1,db];rfl)
    simp [e2,db]
    rfl
   simp [DM,hwr,db]
  ·rw [ad h7] at hs
   obtain rfl:=aa hs
   apply ak
   ·apply ak (by simp [DM,hk];rfl)
    apply cX (by simp [hk])
    exact bM _ _
   apply dU
   apply ak
   ·apply eY
    apply ak (by simp [hg,ij];rfl)
    apply ak (by simp [hm,hm2];rfl)
    apply ak (by simp;rfl)
    apply cg (by simpa using h7)
    exact bM _ _
   simp [DM,hwr,db]
 ·cases hs
mutual
theorem WW:∀ st:Stmt,PX p V F t1 t2 st
 | ⟨_,_,_,_,_,th,el⟩=>RT (MC (Eo th)) (MC (Eo el))
 termination_by structural st=>st
theorem Eo:∀ l:List Stmt,∀ st∈l,PX p V F t1 t2 st
 | [],_,h=>absurd h (by simp)
 | a::r,st,h=>by
  have h1:=WW a
  have h2:=Eo r
  exact (cR.1 h).elim (fun e=>e▸h1) fun h=>h2 st h
 termination_by structural l=>l
end
theorem acw(L:List Stmt):La p V F t1 t2 L:=MC (Eo L)
noncomputable def qS(p:Program)(V F:List Level):List Func→Nat→List bS→Option (List bS)
 | [],_,out=>(fN p.aj).bind fun b=>if p.Main.length≤1000 then tn p V p.Main b out else none
 | f::r,i,out=>(fN p.aj).bind fun _=>(F[i]?).bind fun q=>if f.Body.length≤1000 then (tn p V f.Body q out).bind fun o=>qS p V F r (i+1) o else none
inductive PY:AV→List bS→Prop where
 | n:PY .n []
 | o (es:List bS):PY (.o 113 (es.map db)) es
def rW(p:Program)(V F:List Level)(t1 t2:TypeId)(x:AV)(k:Nat):St:=⟨[(2,.p ⟨0,2⟩ 0),(3,.p ⟨0,3⟩ 0),(5,x),(6,I k)],[(2,ar p),(3,DL V F t1 t2)],H0⟩
set_option maxHeartbeats 8000000 in
theorem MD(x:AV)(out o:List bS)(hx:PY x out)(k:Nat)(B:List Stmt)(q:Level)(hB:B.length≤1000)(h:tn p V B q out=some o) :
  run G Ω0 E0 Vl ⟨[(2,.p ⟨0,2⟩ 0),(3,.p ⟨0,3⟩ 0),(5,x),(6,I k),(7,.l 92 (B.map aV)),(8,.p ⟨0,8⟩ 0)],[(2,ar p),(3,DL V F t1 t2),(8,aN q)],H0⟩=some (.nrm,rW p V F t1 t2 (.o 113 (o.map db)) k):=by
 have e1:=acw (p:=p) (V:=V) (F:=F) (t1:=t1) (t2:=t2) B (dp:=1) hB h
 simp [db] at e1
 apply dU
 unfold Vk
 cases hx with
 | n=>
  simp at e1
  simp [e1,rW,db]
 | o=>
  simp [e1,rW,db]
set_option maxHeartbeats 8000000 in
theorem J0(hf:p.Funcs.length≤1000)(out':List bS):∀ (rest:List Func)(k:Nat)(x:AV)(out:List bS),p.Funcs.drop k=rest→k≤p.Funcs.length→PY x out→qS p V F rest k out=some out'→
  ∃ z,gY G Ω0 E0 Vm (rW p V F t1 t2 x k)=some (.ex 0,z)∧run G Ω0 E0 (.rg [] [gp 43 (.mv (.t 5)),gp 4 (.as (.t 43))] [4,5] []) z=some (.nrm,⟨[(4,.r (.s 5)),(5,.o 113 (out'.map db))],[],H0⟩)
 | [],k,x,out,hd,hkl,hx,hs=>by
  have hk:k=p.Funcs.length:=by
   have:=eW.1 hd;omega
  subst hk
  have hwr:=gZ p.Funcs.length (by omega)
  rw [qS] at hs
  obtain ⟨b,hb,hs⟩:=ah.1 hs
  split at hs
  ·rename_i hm
   have hB:=cw (E:=E0) (m7 p.aj b hb) (by simp) (by simp)
   have hC:=MD (t1:=t1) (t2:=t2) (F:=F) x out out' hx p.Funcs.length p.Main b hm hs
   have hr:run G Ω0 E0 D5 (rW p V F t1 t2 x p.Funcs.length)=some (.nrm,rW p V F t1 t2 (.o 113 (out'.map db)) (p.Funcs.length+1)):=by
    cases hx<;>(
    apply ak
    ·apply ak (by simp [rW];rfl)
     apply cX (by simp)
     exact bM _ _
    apply dU
    apply ak
    ·apply eY
     apply ak
     ·apply eZ 4
      ·rfl
      ·simp [rW]
      ·simp [rW]
       rfl
      ·simp [-aU,hB]
       rfl
      ·simp
       rfl
     apply ak
     ·apply ak (by simp;rfl)
      apply cg (by simp)
      exact bM _ _
     refine Eq.trans (K7 ?_) hC
     rfl
    simp [rW,hwr])
   have hk2:¬(((p.Funcs.length:Int)+1)≤(p.Funcs.length:Int)):=by omega
   have he:∃ z,run G Ω0 E0 D5 (rW p V F t1 t2 (.o 113 (out'.map db)) (p.Funcs.length+1))=some (.ex 0,z)∧run G Ω0 E0 (.rg [] [gp 43 (.mv (.t 5)),gp 4 (.as (.t 43))] [4,5] []) z=some (.nrm,⟨[(4,.r (.s 5)),(5,.o 113 (out'.map db))],[],H0⟩):=by
    apply Exists.intro
    apply And.intro
    ·apply iQ
     apply ak (by simp [rW];rfl)
     apply cg (by simp;omega)
     exact dN _ _ _
    ·simp
   obtain ⟨z,h1,h2⟩:=he
   refine ⟨z,?_,h2⟩
   rw [c8 (st1:=rW p V F t1 t2 (.o 113 (out'.map db)) (p.Funcs.length+1))]
   ·exact di h1 (by simp)
   ·show (run G Ω0 _ D5 (rW p V F t1 t2 x p.Funcs.length)).bind _=_
    rw [hr];rfl
  ·cases hs
 | f::rest,k,x,out,hd,hkl,hx,hs=>by
  have hlt:k<p.Funcs.length:=by
   have h1:=an List.length hd
   simp only [gy,bu] at h1
   omega
  have hg:p.Funcs[k]? =some f:=by
   have:=an (fun l=>l[0]?) hd
   simpa using this
  have hd2:p.Funcs.drop (k+1)=rest:=by
   have:=an List.tail hd
   simpa using this
  have hk1:((k:Int)≤(p.Funcs.length:Int)):=by omega
  have hk2:((k:Int)<(p.Funcs.length:Int)):=by omega
  have hwr:=gZ k (by omega)
  rw [qS] at hs
  obtain ⟨b,hb,hs⟩:=ah.1 hs
  obtain ⟨q,hq,hs⟩:=ah.1 hs
  split at hs
  ·rename_i hm
   obtain ⟨o,ho,hs⟩:=ah.1 hs
   have hB:=cw (E:=E0) (m7 p.aj b hb) (by simp) (by simp)
   have hC:=MD (t1:=t1) (t2:=t2) (F:=F) x out o hx k f.Body q hm ho
   obtain ⟨z,a1,a2⟩:=J0 hf out' rest (k+1) _ o hd2 (by omega) (.o o) hs
   refine ⟨z,?_,a2⟩
   have hr:run G Ω0 E0 D5 (rW p V F t1 t2 x k)=some (.nrm,rW p V F t1 t2 (.o 113 (o.map db)) (k+1)):=by
    cases hx<;>(
    apply ak
    ·apply ak (by simp [rW,hk1];rfl)
     apply cX (by simp [hk1])
     exact bM _ _
    apply dU
    apply ak
    ·apply eY
     apply ak
     ·apply eZ 4
      ·rfl
      ·simp [rW]
      ·simp [rW]
       rfl
      ·simp [-aU,hB]
       rfl
      ·simp
       rfl
     apply ak
     ·apply ak (by simp;rfl)
      apply cX (by simp [hlt])
      apply eZ 11
      ·rfl
      ·simp
      ·simp [hg,hq,cA,aT]
       rfl
      ·simp
       rfl
      ·simp
       rfl
     refine Eq.trans (K7 ?_) hC
     rfl
    simp [rW,hwr])
   rw [c8 (st1:=rW p V F t1 t2 (.o 113 (o.map db)) (k+1))]
   ·exact a1
   ·show (run G Ω0 _ D5 (rW p V F t1 t2 x k)).bind _=_
    rw [hr];rfl
  ·cases hs
end
noncomputable def oc(p:Program)(m:gm):Option (List bS):=if p.Funcs.length≤1000 then qS p m.Vars m.Funcs p.Funcs 0 [] else none
set_option maxHeartbeats 8000000 in
theorem FW(p:Program)(V F:List Level)(t1 t2:TypeId)(r:List bS)(h:oc p ⟨V,F⟩=some r) :
  call G Ω0 E0 57 [.a (ar p),.a (DL V F t1 t2)] H0=some (.ret (.l 113 (r.map db)),H0):=by
 unfold oc at h
 split at h
 ·rename_i hf
  obtain ⟨z,a1,a2⟩:=J0 (t1:=t1) (t2:=t2) hf r p.Funcs 0 .n [] rfl (ct _) .n h
  apply fD G57
  ·apply ak (by simp;rfl)
   apply ak (by simp;rfl)
   apply ak
   ·apply ak (by simp;rfl)
    apply ny
    rw [eg]
    exact a1
   apply ak a2
   exact eE _ _
  ·simp [Vn,db]
  ·rfl
 ·cases h
variable [Lp]
attribute [local simp] gp execOp okB jK eG jf uE lV jR iK St.end_ St.k9 consume List.filter
abbrev PZ(p:Program)(V F:List Level)(t1 t2:TypeId)(x:bS):List AV:=[.e (.a (Al x)) 0,.e (.a (ar p)) 0,.e (.a (DL V F t1 t2)) 0]
section
variable (p:Program)(V F:List Level)(t1 t2:TypeId)
set_option maxHeartbeats 8000000 in
theorem yu(x:bS)(e:az)(r:Level)(h:atR p V x.Place e=some r) :
  call G Ω0 E0 118 (.a (oP e)::PZ p V F t1 t2 x) H0=some (.ret (.a (aN r)),H0):=by
 obtain ⟨l,hl,hj⟩:=ah.1 h
 have hX:=cw (E:=E0) (xa t1 p V e l hl) (by simp) (by simp)
 have hJ:=cw (E:=E0) (iX x.Place l r hj) (by simp) (by simp)
 apply fD ajw
 ·apply ak (by simp;rfl)
  apply ak
  ·apply eZ 6
   ·rfl
   ·simp
   ·simp
    rfl
   ·simp [-aU,hX,hJ]
    rfl
   ·simp
    rfl
  exact eE _ _
 ·simp [Pc]
 ·rfl
noncomputable def vk(pl:Level)(ps:List Int):List az→Nat→List fR→Option (List fR)
 | [],_,out=>some out
 | e::r,k,out=>(atR p V pl e).bind fun l=>(ps[k]?).bind fun n=>vk pl ps r (k+1) (out++[⟨l,n⟩])
noncomputable def ME(s:Stmt)(pl:Level):Option (List fR):=
 if s.Kind=1 then (atR p V pl s.Expr).bind fun l=>some [⟨l,s.Var⟩]
 else if s.Kind=2 then (ed s.Other).bind fun j=>(p.Funcs[j]?).bind fun f=>if s.Args.length≤1000∧p.Funcs.length≤1000 then (vk p V pl f.Params s.Args 0 []).bind fun out=>(atR p V pl f.Result).bind fun l=>some (out++[⟨l,s.Var⟩,⟨pl,-1 - s.Other⟩]) else none
 else if s.Kind=3 then (ed s.Other).bind fun j=>(p.Ins[j]?).bind fun b=>(jP p.aj b).bind fun o=>(dm pl o).bind fun l=>some [⟨l,s.Var⟩]
 else if s.Kind=5 then (atR p V pl s.Expr).bind fun l=>some [⟨⟨pl.Readers,l.Writers⟩,s.Var⟩]
 else if s.Kind=6 then (atR p V pl s.Expr).bind fun l=>some [⟨⟨l.Readers,pl.Writers⟩,s.Var⟩]
 else some []
theorem EZ(pl:Level)(ps:List Int):∀ (rest:List az)(k:Nat)(o r:List fR),vk p V pl ps rest k o=some r→r.length=o.length+rest.length
 | [],k,o,r,h=>by obtain rfl:=aa h;rfl
 | e::rest,k,o,r,h=>by
  obtain ⟨l,_,h⟩:=ah.1 h
  obtain ⟨n,_,h⟩:=ah.1 h
  rw [EZ pl ps rest _ _ _ h];simp;omega
variable {p V F t1 t2}
def vm(x:bS)(f:Func)(k:Nat)(out:List fR):St:=⟨[(5,.e (.a (Al x)) 0),(7,.p ⟨0,7⟩ 0),(8,.f 118 (PZ p V F t1 t2 x)),(9,.o 115 (out.map dO)),(10,.p ⟨0,10⟩ 0),(11,I k)],[(7,bN x.S),(10,dD f)],H0⟩
set_option maxHeartbeats 8000000 in
theorem MF(x:bS)(f:Func)(hs:x.S.Args.length≤1000):∀ (rest:List az)(k:Nat)(out res:List fR),x.S.Args.drop k=rest→out.length=k→vk p V x.Place f.Params rest k out=some res→
   ∃ z,gY G Ω0 E0 Vp (vm (p:=p) (V:=V) (F:=F) (t1:=t1) (t2:=t2) x f k out)=some (.ex 1,z)∧z.aP [5,7,8,9,10] [3,4,5,7,10]=(vm (p:=p) (V:=V) (F:=F) (t1:=t1) (t2:=t2) x f k res).aP [5,7,8,9,10] [3,4,5,7,10]
 | [],k,out,res,hd,ho,h=>by
  obtain rfl:=aa h
  have hk:¬((k:Int)<(x.S.Args.length:Int)):=by
   have:=eW.1 hd;omega
  refine ⟨_,di (r:=(.ex 1,?_)) ?_ (by simp),?_⟩
  rotate_left
  ·show run G Ω0 _ KT (vm x f k out)=_
   apply iQ
   apply ak (by simp [vm,hk];rfl)
   apply cg (by simp [hk])
   exact dN _ _ _
  ·simp [vm]
 | e::rest,k,out,res,hd,ho,h=>by
  obtain ⟨l,hl,h⟩:=ah.1 h
  obtain ⟨n,hn,h⟩:=ah.1 h
  have hlt:k<x.S.Args.length:=by
   have h1:=an List.length hd
   simp only [gy,bu] at h1
   omega
  have hg:x.S.Args[k]? =some e:=by
   have:=an (fun l=>l[0]?) hd
   simpa using this
  have hd2:x.S.Args.drop (k+1)=rest:=by
   have:=an List.tail hd
   simpa using this
  have hw:=gZ k (by omega)
  have hk:((k:Int)<(x.S.Args.length:Int)):=by omega
  have hm:k+1≤maxLen:=bQ (show k+1≤1001 by omega) (by decide)
  have hb:(k+1)*56≤140737488355328:=by omega
  have hW:=cw (E:=E0) (yu p V F t1 t2 x e l hl) (by simp [AV.pure,AV.bk]) (by simp)
  have hr:run G Ω0 E0 KT (vm (p:=p) (V:=V) (F:=F) (t1:=t1) (t2:=t2) x f k out)=some (.nrm,vm (p:=p) (V:=V) (F:=F) (t1:=t1) (t2:=t2) x f (k+1) (out++[⟨l,n⟩])):=by
   apply ak
   ·apply ak (by simp [vm,hk];rfl)
    apply cX (by simp [hlt])
    exact bM _ _
   apply dU
   apply ak
   ·apply eY
    apply eZ 7
    ·rfl
    ·simp
    ·simp [hg,dI]
     rfl
    ·simp [-aU,hW,hn,ho,hm,hb]
     rfl
    ·simp
     rfl
   simp [hw,vm,dO]
  obtain ⟨z,hz,hz2⟩:=MF x f hs rest (k+1) _ res hd2 (by simp [ho]) h
  refine ⟨z,?_,?_⟩
  ·rw [c8 (st1:=vm x f (k+1) (out++[⟨l,n⟩]))]
   ·exact hz
   ·show (run G Ω0 _ KT (vm x f k out)).bind _=_
    rw [hr];rfl
  ·rw [hz2];rfl
abbrev BP(p:Program)(V F:List Level)(t1 t2:TypeId)(x:bS)(r:List fR):Prop:=call G Ω0 E0 58 [.a (ar p),.a (DL V F t1 t2),.a (Al x)] H0=some (.ret (.l 115 (r.map dO)),H0)
set_option maxHeartbeats 8000000 in
theorem ahQ(x:bS)(h1:x.S.Kind=1)(l:Level)(hl:atR p V x.Place x.S.Expr=some l):BP p V F t1 t2 x [⟨l,x.S.Var⟩]:=by
 have hW:=cw (E:=E0) (yu p V F t1 t2 x x.S.Expr l hl) (by simp [AV.pure,AV.bk]) (by simp)
 apply fD NW
 ·apply ak (by simp;rfl)
  apply ak (by simp;rfl)
  apply ak (by simp;rfl)
  apply ak (by simp;rfl)
  apply ak
  ·apply ak (by simp;rfl)
   apply eY
   apply ak (by simp;rfl)
   apply cX (by simp [h1])
   apply eZ 4
   ·rfl
   ·simp
   ·simp
    rfl
   ·simp [-aU,hW,dO]
    rfl
   ·simp
    rfl
  apply ak (by simp;rfl)
  exact eE _ _
 ·simp [GB,dO]
 ·rfl
set_option maxHeartbeats 8000000 in
theorem ahR(x:bS)(h1:¬x.S.Kind=1)(h2:x.S.Kind=2)(j:Nat)(h5:x.S.Other=j)(f:Func)(h6:p.Funcs[j]? =some f)(hs:x.S.Args.length≤1000)(hf:p.Funcs.length≤1000)(out:List fR)(h7:vk p V x.Place f.Params x.S.Args 0 []=some out)(l:Level)(h8:atR p V x.Place f.Result=some l):BP p V F t1 t2 x (out++[⟨l,x.S.Var⟩,⟨x.Place,-1 - x.S.Other⟩]):=by
 have hW:=cw (E:=E0) (yu p V F t1 t2 x f.Result l h8) (by simp [AV.pure,AV.bk]) (by simp)
 have ho:out.length=x.S.Args.length:=by simpa using EZ _ _ _ _ _ _ _ _ h7
 have hm:out.length+2≤maxLen:=bQ (show out.length+2≤1002 by omega) (by decide)
 have hb:(out.length+2)*56≤140737488355328:=by omega
 have hj:j<p.Funcs.length:=(dh.1 h6).1
 have hw:IntKind.i64.wrap (-1 - (j:Int))= -1 - (j:Int):=wrap64 (by omega) (by omega)
 obtain ⟨z,hz,hz2⟩:=MF (F:=F) (t1:=t1) (t2:=t2) x f hs x.S.Args 0 [] out rfl rfl h7
 apply fD NW
 ·apply ak (by simp;rfl)
  apply ak (by simp;rfl)
  apply ak (by simp;rfl)
  apply ak (by simp;rfl)
  apply ak
  ·apply ak (by simp;rfl)
   apply eY
   apply ak (by simp;rfl)
   apply cg (by simp [h1])
   apply ak (by simp;rfl)
   apply cX (by simp [h2])
   refine ak (st1:=⟨[(5,.e (.a (Al x)) 0),(7,.p ⟨0,7⟩ 0),(8,.f 118 (PZ p V F t1 t2 x)),(9,.o 115 []),(10,.p ⟨0,10⟩ 0)],[(7,bN x.S),(10,dD f)],H0⟩) (by simp [h5,h6,cA]) ?_
   apply ak
   ·apply ak (by simp;rfl)
    apply ny
    rw [eg]
    exact hz
   show run G Ω0 _ (.kp _ _ Vq) z=_
   rw [kN,hz2]
   apply eZ 4
   ·rfl
   ·simp [vm]
   ·simp [vm]
    rfl
   ·simp [-aU,hW,h5,hw,hm,hb,dO]
    rfl
   ·simp
    rfl
  apply ak (by simp;rfl)
  exact eE _ _
 ·simp [GB,dO,h5]
 ·rfl
set_option maxHeartbeats 8000000 in
theorem ahS(x:bS)(h1:¬x.S.Kind=1)(h2:¬x.S.Kind=2)(h3:x.S.Kind=3)(j:Nat)(hj:x.S.Other=j)(b:Label)(hb:p.Ins[j]? =some b)(o l:Level)(ho:jP p.aj b=some o)(hl:dm x.Place o=some l):BP p V F t1 t2 x [⟨l,x.S.Var⟩]:=by
 have hA:=cw (E:=E0) (rO p.aj b o ho) (by simp) (by simp)
 have hB:=cw (E:=E0) (iX x.Place o l hl) (by simp) (by simp)
 apply fD NW
 ·apply ak (by simp;rfl)
  apply ak (by simp;rfl)
  apply ak (by simp;rfl)
  apply ak (by simp;rfl)
  apply ak
  ·apply ak (by simp;rfl)
   apply eY
   apply ak (by simp;rfl)
   apply cg (by simp [h1])
   apply ak (by simp;rfl)
   apply cg (by simp [h2])
   apply ak (by simp;rfl)
   apply cX (by simp [h3])
   apply eZ 11
   ·rfl
   ·simp
   ·simp [hj,hb,ay]
    rfl
   ·simp [-aU,hA,hB,dO]
    rfl
   ·simp
    rfl
  apply ak (by simp;rfl)
  exact eE _ _
 ·simp [GB,dO]
 ·rfl
set_option maxHeartbeats 8000000 in
theorem ahT(x:bS)(h1:¬x.S.Kind=1)(h2:¬x.S.Kind=2)(h3:¬x.S.Kind=3)(h5:x.S.Kind=5)(l:Level)(hl:atR p V x.Place x.S.Expr=some l):BP p V F t1 t2 x [⟨⟨x.Place.Readers,l.Writers⟩,x.S.Var⟩]:=by
 have hW:=cw (E:=E0) (yu p V F t1 t2 x x.S.Expr l hl) (by simp [AV.pure,AV.bk]) (by simp)
 apply fD NW
 ·apply ak (by simp;rfl)
  apply ak (by simp;rfl)
  apply ak (by simp;rfl)
  apply ak (by simp;rfl)
  apply ak
  ·apply ak (by simp;rfl)
   apply eY
   apply ak (by simp;rfl)
   apply cg (by simp [h1])
   apply ak (by simp;rfl)
   apply cg (by simp [h2])
   apply ak (by simp;rfl)
   apply cg (by simp [h3])
   apply ak (by simp;rfl)
   apply cX (by simp [h5])
   apply eZ 7
   ·rfl
   ·simp
   ·simp
    rfl
   ·simp [-aU,hW,dO]
    rfl
   ·simp
    rfl
  apply ak (by simp;rfl)
  exact eE _ _
 ·simp [GB,dO]
 ·rfl
set_option maxHeartbeats 8000000 in
theorem ahU(x:bS)(h1:¬x.S.Kind=1)(h2:¬x.S.Kind=2)(h3:¬x.S.Kind=3)(h5:¬x.S.Kind=5)(h6:x.S.Kind=6)(l:Level)(hl:atR p V x.Place x.S.Expr=some l):BP p V F t1 t2 x [⟨⟨l.Readers,x.Place.Writers⟩,x.S.Var⟩]:=by
 have hW:=cw (E:=E0) (yu p V F t1 t2 x x.S.Expr l hl) (by simp [AV.pure,AV.bk]) (by simp)
 apply fD NW
 ·apply ak (by simp;rfl)
  apply ak (by simp;rfl)
  apply ak (by simp;rfl)
  apply ak (by simp;rfl)
  apply ak
  ·apply ak (by simp;rfl)
   apply eY
   apply ak (by simp;rfl)
   apply cg (by simp [h1])
   apply ak (by simp;rfl)
   apply cg (by simp [h2])
   apply ak (by simp;rfl)
   apply cg (by simp [h3])
   apply ak (by simp;rfl)
   apply cg (by simp [h5])
   apply ak (by simp;rfl)
   apply cX (by simp [h6])
   apply eZ 4
   ·rfl
   ·simp
   ·simp
    rfl
   ·simp [-aU,hW,dO]
    rfl
   ·simp
    rfl
  apply ak (by simp;rfl)
  exact eE _ _
 ·simp [GB,dO]
 ·rfl
set_option maxHeartbeats 8000000 in
theorem ahV(x:bS)(h1:¬x.S.Kind=1)(h2:¬x.S.Kind=2)(h3:¬x.S.Kind=3)(h5:¬x.S.Kind=5)(h6:¬x.S.Kind=6):BP p V F t1 t2 x []:=by
 apply fD NW
 ·apply ak (by simp;rfl)
  apply ak (by simp;rfl)
  apply ak (by simp;rfl)
  apply ak (by simp;rfl)
  apply ak
  ·apply ak (by simp;rfl)
   apply eY
   apply ak (by simp;rfl)
   apply cg (by simp [h1])
   apply ak (by simp;rfl)
   apply cg (by simp [h2])
   apply ak (by simp;rfl)
   apply cg (by simp [h3])
   apply ak (by simp;rfl)
   apply cg (by simp [h5])
   apply ak (by simp;rfl)
   apply cg (by simp [h6])
   exact bM _ _
  apply ak (by simp;rfl)
  exact eE _ _
 ·simp [GB,dO]
 ·rfl
end
noncomputable def vC(p:Program)(m:gm)(x:bS):Option (List fR):=ME p m.Vars x.S x.Place
theorem HH(p:Program)(V F:List Level)(t1 t2:TypeId)(x:bS)(r:List fR)(h:vC p ⟨V,F⟩ x=some r):BP p V F t1 t2 x r:=by
 unfold vC ME at h
 simp only at h
 by_cases h1:x.S.Kind=1
 ·rw [ab h1] at h
  obtain ⟨l,hl,h⟩:=ah.1 h
  obtain rfl:=aa h
  exact ahQ x h1 l hl
 rw [ad h1] at h
 by_cases h2:x.S.Kind=2
 ·rw [ab h2] at h
  obtain ⟨j,hj,h⟩:=ah.1 h
  obtain ⟨f,hf,h⟩:=ah.1 h
  split at h
  ·rename_i hs
   obtain ⟨out,ho,h⟩:=ah.1 h
   obtain ⟨l,hl,h⟩:=ah.1 h
   obtain rfl:=aa h
   exact ahR x h1 h2 j (pb hj) f hf hs.1 hs.2 out ho l hl
  ·cases h
 rw [ad h2] at h
 by_cases h3:x.S.Kind=3
 ·rw [ab h3] at h
  obtain ⟨j,hj,h⟩:=ah.1 h
  obtain ⟨b,hb,h⟩:=ah.1 h
  obtain ⟨o,ho,h⟩:=ah.1 h
  obtain ⟨l,hl,h⟩:=ah.1 h
  obtain rfl:=aa h
  exact ahS x h1 h2 h3 j (pb hj) b hb o l ho hl
 rw [ad h3] at h
 by_cases h5:x.S.Kind=5
 ·rw [ab h5] at h
  obtain ⟨l,hl,h⟩:=ah.1 h
  obtain rfl:=aa h
  exact ahT x h1 h2 h3 h5 l hl
 rw [ad h5] at h
 by_cases h6:x.S.Kind=6
 ·rw [ab h6] at h
  obtain ⟨l,hl,h⟩:=ah.1 h
  obtain rfl:=aa h
  exact ahU x h1 h2 h3 h5 h6 l hl
 rw [ad h6] at h
 obtain rfl:=aa h
 exact ahV x h1 h2 h3 h5 h6
end Go.Proofs.YtkkkkondjclcnaaGreat.A
