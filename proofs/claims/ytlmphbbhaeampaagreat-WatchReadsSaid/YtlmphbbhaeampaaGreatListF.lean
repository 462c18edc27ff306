/- infer.Walker's list and Go as plain functions, whatever is done at each command. -/
import Derived.Test.YtlmphbbhaeampaaGreatFlowF
set_option linter.all false
set_option maxRecDepth 100000
set_option maxHeartbeats 8000000
namespace Go.Proofs.YtlmphbbhaeampaaGreat.A
open Go
variable [Lp]
attribute [local simp] gp execOp okB gZ gj lM yg lL jF jK St.end_ St.mN List.filter
section
variable {σ:Type}(p:Program)(Vo Fo:σ→List Level)(dof:Nat→Stmt→Level→σ→Option σ)
mutual
noncomputable def Ig:Stmt→Nat→Level→σ→Option (Nat×σ)
 | ⟨k,v,o,e,args,th,el⟩,a,pl,s=>if a≤1000000∧args.length≤1000∧th.length≤1000∧el.length≤1000 then (dof a ⟨k,v,o,e,args,th,el⟩ pl s).bind fun s1=>
   if 7≤k then (oP p (Vo s1) pl e).bind fun q=>(oh th (a+1) q s1).bind fun r=>oh el r.1 q r.2 else some (a+1,s1) else none
noncomputable def oh:List Stmt→Nat→Level→σ→Option (Nat×σ)
 | [],a,_,s=>some (a,s)
 | x::r,a,pl,s=>(Ig x a pl s).bind fun y=>oh r y.1 pl y.2
end
noncomputable def CP:List Func→Nat→Nat→σ→Option (Nat×σ)
 | [],_,a,s=>some (a,s)
 | f::r,i,a,s=>if f.Body.length≤1000 then ((Fo s)[i]?).bind fun q=>(oh p Vo dof f.Body a q s).bind fun y=>CP r (i+1) y.1 y.2 else none
noncomputable def Ev(s:σ):Option (Nat×σ):=
 if p.Funcs.length≤1000∧p.Main.length≤1000 then (CP p Vo Fo dof p.Funcs 0 0 s).bind fun y=>(fk p.an).bind fun q=>oh p Vo dof p.Main y.1 q y.2 else none
end
theorem Nd{σ:Type}(p:Program)(Vo:σ→List Level)(dof:Nat→Stmt→Level→σ→Option σ)(x:Stmt)(a:Nat)(pl:Level)(s:σ):Ig p Vo dof x a pl s=
  if a≤1000000∧x.Args.length≤1000∧x.Then.length≤1000∧x.Else.length≤1000 then (dof a x pl s).bind fun s1=>
   if 7≤x.Kind then (oP p (Vo s1) pl x.Expr).bind fun q=>(oh p Vo dof x.Then (a+1) q s1).bind fun r=>oh p Vo dof x.Else r.1 q r.2 else some (a+1,s1) else none:=by
 cases x;rw [Ig]
def SM(fid:FuncId):FuncId:=if fid<1000000 then fid else fid - 1000000
def Ih(fid:FuncId)(c args:List AV):List AV:=if fid<1000000 then args++c else c++args
structure wO{σ:Type}(p:Program)(Vo Fo:σ→List Level)(dof:Nat→Stmt→Level→σ→Option σ)(kw:Key)(x y:AV)(fid:FuncId)(c:List AV)(Rep:Nat→σ→HP→Prop):Prop where
 kw0:kw.dp=0
 jE:c.all AV.jJ=false
 copy:AV.nj c=true
 copy':c.all AV.copy=true
 box:∀ {a s H},Rep a s H→∃ tl,H kw=some (og p x y (.f fid c) a tl)
 vx:∀ {a s H},Rep a s H→BN H x (Vo s)
 fy:∀ {a s H},Rep a s H→BN H y (Fo s)
 ext:∀ {a s H H'},Rep a s H→(∀ k:Key,k.dp=0→H' k=H k)→Rep a s H'
 bump:∀ {a a' s H H' tl},Rep a s H→(∀ k:Key,k≠kw→k.dp=0→H' k=H k)→H kw=some (og p x y (.f fid c) a tl)→H' kw=some (og p x y (.f fid c) ((a':Nat):Int) tl)→Rep a' s H'
 call:∀ {a st pl s s' dp H},dof a st pl s=some s'→st.Args.length≤1000→0<dp→aT dp H→Rep a s H→∃ H',call G Ω0 ⟨dp,false⟩ (SM fid) (Ih fid c [I (a:Nat),.a (ar st),.a (bG pl)]) H=some (.ret (.tp []),H')∧Rep a s' H'∧∀ k:Key,k.dp≠0→H' k=H k
variable {σ:Type}{p:Program}{Vo Fo:σ→List Level}{dof:Nat→Stmt→Level→σ→Option σ}{kw:Key}{x y:AV}{fid:FuncId}{c:List AV}{Rep:Nat→σ→HP→Prop}
def sG(dp:Nat)(kw:Key)(L:List Stmt)(pl:Level)(k:Nat)(H:HP):St:=⟨[(0,.p kw 0),(5,.p ⟨dp,5⟩ 0),(9,.l 111 (L.map bK)),(10,I L.length),(11,I k)],[(5,bG pl)],H⟩
def Ew(p:Program)(Vo:σ→List Level)(dof:Nat→Stmt→Level→σ→Option σ)(kw:Key)(Rep:Nat→σ→HP→Prop)(L:List Stmt):Prop:=∀ ⦃dp a pl s a' s' H⦄,0<dp→L.length≤1000→aT dp H→Rep a s H→oh p Vo dof L a pl s=some (a',s')→
 ∃ H',call G Ω0 ⟨dp,false⟩ 179 [.p kw 0,.l 111 (L.map bK),.a (bG pl)] H=some (.ret (.tp []),H')∧Rep a' s' H'∧aT dp H'∧∀ k:Key,k.dp≠0→H' k=H k
def E6(p:Program)(Vo:σ→List Level)(dof:Nat→Stmt→Level→σ→Option σ)(kw:Key)(Rep:Nat→σ→HP→Prop)(st:Stmt):Prop:=∀ ⦃dp a pl s a' s' H⦄ ⦃L:List Stmt⦄ ⦃k:Nat⦄,0<dp→L.length≤1000→L[k]? =some st→aT dp H→Rep a s H→Ig p Vo dof st a pl s=some (a',s')→
 ∃ H',run G Ω0 ⟨dp,false⟩ DL (sG dp kw L pl k H)=some (.nrm,sG dp kw L pl (k+1) H')∧Rep a' s' H'∧aT dp H'∧∀ k:Key,k.dp≠0→H' k=H k
theorem Jr{L:List Stmt}(h:∀ st∈L,E6 p Vo dof kw Rep st)(hw:kw.dp=0):Ew p Vo dof kw Rep L:=by
 intro dp a pl s a' s' H h0 hL g hr hs
 have key:∀ (rest:List Stmt)(k:Nat)(a:Nat)(s:σ)(H:HP),L.drop k=rest→k≤L.length→aT dp H→Rep a s H→oh p Vo dof rest a pl s=some (a',s')→
   ∃ H' z,rW G Ω0 ⟨dp,false⟩ Ri (sG dp kw L pl k H)=some (.ex 0,z)∧z.hp=H'∧Rep a' s' H'∧aT dp H'∧∀ k:Key,k.dp≠0→H' k=H k:=by
  intro rest
  induction rest with
  | nil=>
   intro k a s H hd hk g hr hs
   have hk:¬((k:Int)<(L.length:Int)):=by
    have:=sR.1 hd;omega
   rw [oh] at hs
   obtain ⟨rfl,rfl⟩:=dM (ah hs)
   refine ⟨H,_,nY (r:=(.ex 0,?_)) ?_ (by simp),?_,hr,g,fun _ _=>rfl⟩
   rotate_left
   ·show run G Ω0 _ DL (sG dp kw L pl k H)=_
    apply aN (by simp [sG,hk];rfl)
    apply tT
    apply gv (by simp [hk])
    exact mw _ _ _
   ·rfl
  | cons st rest ih=>
   intro k a s H hd hk g hr hs
   rw [oh] at hs
   obtain ⟨⟨a1,s1⟩,h1,h2⟩:=aj.1 hs
   have j:k<L.length:=by
    have h1:=av List.length hd
    simp only [zG,eM] at h1
    omega
   have hg:L[k]? =some st:=by
    have:=av (fun l=>l[0]?) hd
    simpa using this
   have S:L.drop (k+1)=rest:=by
    have:=av List.tail hd
    simpa using this
   obtain ⟨H1,r1,r2,r3,r4⟩:=h st (by rw [←DB k L,hd];simp) h0 hL hg g hr h1
   obtain ⟨H',z,q1,q2,q3,q4,q5⟩:=ih (k+1) a1 s1 H1 S (by omega) r3 r2 h2
   refine ⟨H',z,?_,q2,q3,q4,fun k hk=>(q5 k hk).trans (r4 k hk)⟩
   rw [nr]
   exact q1
   show (run G Ω0 _ DL (sG dp kw L pl k H)).bind _=_
   rw [r1];rfl
 obtain ⟨H',z,q1,q2,q3,q4,q5⟩:=key L 0 a s H rfl (dy _) g hr hs
 refine ⟨H',?_,q3,q4,q5⟩
 have e2:∀ d,¬kw=⟨dp,d⟩:=fun d=>aM (by omega)
 apply Ml ahp
 ·apply aN (by simp [e2];rfl)
  apply aN (by simp;rfl)
  apply Cp
  rw [mg]
  exact q1
 ·rfl
 ·exact q2
def rP(dp:Nat)(kw:Key)(L:List Stmt)(pl:Level)(st:Stmt)(k:Nat)(H:HP):St:=⟨[(0,.p kw 0),(5,.p ⟨dp,5⟩ 0),(7,.p ⟨dp,7⟩ 0),(9,.l 111 (L.map bK)),(10,I L.length),(11,I k)],[(5,bG pl),(7,ar st)],H⟩
def SN(dp:Nat)(kw:Key)(L:List Stmt)(pl:Level)(st:Stmt)(k:Nat)(q:Level)(H:HP):St:=⟨[(0,.p kw 0),(5,.p ⟨dp,5⟩ 0),(7,.p ⟨dp,7⟩ 0),(8,.p ⟨dp,8⟩ 0),(9,.l 111 (L.map bK)),(10,I L.length),(11,I k)],[(5,bG pl),(7,ar st),(8,bG q)],H⟩
variable {H:HP}
theorem SO{x:AV}{ls:List Level}(h:BN H x ls):(∃ t es,x= .l t es)∨∃ k n,x= .sp k 0 n 2∧k.dp=0:=by
 cases h with
 | l t=>exact .inl ⟨_,_,rfl⟩
 | sp k _ h hk=>exact .inr ⟨_,_,rfl,by rcases hk with rfl | rfl<;>rfl⟩
theorem UA(W:wO p Vo Fo dof kw x y fid c Rep){st:Stmt}(hT:Ew p Vo dof kw Rep st.Then)(hE:Ew p Vo dof kw Rep st.Else):E6 p Vo dof kw Rep st:=by
 intro dp a pl s a' s' H L k h0 hL hg g hr hs
 rw [Nd] at hs
 have j:k<L.length:=(j8.1 hg).1
 have hk:((k:Int)<(L.length:Int)):=by omega
 have K:=yx k (by omega)
 obtain ⟨ha,ac,aa,Z,hs⟩:(a≤1000000∧st.Args.length≤1000∧st.Then.length≤1000∧st.Else.length≤1000∧_):=by
  split at hs
  ·rename_i h;exact ⟨h.1,h.2.1,h.2.2.1,h.2.2.2,hs⟩
  ·cases hs
 obtain ⟨s1,hd,hs⟩:=aj.1 hs
 have N:=W.kw0
 have e1:¬kw.dp=dp:=by omega
 have e2:∀ d,¬kw=⟨dp,d⟩:=fun d=>aM (by omega)
 have e3:kw.dp≤dp:=by omega
 have e4:kw.dp<dp:=by omega
 obtain ⟨tl,m⟩:=W.box hr
 have hx:=W.vx hr
 have O:=W.jE
 have U:=W.copy
 have w:=W.copy'
 obtain ⟨H1,c1,c2,c3⟩:=W.call (dp:=dp+1) (H:=fun k=>if k.dp=dp then (if 5=k.d then some (bG pl) else if 7=k.d then some (ar st) else none) else H k) hd ac (by omega) (fun q hq=>by
  simp only [ab (show ¬q.dp=dp by omega)];exact g q (by omega)) (W.ext hr fun q hq=>by simp only [ab (show ¬q.dp=dp by omega)])
 have Q:H1 ⟨dp,5⟩=some (bG pl):=by rw [c3 _ (show ¬dp=0 by omega)];simp
 have P:H1 ⟨dp,7⟩=some (ar st):=by rw [c3 _ (show ¬dp=0 by omega)];simp
 have D:=yx a (by omega)
 have ag:∀ H2:HP,H2=(fun k=>if k.dp<dp then H1 k else none)→Rep a s1 H2∧aT dp H2∧∀ k:Key,k.dp≠0→H2 k=H k:=by
  rintro H2 rfl
  refine ⟨W.ext c2 fun q hq=>by simp only [af (show q.dp<dp by omega)],fun q hq=>by simp only [ab hq],fun q hq=>?_⟩
  by_cases j:q.dp<dp
  ·simp only [af j]
   rw [c3 q hq]
   simp only [ab (show ¬q.dp=dp by omega)]
  ·simp only [ab j]
   rw [g q j]
 obtain ⟨H2,aP⟩:∃ H2:HP,H2=(fun k=>if k.dp<dp then H1 k else none):=⟨_,rfl⟩
 obtain ⟨r2,l2,m2⟩:=ag H2 aP
 obtain ⟨tl2,u⟩:=W.box r2
 obtain ⟨H3,J⟩:∃ H3:HP,H3=aq H2 kw (og p x y (.f fid c) ((a+1:Nat):Int) tl2):=⟨_,rfl⟩
 have r3:Rep (a+1) s1 H3:=by
  subst J
  exact W.bump r2 (fun q hq _=>om hq) u (a7 ..)
 have l3:aT dp H3:=by subst J;exact ak e4 l2
 have m3:∀ k:Key,k.dp≠0→H3 k=H k:=fun q hq=>by subst J;rw [om (fun e=>hq (by rw [e];exact N))];exact m2 q hq
 have key:∃ H',run G Ω0 ⟨dp,false⟩ DL (sG dp kw L pl k H)=some (.nrm,sG dp kw L pl (k+1) H')∧Rep a' s' H'∧aT dp H'∧∀ k:Key,k.dp≠0→H' k=H k:=by
  by_cases h7:7≤st.Kind
  ·rw [af h7] at hs
   obtain ⟨q,hq,hs⟩:=aj.1 hs
   obtain ⟨⟨a4,s4⟩,Y,hs⟩:=aj.1 hs
   obtain ⟨l,hl,hb⟩:=aj.1 hq
   have hB:=mi (E:=⟨dp,false⟩) (ie pl l q hb) (by simp) (by simp)
   have T:=W.vx r3
   have V:∀ st1:St,st1.hp=H3→dj (call G Ω0) Ω0 ⟨dp,false⟩ st1 0 177 [.a (aD p),x,.a (rO st.Expr)]=some (.a (bG l),st1):=fun st1 hs=>Nb (E:=⟨dp,false⟩) (by show dp≠0;omega) (by rw [hs];exact T) hl
   obtain ⟨tl3,B⟩:=W.box r3
   have step:∀ (M:List Stmt)(a5:Nat)(s5:σ)(a6:Nat)(s6:σ)(H5:HP)(bx:Nat→Option (List AV)),Ew p Vo dof kw Rep M→M.length≤1000→oh p Vo dof M a5 q s5=some (a6,s6)→Rep a5 s5 H5→aT dp H5→
     ∃ H6 H7,call G Ω0 ⟨dp+1,false⟩ 179 [.p kw 0,.l 111 (M.map bK),.a (bG q)] (fun k=>if k.dp=dp then bx k.d else H5 k)=some (.ret (.tp []),H7)∧H6=(fun k=>if k.dp<dp then H7 k else none)∧(∀ d,H7 ⟨dp,d⟩=bx d)∧Rep a6 s6 H6∧aT dp H6∧∀ k:Key,k.dp≠0→H6 k=H5 k:=by
    intro M a5 s5 a6 s6 H5 bx hM ai X r5 l5
    obtain ⟨H7,i1,i2,i3,i4⟩:=hM (dp:=dp+1) (H:=fun k=>if k.dp=dp then bx k.d else H5 k) (by omega) ai (fun q hq=>by
     simp only [ab (show ¬q.dp=dp by omega)];exact l5 q (by omega)) (W.ext r5 fun q hq=>by simp only [ab (show ¬q.dp=dp by omega)]) X
    refine ⟨_,H7,i1,rfl,fun d=>?_,W.ext i2 fun q hq=>by simp only [af (show q.dp<dp by omega)],fun q hq=>by simp only [ab hq],fun q hq=>?_⟩
    ·rw [i4 _ (show ¬dp=0 by omega)];simp
    ·by_cases j:q.dp<dp
     ·simp only [af j]
      rw [i4 q hq]
      simp only [ab (show ¬q.dp=dp by omega)]
     ·simp only [ab j]
      rw [l5 q j]
   obtain ⟨H4,G4,g1,g2,g3,r4,l4,m4⟩:=step st.Then (a+1) s1 a4 s4 H3 (fun d=>if 5=d then some (bG pl) else if 7=d then some (ar st) else if 8=d then some (bG q) else none) hT aa Y r3 l3
   obtain ⟨H5,G5,g4,g5,g6,r5,l5,m5⟩:=step st.Else a4 s4 a' s' H4 (fun d=>if 5=d then some (bG pl) else if 7=d then some (ar st) else if 8=d then some (bG q) else none) hE Z hs r4 l4
   have b5:=g3 5
   have b7:=g3 7
   have b8:=g3 8
   have d5:=g6 5
   have d7:=g6 7
   have d8:=g6 8
   simp at b5 b7 b8 d5 d7 d8
   refine ⟨H5,?_,r5,l5,fun k hk=>(m5 k hk).trans ((m4 k hk).trans (m3 k hk))⟩
   apply aN (by simp [sG,hk];rfl)
   apply aN
   ·apply jH (by simp [hk])
    exact eo _ _
   apply pW
   apply aN
   ·apply tU
    apply aN (by simp [hg,mA,e2];rfl)
    refine aN (st1:=rP dp kw L pl st k H2) ?_ ?_
    ·apply Cq 10
     ·rfl
     ·simp
     ·simp [e1,m,U]
      rfl
     ·by_cases hf:fid<1000000
      ·simp only [SM,Ih,af hf,eZ,eN] at c1
       simp [hf,dz,O,w,c1,AV.jJ,St.back,Q,P,fi,e3]
       rfl
      ·simp only [SM,Ih,ab hf] at c1
       simp [hf,dz,O,w,c1,AV.jJ,St.back,Q,P,fi,e3]
     ·subst aP
      simp [rP]
    refine aN (st1:=rP dp kw L pl st k H3) ?_ ?_
    ·subst J
     simp [rP,e1,e2,u,D]
    apply aN (by simp [rP];rfl)
    apply jH (by simpa using h7)
    refine aN (st1:=SN dp kw L pl st k q H3) ?_ ?_
    ·apply Cq 10 (s1:=⟨[(45,x),(44,.p kw 8),(43,.p kw 8),(42,.p kw 0),(41,.p kw 0),(40,.a (aD p)),(39,.p kw 0),(38,.p kw 0),(37,.p kw 0),(36,.a (bG pl)),(0,.p kw 0),(5,.p ⟨dp,5⟩ 0),(7,.p ⟨dp,7⟩ 0),(9,.l 111 (L.map bK)),(10,I L.length),(11,I k),(35,.b (decide (7≤st.Kind)))],[(5,bG pl),(7,ar st)],H3⟩)
     ·rfl
     ·simp [rP,e2]
     ·clear V
      rcases SO T with ⟨t,es,rfl⟩ | ⟨k8,n8,rfl,al⟩
      ·simp [rP,e1,e2,B]
      ·have e8:∀ d,¬k8=⟨dp,d⟩:=fun d=>aM (by omega)
       simp [rP,e1,e2,B,e8]
     ·simp [-dj,V,hB,e2]
      rfl
     ·simp [SN]
    refine aN (st1:=SN dp kw L pl st k q H4) ?_ ?_
    ·subst g2
     simp [SN,dz,AV.jJ,g1,St.back,b5,b7,b8,fi,e3]
    simp [SN,dz,AV.jJ,g4,St.back,d5,d7,d8,fi,e3]
    rfl
   simp [sG,K,g5]
  ·rw [ab h7] at hs
   obtain ⟨rfl,rfl⟩:=dM (ah hs)
   refine ⟨H3,?_,r3,l3,m3⟩
   apply aN (by simp [sG,hk];rfl)
   apply aN
   ·apply jH (by simp [hk])
    exact eo _ _
   apply pW
   apply aN
   ·apply tU
    apply aN (by simp [hg,mA,e2];rfl)
    refine aN (st1:=rP dp kw L pl st k H2) ?_ ?_
    ·apply Cq 10
     ·rfl
     ·simp
     ·simp [e1,m,U]
      rfl
     ·by_cases hf:fid<1000000
      ·simp only [SM,Ih,af hf,eZ,eN] at c1
       simp [hf,dz,O,w,c1,AV.jJ,St.back,Q,P,fi,e3]
       rfl
      ·simp only [SM,Ih,ab hf] at c1
       simp [hf,dz,O,w,c1,AV.jJ,St.back,Q,P,fi,e3]
     ·subst aP
      simp [rP]
    refine aN (st1:=rP dp kw L pl st k H3) ?_ ?_
    ·subst J
     simp [rP,e1,e2,u,D]
    apply aN (by simp [rP];rfl)
    apply gv (by simpa using h7)
    exact eo _ _
   simp [sG,K]
 exact key
mutual
theorem SP(W:wO p Vo Fo dof kw x y fid c Rep):∀ st:Stmt,E6 p Vo dof kw Rep st
 | ⟨_,_,_,_,_,th,el⟩=>UA W (Jr (E7 W th) W.kw0) (Jr (E7 W el) W.kw0)
 termination_by structural st=>st
theorem E7(W:wO p Vo Fo dof kw x y fid c Rep):∀ l:List Stmt,∀ st∈l,E6 p Vo dof kw Rep st
 | [],_,h=>absurd h (by simp)
 | a::r,st,h=>by
  have h1:=SP W a
  have h2:=E7 W r
  exact (dh.1 h).elim (fun e=>e▸h1) fun h=>h2 st h
 termination_by structural l=>l
end
theorem Po(W:wO p Vo Fo dof kw x y fid c Rep)(L:List Stmt):Ew p Vo dof kw Rep L:=Jr (E7 W L) W.kw0
def Ku(kw:Key)(L:List Func)(k:Nat)(H:HP):St:=⟨[(0,.p kw 0),(11,.l 91 (L.map cQ)),(12,I L.length),(13,I k)],[],H⟩
variable {dp a a':Nat}
theorem UB(W:wO p Vo Fo dof kw x y fid c Rep){k:Nat}{s s':σ}{f:Func}{q:Level}(h0:0<dp)(hL:p.Funcs.length≤1000)(hg:p.Funcs[k]? =some f)(hb:f.Body.length≤1000)(hq:(Fo s)[k]? =some q)(g:aT dp H)(hr:Rep a s H)(hs:oh p Vo dof f.Body a q s=some (a',s')):∃ H',run G Ω0 ⟨dp,false⟩ G3 (Ku kw p.Funcs k H)=some (.nrm,Ku kw p.Funcs (k+1) H')∧Rep a' s' H'∧aT dp H'∧∀ k:Key,k.dp≠0→H' k=H k:=by
 have j:k<p.Funcs.length:=(j8.1 hg).1
 have hk:((k:Int)<(p.Funcs.length:Int)):=by omega
 have K:=yx k (by omega)
 have N:=W.kw0
 have e1:¬kw.dp=dp:=by omega
 have e2:∀ d,¬kw=⟨dp,d⟩:=fun d=>aM (by omega)
 have e3:kw.dp≤dp:=by omega
 obtain ⟨tl,m⟩:=W.box hr
 obtain ⟨H1,c1,c2,c3,c4⟩:=Po W f.Body (dp:=dp+1) (H:=fun k=>if k.dp=dp then (if 3=k.d then some (dB f) else none) else H k) (by omega) hb (fun q hq=>by
  simp only [ab (show ¬q.dp=dp by omega)];exact g q (by omega)) (W.ext hr fun q hq=>by simp only [ab (show ¬q.dp=dp by omega)]) hs
 have b3:H1 ⟨dp,3⟩=some (dB f):=by rw [c4 _ (show ¬dp=0 by omega)];simp
 obtain ⟨H2,aP⟩:∃ H2:HP,H2=(fun k=>if k.dp<dp then H1 k else none):=⟨_,rfl⟩
 refine ⟨H2,?_,by subst aP;exact W.ext c2 fun q hq=>by simp only [af (show q.dp<dp by omega)],by subst aP;exact fun q hq=>by simp only [ab hq],fun q hq=>?_⟩
 rotate_left
 ·subst aP
  by_cases j:q.dp<dp
  ·simp only [af j]
   rw [c4 q hq]
   simp only [ab (show ¬q.dp=dp by omega)]
  ·simp only [ab j]
   rw [g q j]
 apply aN (by simp [Ku,hk];rfl)
 apply aN
 ·apply jH (by simp [hk])
  exact eo _ _
 apply pW
 apply aN
 ·apply tU
  apply aN (by simp [hg,cQ,e2];rfl)
  have hy:=W.fy hr
  refine (?_:run G Ω0 _ _ _=some (.nrm,⟨[(0,.p kw 0),(11,.l 91 (p.Funcs.map cQ)),(12,I p.Funcs.length),(13,I k)],[],fun k=>if k.dp<dp then H1 k else none⟩))
  generalize am:Fo s=fo at hy hq
  cases hy with
  | l t _=>
   apply Cq 9
   ·rfl
   ·simp
   ·simp [e1,m,hq,aF]
    rfl
   ·simp [hq,aF,dz,AV.jJ,c1,St.back,b3,fi,e3]
    rfl
   ·simp
  | sp ky _ ad ae=>
   have ek:ky.dp=0:=by rcases ae with rfl | rfl<;>rfl
   have e4:¬ky.dp=dp:=by omega
   obtain ⟨f1,f2⟩:=Eu hq
   have f3:k<fo.length:=(j8.1 hq).1
   apply Cq 9
   ·rfl
   ·simp
   ·simp [e1,m]
    rfl
   ·simp [e4,ad,f1,f2,f3,dz,AV.jJ,c1,St.back,b3,fi,e3]
    rfl
   ·simp
 simp [Ku,K,aP]
theorem Kv(W:wO p Vo Fo dof kw x y fid c Rep){dp a':Nat}{s':σ}(h0:0<dp)(hL:p.Funcs.length≤1000):∀ (rest:List Func)(k a:Nat)(s:σ)(H:HP),p.Funcs.drop k=rest→aT dp H→Rep a s H→CP p Vo Fo dof rest k a s=some (a',s')→
  ∃ H' z,rW G Ω0 ⟨dp,false⟩ QX (Ku kw p.Funcs k H)=some (.ex 0,z)∧z.bB [0] [0]=⟨[(0,.p kw 0)],[],H'⟩∧Rep a' s' H'∧aT dp H'∧∀ k:Key,k.dp≠0→H' k=H k
 | [],k,a,s,H,hd,g,hr,hs=>by
  have hk:¬((k:Int)<(p.Funcs.length:Int)):=by
   have:=sR.1 hd;omega
  rw [CP] at hs
  obtain ⟨rfl,rfl⟩:=dM (ah hs)
  refine ⟨H,_,nY (r:=(.ex 0,?_)) ?_ (by simp),?_,hr,g,fun _ _=>rfl⟩
  rotate_left
  ·show run G Ω0 _ G3 (Ku kw p.Funcs k H)=_
   apply aN (by simp [Ku,hk];rfl)
   apply tT
   apply gv (by simp [hk])
   exact mw _ _ _
  ·simp
 | f::rest,k,a,s,H,hd,g,hr,hs=>by
  rw [CP] at hs
  split at hs
  ·rename_i hb
   obtain ⟨q,hq,hs⟩:=aj.1 hs
   obtain ⟨⟨a1,s1⟩,h1,h2⟩:=aj.1 hs
   have hg:p.Funcs[k]? =some f:=by
    have:=av (fun l=>l[0]?) hd
    simpa using this
   have S:p.Funcs.drop (k+1)=rest:=by
    have:=av List.tail hd
    simpa using this
   obtain ⟨H1,r1,r2,r3,r4⟩:=UB W h0 hL hg hb hq g hr h1
   obtain ⟨H',z,q1,q2,q3,q4,q5⟩:=Kv W h0 hL rest (k+1) a1 s1 H1 S r3 r2 h2
   refine ⟨H',z,?_,q2,q3,q4,fun k hk=>(q5 k hk).trans (r4 k hk)⟩
   rw [nr]
   exact q1
   show (run G Ω0 _ G3 (Ku kw p.Funcs k H)).bind _=_
   rw [r1];rfl
  ·cases hs
theorem E8(W:wO p Vo Fo dof kw x y fid c Rep){s s':σ}(h0:0<dp)(g:aT dp H)(hr:Rep a s H)(hs:Ev p Vo Fo dof s=some (a',s')):
  ∃ H',call G Ω0 ⟨dp,false⟩ 129 [.p kw 0] H=some (.ret (.tp []),H')∧Rep a' s' H'∧aT dp H'∧∀ k:Key,k.dp≠0→H' k=H k:=by
 have N:=W.kw0
 have e1:¬kw.dp=dp:=by omega
 have e2:∀ d,¬kw=⟨dp,d⟩:=fun d=>aM (by omega)
 have e3:kw.dp≤dp:=by omega
 obtain ⟨tl,m⟩:=W.box hr
 unfold Ev at hs
 split at hs
 ·rename_i hb
  obtain ⟨⟨a1,s1⟩,h1,hs⟩:=aj.1 hs
  obtain ⟨q,hq,h2⟩:=aj.1 hs
  obtain ⟨H0,R⟩:∃ H0:HP,H0=aq H kw (og p x y (.f fid c) ((0:Nat):Int) tl):=⟨_,rfl⟩
  have r0:Rep 0 s H0:=by subst R;exact W.bump hr (fun q hq _=>om hq) m (a7 ..)
  have l0:aT dp H0:=by subst R;exact ak (by omega) g
  have m0:∀ k:Key,k.dp≠0→H0 k=H k:=fun q hq=>by subst R;rw [om (fun e=>hq (by rw [e];exact N))]
  obtain ⟨H1,z,i1,i2,r1,l1,m1⟩:=Kv W h0 hb.1 p.Funcs 0 0 s H0 rfl l0 r0 h1
  obtain ⟨tl0,F⟩:=W.box r0
  obtain ⟨tl1,C⟩:=W.box r1
  have hB:=mi (E:=⟨dp,false⟩) (jy p.an q hq) (by simp) (by simp)
  obtain ⟨H2,c1,c2,c3,c4⟩:=Po W p.Main (dp:=dp+1) (H:=fun k=>if k.dp=dp then none else H1 k) (by omega) hb.2 (fun q hq=>by
   simp only [ab (show ¬q.dp=dp by omega)];exact l1 q (by omega)) (W.ext r1 fun q hq=>by simp only [ab (show ¬q.dp=dp by omega)]) h2
  refine ⟨fun k=>if k.dp<dp then H2 k else none,?_,W.ext c2 fun q hq=>by simp only [af (show q.dp<dp by omega)],fun q hq=>by simp only [ab hq],fun q hq=>?_⟩
  rotate_left
  ·by_cases j:q.dp<dp
   ·simp only [af j]
    rw [c4 q hq]
    simp only [ab (show ¬q.dp=dp by omega)]
    rw [m1 q hq,m0 q hq]
   ·simp only [ab j]
    rw [g q j]
  apply Ml agU
  ·refine aN (st1:=⟨[(0,.p kw 0)],[],H0⟩) (by subst R;simp [m,e1,e3]) ?_
   apply aN
   ·apply aN (by simp [e1,F];rfl)
    apply Cp
    rw [mg]
    exact i1
   show run G Ω0 _ (.kp _ _ QY) z=_
   rw [kC,i2]
   apply Cq 9
   ·rfl
   ·simp
   ·simp [e1,C]
    rfl
   ·simp [-dj,e1,C,hB,dz,AV.jJ,c1,St.back,fi,e3]
    rfl
   ·simp
    rfl
  ·rfl
  ·rfl
 ·cases hs
end Go.Proofs.YtlmphbbhaeampaaGreat.A
