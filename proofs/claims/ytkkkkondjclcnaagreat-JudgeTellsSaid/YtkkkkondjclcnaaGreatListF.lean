/- infer.Walker's list and Go as plain functions, whatever is done at each command. -/
import Derived.Test.YtkkkkondjclcnaaGreatFlowF
set_option linter.all false
set_option maxRecDepth 100000
set_option maxHeartbeats 8000000
namespace Go.Proofs.YtkkkkondjclcnaaGreat.A
open Go
variable [Lp]
attribute [local simp] gp execOp okB gv df fT pJ iZ ir ft St.end_ St.fU List.filter
section
variable {σ:Type}(p:Program)(Vo Fo:σ→List Level)(dof:Nat→Stmt→Level→σ→Option σ)
mutual
noncomputable def Ha:Stmt→Nat→Level→σ→Option (Nat×σ)
 | ⟨k,v,o,e,args,th,el⟩,a,pl,s=>if a≤1000000∧args.length≤1000∧th.length≤1000∧el.length≤1000 then (dof a ⟨k,v,o,e,args,th,el⟩ pl s).bind fun s1=>
   if 7≤k then (pB p (Vo s1) pl e).bind fun q=>(ml th (a+1) q s1).bind fun r=>ml el r.1 q r.2 else some (a+1,s1) else none
noncomputable def ml:List Stmt→Nat→Level→σ→Option (Nat×σ)
 | [],a,_,s=>some (a,s)
 | x::r,a,pl,s=>(Ha x a pl s).bind fun y=>ml r y.1 pl y.2
end
noncomputable def Ac:List Func→Nat→Nat→σ→Option (Nat×σ)
 | [],_,a,s=>some (a,s)
 | f::r,i,a,s=>if f.Body.length≤1000 then ((Fo s)[i]?).bind fun q=>(ml p Vo dof f.Body a q s).bind fun y=>Ac r (i+1) y.1 y.2 else none
noncomputable def A5(s:σ):Option (Nat×σ):=
 if p.Funcs.length≤1000∧p.Main.length≤1000 then (Ac p Vo Fo dof p.Funcs 0 0 s).bind fun y=>(ju p.ak).bind fun q=>ml p Vo dof p.Main y.1 q y.2 else none
end
theorem IK{σ:Type}(p:Program)(Vo:σ→List Level)(dof:Nat→Stmt→Level→σ→Option σ)(x:Stmt)(a:Nat)(pl:Level)(s:σ):Ha p Vo dof x a pl s=
  if a≤1000000∧x.Args.length≤1000∧x.Then.length≤1000∧x.Else.length≤1000 then (dof a x pl s).bind fun s1=>
   if 7≤x.Kind then (pB p (Vo s1) pl x.Expr).bind fun q=>(ml p Vo dof x.Then (a+1) q s1).bind fun r=>ml p Vo dof x.Else r.1 q r.2 else some (a+1,s1) else none:=by
 cases x;rw [Ha]
def RN(fid:FuncId):FuncId:=if fid<1000000 then fid else fid - 1000000
def Hb(fid:FuncId)(c args:List AV):List AV:=if fid<1000000 then args++c else c++args
structure wA{σ:Type}(p:Program)(Vo Fo:σ→List Level)(dof:Nat→Stmt→Level→σ→Option σ)(kw:Key)(x y:AV)(fid:FuncId)(c:List AV)(Rep:Nat→σ→HP→Prop):Prop where
 kw0:kw.dp=0
 jl:c.all AV.cL=false
 copy:AV.nW c=true
 copy':c.all AV.copy=true
 box:∀ {a s H},Rep a s H→∃ tl,H kw=some (cK p x y (.f fid c) a tl)
 vx:∀ {a s H},Rep a s H→Dz H x (Vo s)
 fy:∀ {a s H},Rep a s H→Dz H y (Fo s)
 ext:∀ {a s H H'},Rep a s H→(∀ k:Key,k.dp=0→H' k=H k)→Rep a s H'
 bump:∀ {a a' s H H' tl},Rep a s H→(∀ k:Key,k≠kw→k.dp=0→H' k=H k)→H kw=some (cK p x y (.f fid c) a tl)→H' kw=some (cK p x y (.f fid c) ((a':Nat):Int) tl)→Rep a' s H'
 call:∀ {a st pl s s' dp H},dof a st pl s=some s'→st.Args.length≤1000→0<dp→aO dp H→Rep a s H→∃ H',call G Ω0 ⟨dp,false⟩ (RN fid) (Hb fid c [I (a:Nat),.a (aD st),.a (ax pl)]) H=some (.ret (.tp []),H')∧Rep a s' H'∧∀ k:Key,k.dp≠0→H' k=H k
variable {σ:Type}{p:Program}{Vo Fo:σ→List Level}{dof:Nat→Stmt→Level→σ→Option σ}{kw:Key}{x y:AV}{fid:FuncId}{c:List AV}{Rep:Nat→σ→HP→Prop}
def uK(dp:Nat)(kw:Key)(L:List Stmt)(pl:Level)(k:Nat)(H:HP):St:=⟨[(0,.p kw 0),(5,.p ⟨dp,5⟩ 0),(9,.l 92 (L.map bK)),(10,I L.length),(11,I k)],[(5,ax pl)],H⟩
def Gh(p:Program)(Vo:σ→List Level)(dof:Nat→Stmt→Level→σ→Option σ)(kw:Key)(Rep:Nat→σ→HP→Prop)(L:List Stmt):Prop:=∀ ⦃dp a pl s a' s' H⦄,0<dp→L.length≤1000→aO dp H→Rep a s H→ml p Vo dof L a pl s=some (a',s')→
 ∃ H',call G Ω0 ⟨dp,false⟩ 110 [.p kw 0,.l 92 (L.map bK),.a (ax pl)] H=some (.ret (.tp []),H')∧Rep a' s' H'∧aO dp H'∧∀ k:Key,k.dp≠0→H' k=H k
def Hd(p:Program)(Vo:σ→List Level)(dof:Nat→Stmt→Level→σ→Option σ)(kw:Key)(Rep:Nat→σ→HP→Prop)(st:Stmt):Prop:=∀ ⦃dp a pl s a' s' H⦄ ⦃L:List Stmt⦄ ⦃k:Nat⦄,0<dp→L.length≤1000→L[k]? =some st→aO dp H→Rep a s H→Ha p Vo dof st a pl s=some (a',s')→
 ∃ H',run G Ω0 ⟨dp,false⟩ FH (uK dp kw L pl k H)=some (.nrm,uK dp kw L pl (k+1) H')∧Rep a' s' H'∧aO dp H'∧∀ k:Key,k.dp≠0→H' k=H k
theorem LO{L:List Stmt}(h:∀ st∈L,Hd p Vo dof kw Rep st)(hw:kw.dp=0):Gh p Vo dof kw Rep L:=by
 intro dp a pl s a' s' H h0 hL g hr hs
 have key:∀ (rest:List Stmt)(k:Nat)(a:Nat)(s:σ)(H:HP),L.drop k=rest→k≤L.length→aO dp H→Rep a s H→ml p Vo dof rest a pl s=some (a',s')→
   ∃ H' z,fH G Ω0 ⟨dp,false⟩ TU (uK dp kw L pl k H)=some (.ex 0,z)∧z.hp=H'∧Rep a' s' H'∧aO dp H'∧∀ k:Key,k.dp≠0→H' k=H k:=by
  intro rest
  induction rest with
  | nil=>
   intro k a s H hd hk g hr hs
   have hk:¬((k:Int)<(L.length:Int)):=by
    have:=gP.1 hd;omega
   rw [ml] at hs
   obtain ⟨rfl,rfl⟩:=gN (af hs)
   refine ⟨H,_,dD (r:=(.ex 0,?_)) ?_ (by simp),?_,hr,g,fun _ _=>rfl⟩
   rotate_left
   ·show run G Ω0 _ FH (uK dp kw L pl k H)=_
    apply aj (by simp [uK,hk];rfl)
    apply iu
    apply ba (by simp [hk])
    exact dR _ _ _
   ·rfl
  | cons st rest ih=>
   intro k a s H hd hk g hr hs
   rw [ml] at hs
   obtain ⟨⟨a1,s1⟩,h1,h2⟩:=ah.1 hs
   have j:k<L.length:=by
    have h1:=an List.length hd
    simp only [kQ,cC] at h1
    omega
   have hg:L[k]? =some st:=by
    have:=an (fun l=>l[0]?) hd
    simpa using this
   have T:L.drop (k+1)=rest:=by
    have:=an List.tail hd
    simpa using this
   obtain ⟨H1,r1,r2,r3,r4⟩:=h st (by rw [←BF k L,hd];simp) h0 hL hg g hr h1
   obtain ⟨H',z,q1,q2,q3,q4,q5⟩:=ih (k+1) a1 s1 H1 T (by omega) r3 r2 h2
   refine ⟨H',z,?_,q2,q3,q4,fun k hk=>(q5 k hk).trans (r4 k hk)⟩
   rw [dz]
   exact q1
   show (run G Ω0 _ FH (uK dp kw L pl k H)).bind _=_
   rw [r1];rfl
 obtain ⟨H',z,q1,q2,q3,q4,q5⟩:=key L 0 a s H rfl (dc _) g hr hs
 refine ⟨H',?_,q3,q4,q5⟩
 have e2:∀ d,¬kw=⟨dp,d⟩:=fun d=>bD (by omega)
 apply m9 alR
 ·apply aj (by simp [e2];rfl)
  apply aj (by simp;rfl)
  apply lu
  rw [dL]
  exact q1
 ·rfl
 ·exact q2
def tD(dp:Nat)(kw:Key)(L:List Stmt)(pl:Level)(st:Stmt)(k:Nat)(H:HP):St:=⟨[(0,.p kw 0),(5,.p ⟨dp,5⟩ 0),(7,.p ⟨dp,7⟩ 0),(9,.l 92 (L.map bK)),(10,I L.length),(11,I k)],[(5,ax pl),(7,aD st)],H⟩
def U9(dp:Nat)(kw:Key)(L:List Stmt)(pl:Level)(st:Stmt)(k:Nat)(q:Level)(H:HP):St:=⟨[(0,.p kw 0),(5,.p ⟨dp,5⟩ 0),(7,.p ⟨dp,7⟩ 0),(8,.p ⟨dp,8⟩ 0),(9,.l 92 (L.map bK)),(10,I L.length),(11,I k)],[(5,ax pl),(7,aD st),(8,ax q)],H⟩
variable {H:HP}
theorem Va{x:AV}{ls:List Level}(h:Dz H x ls):(∃ t es,x= .l t es)∨∃ k n,x= .sp k 0 n 2∧k.dp=0:=by
 cases h with
 | l t=>exact .inl ⟨_,_,rfl⟩
 | sp k _ h hk=>exact .inr ⟨_,_,rfl,by rcases hk with rfl | rfl<;>rfl⟩
theorem WJ(W:wA p Vo Fo dof kw x y fid c Rep){st:Stmt}(hT:Gh p Vo dof kw Rep st.Then)(hE:Gh p Vo dof kw Rep st.Else):Hd p Vo dof kw Rep st:=by
 intro dp a pl s a' s' H L k h0 hL hg g hr hs
 rw [IK] at hs
 have j:k<L.length:=(eb.1 hg).1
 have hk:((k:Int)<(L.length:Int)):=by omega
 have N:=iF k (by omega)
 obtain ⟨ha,ae,ad,ac,hs⟩:(a≤1000000∧st.Args.length≤1000∧st.Then.length≤1000∧st.Else.length≤1000∧_):=by
  split at hs
  ·rename_i h;exact ⟨h.1,h.2.1,h.2.2.1,h.2.2.2,hs⟩
  ·cases hs
 obtain ⟨s1,hd,hs⟩:=ah.1 hs
 have O:=W.kw0
 have e1:¬kw.dp=dp:=by omega
 have e2:∀ d,¬kw=⟨dp,d⟩:=fun d=>bD (by omega)
 have e3:kw.dp≤dp:=by omega
 have e4:kw.dp<dp:=by omega
 obtain ⟨tl,m⟩:=W.box hr
 have hx:=W.vx hr
 have P:=W.jl
 have V:=W.copy
 have w:=W.copy'
 obtain ⟨H1,c1,c2,c3⟩:=W.call (dp:=dp+1) (H:=fun k=>if k.dp=dp then (if 5=k.d then some (ax pl) else if 7=k.d then some (aD st) else none) else H k) hd ae (by omega) (fun q hq=>by
  simp only [aa (show ¬q.dp=dp by omega)];exact g q (by omega)) (W.ext hr fun q hq=>by simp only [aa (show ¬q.dp=dp by omega)])
 have R:H1 ⟨dp,5⟩=some (ax pl):=by rw [c3 _ (show ¬dp=0 by omega)];simp
 have Q:H1 ⟨dp,7⟩=some (aD st):=by rw [c3 _ (show ¬dp=0 by omega)];simp
 have F:=iF a (by omega)
 have al:∀ H2:HP,H2=(fun k=>if k.dp<dp then H1 k else none)→Rep a s1 H2∧aO dp H2∧∀ k:Key,k.dp≠0→H2 k=H k:=by
  rintro H2 rfl
  refine ⟨W.ext c2 fun q hq=>by simp only [ab (show q.dp<dp by omega)],fun q hq=>by simp only [aa hq],fun q hq=>?_⟩
  by_cases j:q.dp<dp
  ·simp only [ab j]
   rw [c3 q hq]
   simp only [aa (show ¬q.dp=dp by omega)]
  ·simp only [aa j]
   rw [g q j]
 obtain ⟨H2,D⟩:∃ H2:HP,H2=(fun k=>if k.dp<dp then H1 k else none):=⟨_,rfl⟩
 obtain ⟨r2,l2,m2⟩:=al H2 D
 obtain ⟨tl2,u⟩:=W.box r2
 obtain ⟨H3,K⟩:∃ H3:HP,H3=ar H2 kw (cK p x y (.f fid c) ((a+1:Nat):Int) tl2):=⟨_,rfl⟩
 have r3:Rep (a+1) s1 H3:=by
  subst K
  exact W.bump r2 (fun q hq _=>n6 hq) u (iK ..)
 have l3:aO dp H3:=by subst K;exact aU e4 l2
 have m3:∀ k:Key,k.dp≠0→H3 k=H k:=fun q hq=>by subst K;rw [n6 (fun e=>hq (by rw [e];exact O))];exact m2 q hq
 have key:∃ H',run G Ω0 ⟨dp,false⟩ FH (uK dp kw L pl k H)=some (.nrm,uK dp kw L pl (k+1) H')∧Rep a' s' H'∧aO dp H'∧∀ k:Key,k.dp≠0→H' k=H k:=by
  by_cases h7:7≤st.Kind
  ·rw [ab h7] at hs
   obtain ⟨q,hq,hs⟩:=ah.1 hs
   obtain ⟨⟨a4,s4⟩,Z,hs⟩:=ah.1 hs
   obtain ⟨l,hl,hb⟩:=ah.1 hq
   have hB:=aZ (E:=⟨dp,false⟩) (jX pl l q hb) (by simp) (by simp)
   have U:=W.vx r3
   have X:∀ st1:St,st1.hp=H3→aF (call G Ω0) Ω0 ⟨dp,false⟩ st1 0 46 [.a (av p),x,.a (ny st.Expr)]=some (.a (ax l),st1):=fun st1 hs=>Eo (E:=⟨dp,false⟩) (by show dp≠0;omega) (by rw [hs];exact U) hl
   obtain ⟨tl3,B⟩:=W.box r3
   have step:∀ (M:List Stmt)(a5:Nat)(s5:σ)(a6:Nat)(s6:σ)(H5:HP)(bx:Nat→Option (List AV)),Gh p Vo dof kw Rep M→M.length≤1000→ml p Vo dof M a5 q s5=some (a6,s6)→Rep a5 s5 H5→aO dp H5→
     ∃ H6 H7,call G Ω0 ⟨dp+1,false⟩ 110 [.p kw 0,.l 92 (M.map bK),.a (ax q)] (fun k=>if k.dp=dp then bx k.d else H5 k)=some (.ret (.tp []),H7)∧H6=(fun k=>if k.dp<dp then H7 k else none)∧(∀ d,H7 ⟨dp,d⟩=bx d)∧Rep a6 s6 H6∧aO dp H6∧∀ k:Key,k.dp≠0→H6 k=H5 k:=by
    intro M a5 s5 a6 s6 H5 bx hM am Y r5 l5
    obtain ⟨H7,i1,i2,i3,i4⟩:=hM (dp:=dp+1) (H:=fun k=>if k.dp=dp then bx k.d else H5 k) (by omega) am (fun q hq=>by
     simp only [aa (show ¬q.dp=dp by omega)];exact l5 q (by omega)) (W.ext r5 fun q hq=>by simp only [aa (show ¬q.dp=dp by omega)]) Y
    refine ⟨_,H7,i1,rfl,fun d=>?_,W.ext i2 fun q hq=>by simp only [ab (show q.dp<dp by omega)],fun q hq=>by simp only [aa hq],fun q hq=>?_⟩
    ·rw [i4 _ (show ¬dp=0 by omega)];simp
    ·by_cases j:q.dp<dp
     ·simp only [ab j]
      rw [i4 q hq]
      simp only [aa (show ¬q.dp=dp by omega)]
     ·simp only [aa j]
      rw [l5 q j]
   obtain ⟨H4,G4,g1,g2,g3,r4,l4,m4⟩:=step st.Then (a+1) s1 a4 s4 H3 (fun d=>if 5=d then some (ax pl) else if 7=d then some (aD st) else if 8=d then some (ax q) else none) hT ad Z r3 l3
   obtain ⟨H5,G5,g4,g5,g6,r5,l5,m5⟩:=step st.Else a4 s4 a' s' H4 (fun d=>if 5=d then some (ax pl) else if 7=d then some (aD st) else if 8=d then some (ax q) else none) hE ac hs r4 l4
   have b5:=g3 5
   have b7:=g3 7
   have b8:=g3 8
   have d5:=g6 5
   have d7:=g6 7
   have d8:=g6 8
   simp at b5 b7 b8 d5 d7 d8
   refine ⟨H5,?_,r5,l5,fun k hk=>(m5 k hk).trans ((m4 k hk).trans (m3 k hk))⟩
   apply aj (by simp [uK,hk];rfl)
   apply aj
   ·apply bT (by simp [hk])
    exact bh _ _
   apply di
   apply aj
   ·apply dI
    apply aj (by simp [hg,jm,e2];rfl)
    refine aj (st1:=tD dp kw L pl st k H2) ?_ ?_
    ·apply dM 10
     ·rfl
     ·simp
     ·simp [e1,m,V]
      rfl
     ·by_cases hf:fid<1000000
      ·simp only [RN,Hb,ab hf,eJ,dZ] at c1
       simp [hf,bC,P,w,c1,AV.cL,St.back,R,Q,bY,e3]
       rfl
      ·simp only [RN,Hb,aa hf] at c1
       simp [hf,bC,P,w,c1,AV.cL,St.back,R,Q,bY,e3]
     ·subst D
      simp [tD]
    refine aj (st1:=tD dp kw L pl st k H3) ?_ ?_
    ·subst K
     simp [tD,e1,e2,u,F]
    apply aj (by simp [tD];rfl)
    apply bT (by simpa using h7)
    refine aj (st1:=U9 dp kw L pl st k q H3) ?_ ?_
    ·apply dM 10 (s1:=⟨[(45,x),(44,.p kw 8),(43,.p kw 8),(42,.p kw 0),(41,.p kw 0),(40,.a (av p)),(39,.p kw 0),(38,.p kw 0),(37,.p kw 0),(36,.a (ax pl)),(0,.p kw 0),(5,.p ⟨dp,5⟩ 0),(7,.p ⟨dp,7⟩ 0),(9,.l 92 (L.map bK)),(10,I L.length),(11,I k),(35,.b (decide (7≤st.Kind)))],[(5,ax pl),(7,aD st)],H3⟩)
     ·rfl
     ·simp [tD,e2]
     ·clear X
      rcases Va U with ⟨t,es,rfl⟩ | ⟨k8,n8,rfl,ao⟩
      ·simp [tD,e1,e2,B]
      ·have e8:∀ d,¬k8=⟨dp,d⟩:=fun d=>bD (by omega)
       simp [tD,e1,e2,B,e8]
     ·simp [-aF,X,hB,e2]
      rfl
     ·simp [U9]
    refine aj (st1:=U9 dp kw L pl st k q H4) ?_ ?_
    ·subst g2
     simp [U9,bC,AV.cL,g1,St.back,b5,b7,b8,bY,e3]
    simp [U9,bC,AV.cL,g4,St.back,d5,d7,d8,bY,e3]
    rfl
   simp [uK,N,g5]
  ·rw [aa h7] at hs
   obtain ⟨rfl,rfl⟩:=gN (af hs)
   refine ⟨H3,?_,r3,l3,m3⟩
   apply aj (by simp [uK,hk];rfl)
   apply aj
   ·apply bT (by simp [hk])
    exact bh _ _
   apply di
   apply aj
   ·apply dI
    apply aj (by simp [hg,jm,e2];rfl)
    refine aj (st1:=tD dp kw L pl st k H2) ?_ ?_
    ·apply dM 10
     ·rfl
     ·simp
     ·simp [e1,m,V]
      rfl
     ·by_cases hf:fid<1000000
      ·simp only [RN,Hb,ab hf,eJ,dZ] at c1
       simp [hf,bC,P,w,c1,AV.cL,St.back,R,Q,bY,e3]
       rfl
      ·simp only [RN,Hb,aa hf] at c1
       simp [hf,bC,P,w,c1,AV.cL,St.back,R,Q,bY,e3]
     ·subst D
      simp [tD]
    refine aj (st1:=tD dp kw L pl st k H3) ?_ ?_
    ·subst K
     simp [tD,e1,e2,u,F]
    apply aj (by simp [tD];rfl)
    apply ba (by simpa using h7)
    exact bh _ _
   simp [uK,N]
 exact key
mutual
theorem Vb(W:wA p Vo Fo dof kw x y fid c Rep):∀ st:Stmt,Hd p Vo dof kw Rep st
 | ⟨_,_,_,_,_,th,el⟩=>WJ W (LO (He W th) W.kw0) (LO (He W el) W.kw0)
 termination_by structural st=>st
theorem He(W:wA p Vo Fo dof kw x y fid c Rep):∀ l:List Stmt,∀ st∈l,Hd p Vo dof kw Rep st
 | [],_,h=>absurd h (by simp)
 | a::r,st,h=>by
  have h1:=Vb W a
  have h2:=He W r
  exact (eX.1 h).elim (fun e=>e▸h1) fun h=>h2 st h
 termination_by structural l=>l
end
theorem RO(W:wA p Vo Fo dof kw x y fid c Rep)(L:List Stmt):Gh p Vo dof kw Rep L:=LO (He W L) W.kw0
def ML(kw:Key)(L:List Func)(k:Nat)(H:HP):St:=⟨[(0,.p kw 0),(11,.l 101 (L.map eO)),(12,I L.length),(13,I k)],[],H⟩
variable {dp a a':Nat}
theorem WK(W:wA p Vo Fo dof kw x y fid c Rep){k:Nat}{s s':σ}{f:Func}{q:Level}(h0:0<dp)(hL:p.Funcs.length≤1000)(hg:p.Funcs[k]? =some f)(hb:f.Body.length≤1000)(hq:(Fo s)[k]? =some q)(g:aO dp H)(hr:Rep a s H)(hs:ml p Vo dof f.Body a q s=some (a',s')):∃ H',run G Ω0 ⟨dp,false⟩ NR (ML kw p.Funcs k H)=some (.nrm,ML kw p.Funcs (k+1) H')∧Rep a' s' H'∧aO dp H'∧∀ k:Key,k.dp≠0→H' k=H k:=by
 have j:k<p.Funcs.length:=(eb.1 hg).1
 have hk:((k:Int)<(p.Funcs.length:Int)):=by omega
 have N:=iF k (by omega)
 have O:=W.kw0
 have e1:¬kw.dp=dp:=by omega
 have e2:∀ d,¬kw=⟨dp,d⟩:=fun d=>bD (by omega)
 have e3:kw.dp≤dp:=by omega
 obtain ⟨tl,m⟩:=W.box hr
 obtain ⟨H1,c1,c2,c3,c4⟩:=RO W f.Body (dp:=dp+1) (H:=fun k=>if k.dp=dp then (if 3=k.d then some (eu f) else none) else H k) (by omega) hb (fun q hq=>by
  simp only [aa (show ¬q.dp=dp by omega)];exact g q (by omega)) (W.ext hr fun q hq=>by simp only [aa (show ¬q.dp=dp by omega)]) hs
 have b3:H1 ⟨dp,3⟩=some (eu f):=by rw [c4 _ (show ¬dp=0 by omega)];simp
 obtain ⟨H2,D⟩:∃ H2:HP,H2=(fun k=>if k.dp<dp then H1 k else none):=⟨_,rfl⟩
 refine ⟨H2,?_,by subst D;exact W.ext c2 fun q hq=>by simp only [ab (show q.dp<dp by omega)],by subst D;exact fun q hq=>by simp only [aa hq],fun q hq=>?_⟩
 rotate_left
 ·subst D
  by_cases j:q.dp<dp
  ·simp only [ab j]
   rw [c4 q hq]
   simp only [aa (show ¬q.dp=dp by omega)]
  ·simp only [aa j]
   rw [g q j]
 apply aj (by simp [ML,hk];rfl)
 apply aj
 ·apply bT (by simp [hk])
  exact bh _ _
 apply di
 apply aj
 ·apply dI
  apply aj (by simp [hg,eO,e2];rfl)
  have hy:=W.fy hr
  refine (?_:run G Ω0 _ _ _=some (.nrm,⟨[(0,.p kw 0),(11,.l 101 (p.Funcs.map eO)),(12,I p.Funcs.length),(13,I k)],[],fun k=>if k.dp<dp then H1 k else none⟩))
  generalize ap:Fo s=fo at hy hq
  cases hy with
  | l t _=>
   apply dM 9
   ·rfl
   ·simp
   ·simp [e1,m,hq,aI]
    rfl
   ·simp [hq,aI,bC,AV.cL,c1,St.back,b3,bY,e3]
    rfl
   ·simp
  | sp ky _ ag ai=>
   have ek:ky.dp=0:=by rcases ai with rfl | rfl<;>rfl
   have e4:¬ky.dp=dp:=by omega
   obtain ⟨f1,f2⟩:=yS hq
   have f3:k<fo.length:=(eb.1 hq).1
   apply dM 9
   ·rfl
   ·simp
   ·simp [e1,m]
    rfl
   ·simp [e4,ag,f1,f2,f3,bC,AV.cL,c1,St.back,b3,bY,e3]
    rfl
   ·simp
 simp [ML,N,D]
theorem MN(W:wA p Vo Fo dof kw x y fid c Rep){dp a':Nat}{s':σ}(h0:0<dp)(hL:p.Funcs.length≤1000):∀ (rest:List Func)(k a:Nat)(s:σ)(H:HP),p.Funcs.drop k=rest→aO dp H→Rep a s H→Ac p Vo Fo dof rest k a s=some (a',s')→
  ∃ H' z,fH G Ω0 ⟨dp,false⟩ X2 (ML kw p.Funcs k H)=some (.ex 0,z)∧z.aG [0] [0]=⟨[(0,.p kw 0)],[],H'⟩∧Rep a' s' H'∧aO dp H'∧∀ k:Key,k.dp≠0→H' k=H k
 | [],k,a,s,H,hd,g,hr,hs=>by
  have hk:¬((k:Int)<(p.Funcs.length:Int)):=by
   have:=gP.1 hd;omega
  rw [Ac] at hs
  obtain ⟨rfl,rfl⟩:=gN (af hs)
  refine ⟨H,_,dD (r:=(.ex 0,?_)) ?_ (by simp),?_,hr,g,fun _ _=>rfl⟩
  rotate_left
  ·show run G Ω0 _ NR (ML kw p.Funcs k H)=_
   apply aj (by simp [ML,hk];rfl)
   apply iu
   apply ba (by simp [hk])
   exact dR _ _ _
  ·simp
 | f::rest,k,a,s,H,hd,g,hr,hs=>by
  rw [Ac] at hs
  split at hs
  ·rename_i hb
   obtain ⟨q,hq,hs⟩:=ah.1 hs
   obtain ⟨⟨a1,s1⟩,h1,h2⟩:=ah.1 hs
   have hg:p.Funcs[k]? =some f:=by
    have:=an (fun l=>l[0]?) hd
    simpa using this
   have T:p.Funcs.drop (k+1)=rest:=by
    have:=an List.tail hd
    simpa using this
   obtain ⟨H1,r1,r2,r3,r4⟩:=WK W h0 hL hg hb hq g hr h1
   obtain ⟨H',z,q1,q2,q3,q4,q5⟩:=MN W h0 hL rest (k+1) a1 s1 H1 T r3 r2 h2
   refine ⟨H',z,?_,q2,q3,q4,fun k hk=>(q5 k hk).trans (r4 k hk)⟩
   rw [dz]
   exact q1
   show (run G Ω0 _ NR (ML kw p.Funcs k H)).bind _=_
   rw [r1];rfl
  ·cases hs
theorem DA(W:wA p Vo Fo dof kw x y fid c Rep){s s':σ}(h0:0<dp)(g:aO dp H)(hr:Rep a s H)(hs:A5 p Vo Fo dof s=some (a',s')):
  ∃ H',call G Ω0 ⟨dp,false⟩ 44 [.p kw 0] H=some (.ret (.tp []),H')∧Rep a' s' H'∧aO dp H'∧∀ k:Key,k.dp≠0→H' k=H k:=by
 have O:=W.kw0
 have e1:¬kw.dp=dp:=by omega
 have e2:∀ d,¬kw=⟨dp,d⟩:=fun d=>bD (by omega)
 have e3:kw.dp≤dp:=by omega
 obtain ⟨tl,m⟩:=W.box hr
 unfold A5 at hs
 split at hs
 ·rename_i hb
  obtain ⟨⟨a1,s1⟩,h1,hs⟩:=ah.1 hs
  obtain ⟨q,hq,h2⟩:=ah.1 hs
  obtain ⟨H0,S⟩:∃ H0:HP,H0=ar H kw (cK p x y (.f fid c) ((0:Nat):Int) tl):=⟨_,rfl⟩
  have r0:Rep 0 s H0:=by subst S;exact W.bump hr (fun q hq _=>n6 hq) m (iK ..)
  have l0:aO dp H0:=by subst S;exact aU (by omega) g
  have m0:∀ k:Key,k.dp≠0→H0 k=H k:=fun q hq=>by subst S;rw [n6 (fun e=>hq (by rw [e];exact O))]
  obtain ⟨H1,z,i1,i2,r1,l1,m1⟩:=MN W h0 hb.1 p.Funcs 0 0 s H0 rfl l0 r0 h1
  obtain ⟨tl0,J⟩:=W.box r0
  obtain ⟨tl1,C⟩:=W.box r1
  have hB:=aZ (E:=⟨dp,false⟩) (oQ p.ak q hq) (by simp) (by simp)
  obtain ⟨H2,c1,c2,c3,c4⟩:=RO W p.Main (dp:=dp+1) (H:=fun k=>if k.dp=dp then none else H1 k) (by omega) hb.2 (fun q hq=>by
   simp only [aa (show ¬q.dp=dp by omega)];exact l1 q (by omega)) (W.ext r1 fun q hq=>by simp only [aa (show ¬q.dp=dp by omega)]) h2
  refine ⟨fun k=>if k.dp<dp then H2 k else none,?_,W.ext c2 fun q hq=>by simp only [ab (show q.dp<dp by omega)],fun q hq=>by simp only [aa hq],fun q hq=>?_⟩
  rotate_left
  ·by_cases j:q.dp<dp
   ·simp only [ab j]
    rw [c4 q hq]
    simp only [aa (show ¬q.dp=dp by omega)]
    rw [m1 q hq,m0 q hq]
   ·simp only [aa j]
    rw [g q j]
  apply m9 G44
  ·refine aj (st1:=⟨[(0,.p kw 0)],[],H0⟩) (by subst S;simp [m,e1,e3]) ?_
   apply aj
   ·apply aj (by simp [e1,J];rfl)
    apply lu
    rw [dL]
    exact i1
   show run G Ω0 _ (.kp _ _ X3) z=_
   rw [jq,i2]
   apply dM 9
   ·rfl
   ·simp
   ·simp [e1,C]
    rfl
   ·simp [-aF,e1,C,hB,bC,AV.cL,c1,St.back,bY,e3]
    rfl
   ·simp
    rfl
  ·rfl
  ·rfl
 ·cases hs
end Go.Proofs.YtkkkkondjclcnaaGreat.A
