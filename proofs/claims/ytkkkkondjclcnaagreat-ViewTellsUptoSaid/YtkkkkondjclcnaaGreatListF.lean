/- infer.Walker's list and Go as plain functions, whatever is done at each command. -/
import Derived.Test.YtkkkkondjclcnaaGreatFlowF
set_option linter.all false
set_option maxRecDepth 100000
namespace Go.Proofs.YtkkkkondjclcnaaGreat.A
open Go
variable [Lp]
attribute [local simp] gp execOp okB jK eG jf uE lV jR iK St.end_ St.k9 List.filter
section
variable {σ:Type}(p:Program)(Vo Fo:σ→List Level)(dof:Nat→Stmt→Level→σ→Option σ)
mutual
noncomputable def Hp:Stmt→Nat→Level→σ→Option (Nat×σ)
 | ⟨k,v,o,e,args,th,el⟩,a,pl,s=>if a≤1000000∧args.length≤1000∧th.length≤1000∧el.length≤1000 then (dof a ⟨k,v,o,e,args,th,el⟩ pl s).bind fun s1=>
   if 7≤k then (oa p (Vo s1) pl e).bind fun q=>(nL th (a+1) q s1).bind fun r=>nL el r.1 q r.2 else some (a+1,s1) else none
noncomputable def nL:List Stmt→Nat→Level→σ→Option (Nat×σ)
 | [],a,_,s=>some (a,s)
 | x::r,a,pl,s=>(Hp x a pl s).bind fun y=>nL r y.1 pl y.2
end
noncomputable def BE:List Func→Nat→Nat→σ→Option (Nat×σ)
 | [],_,a,s=>some (a,s)
 | f::r,i,a,s=>if f.Body.length≤1000 then ((Fo s)[i]?).bind fun q=>(nL p Vo dof f.Body a q s).bind fun y=>BE r (i+1) y.1 y.2 else none
noncomputable def Dp(s:σ):Option (Nat×σ):=
 if p.Funcs.length≤1000∧p.Main.length≤1000 then (BE p Vo Fo dof p.Funcs 0 0 s).bind fun y=>(ix p.aj).bind fun q=>nL p Vo dof p.Main y.1 q y.2 else none
end
theorem Mn{σ:Type}(p:Program)(Vo:σ→List Level)(dof:Nat→Stmt→Level→σ→Option σ)(x:Stmt)(a:Nat)(pl:Level)(s:σ):Hp p Vo dof x a pl s=
  if a≤1000000∧x.Args.length≤1000∧x.Then.length≤1000∧x.Else.length≤1000 then (dof a x pl s).bind fun s1=>
   if 7≤x.Kind then (oa p (Vo s1) pl x.Expr).bind fun q=>(nL p Vo dof x.Then (a+1) q s1).bind fun r=>nL p Vo dof x.Else r.1 q r.2 else some (a+1,s1) else none:=by
 cases x;rw [Hp]
def Rz(fid:FuncId):FuncId:=if fid<1000000 then fid else fid - 1000000
def Hq(fid:FuncId)(caps args:List AV):List AV:=if fid<1000000 then args++caps else caps++args
structure wk{σ:Type}(p:Program)(Vo Fo:σ→List Level)(dof:Nat→Stmt→Level→σ→Option σ)(kw:Key)(x y:AV)(fid:FuncId)(caps:List AV)(Rep:Nat→σ→HP→Prop):Prop where
 kw0:kw.dp=0
 iD:caps.all AV.mG=false
 copy:AV.mE caps=true
 copy':caps.all AV.copy=true
 box:∀ {a s H},Rep a s H→∃ tl,H kw=some (nK p x y (.f fid caps) a tl)
 vx:∀ {a s H},Rep a s H→AO H x (Vo s)
 fy:∀ {a s H},Rep a s H→AO H y (Fo s)
 ext:∀ {a s H H'},Rep a s H→(∀ k:Key,k.dp=0→H' k=H k)→Rep a s H'
 bump:∀ {a a' s H H' tl},Rep a s H→(∀ k:Key,k≠kw→k.dp=0→H' k=H k)→H kw=some (nK p x y (.f fid caps) a tl)→H' kw=some (nK p x y (.f fid caps) ((a':Nat):Int) tl)→Rep a' s H'
 call:∀ {a st pl s s' dp H},dof a st pl s=some s'→st.Args.length≤1000→0<dp→cF dp H→Rep a s H→∃ H',call G Ω0 ⟨dp,false⟩ (Rz fid) (Hq fid caps [I (a:Nat),.a (bN st),.a (aN pl)]) H=some (.ret (.tp []),H')∧Rep a s' H'∧∀ k:Key,k.dp≠0→H' k=H k
variable {σ:Type}{p:Program}{Vo Fo:σ→List Level}{dof:Nat→Stmt→Level→σ→Option σ}{kw:Key}{x y:AV}{fid:FuncId}{caps:List AV}{Rep:Nat→σ→HP→Prop}
def sO(dp:Nat)(kw:Key)(L:List Stmt)(pl:Level)(k:Nat)(H:HP):St:=⟨[(0,.p kw 0),(5,.p ⟨dp,5⟩ 0),(9,.l 92 (L.map aV)),(10,I L.length),(11,I k)],[(5,aN pl)],H⟩
def Dq(p:Program)(Vo:σ→List Level)(dof:Nat→Stmt→Level→σ→Option σ)(kw:Key)(Rep:Nat→σ→HP→Prop)(L:List Stmt):Prop:=∀ ⦃dp a pl s a' s' H⦄,0<dp→L.length≤1000→cF dp H→Rep a s H→nL p Vo dof L a pl s=some (a',s')→
 ∃ H',call G Ω0 ⟨dp,false⟩ 110 [.p kw 0,.l 92 (L.map aV),.a (aN pl)] H=some (.ret (.tp []),H')∧Rep a' s' H'∧cF dp H'∧∀ k:Key,k.dp≠0→H' k=H k
def Eg(p:Program)(Vo:σ→List Level)(dof:Nat→Stmt→Level→σ→Option σ)(kw:Key)(Rep:Nat→σ→HP→Prop)(st:Stmt):Prop:=∀ ⦃dp a pl s a' s' H⦄ ⦃L:List Stmt⦄ ⦃k:Nat⦄,0<dp→L.length≤1000→L[k]? =some st→cF dp H→Rep a s H→Hp p Vo dof st a pl s=some (a',s')→
 ∃ H',run G Ω0 ⟨dp,false⟩ CS (sO dp kw L pl k H)=some (.nrm,sO dp kw L pl (k+1) H')∧Rep a' s' H'∧cF dp H'∧∀ k:Key,k.dp≠0→H' k=H k
theorem I6{L:List Stmt}(h:∀ st∈L,Eg p Vo dof kw Rep st)(hw:kw.dp=0):Dq p Vo dof kw Rep L:=by
 intro dp a pl s a' s' H h0 hL hlow hr hs
 have key:∀ (rest:List Stmt)(k:Nat)(a:Nat)(s:σ)(H:HP),L.drop k=rest→k≤L.length→cF dp H→Rep a s H→nL p Vo dof rest a pl s=some (a',s')→
   ∃ H' z,gY G Ω0 ⟨dp,false⟩ Qt (sO dp kw L pl k H)=some (.ex 0,z)∧z.hp=H'∧Rep a' s' H'∧cF dp H'∧∀ k:Key,k.dp≠0→H' k=H k:=by
  intro rest
  induction rest with
  | nil=>
   intro k a s H hd hk hlow hr hs
   have hk:¬((k:Int)<(L.length:Int)):=by
    have:=eW.1 hd;omega
   rw [nL] at hs
   obtain ⟨rfl,rfl⟩:=eJ (aa hs)
   refine ⟨H,_,di (r:=(.ex 0,?_)) ?_ (by simp),?_,hr,hlow,fun _ _=>rfl⟩
   rotate_left
   ·show run G Ω0 _ CS (sO dp kw L pl k H)=_
    apply ak (by simp [sO,hk];rfl)
    apply iQ
    apply cg (by simp [hk])
    exact dN _ _ _
   ·rfl
  | cons st rest ih=>
   intro k a s H hd hk hlow hr hs
   rw [nL] at hs
   obtain ⟨⟨a1,s1⟩,h1,h2⟩:=ah.1 hs
   have hlt:k<L.length:=by
    have h1:=an List.length hd
    simp only [gy,bu] at h1
    omega
   have hg:L[k]? =some st:=by
    have:=an (fun l=>l[0]?) hd
    simpa using this
   have hd2:L.drop (k+1)=rest:=by
    have:=an List.tail hd
    simpa using this
   obtain ⟨H1,r1,r2,r3,r4⟩:=h st (by rw [←vE k L,hd];simp) h0 hL hg hlow hr h1
   obtain ⟨H',z,q1,q2,q3,q4,q5⟩:=ih (k+1) a1 s1 H1 hd2 (by omega) r3 r2 h2
   refine ⟨H',z,?_,q2,q3,q4,fun k hk=>(q5 k hk).trans (r4 k hk)⟩
   rw [c8]
   exact q1
   show (run G Ω0 _ CS (sO dp kw L pl k H)).bind _=_
   rw [r1];rfl
 obtain ⟨H',z,q1,q2,q3,q4,q5⟩:=key L 0 a s H rfl (ct _) hlow hr hs
 refine ⟨H',?_,q3,q4,q5⟩
 have e2:∀ d,¬kw=⟨dp,d⟩:=fun d=>cP (by omega)
 apply LU ajp
 ·apply ak (by simp [e2];rfl)
  apply ak (by simp;rfl)
  apply ny
  rw [eg]
  exact q1
 ·rfl
 ·exact q2
def rD(dp:Nat)(kw:Key)(L:List Stmt)(pl:Level)(st:Stmt)(k:Nat)(H:HP):St:=⟨[(0,.p kw 0),(5,.p ⟨dp,5⟩ 0),(7,.p ⟨dp,7⟩ 0),(9,.l 92 (L.map aV)),(10,I L.length),(11,I k)],[(5,aN pl),(7,bN st)],H⟩
def RA(dp:Nat)(kw:Key)(L:List Stmt)(pl:Level)(st:Stmt)(k:Nat)(q:Level)(H:HP):St:=⟨[(0,.p kw 0),(5,.p ⟨dp,5⟩ 0),(7,.p ⟨dp,7⟩ 0),(8,.p ⟨dp,8⟩ 0),(9,.l 92 (L.map aV)),(10,I L.length),(11,I k)],[(5,aN pl),(7,bN st),(8,aN q)],H⟩
theorem RB{H:HP}{x:AV}{ls:List Level}(h:AO H x ls):(∃ t es,x= .l t es)∨∃ k n,x= .sp k 0 n 2∧k.dp=0:=by
 cases h with
 | l t=>exact .inl ⟨_,_,rfl⟩
 | sp k _ h hk=>exact .inr ⟨_,_,rfl,by rcases hk with rfl | rfl<;>rfl⟩
set_option maxHeartbeats 8000000 in
theorem TO(W:wk p Vo Fo dof kw x y fid caps Rep){st:Stmt}(hT:Dq p Vo dof kw Rep st.Then)(hE:Dq p Vo dof kw Rep st.Else):Eg p Vo dof kw Rep st:=by
 intro dp a pl s a' s' H L k h0 hL hg hlow hr hs
 rw [Mn] at hs
 have hlt:k<L.length:=(dh.1 hg).1
 have hk:((k:Int)<(L.length:Int)):=by omega
 have hwr:=gZ k (by omega)
 obtain ⟨ha,hs1,hs2,hs3,hs⟩:(a≤1000000∧st.Args.length≤1000∧st.Then.length≤1000∧st.Else.length≤1000∧_):=by
  split at hs
  ·rename_i h;exact ⟨h.1,h.2.1,h.2.2.1,h.2.2.2,hs⟩
  ·cases hs
 obtain ⟨s1,hd,hs⟩:=ah.1 hs
 have hw0:=W.kw0
 have e1:¬kw.dp=dp:=by omega
 have e2:∀ d,¬kw=⟨dp,d⟩:=fun d=>cP (by omega)
 have e3:kw.dp≤dp:=by omega
 have e4:kw.dp<dp:=by omega
 obtain ⟨tl,hbox⟩:=W.box hr
 have hx:=W.vx hr
 have hcl:=W.iD
 have hcc:=W.copy
 have hcc':=W.copy'
 obtain ⟨H1,c1,c2,c3⟩:=W.call (dp:=dp+1) (H:=fun k=>if k.dp=dp then (if 5=k.d then some (aN pl) else if 7=k.d then some (bN st) else none) else H k) hd hs1 (by omega) (fun q hq=>by
  simp only [ad (show ¬q.dp=dp by omega)];exact hlow q (by omega)) (W.ext hr fun q hq=>by simp only [ad (show ¬q.dp=dp by omega)])
 have hb5:H1 ⟨dp,5⟩=some (aN pl):=by rw [c3 _ (show ¬dp=0 by omega)];simp
 have hb7:H1 ⟨dp,7⟩=some (bN st):=by rw [c3 _ (show ¬dp=0 by omega)];simp
 have hwr2:=gZ a (by omega)
 have hT2:∀ H2:HP,H2=(fun k=>if k.dp<dp then H1 k else none)→Rep a s1 H2∧cF dp H2∧∀ k:Key,k.dp≠0→H2 k=H k:=by
  rintro H2 rfl
  refine ⟨W.ext c2 fun q hq=>by simp only [ab (show q.dp<dp by omega)],fun q hq=>by simp only [ad hq],fun q hq=>?_⟩
  by_cases hlt:q.dp<dp
  ·simp only [ab hlt]
   rw [c3 q hq]
   simp only [ad (show ¬q.dp=dp by omega)]
  ·simp only [ad hlt]
   rw [hlow q hlt]
 obtain ⟨H2,hH2⟩:∃ H2:HP,H2=(fun k=>if k.dp<dp then H1 k else none):=⟨_,rfl⟩
 obtain ⟨r2,l2,m2⟩:=hT2 H2 hH2
 obtain ⟨tl2,hbox2⟩:=W.box r2
 obtain ⟨H3,hH3⟩:∃ H3:HP,H3=aF H2 kw (nK p x y (.f fid caps) ((a+1:Nat):Int) tl2):=⟨_,rfl⟩
 have r3:Rep (a+1) s1 H3:=by
  subst hH3
  exact W.bump r2 (fun q hq _=>oY hq) hbox2 (eX ..)
 have l3:cF dp H3:=by subst hH3;exact cu e4 l2
 have m3:∀ k:Key,k.dp≠0→H3 k=H k:=fun q hq=>by subst hH3;rw [oY (fun e=>hq (by rw [e];exact hw0))];exact m2 q hq
 have key:∃ H',run G Ω0 ⟨dp,false⟩ CS (sO dp kw L pl k H)=some (.nrm,sO dp kw L pl (k+1) H')∧Rep a' s' H'∧cF dp H'∧∀ k:Key,k.dp≠0→H' k=H k:=by
  by_cases h7:7≤st.Kind
  ·rw [ab h7] at hs
   obtain ⟨q,hq,hs⟩:=ah.1 hs
   obtain ⟨⟨a4,s4⟩,hw4,hs⟩:=ah.1 hs
   obtain ⟨l,hl,hb⟩:=ah.1 hq
   have hB:=cw (E:=⟨dp,false⟩) (mR pl l q hb) (by simp) (by simp)
   have hx3:=W.vx r3
   have hLv:∀ st1:St,st1.hp=H3→aU (call G Ω0) Ω0 ⟨dp,false⟩ st1 0 46 [.a (ar p),x,.a (oP st.Expr)]=some (.a (aN l),st1):=fun st1 hs=>Ml (E:=⟨dp,false⟩) (by show dp≠0;omega) (by rw [hs];exact hx3) hl
   obtain ⟨tl3,hbox3⟩:=W.box r3
   have step:∀ (M:List Stmt)(a5:Nat)(s5:σ)(a6:Nat)(s6:σ)(H5:HP)(bx:Nat→Option (List AV)),Dq p Vo dof kw Rep M→M.length≤1000→nL p Vo dof M a5 q s5=some (a6,s6)→Rep a5 s5 H5→cF dp H5→
     ∃ H6 H7,call G Ω0 ⟨dp+1,false⟩ 110 [.p kw 0,.l 92 (M.map aV),.a (aN q)] (fun k=>if k.dp=dp then bx k.d else H5 k)=some (.ret (.tp []),H7)∧H6=(fun k=>if k.dp<dp then H7 k else none)∧(∀ d,H7 ⟨dp,d⟩=bx d)∧Rep a6 s6 H6∧cF dp H6∧∀ k:Key,k.dp≠0→H6 k=H5 k:=by
    intro M a5 s5 a6 s6 H5 bx hM hM1 hw5 r5 l5
    obtain ⟨H7,i1,i2,i3,i4⟩:=hM (dp:=dp+1) (H:=fun k=>if k.dp=dp then bx k.d else H5 k) (by omega) hM1 (fun q hq=>by
     simp only [ad (show ¬q.dp=dp by omega)];exact l5 q (by omega)) (W.ext r5 fun q hq=>by simp only [ad (show ¬q.dp=dp by omega)]) hw5
    refine ⟨_,H7,i1,rfl,fun d=>?_,W.ext i2 fun q hq=>by simp only [ab (show q.dp<dp by omega)],fun q hq=>by simp only [ad hq],fun q hq=>?_⟩
    ·rw [i4 _ (show ¬dp=0 by omega)];simp
    ·by_cases hlt:q.dp<dp
     ·simp only [ab hlt]
      rw [i4 q hq]
      simp only [ad (show ¬q.dp=dp by omega)]
     ·simp only [ad hlt]
      rw [l5 q hlt]
   obtain ⟨H4,G4,g1,g2,g3,r4,l4,m4⟩:=step st.Then (a+1) s1 a4 s4 H3 (fun d=>if 5=d then some (aN pl) else if 7=d then some (bN st) else if 8=d then some (aN q) else none) hT hs2 hw4 r3 l3
   obtain ⟨H5,G5,g4,g5,g6,r5,l5,m5⟩:=step st.Else a4 s4 a' s' H4 (fun d=>if 5=d then some (aN pl) else if 7=d then some (bN st) else if 8=d then some (aN q) else none) hE hs3 hs r4 l4
   have b5:=g3 5
   have b7:=g3 7
   have b8:=g3 8
   have d5:=g6 5
   have d7:=g6 7
   have d8:=g6 8
   simp at b5 b7 b8 d5 d7 d8
   refine ⟨H5,?_,r5,l5,fun k hk=>(m5 k hk).trans ((m4 k hk).trans (m3 k hk))⟩
   apply ak (by simp [sO,hk];rfl)
   apply ak
   ·apply cX (by simp [hk])
    exact bM _ _
   apply dU
   apply ak
   ·apply eY
    apply ak (by simp [hg,ij,e2];rfl)
    refine ak (st1:=rD dp kw L pl st k H2) ?_ ?_
    ·apply eZ 10
     ·rfl
     ·simp
     ·simp [e1,hbox,hcc]
      rfl
     ·by_cases hf:fid<1000000
      ·simp only [Rz,Hq,ab hf,eu,ea] at c1
       simp [hf,dH,hcl,hcc',c1,AV.mG,St.back,hb5,hb7,ib,e3]
       rfl
      ·simp only [Rz,Hq,ad hf] at c1
       simp [hf,dH,hcl,hcc',c1,AV.mG,St.back,hb5,hb7,ib,e3]
     ·subst hH2
      simp [rD]
    refine ak (st1:=rD dp kw L pl st k H3) ?_ ?_
    ·subst hH3
     simp [rD,e1,e2,hbox2,hwr2]
    apply ak (by simp [rD];rfl)
    apply cX (by simpa using h7)
    refine ak (st1:=RA dp kw L pl st k q H3) ?_ ?_
    ·apply eZ 10 (s1:=⟨[(45,x),(44,.p kw 8),(43,.p kw 8),(42,.p kw 0),(41,.p kw 0),(40,.a (ar p)),(39,.p kw 0),(38,.p kw 0),(37,.p kw 0),(36,.a (aN pl)),(0,.p kw 0),(5,.p ⟨dp,5⟩ 0),(7,.p ⟨dp,7⟩ 0),(9,.l 92 (L.map aV)),(10,I L.length),(11,I k),(35,.b (decide (7≤st.Kind)))],[(5,aN pl),(7,bN st)],H3⟩)
     ·rfl
     ·simp [rD,e2]
     ·clear hLv
      rcases RB hx3 with ⟨t,es,rfl⟩ | ⟨k8,n8,rfl,hk8⟩
      ·simp [rD,e1,e2,hbox3]
      ·have e8:∀ d,¬k8=⟨dp,d⟩:=fun d=>cP (by omega)
       simp [rD,e1,e2,hbox3,e8]
     ·simp [-aU,hLv,hB,e2]
      rfl
     ·simp [RA]
    refine ak (st1:=RA dp kw L pl st k q H4) ?_ ?_
    ·subst g2
     simp [RA,dH,AV.mG,g1,St.back,b5,b7,b8,ib,e3]
    simp [RA,dH,AV.mG,g4,St.back,d5,d7,d8,ib,e3]
    rfl
   simp [sO,hwr,g5]
  ·rw [ad h7] at hs
   obtain ⟨rfl,rfl⟩:=eJ (aa hs)
   refine ⟨H3,?_,r3,l3,m3⟩
   apply ak (by simp [sO,hk];rfl)
   apply ak
   ·apply cX (by simp [hk])
    exact bM _ _
   apply dU
   apply ak
   ·apply eY
    apply ak (by simp [hg,ij,e2];rfl)
    refine ak (st1:=rD dp kw L pl st k H2) ?_ ?_
    ·apply eZ 10
     ·rfl
     ·simp
     ·simp [e1,hbox,hcc]
      rfl
     ·by_cases hf:fid<1000000
      ·simp only [Rz,Hq,ab hf,eu,ea] at c1
       simp [hf,dH,hcl,hcc',c1,AV.mG,St.back,hb5,hb7,ib,e3]
       rfl
      ·simp only [Rz,Hq,ad hf] at c1
       simp [hf,dH,hcl,hcc',c1,AV.mG,St.back,hb5,hb7,ib,e3]
     ·subst hH2
      simp [rD]
    refine ak (st1:=rD dp kw L pl st k H3) ?_ ?_
    ·subst hH3
     simp [rD,e1,e2,hbox2,hwr2]
    apply ak (by simp [rD];rfl)
    apply cg (by simpa using h7)
    exact bM _ _
   simp [sO,hwr]
 exact key
mutual
theorem RC(W:wk p Vo Fo dof kw x y fid caps Rep):∀ st:Stmt,Eg p Vo dof kw Rep st
 | ⟨_,_,_,_,_,th,el⟩=>TO W (I6 (Eh W th) W.kw0) (I6 (Eh W el) W.kw0)
 termination_by structural st=>st
theorem Eh(W:wk p Vo Fo dof kw x y fid caps Rep):∀ l:List Stmt,∀ st∈l,Eg p Vo dof kw Rep st
 | [],_,h=>absurd h (by simp)
 | a::r,st,h=>by
  have h1:=RC W a
  have h2:=Eh W r
  exact (cR.1 h).elim (fun e=>e▸h1) fun h=>h2 st h
 termination_by structural l=>l
end
theorem On(W:wk p Vo Fo dof kw x y fid caps Rep)(L:List Stmt):Dq p Vo dof kw Rep L:=I6 (Eh W L) W.kw0
def JS(kw:Key)(L:List Func)(k:Nat)(H:HP):St:=⟨[(0,.p kw 0),(11,.l 101 (L.map cA)),(12,I L.length),(13,I k)],[],H⟩
set_option maxHeartbeats 8000000 in
theorem TP(W:wk p Vo Fo dof kw x y fid caps Rep){dp a k:Nat}{s s':σ}{a':Nat}{H:HP}{f:Func}{q:Level}(h0:0<dp)(hL:p.Funcs.length≤1000)(hg:p.Funcs[k]? =some f)(hb:f.Body.length≤1000)(hq:(Fo s)[k]? =some q)(hlow:cF dp H)(hr:Rep a s H)
  (hs:nL p Vo dof f.Body a q s=some (a',s')):∃ H',run G Ω0 ⟨dp,false⟩ KQ (JS kw p.Funcs k H)=some (.nrm,JS kw p.Funcs (k+1) H')∧Rep a' s' H'∧cF dp H'∧∀ k:Key,k.dp≠0→H' k=H k:=by
 have hlt:k<p.Funcs.length:=(dh.1 hg).1
 have hk:((k:Int)<(p.Funcs.length:Int)):=by omega
 have hwr:=gZ k (by omega)
 have hw0:=W.kw0
 have e1:¬kw.dp=dp:=by omega
 have e2:∀ d,¬kw=⟨dp,d⟩:=fun d=>cP (by omega)
 have e3:kw.dp≤dp:=by omega
 obtain ⟨tl,hbox⟩:=W.box hr
 obtain ⟨H1,c1,c2,c3,c4⟩:=On W f.Body (dp:=dp+1) (H:=fun k=>if k.dp=dp then (if 3=k.d then some (dD f) else none) else H k) (by omega) hb (fun q hq=>by
  simp only [ad (show ¬q.dp=dp by omega)];exact hlow q (by omega)) (W.ext hr fun q hq=>by simp only [ad (show ¬q.dp=dp by omega)]) hs
 have b3:H1 ⟨dp,3⟩=some (dD f):=by rw [c4 _ (show ¬dp=0 by omega)];simp
 obtain ⟨H2,hH2⟩:∃ H2:HP,H2=(fun k=>if k.dp<dp then H1 k else none):=⟨_,rfl⟩
 refine ⟨H2,?_,by subst hH2;exact W.ext c2 fun q hq=>by simp only [ab (show q.dp<dp by omega)],by subst hH2;exact fun q hq=>by simp only [ad hq],fun q hq=>?_⟩
 rotate_left
 ·subst hH2
  by_cases hlt:q.dp<dp
  ·simp only [ab hlt]
   rw [c4 q hq]
   simp only [ad (show ¬q.dp=dp by omega)]
  ·simp only [ad hlt]
   rw [hlow q hlt]
 apply ak (by simp [JS,hk];rfl)
 apply ak
 ·apply cX (by simp [hk])
  exact bM _ _
 apply dU
 apply ak
 ·apply eY
  apply ak (by simp [hg,cA,e2];rfl)
  have hy:=W.fy hr
  refine (?_:run G Ω0 _ _ _=some (.nrm,⟨[(0,.p kw 0),(11,.l 101 (p.Funcs.map cA)),(12,I p.Funcs.length),(13,I k)],[],fun k=>if k.dp<dp then H1 k else none⟩))
  generalize hfo:Fo s=fo at hy hq
  cases hy with
  | l t _=>
   apply eZ 9
   ·rfl
   ·simp
   ·simp [e1,hbox,hq,aT]
    rfl
   ·simp [hq,aT,dH,AV.mG,c1,St.back,b3,ib,e3]
    rfl
   ·simp
  | sp ky _ hky hkk=>
   have ek:ky.dp=0:=by rcases hkk with rfl | rfl<;>rfl
   have e4:¬ky.dp=dp:=by omega
   obtain ⟨f1,f2⟩:=wi hq
   have f3:k<fo.length:=(dh.1 hq).1
   apply eZ 9
   ·rfl
   ·simp
   ·simp [e1,hbox]
    rfl
   ·simp [e4,hky,f1,f2,f3,dH,AV.mG,c1,St.back,b3,ib,e3]
    rfl
   ·simp
 simp [JS,hwr,hH2]
theorem JT(W:wk p Vo Fo dof kw x y fid caps Rep){dp a':Nat}{s':σ}(h0:0<dp)(hL:p.Funcs.length≤1000):∀ (rest:List Func)(k a:Nat)(s:σ)(H:HP),p.Funcs.drop k=rest→cF dp H→Rep a s H→BE p Vo Fo dof rest k a s=some (a',s')→
  ∃ H' z,gY G Ω0 ⟨dp,false⟩ U0 (JS kw p.Funcs k H)=some (.ex 0,z)∧z.aP [0] [0]=⟨[(0,.p kw 0)],[],H'⟩∧Rep a' s' H'∧cF dp H'∧∀ k:Key,k.dp≠0→H' k=H k
 | [],k,a,s,H,hd,hlow,hr,hs=>by
  have hk:¬((k:Int)<(p.Funcs.length:Int)):=by
   have:=eW.1 hd;omega
  rw [BE] at hs
  obtain ⟨rfl,rfl⟩:=eJ (aa hs)
  refine ⟨H,_,di (r:=(.ex 0,?_)) ?_ (by simp),?_,hr,hlow,fun _ _=>rfl⟩
  rotate_left
  ·show run G Ω0 _ KQ (JS kw p.Funcs k H)=_
   apply ak (by simp [JS,hk];rfl)
   apply iQ
   apply cg (by simp [hk])
   exact dN _ _ _
  ·simp
 | f::rest,k,a,s,H,hd,hlow,hr,hs=>by
  rw [BE] at hs
  split at hs
  ·rename_i hb
   obtain ⟨q,hq,hs⟩:=ah.1 hs
   obtain ⟨⟨a1,s1⟩,h1,h2⟩:=ah.1 hs
   have hg:p.Funcs[k]? =some f:=by
    have:=an (fun l=>l[0]?) hd
    simpa using this
   have hd2:p.Funcs.drop (k+1)=rest:=by
    have:=an List.tail hd
    simpa using this
   obtain ⟨H1,r1,r2,r3,r4⟩:=TP W h0 hL hg hb hq hlow hr h1
   obtain ⟨H',z,q1,q2,q3,q4,q5⟩:=JT W h0 hL rest (k+1) a1 s1 H1 hd2 r3 r2 h2
   refine ⟨H',z,?_,q2,q3,q4,fun k hk=>(q5 k hk).trans (r4 k hk)⟩
   rw [c8]
   exact q1
   show (run G Ω0 _ KQ (JS kw p.Funcs k H)).bind _=_
   rw [r1];rfl
  ·cases hs
set_option maxHeartbeats 8000000 in
theorem Ei(W:wk p Vo Fo dof kw x y fid caps Rep){dp a a':Nat}{s s':σ}{H:HP}(h0:0<dp)(hlow:cF dp H)(hr:Rep a s H)(hs:Dp p Vo Fo dof s=some (a',s')) :
  ∃ H',call G Ω0 ⟨dp,false⟩ 44 [.p kw 0] H=some (.ret (.tp []),H')∧Rep a' s' H'∧cF dp H'∧∀ k:Key,k.dp≠0→H' k=H k:=by
 have hw0:=W.kw0
 have e1:¬kw.dp=dp:=by omega
 have e2:∀ d,¬kw=⟨dp,d⟩:=fun d=>cP (by omega)
 have e3:kw.dp≤dp:=by omega
 obtain ⟨tl,hbox⟩:=W.box hr
 unfold Dp at hs
 split at hs
 ·rename_i hb
  obtain ⟨⟨a1,s1⟩,h1,hs⟩:=ah.1 hs
  obtain ⟨q,hq,h2⟩:=ah.1 hs
  obtain ⟨H0,hH0⟩:∃ H0:HP,H0=aF H kw (nK p x y (.f fid caps) ((0:Nat):Int) tl):=⟨_,rfl⟩
  have r0:Rep 0 s H0:=by subst hH0;exact W.bump hr (fun q hq _=>oY hq) hbox (eX ..)
  have l0:cF dp H0:=by subst hH0;exact cu (by omega) hlow
  have m0:∀ k:Key,k.dp≠0→H0 k=H k:=fun q hq=>by subst hH0;rw [oY (fun e=>hq (by rw [e];exact hw0))]
  obtain ⟨H1,z,i1,i2,r1,l1,m1⟩:=JT W h0 hb.1 p.Funcs 0 0 s H0 rfl l0 r0 h1
  obtain ⟨tl0,hbox0⟩:=W.box r0
  obtain ⟨tl1,hbox1⟩:=W.box r1
  have hB:=cw (E:=⟨dp,false⟩) (nJ p.aj q hq) (by simp) (by simp)
  obtain ⟨H2,c1,c2,c3,c4⟩:=On W p.Main (dp:=dp+1) (H:=fun k=>if k.dp=dp then none else H1 k) (by omega) hb.2 (fun q hq=>by
   simp only [ad (show ¬q.dp=dp by omega)];exact l1 q (by omega)) (W.ext r1 fun q hq=>by simp only [ad (show ¬q.dp=dp by omega)]) h2
  refine ⟨fun k=>if k.dp<dp then H2 k else none,?_,W.ext c2 fun q hq=>by simp only [ab (show q.dp<dp by omega)],fun q hq=>by simp only [ad hq],fun q hq=>?_⟩
  rotate_left
  ·by_cases hlt:q.dp<dp
   ·simp only [ab hlt]
    rw [c4 q hq]
    simp only [ad (show ¬q.dp=dp by omega)]
    rw [m1 q hq,m0 q hq]
   ·simp only [ad hlt]
    rw [hlow q hlt]
  apply LU G44
  ·refine ak (st1:=⟨[(0,.p kw 0)],[],H0⟩) (by subst hH0;simp [hbox,e1,e3]) ?_
   apply ak
   ·apply ak (by simp [e1,hbox0];rfl)
    apply ny
    rw [eg]
    exact i1
   show run G Ω0 _ (.kp _ _ U1) z=_
   rw [kN,i2]
   apply eZ 9
   ·rfl
   ·simp
   ·simp [e1,hbox1]
    rfl
   ·simp [-aU,e1,hbox1,hB,dH,AV.mG,c1,St.back,ib,e3]
    rfl
   ·simp
    rfl
  ·rfl
  ·rfl
 ·cases hs
end Go.Proofs.YtkkkkondjclcnaaGreat.A
