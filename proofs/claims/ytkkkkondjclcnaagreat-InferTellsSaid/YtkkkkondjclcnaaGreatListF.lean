/- infer.Walker's list and Go as plain functions, whatever is done at each command. -/
import Derived.Test.YtkkkkondjclcnaaGreatFlowF
set_option linter.all false
set_option maxRecDepth 100000
namespace Go.Proofs.YtkkkkondjclcnaaGreat.A
open Go
variable [Lp]
attribute [local simp] gp execOp okB ja er iG tX mg jt iZ St.end_ St.jZ List.filter
section
variable {σ:Type}(p:Program)(Vo Fo:σ→List Level)(dof:Nat→Stmt→Level→σ→Option σ)
mutual
noncomputable def Ew:Stmt→Nat→Level→σ→Option (Nat×σ)
 | ⟨k,v,o,e,args,th,el⟩,a,pl,s=>if a≤1000000∧args.length≤1000∧th.length≤1000∧el.length≤1000 then (dof a ⟨k,v,o,e,args,th,el⟩ pl s).bind fun s1=>
   if 7≤k then (nQ p (Vo s1) pl e).bind fun q=>(k9 th (a+1) q s1).bind fun r=>k9 el r.1 q r.2 else some (a+1,s1) else none
noncomputable def k9:List Stmt→Nat→Level→σ→Option (Nat×σ)
 | [],a,_,s=>some (a,s)
 | x::r,a,pl,s=>(Ew x a pl s).bind fun y=>k9 r y.1 pl y.2
end
noncomputable def xx:List Func→Nat→Nat→σ→Option (Nat×σ)
 | [],_,a,s=>some (a,s)
 | f::r,i,a,s=>if f.Body.length≤1000 then ((Fo s)[i]?).bind fun q=>(k9 p Vo dof f.Body a q s).bind fun y=>xx r (i+1) y.1 y.2 else none
noncomputable def yv(s:σ):Option (Nat×σ):=
 if p.Funcs.length≤1000∧p.Main.length≤1000 then (xx p Vo Fo dof p.Funcs 0 0 s).bind fun y=>(ir p.ah).bind fun q=>k9 p Vo dof p.Main y.1 q y.2 else none
end
theorem F3{σ:Type}(p:Program)(Vo:σ→List Level)(dof:Nat→Stmt→Level→σ→Option σ)(x:Stmt)(a:Nat)(pl:Level)(s:σ):Ew p Vo dof x a pl s=
  if a≤1000000∧x.Args.length≤1000∧x.Then.length≤1000∧x.Else.length≤1000 then (dof a x pl s).bind fun s1=>
   if 7≤x.Kind then (nQ p (Vo s1) pl x.Expr).bind fun q=>(k9 p Vo dof x.Then (a+1) q s1).bind fun r=>k9 p Vo dof x.Else r.1 q r.2 else some (a+1,s1) else none:=by
 cases x;rw [Ew]
def RL(fid:FuncId):FuncId:=if fid<1000000 then fid else fid - 1000000
def Hy(fid:FuncId)(caps args:List AV):List AV:=if fid<1000000 then args++caps else caps++args
structure uo{σ:Type}(p:Program)(Vo Fo:σ→List Level)(dof:Nat→Stmt→Level→σ→Option σ)(kw:Key)(x y:AV)(fid:FuncId)(caps:List AV)(Rep:Nat→σ→HP→Prop):Prop where
 kw0:kw.dp=0
 ic:caps.all AV.kT=false
 copy:AV.mC caps=true
 copy':caps.all AV.copy=true
 box:∀ {a s H},Rep a s H→∃ tl,H kw=some (mc p x y (.f fid caps) a tl)
 vx:∀ {a s H},Rep a s H→A3 H x (Vo s)
 fy:∀ {a s H},Rep a s H→A3 H y (Fo s)
 ext:∀ {a s H H'},Rep a s H→(∀ k:Key,k.dp=0→H' k=H k)→Rep a s H'
 bump:∀ {a a' s H H' tl},Rep a s H→(∀ k:Key,k≠kw→k.dp=0→H' k=H k)→H kw=some (mc p x y (.f fid caps) a tl)→H' kw=some (mc p x y (.f fid caps) ((a':Nat):Int) tl)→Rep a' s H'
 call:∀ {a st pl s s' dp H},dof a st pl s=some s'→st.Args.length≤1000→0<dp→cM dp H→Rep a s H→∃ H',call G Ω0 ⟨dp,false⟩ (RL fid) (Hy fid caps [I (a:Nat),.a (bC st),.a (aJ pl)]) H=some (.ret (.tp []),H')∧Rep a s' H'∧∀ k:Key,k.dp≠0→H' k=H k
variable {σ:Type}{p:Program}{Vo Fo:σ→List Level}{dof:Nat→Stmt→Level→σ→Option σ}{kw:Key}{x y:AV}{fid:FuncId}{caps:List AV}{Rep:Nat→σ→HP→Prop}
def sL(dp:Nat)(kw:Key)(L:List Stmt)(pl:Level)(k:Nat)(H:HP):St:=⟨[(0,.p kw 0),(5,.p ⟨dp,5⟩ 0),(9,.l 92 (L.map aV)),(10,I L.length),(11,I k)],[(5,aJ pl)],H⟩
def DF(p:Program)(Vo:σ→List Level)(dof:Nat→Stmt→Level→σ→Option σ)(kw:Key)(Rep:Nat→σ→HP→Prop)(L:List Stmt):Prop:=∀ ⦃dp a pl s a' s' H⦄,0<dp→L.length≤1000→cM dp H→Rep a s H→k9 p Vo dof L a pl s=some (a',s')→
 ∃ H',call G Ω0 ⟨dp,false⟩ 110 [.p kw 0,.l 92 (L.map aV),.a (aJ pl)] H=some (.ret (.tp []),H')∧Rep a' s' H'∧cM dp H'∧∀ k:Key,k.dp≠0→H' k=H k
def Ex(p:Program)(Vo:σ→List Level)(dof:Nat→Stmt→Level→σ→Option σ)(kw:Key)(Rep:Nat→σ→HP→Prop)(st:Stmt):Prop:=∀ ⦃dp a pl s a' s' H⦄ ⦃L:List Stmt⦄ ⦃k:Nat⦄,0<dp→L.length≤1000→L[k]? =some st→cM dp H→Rep a s H→Ew p Vo dof st a pl s=some (a',s')→
 ∃ H',run G Ω0 ⟨dp,false⟩ C4 (sL dp kw L pl k H)=some (.nrm,sL dp kw L pl (k+1) H')∧Rep a' s' H'∧cM dp H'∧∀ k:Key,k.dp≠0→H' k=H k
theorem Je{L:List Stmt}(h:∀ st∈L,Ex p Vo dof kw Rep st)(hw:kw.dp=0):DF p Vo dof kw Rep L:=by
 intro dp a pl s a' s' H h0 hL hlow hr hs
 have key:∀ (rest:List Stmt)(k:Nat)(a:Nat)(s:σ)(H:HP),L.drop k=rest→k≤L.length→cM dp H→Rep a s H→k9 p Vo dof rest a pl s=some (a',s')→
   ∃ H' z,fL G Ω0 ⟨dp,false⟩ QC (sL dp kw L pl k H)=some (.ex 0,z)∧z.hp=H'∧Rep a' s' H'∧cM dp H'∧∀ k:Key,k.dp≠0→H' k=H k:=by
  intro rest
  induction rest with
  | nil=>
   intro k a s H hd hk hlow hr hs
   have hk:¬((k:Int)<(L.length:Int)):=by
    have:=eo.1 hd;omega
   rw [k9] at hs
   obtain ⟨rfl,rfl⟩:=eR (ad hs)
   refine ⟨H,_,cT (r:=(.ex 0,?_)) ?_ (by simp),?_,hr,hlow,fun _ _=>rfl⟩
   rotate_left
   ·show run G Ω0 _ C4 (sL dp kw L pl k H)=_
    apply aj (by simp [sL,hk];rfl)
    apply ig
    apply bQ (by simp [hk])
    exact du _ _ _
   ·rfl
  | cons st rest ih=>
   intro k a s H hd hk hlow hr hs
   rw [k9] at hs
   obtain ⟨⟨a1,s1⟩,h1,h2⟩:=af.1 hs
   have hlt:k<L.length:=by
    have h1:=ak List.length hd
    simp only [hZ,bD] at h1
    omega
   have hg:L[k]? =some st:=by
    have:=ak (fun l=>l[0]?) hd
    simpa using this
   have hd2:L.drop (k+1)=rest:=by
    have:=ak List.tail hd
    simpa using this
   obtain ⟨H1,r1,r2,r3,r4⟩:=h st (by rw [←vA k L,hd];simp) h0 hL hg hlow hr h1
   obtain ⟨H',z,q1,q2,q3,q4,q5⟩:=ih (k+1) a1 s1 H1 hd2 (by omega) r3 r2 h2
   refine ⟨H',z,?_,q2,q3,q4,fun k hk=>(q5 k hk).trans (r4 k hk)⟩
   rw [cP]
   exact q1
   show (run G Ω0 _ C4 (sL dp kw L pl k H)).bind _=_
   rw [r1];rfl
 obtain ⟨H',z,q1,q2,q3,q4,q5⟩:=key L 0 a s H rfl (b9 _) hlow hr hs
 refine ⟨H',?_,q3,q4,q5⟩
 have e2:∀ d,¬kw=⟨dp,d⟩:=fun d=>de (by omega)
 apply Ha aiE
 ·apply aj (by simp [e2];rfl)
  apply aj (by simp;rfl)
  apply lN
  rw [dF]
  exact q1
 ·rfl
 ·exact q2
def rE(dp:Nat)(kw:Key)(L:List Stmt)(pl:Level)(st:Stmt)(k:Nat)(H:HP):St:=⟨[(0,.p kw 0),(5,.p ⟨dp,5⟩ 0),(7,.p ⟨dp,7⟩ 0),(9,.l 92 (L.map aV)),(10,I L.length),(11,I k)],[(5,aJ pl),(7,bC st)],H⟩
def RM(dp:Nat)(kw:Key)(L:List Stmt)(pl:Level)(st:Stmt)(k:Nat)(q:Level)(H:HP):St:=⟨[(0,.p kw 0),(5,.p ⟨dp,5⟩ 0),(7,.p ⟨dp,7⟩ 0),(8,.p ⟨dp,8⟩ 0),(9,.l 92 (L.map aV)),(10,I L.length),(11,I k)],[(5,aJ pl),(7,bC st),(8,aJ q)],H⟩
theorem RN{H:HP}{x:AV}{ls:List Level}(h:A3 H x ls):(∃ t es,x= .l t es)∨∃ k n,x= .sp k 0 n 2∧k.dp=0:=by
 cases h with
 | l t=>exact .inl ⟨_,_,rfl⟩
 | sp k _ h hk=>exact .inr ⟨_,_,rfl,by rcases hk with rfl | rfl<;>rfl⟩
set_option maxHeartbeats 8000000 in
theorem TS(W:uo p Vo Fo dof kw x y fid caps Rep){st:Stmt}(hT:DF p Vo dof kw Rep st.Then)(hE:DF p Vo dof kw Rep st.Else):Ex p Vo dof kw Rep st:=by
 intro dp a pl s a' s' H L k h0 hL hg hlow hr hs
 rw [F3] at hs
 have hlt:k<L.length:=(db.1 hg).1
 have hk:((k:Int)<(L.length:Int)):=by omega
 have hwr:=fq k (by omega)
 obtain ⟨ha,hs1,hs2,hs3,hs⟩:(a≤1000000∧st.Args.length≤1000∧st.Then.length≤1000∧st.Else.length≤1000∧_):=by
  split at hs
  ·rename_i h;exact ⟨h.1,h.2.1,h.2.2.1,h.2.2.2,hs⟩
  ·cases hs
 obtain ⟨s1,hd,hs⟩:=af.1 hs
 have hw0:=W.kw0
 have e1:¬kw.dp=dp:=by omega
 have e2:∀ d,¬kw=⟨dp,d⟩:=fun d=>de (by omega)
 have e3:kw.dp≤dp:=by omega
 have e4:kw.dp<dp:=by omega
 obtain ⟨tl,hbox⟩:=W.box hr
 have hx:=W.vx hr
 have hcl:=W.ic
 have hcc:=W.copy
 have hcc':=W.copy'
 obtain ⟨H1,c1,c2,c3⟩:=W.call (dp:=dp+1) (H:=fun k=>if k.dp=dp then (if 5=k.d then some (aJ pl) else if 7=k.d then some (bC st) else none) else H k) hd hs1 (by omega) (fun q hq=>by
  simp only [ab (show ¬q.dp=dp by omega)];exact hlow q (by omega)) (W.ext hr fun q hq=>by simp only [ab (show ¬q.dp=dp by omega)])
 have hb5:H1 ⟨dp,5⟩=some (aJ pl):=by rw [c3 _ (show ¬dp=0 by omega)];simp
 have hb7:H1 ⟨dp,7⟩=some (bC st):=by rw [c3 _ (show ¬dp=0 by omega)];simp
 have hwr2:=fq a (by omega)
 have hT2:∀ H2:HP,H2=(fun k=>if k.dp<dp then H1 k else none)→Rep a s1 H2∧cM dp H2∧∀ k:Key,k.dp≠0→H2 k=H k:=by
  rintro H2 rfl
  refine ⟨W.ext c2 fun q hq=>by simp only [aa (show q.dp<dp by omega)],fun q hq=>by simp only [ab hq],fun q hq=>?_⟩
  by_cases hlt:q.dp<dp
  ·simp only [aa hlt]
   rw [c3 q hq]
   simp only [ab (show ¬q.dp=dp by omega)]
  ·simp only [ab hlt]
   rw [hlow q hlt]
 obtain ⟨H2,hH2⟩:∃ H2:HP,H2=(fun k=>if k.dp<dp then H1 k else none):=⟨_,rfl⟩
 obtain ⟨r2,l2,m2⟩:=hT2 H2 hH2
 obtain ⟨tl2,hbox2⟩:=W.box r2
 obtain ⟨H3,hH3⟩:∃ H3:HP,H3=aG H2 kw (mc p x y (.f fid caps) ((a+1:Nat):Int) tl2):=⟨_,rfl⟩
 have r3:Rep (a+1) s1 H3:=by
  subst hH3
  exact W.bump r2 (fun q hq _=>nH hq) hbox2 (lI ..)
 have l3:cM dp H3:=by subst hH3;exact cz e4 l2
 have m3:∀ k:Key,k.dp≠0→H3 k=H k:=fun q hq=>by subst hH3;rw [nH (fun e=>hq (by rw [e];exact hw0))];exact m2 q hq
 have key:∃ H',run G Ω0 ⟨dp,false⟩ C4 (sL dp kw L pl k H)=some (.nrm,sL dp kw L pl (k+1) H')∧Rep a' s' H'∧cM dp H'∧∀ k:Key,k.dp≠0→H' k=H k:=by
  by_cases h7:7≤st.Kind
  ·rw [aa h7] at hs
   obtain ⟨q,hq,hs⟩:=af.1 hs
   obtain ⟨⟨a4,s4⟩,hw4,hs⟩:=af.1 hs
   obtain ⟨l,hl,hb⟩:=af.1 hq
   have hB:=bM (E:=⟨dp,false⟩) (mL pl l q hb) (by simp) (by simp)
   have hx3:=W.vx r3
   have hLv:∀ st1:St,st1.hp=H3→aS (call G Ω0) Ω0 ⟨dp,false⟩ st1 0 46 [.a (ar p),x,.a (ny st.Expr)]=some (.a (aJ l),st1):=fun st1 hs=>Mw (E:=⟨dp,false⟩) (by show dp≠0;omega) (by rw [hs];exact hx3) hl
   obtain ⟨tl3,hbox3⟩:=W.box r3
   have step:∀ (M:List Stmt)(a5:Nat)(s5:σ)(a6:Nat)(s6:σ)(H5:HP)(bx:Nat→Option (List AV)),DF p Vo dof kw Rep M→M.length≤1000→k9 p Vo dof M a5 q s5=some (a6,s6)→Rep a5 s5 H5→cM dp H5→
     ∃ H6 H7,call G Ω0 ⟨dp+1,false⟩ 110 [.p kw 0,.l 92 (M.map aV),.a (aJ q)] (fun k=>if k.dp=dp then bx k.d else H5 k)=some (.ret (.tp []),H7)∧H6=(fun k=>if k.dp<dp then H7 k else none)∧(∀ d,H7 ⟨dp,d⟩=bx d)∧Rep a6 s6 H6∧cM dp H6∧∀ k:Key,k.dp≠0→H6 k=H5 k:=by
    intro M a5 s5 a6 s6 H5 bx hM hM1 hw5 r5 l5
    obtain ⟨H7,i1,i2,i3,i4⟩:=hM (dp:=dp+1) (H:=fun k=>if k.dp=dp then bx k.d else H5 k) (by omega) hM1 (fun q hq=>by
     simp only [ab (show ¬q.dp=dp by omega)];exact l5 q (by omega)) (W.ext r5 fun q hq=>by simp only [ab (show ¬q.dp=dp by omega)]) hw5
    refine ⟨_,H7,i1,rfl,fun d=>?_,W.ext i2 fun q hq=>by simp only [aa (show q.dp<dp by omega)],fun q hq=>by simp only [ab hq],fun q hq=>?_⟩
    ·rw [i4 _ (show ¬dp=0 by omega)];simp
    ·by_cases hlt:q.dp<dp
     ·simp only [aa hlt]
      rw [i4 q hq]
      simp only [ab (show ¬q.dp=dp by omega)]
     ·simp only [ab hlt]
      rw [l5 q hlt]
   obtain ⟨H4,G4,g1,g2,g3,r4,l4,m4⟩:=step st.Then (a+1) s1 a4 s4 H3 (fun d=>if 5=d then some (aJ pl) else if 7=d then some (bC st) else if 8=d then some (aJ q) else none) hT hs2 hw4 r3 l3
   obtain ⟨H5,G5,g4,g5,g6,r5,l5,m5⟩:=step st.Else a4 s4 a' s' H4 (fun d=>if 5=d then some (aJ pl) else if 7=d then some (bC st) else if 8=d then some (aJ q) else none) hE hs3 hs r4 l4
   have b5:=g3 5
   have b7:=g3 7
   have b8:=g3 8
   have d5:=g6 5
   have d7:=g6 7
   have d8:=g6 8
   simp at b5 b7 b8 d5 d7 d8
   refine ⟨H5,?_,r5,l5,fun k hk=>(m5 k hk).trans ((m4 k hk).trans (m3 k hk))⟩
   apply aj (by simp [sL,hk];rfl)
   apply aj
   ·apply cL (by simp [hk])
    exact bB _ _
   apply dz
   apply aj
   ·apply eE
    apply aj (by simp [hg,ie,e2];rfl)
    refine aj (st1:=rE dp kw L pl st k H2) ?_ ?_
    ·apply dO 10
     ·rfl
     ·simp
     ·simp [e1,hbox,hcc]
      rfl
     ·by_cases hf:fid<1000000
      ·simp only [RL,Hy,aa hf,eA,dX] at c1
       simp [hf,dq,hcl,hcc',c1,AV.kT,St.back,hb5,hb7,gD,e3]
       rfl
      ·simp only [RL,Hy,ab hf] at c1
       simp [hf,dq,hcl,hcc',c1,AV.kT,St.back,hb5,hb7,gD,e3]
     ·subst hH2
      simp [rE]
    refine aj (st1:=rE dp kw L pl st k H3) ?_ ?_
    ·subst hH3
     simp [rE,e1,e2,hbox2,hwr2]
    apply aj (by simp [rE];rfl)
    apply cL (by simpa using h7)
    refine aj (st1:=RM dp kw L pl st k q H3) ?_ ?_
    ·apply dO 10 (s1:=⟨[(45,x),(44,.p kw 8),(43,.p kw 8),(42,.p kw 0),(41,.p kw 0),(40,.a (ar p)),(39,.p kw 0),(38,.p kw 0),(37,.p kw 0),(36,.a (aJ pl)),(0,.p kw 0),(5,.p ⟨dp,5⟩ 0),(7,.p ⟨dp,7⟩ 0),(9,.l 92 (L.map aV)),(10,I L.length),(11,I k),(35,.b (decide (7≤st.Kind)))],[(5,aJ pl),(7,bC st)],H3⟩)
     ·rfl
     ·simp [rE,e2]
     ·clear hLv
      rcases RN hx3 with ⟨t,es,rfl⟩ | ⟨k8,n8,rfl,hk8⟩
      ·simp [rE,e1,e2,hbox3]
      ·have e8:∀ d,¬k8=⟨dp,d⟩:=fun d=>de (by omega)
       simp [rE,e1,e2,hbox3,e8]
     ·simp [-aS,hLv,hB,e2]
      rfl
     ·simp [RM]
    refine aj (st1:=RM dp kw L pl st k q H4) ?_ ?_
    ·subst g2
     simp [RM,dq,AV.kT,g1,St.back,b5,b7,b8,gD,e3]
    simp [RM,dq,AV.kT,g4,St.back,d5,d7,d8,gD,e3]
    rfl
   simp [sL,hwr,g5]
  ·rw [ab h7] at hs
   obtain ⟨rfl,rfl⟩:=eR (ad hs)
   refine ⟨H3,?_,r3,l3,m3⟩
   apply aj (by simp [sL,hk];rfl)
   apply aj
   ·apply cL (by simp [hk])
    exact bB _ _
   apply dz
   apply aj
   ·apply eE
    apply aj (by simp [hg,ie,e2];rfl)
    refine aj (st1:=rE dp kw L pl st k H2) ?_ ?_
    ·apply dO 10
     ·rfl
     ·simp
     ·simp [e1,hbox,hcc]
      rfl
     ·by_cases hf:fid<1000000
      ·simp only [RL,Hy,aa hf,eA,dX] at c1
       simp [hf,dq,hcl,hcc',c1,AV.kT,St.back,hb5,hb7,gD,e3]
       rfl
      ·simp only [RL,Hy,ab hf] at c1
       simp [hf,dq,hcl,hcc',c1,AV.kT,St.back,hb5,hb7,gD,e3]
     ·subst hH2
      simp [rE]
    refine aj (st1:=rE dp kw L pl st k H3) ?_ ?_
    ·subst hH3
     simp [rE,e1,e2,hbox2,hwr2]
    apply aj (by simp [rE];rfl)
    apply bQ (by simpa using h7)
    exact bB _ _
   simp [sL,hwr]
 exact key
mutual
theorem RO(W:uo p Vo Fo dof kw x y fid caps Rep):∀ st:Stmt,Ex p Vo dof kw Rep st
 | ⟨_,_,_,_,_,th,el⟩=>TS W (Je (Ey W th) W.kw0) (Je (Ey W el) W.kw0)
 termination_by structural st=>st
theorem Ey(W:uo p Vo Fo dof kw x y fid caps Rep):∀ l:List Stmt,∀ st∈l,Ex p Vo dof kw Rep st
 | [],_,h=>absurd h (by simp)
 | a::r,st,h=>by
  have h1:=RO W a
  have h2:=Ey W r
  exact (cQ.1 h).elim (fun e=>e▸h1) fun h=>h2 st h
 termination_by structural l=>l
end
theorem Ow(W:uo p Vo Fo dof kw x y fid caps Rep)(L:List Stmt):DF p Vo dof kw Rep L:=Je (Ey W L) W.kw0
def J3(kw:Key)(L:List Func)(k:Nat)(H:HP):St:=⟨[(0,.p kw 0),(11,.l 101 (L.map ct)),(12,I L.length),(13,I k)],[],H⟩
set_option maxHeartbeats 8000000 in
theorem TT(W:uo p Vo Fo dof kw x y fid caps Rep){dp a k:Nat}{s s':σ}{a':Nat}{H:HP}{f:Func}{q:Level}(h0:0<dp)(hL:p.Funcs.length≤1000)(hg:p.Funcs[k]? =some f)(hb:f.Body.length≤1000)(hq:(Fo s)[k]? =some q)(hlow:cM dp H)(hr:Rep a s H)
  (hs:k9 p Vo dof f.Body a q s=some (a',s')):∃ H',run G Ω0 ⟨dp,false⟩ K4 (J3 kw p.Funcs k H)=some (.nrm,J3 kw p.Funcs (k+1) H')∧Rep a' s' H'∧cM dp H'∧∀ k:Key,k.dp≠0→H' k=H k:=by
 have hlt:k<p.Funcs.length:=(db.1 hg).1
 have hk:((k:Int)<(p.Funcs.length:Int)):=by omega
 have hwr:=fq k (by omega)
 have hw0:=W.kw0
 have e1:¬kw.dp=dp:=by omega
 have e2:∀ d,¬kw=⟨dp,d⟩:=fun d=>de (by omega)
 have e3:kw.dp≤dp:=by omega
 obtain ⟨tl,hbox⟩:=W.box hr
 obtain ⟨H1,c1,c2,c3,c4⟩:=Ow W f.Body (dp:=dp+1) (H:=fun k=>if k.dp=dp then (if 3=k.d then some (dB f) else none) else H k) (by omega) hb (fun q hq=>by
  simp only [ab (show ¬q.dp=dp by omega)];exact hlow q (by omega)) (W.ext hr fun q hq=>by simp only [ab (show ¬q.dp=dp by omega)]) hs
 have b3:H1 ⟨dp,3⟩=some (dB f):=by rw [c4 _ (show ¬dp=0 by omega)];simp
 obtain ⟨H2,hH2⟩:∃ H2:HP,H2=(fun k=>if k.dp<dp then H1 k else none):=⟨_,rfl⟩
 refine ⟨H2,?_,by subst hH2;exact W.ext c2 fun q hq=>by simp only [aa (show q.dp<dp by omega)],by subst hH2;exact fun q hq=>by simp only [ab hq],fun q hq=>?_⟩
 rotate_left
 ·subst hH2
  by_cases hlt:q.dp<dp
  ·simp only [aa hlt]
   rw [c4 q hq]
   simp only [ab (show ¬q.dp=dp by omega)]
  ·simp only [ab hlt]
   rw [hlow q hlt]
 apply aj (by simp [J3,hk];rfl)
 apply aj
 ·apply cL (by simp [hk])
  exact bB _ _
 apply dz
 apply aj
 ·apply eE
  apply aj (by simp [hg,ct,e2];rfl)
  have hy:=W.fy hr
  refine (?_:run G Ω0 _ _ _=some (.nrm,⟨[(0,.p kw 0),(11,.l 101 (p.Funcs.map ct)),(12,I p.Funcs.length),(13,I k)],[],fun k=>if k.dp<dp then H1 k else none⟩))
  generalize hfo:Fo s=fo at hy hq
  cases hy with
  | l t _=>
   apply dO 9
   ·rfl
   ·simp
   ·simp [e1,hbox,hq,aq]
    rfl
   ·simp [hq,aq,dq,AV.kT,c1,St.back,b3,gD,e3]
    rfl
   ·simp
  | sp ky _ hky hkk=>
   have ek:ky.dp=0:=by rcases hkk with rfl | rfl<;>rfl
   have e4:¬ky.dp=dp:=by omega
   obtain ⟨f1,f2⟩:=wh hq
   have f3:k<fo.length:=(db.1 hq).1
   apply dO 9
   ·rfl
   ·simp
   ·simp [e1,hbox]
    rfl
   ·simp [e4,hky,f1,f2,f3,dq,AV.kT,c1,St.back,b3,gD,e3]
    rfl
   ·simp
 simp [J3,hwr,hH2]
theorem J4(W:uo p Vo Fo dof kw x y fid caps Rep){dp a':Nat}{s':σ}(h0:0<dp)(hL:p.Funcs.length≤1000):∀ (rest:List Func)(k a:Nat)(s:σ)(H:HP),p.Funcs.drop k=rest→cM dp H→Rep a s H→xx p Vo Fo dof rest k a s=some (a',s')→
  ∃ H' z,fL G Ω0 ⟨dp,false⟩ U0 (J3 kw p.Funcs k H)=some (.ex 0,z)∧z.aN [0] [0]=⟨[(0,.p kw 0)],[],H'⟩∧Rep a' s' H'∧cM dp H'∧∀ k:Key,k.dp≠0→H' k=H k
 | [],k,a,s,H,hd,hlow,hr,hs=>by
  have hk:¬((k:Int)<(p.Funcs.length:Int)):=by
   have:=eo.1 hd;omega
  rw [xx] at hs
  obtain ⟨rfl,rfl⟩:=eR (ad hs)
  refine ⟨H,_,cT (r:=(.ex 0,?_)) ?_ (by simp),?_,hr,hlow,fun _ _=>rfl⟩
  rotate_left
  ·show run G Ω0 _ K4 (J3 kw p.Funcs k H)=_
   apply aj (by simp [J3,hk];rfl)
   apply ig
   apply bQ (by simp [hk])
   exact du _ _ _
  ·simp
 | f::rest,k,a,s,H,hd,hlow,hr,hs=>by
  rw [xx] at hs
  split at hs
  ·rename_i hb
   obtain ⟨q,hq,hs⟩:=af.1 hs
   obtain ⟨⟨a1,s1⟩,h1,h2⟩:=af.1 hs
   have hg:p.Funcs[k]? =some f:=by
    have:=ak (fun l=>l[0]?) hd
    simpa using this
   have hd2:p.Funcs.drop (k+1)=rest:=by
    have:=ak List.tail hd
    simpa using this
   obtain ⟨H1,r1,r2,r3,r4⟩:=TT W h0 hL hg hb hq hlow hr h1
   obtain ⟨H',z,q1,q2,q3,q4,q5⟩:=J4 W h0 hL rest (k+1) a1 s1 H1 hd2 r3 r2 h2
   refine ⟨H',z,?_,q2,q3,q4,fun k hk=>(q5 k hk).trans (r4 k hk)⟩
   rw [cP]
   exact q1
   show (run G Ω0 _ K4 (J3 kw p.Funcs k H)).bind _=_
   rw [r1];rfl
  ·cases hs
set_option maxHeartbeats 8000000 in
theorem A4(W:uo p Vo Fo dof kw x y fid caps Rep){dp a a':Nat}{s s':σ}{H:HP}(h0:0<dp)(hlow:cM dp H)(hr:Rep a s H)(hs:yv p Vo Fo dof s=some (a',s')) :
  ∃ H',call G Ω0 ⟨dp,false⟩ 44 [.p kw 0] H=some (.ret (.tp []),H')∧Rep a' s' H'∧cM dp H'∧∀ k:Key,k.dp≠0→H' k=H k:=by
 have hw0:=W.kw0
 have e1:¬kw.dp=dp:=by omega
 have e2:∀ d,¬kw=⟨dp,d⟩:=fun d=>de (by omega)
 have e3:kw.dp≤dp:=by omega
 obtain ⟨tl,hbox⟩:=W.box hr
 unfold yv at hs
 split at hs
 ·rename_i hb
  obtain ⟨⟨a1,s1⟩,h1,hs⟩:=af.1 hs
  obtain ⟨q,hq,h2⟩:=af.1 hs
  obtain ⟨H0,hH0⟩:∃ H0:HP,H0=aG H kw (mc p x y (.f fid caps) ((0:Nat):Int) tl):=⟨_,rfl⟩
  have r0:Rep 0 s H0:=by subst hH0;exact W.bump hr (fun q hq _=>nH hq) hbox (lI ..)
  have l0:cM dp H0:=by subst hH0;exact cz (by omega) hlow
  have m0:∀ k:Key,k.dp≠0→H0 k=H k:=fun q hq=>by subst hH0;rw [nH (fun e=>hq (by rw [e];exact hw0))]
  obtain ⟨H1,z,i1,i2,r1,l1,m1⟩:=J4 W h0 hb.1 p.Funcs 0 0 s H0 rfl l0 r0 h1
  obtain ⟨tl0,hbox0⟩:=W.box r0
  obtain ⟨tl1,hbox1⟩:=W.box r1
  have hB:=bM (E:=⟨dp,false⟩) (nx p.ah q hq) (by simp) (by simp)
  obtain ⟨H2,c1,c2,c3,c4⟩:=Ow W p.Main (dp:=dp+1) (H:=fun k=>if k.dp=dp then none else H1 k) (by omega) hb.2 (fun q hq=>by
   simp only [ab (show ¬q.dp=dp by omega)];exact l1 q (by omega)) (W.ext r1 fun q hq=>by simp only [ab (show ¬q.dp=dp by omega)]) h2
  refine ⟨fun k=>if k.dp<dp then H2 k else none,?_,W.ext c2 fun q hq=>by simp only [aa (show q.dp<dp by omega)],fun q hq=>by simp only [ab hq],fun q hq=>?_⟩
  rotate_left
  ·by_cases hlt:q.dp<dp
   ·simp only [aa hlt]
    rw [c4 q hq]
    simp only [ab (show ¬q.dp=dp by omega)]
    rw [m1 q hq,m0 q hq]
   ·simp only [ab hlt]
    rw [hlow q hlt]
  apply Ha G44
  ·refine aj (st1:=⟨[(0,.p kw 0)],[],H0⟩) (by subst hH0;simp [hbox,e1,e3]) ?_
   apply aj
   ·apply aj (by simp [e1,hbox0];rfl)
    apply lN
    rw [dF]
    exact i1
   show run G Ω0 _ (.kp _ _ U1) z=_
   rw [jE,i2]
   apply dO 9
   ·rfl
   ·simp
   ·simp [e1,hbox1]
    rfl
   ·simp [-aS,e1,hbox1,hB,dq,AV.kT,c1,St.back,gD,e3]
    rfl
   ·simp
    rfl
  ·rfl
  ·rfl
 ·cases hs
end Go.Proofs.YtkkkkondjclcnaaGreat.A
