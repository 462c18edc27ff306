/- infer.Walker's list and Go as plain functions, whatever is done at each command. -/
import Derived.Test.YtkkkkondjclcnaaFlowF
set_option maxRecDepth 100000
set_option linter.unusedSectionVars false
set_option linter.unusedVariables false
set_option linter.unusedSimpArgs false
set_option linter.constructorNameAsVariable false
namespace Go.Proofs.Ytkkkkondjclcnaa.A
open Go
variable [Lp]
attribute [local simp] gp execOp okB oa dR kx uX ka jC fx St.end_ St.nm List.filter
section
variable {σ:Type}(p:Program)(Vo Fo:σ→List Level)(dof:Nat→Stmt→Level→σ→Option σ)
mutual
noncomputable def we:Stmt→Nat→Level→σ→Option (Nat×σ)
 | ⟨k,v,o,e,args,th,el⟩,a,pl,s=>if a≤1000000∧args.length≤1000∧th.length≤1000∧el.length≤1000 then (dof a ⟨k,v,o,e,args,th,el⟩ pl s).bind fun s1=>
   if 7≤k then (jw p (Vo s1) pl e).bind fun q=>(gk th (a+1) q s1).bind fun r=>gk el r.1 q r.2 else some (a+1,s1) else none
noncomputable def gk:List Stmt→Nat→Level→σ→Option (Nat×σ)
 | [],a,_,s=>some (a,s)
 | x::r,a,pl,s=>(we x a pl s).bind fun y=>gk r y.1 pl y.2
end
noncomputable def qu:List Func→Nat→Nat→σ→Option (Nat×σ)
 | [],_,a,s=>some (a,s)
 | f::r,i,a,s=>if f.Body.length≤1000 then ((Fo s)[i]?).bind fun q=>(gk p Vo dof f.Body a q s).bind fun y=>qu r (i+1) y.1 y.2 else none
noncomputable def rj(s:σ):Option (Nat×σ):=
 if p.Funcs.length≤1000∧p.Main.length≤1000 then (qu p Vo Fo dof p.Funcs 0 0 s).bind fun y=>(ec p.aa).bind fun q=>gk p Vo dof p.Main y.1 q y.2 else none
end
theorem xL{σ:Type}(p:Program)(Vo:σ→List Level)(dof:Nat→Stmt→Level→σ→Option σ)(x:Stmt)(a:Nat)(pl:Level)(s:σ):we p Vo dof x a pl s=
  if a≤1000000∧x.Args.length≤1000∧x.Then.length≤1000∧x.Else.length≤1000 then (dof a x pl s).bind fun s1=>
   if 7≤x.Kind then (jw p (Vo s1) pl x.Expr).bind fun q=>(gk p Vo dof x.Then (a+1) q s1).bind fun r=>gk p Vo dof x.Else r.1 q r.2 else some (a+1,s1) else none:=by
 cases x;rw [we]
structure oy{σ:Type}(p:Program)(Vo Fo:σ→List Level)(dof:Nat→Stmt→Level→σ→Option σ)(kw:Key)(x y:AV)(fid:FuncId)(caps:List AV)(Rep:Nat→σ→HP→Prop):Prop where
 kw0:kw.dp=0
 eI:caps.all AV.iE=false
 copy:AV.jA caps=true
 copy':caps.all AV.copy=true
 box:∀ {a s H},Rep a s H→H kw=some (iQ p x y (.f fid caps) a)
 vx:∀ {a s H},Rep a s H→tu H x (Vo s)
 fy:∀ {a s H},Rep a s H→tu H y (Fo s)
 ext:∀ {a s H H'},Rep a s H→(∀ k:Key,k.dp=0→H' k=H k)→Rep a s H'
 bump:∀ {a a' s H H'},Rep a s H→(∀ k:Key,k≠kw→k.dp=0→H' k=H k)→H' kw=some (iQ p x y (.f fid caps) ((a':Nat):Int))→Rep a' s H'
 call:∀ {a st pl s s' dp H},dof a st pl s=some s'→st.Args.length≤1000→0<dp→aS dp H→Rep a s H→∃ H',call G Ω0 ⟨dp,false⟩ fid (I (a:Nat)::.a (av st)::.a (aB pl)::caps) H=some (.ret (.tp []),H')∧Rep a s' H'∧∀ k:Key,k.dp≠0→H' k=H k
variable {σ:Type}{p:Program}{Vo Fo:σ→List Level}{dof:Nat→Stmt→Level→σ→Option σ}{kw:Key}{x y:AV}{fid:FuncId}{caps:List AV}{Rep:Nat→σ→HP→Prop}
def nB(dp:Nat)(kw:Key)(L:List Stmt)(pl:Level)(k:Nat)(H:HP):St:=⟨[(0,.p kw 0),(5,.p ⟨dp,5⟩ 0),(9,.l 74 (L.map aI)),(10,I L.length),(11,I k)],[(5,aB pl)],H⟩
def vv(p:Program)(Vo:σ→List Level)(dof:Nat→Stmt→Level→σ→Option σ)(kw:Key)(Rep:Nat→σ→HP→Prop)(L:List Stmt):Prop:=∀ ⦃dp a pl s a' s' H⦄,0<dp→L.length≤1000→aS dp H→Rep a s H→gk p Vo dof L a pl s=some (a',s')→
 ∃ H',call G Ω0 ⟨dp,false⟩ 54 [.p kw 0,.l 74 (L.map aI),.a (aB pl)] H=some (.ret (.tp []),H')∧Rep a' s' H'∧aS dp H'∧∀ k:Key,k.dp≠0→H' k=H k
def wg(p:Program)(Vo:σ→List Level)(dof:Nat→Stmt→Level→σ→Option σ)(kw:Key)(Rep:Nat→σ→HP→Prop)(st:Stmt):Prop:=∀ ⦃dp a pl s a' s' H⦄ ⦃L:List Stmt⦄ ⦃k:Nat⦄,0<dp→L.length≤1000→L[k]? =some st→aS dp H→Rep a s H→we p Vo dof st a pl s=some (a',s')→
 ∃ H',run G Ω0 ⟨dp,false⟩ yr (nB dp kw L pl k H)=some (.nrm,nB dp kw L pl (k+1) H')∧Rep a' s' H'∧aS dp H'∧∀ k:Key,k.dp≠0→H' k=H k
theorem Av{L:List Stmt}(h:∀ st∈L,wg p Vo dof kw Rep st)(hw:kw.dp=0):vv p Vo dof kw Rep L:=by
 intro dp a pl s a' s' H h0 hL hlow hr hs
 have key:∀ (rest:List Stmt)(k:Nat)(a:Nat)(s:σ)(H:HP),L.drop k=rest→k≤L.length→aS dp H→Rep a s H→gk p Vo dof rest a pl s=some (a',s')→
   ∃ H' z,mI G Ω0 ⟨dp,false⟩ I9 (nB dp kw L pl k H)=some (.ex 0,z)∧z.hp=H'∧Rep a' s' H'∧aS dp H'∧∀ k:Key,k.dp≠0→H' k=H k:=by
  intro rest
  induction rest with
  | nil=>
   intro k a s H hd hk hlow hr hs
   have hk:¬((k:Int)<(L.length:Int)):=by
    have:=List.drop_eq_nil_iff.1 hd;omega
   rw [gk] at hs
   obtain ⟨rfl,rfl⟩:=Prod.mk.inj (Option.some.inj hs)
   refine ⟨H,_,iW (r:=(.ex 0,?_)) ?_ (by simp),?_,hr,hlow,fun _ _=>rfl⟩
   rotate_left
   ·show run G Ω0 _ yr (nB dp kw L pl k H)=_
    apply ak (by simp [nB,hk];rfl)
    apply oZ
    apply dH (by simp [hk])
    exact gK _ _ _
   ·rfl
  | cons st rest ih=>
   intro k a s H hd hk hlow hr hs
   rw [gk] at hs
   obtain ⟨⟨a1,s1⟩,h1,h2⟩:=Option.bind_eq_some_iff.1 hs
   have hlt:k<L.length:=by
    have h1:=congrArg List.length hd
    simp only [List.length_drop,List.length_cons] at h1
    omega
   have hg:L[k]? =some st:=by
    have:=congrArg (fun l=>l[0]?) hd
    simpa using this
   have hd2:L.drop (k+1)=rest:=by
    have:=congrArg List.tail hd
    simpa using this
   obtain ⟨H1,r1,r2,r3,r4⟩:=h st (by rw [←List.take_append_drop k L,hd];simp) h0 hL hg hlow hr h1
   obtain ⟨H',z,q1,q2,q3,q4,q5⟩:=ih (k+1) a1 s1 H1 hd2 (by omega) r3 r2 h2
   refine ⟨H',z,?_,q2,q3,q4,fun k hk=>(q5 k hk).trans (r4 k hk)⟩
   rw [gq]
   exact q1
   show (run G Ω0 _ yr (nB dp kw L pl k H)).bind _=_
   rw [r1];rfl
 obtain ⟨H',z,q1,q2,q3,q4,q5⟩:=key L 0 a s H rfl (Nat.zero_le _) hlow hr hs
 refine ⟨H',?_,q3,q4,q5⟩
 have e2:∀ d,¬kw=⟨dp,d⟩:=fun d=>bH (by omega)
 apply zf T7
 ·apply ak (by simp [e2];rfl)
  apply ak (by simp;rfl)
  apply sP
  rw [iw]
  exact q1
 ·rfl
 ·exact q2
def mm(dp:Nat)(kw:Key)(L:List Stmt)(pl:Level)(st:Stmt)(k:Nat)(H:HP):St:=⟨[(0,.p kw 0),(5,.p ⟨dp,5⟩ 0),(7,.p ⟨dp,7⟩ 0),(9,.l 74 (L.map aI)),(10,I L.length),(11,I k)],[(5,aB pl),(7,av st)],H⟩
def GI(dp:Nat)(kw:Key)(L:List Stmt)(pl:Level)(st:Stmt)(k:Nat)(q:Level)(H:HP):St:=⟨[(0,.p kw 0),(5,.p ⟨dp,5⟩ 0),(7,.p ⟨dp,7⟩ 0),(8,.p ⟨dp,8⟩ 0),(9,.l 74 (L.map aI)),(10,I L.length),(11,I k)],[(5,aB pl),(7,av st),(8,aB q)],H⟩
theorem GJ{H:HP}{x:AV}{ls:List Level}(h:tu H x ls):(∃ t es,x= .l t es)∨∃ k n,x= .sp k 0 n 2∧k.dp=0:=by
 cases h with
 | l t=>exact .inl ⟨_,_,rfl⟩
 | sp k _ h hk=>exact .inr ⟨_,_,rfl,by rcases hk with rfl | rfl<;>rfl⟩
set_option maxHeartbeats 8000000 in
theorem HY(W:oy p Vo Fo dof kw x y fid caps Rep){st:Stmt}(hT:vv p Vo dof kw Rep st.Then)(hE:vv p Vo dof kw Rep st.Else):wg p Vo dof kw Rep st:=by
 intro dp a pl s a' s' H L k h0 hL hg hlow hr hs
 rw [xL] at hs
 have hlt:k<L.length:=(List.getElem?_eq_some_iff.1 hg).1
 have hk:((k:Int)<(L.length:Int)):=by omega
 have hwr:=og k (by omega)
 obtain ⟨ha,hs1,hs2,hs3,hs⟩:(a≤1000000∧st.Args.length≤1000∧st.Then.length≤1000∧st.Else.length≤1000∧_):=by
  split at hs
  ·rename_i h;exact ⟨h.1,h.2.1,h.2.2.1,h.2.2.2,hs⟩
  ·cases hs
 obtain ⟨s1,hd,hs⟩:=Option.bind_eq_some_iff.1 hs
 have hw0:=W.kw0
 have e1:¬kw.dp=dp:=by omega
 have e2:∀ d,¬kw=⟨dp,d⟩:=fun d=>bH (by omega)
 have e3:kw.dp≤dp:=by omega
 have e4:kw.dp<dp:=by omega
 have hbox:=W.box hr
 have hx:=W.vx hr
 have hcl:=W.eI
 have hcc:=W.copy
 have hcc':=W.copy'
 obtain ⟨H1,c1,c2,c3⟩:=W.call (dp:=dp+1) (H:=fun k=>if k.dp=dp then (if 5=k.d then some (aB pl) else if 7=k.d then some (av st) else none) else H k) hd hs1 (by omega) (fun q hq=>by
  simp only [if_neg (show ¬q.dp=dp by omega)];exact hlow q (by omega)) (W.ext hr fun q hq=>by simp only [if_neg (show ¬q.dp=dp by omega)])
 have hb5:H1 ⟨dp,5⟩=some (aB pl):=by rw [c3 _ (show ¬dp=0 by omega)];simp
 have hb7:H1 ⟨dp,7⟩=some (av st):=by rw [c3 _ (show ¬dp=0 by omega)];simp
 have hwr2:=og a (by omega)
 have hT2:∀ H2:HP,H2=(fun k=>if k.dp<dp then H1 k else none)→Rep a s1 H2∧aS dp H2∧∀ k:Key,k.dp≠0→H2 k=H k:=by
  rintro H2 rfl
  refine ⟨W.ext c2 fun q hq=>by simp only [if_pos (show q.dp<dp by omega)],fun q hq=>by simp only [if_neg hq],fun q hq=>?_⟩
  by_cases hlt:q.dp<dp
  ·simp only [if_pos hlt]
   rw [c3 q hq]
   simp only [if_neg (show ¬q.dp=dp by omega)]
  ·simp only [if_neg hlt]
   rw [hlow q hlt]
 obtain ⟨H2,hH2⟩:∃ H2:HP,H2=(fun k=>if k.dp<dp then H1 k else none):=⟨_,rfl⟩
 obtain ⟨r2,l2,m2⟩:=hT2 H2 hH2
 have hbox2:=W.box r2
 obtain ⟨H3,hH3⟩:∃ H3:HP,H3=aj H2 kw (iQ p x y (.f fid caps) ((a+1:Nat):Int)):=⟨_,rfl⟩
 have r3:Rep (a+1) s1 H3:=by
  subst hH3
  exact W.bump r2 (fun q hq _=>jj hq) (cY ..)
 have l3:aS dp H3:=by subst hH3;exact bc e4 l2
 have m3:∀ k:Key,k.dp≠0→H3 k=H k:=fun q hq=>by subst hH3;rw [jj (fun e=>hq (by rw [e];exact hw0))];exact m2 q hq
 have key:∃ H',run G Ω0 ⟨dp,false⟩ yr (nB dp kw L pl k H)=some (.nrm,nB dp kw L pl (k+1) H')∧Rep a' s' H'∧aS dp H'∧∀ k:Key,k.dp≠0→H' k=H k:=by
  by_cases h7:7≤st.Kind
  ·rw [if_pos h7] at hs
   obtain ⟨q,hq,hs⟩:=Option.bind_eq_some_iff.1 hs
   obtain ⟨⟨a4,s4⟩,hw4,hs⟩:=Option.bind_eq_some_iff.1 hs
   obtain ⟨l,hl,hb⟩:=Option.bind_eq_some_iff.1 hq
   have hB:=gG (E:=⟨dp,false⟩) (iN pl l q hb) (by simp) (by simp)
   have hx3:=W.vx r3
   have hLv:∀ st1:St,st1.hp=H3→bE (call G Ω0) Ω0 ⟨dp,false⟩ st1 0 38 [.a (an p),x,.a (ml st.Expr)]=some (.a (aB l),st1):=fun st1 hs=>CV (E:=⟨dp,false⟩) (by show dp≠0;omega) (by rw [hs];exact hx3) hl
   have hbox3:=W.box r3
   have step:∀ (M:List Stmt)(a5:Nat)(s5:σ)(a6:Nat)(s6:σ)(H5:HP)(bx:Nat→Option (List AV)),vv p Vo dof kw Rep M→M.length≤1000→gk p Vo dof M a5 q s5=some (a6,s6)→Rep a5 s5 H5→aS dp H5→
     ∃ H6 H7,call G Ω0 ⟨dp+1,false⟩ 54 [.p kw 0,.l 74 (M.map aI),.a (aB q)] (fun k=>if k.dp=dp then bx k.d else H5 k)=some (.ret (.tp []),H7)∧H6=(fun k=>if k.dp<dp then H7 k else none)∧(∀ d,H7 ⟨dp,d⟩=bx d)∧Rep a6 s6 H6∧aS dp H6∧∀ k:Key,k.dp≠0→H6 k=H5 k:=by
    intro M a5 s5 a6 s6 H5 bx hM hM1 hw5 r5 l5
    obtain ⟨H7,i1,i2,i3,i4⟩:=hM (dp:=dp+1) (H:=fun k=>if k.dp=dp then bx k.d else H5 k) (by omega) hM1 (fun q hq=>by
     simp only [if_neg (show ¬q.dp=dp by omega)];exact l5 q (by omega)) (W.ext r5 fun q hq=>by simp only [if_neg (show ¬q.dp=dp by omega)]) hw5
    refine ⟨_,H7,i1,rfl,fun d=>?_,W.ext i2 fun q hq=>by simp only [if_pos (show q.dp<dp by omega)],fun q hq=>by simp only [if_neg hq],fun q hq=>?_⟩
    ·rw [i4 _ (show ¬dp=0 by omega)];simp
    ·by_cases hlt:q.dp<dp
     ·simp only [if_pos hlt]
      rw [i4 q hq]
      simp only [if_neg (show ¬q.dp=dp by omega)]
     ·simp only [if_neg hlt]
      rw [l5 q hlt]
   obtain ⟨H4,G4,g1,g2,g3,r4,l4,m4⟩:=step st.Then (a+1) s1 a4 s4 H3 (fun d=>if 5=d then some (aB pl) else if 7=d then some (av st) else if 8=d then some (aB q) else none) hT hs2 hw4 r3 l3
   obtain ⟨H5,G5,g4,g5,g6,r5,l5,m5⟩:=step st.Else a4 s4 a' s' H4 (fun d=>if 5=d then some (aB pl) else if 7=d then some (av st) else if 8=d then some (aB q) else none) hE hs3 hs r4 l4
   have b5:=g3 5
   have b7:=g3 7
   have b8:=g3 8
   have d5:=g6 5
   have d7:=g6 7
   have d8:=g6 8
   simp at b5 b7 b8 d5 d7 d8
   refine ⟨H5,?_,r5,l5,fun k hk=>(m5 k hk).trans ((m4 k hk).trans (m3 k hk))⟩
   apply ak (by simp [nB,hk];rfl)
   apply ak
   ·apply eK (by simp [hk])
    exact db _ _
   apply kq
   apply ak
   ·apply nM
    apply ak (by simp [hg,jH,e2];rfl)
    refine ak (st1:=mm dp kw L pl st k H2) ?_ ?_
    ·apply lE 10
     ·rfl
     ·simp
     ·simp [e1,hbox,hcc]
      rfl
     ·simp [cm,hcl,hcc',c1,AV.iE,St.back,hb5,hb7,da,e3]
      rfl
     ·subst hH2
      simp [mm]
    refine ak (st1:=mm dp kw L pl st k H3) ?_ ?_
    ·subst hH3
     simp [mm,e1,e2,hbox2,hwr2]
    apply ak (by simp [mm];rfl)
    apply eK (by simpa using h7)
    refine ak (st1:=GI dp kw L pl st k q H3) ?_ ?_
    ·apply lE 10 (s1:=⟨[(45,x),(44,.p kw 8),(43,.p kw 8),(42,.p kw 0),(41,.p kw 0),(40,.a (an p)),(39,.p kw 0),(38,.p kw 0),(37,.p kw 0),(36,.a (aB pl)),(0,.p kw 0),(5,.p ⟨dp,5⟩ 0),(7,.p ⟨dp,7⟩ 0),(9,.l 74 (L.map aI)),(10,I L.length),(11,I k),(35,.b (decide (7≤st.Kind)))],[(5,aB pl),(7,av st)],H3⟩)
     ·rfl
     ·simp [mm,e2]
     ·clear hLv
      rcases GJ hx3 with ⟨t,es,rfl⟩ | ⟨k8,n8,rfl,hk8⟩
      ·simp [mm,e1,e2,hbox3]
      ·have e8:∀ d,¬k8=⟨dp,d⟩:=fun d=>bH (by omega)
       simp [mm,e1,e2,hbox3,e8]
     ·simp [-bE,hLv,hB,e2]
      rfl
     ·simp [GI]
    refine ak (st1:=GI dp kw L pl st k q H4) ?_ ?_
    ·subst g2
     simp [GI,cm,AV.iE,g1,St.back,b5,b7,b8,da,e3]
    simp [GI,cm,AV.iE,g4,St.back,d5,d7,d8,da,e3]
    rfl
   simp [nB,hwr,g5]
  ·rw [if_neg h7] at hs
   obtain ⟨rfl,rfl⟩:=Prod.mk.inj (Option.some.inj hs)
   refine ⟨H3,?_,r3,l3,m3⟩
   apply ak (by simp [nB,hk];rfl)
   apply ak
   ·apply eK (by simp [hk])
    exact db _ _
   apply kq
   apply ak
   ·apply nM
    apply ak (by simp [hg,jH,e2];rfl)
    refine ak (st1:=mm dp kw L pl st k H2) ?_ ?_
    ·apply lE 10
     ·rfl
     ·simp
     ·simp [e1,hbox,hcc]
      rfl
     ·simp [cm,hcl,hcc',c1,AV.iE,St.back,hb5,hb7,da,e3]
      rfl
     ·subst hH2
      simp [mm]
    refine ak (st1:=mm dp kw L pl st k H3) ?_ ?_
    ·subst hH3
     simp [mm,e1,e2,hbox2,hwr2]
    apply ak (by simp [mm];rfl)
    apply dH (by simpa using h7)
    exact db _ _
   simp [nB,hwr]
 exact key
mutual
theorem GK(W:oy p Vo Fo dof kw x y fid caps Rep):∀ st:Stmt,wg p Vo dof kw Rep st
 | ⟨_,_,_,_,_,th,el⟩=>HY W (Av (wh W th) W.kw0) (Av (wh W el) W.kw0)
termination_by structural st=>st
theorem wh(W:oy p Vo Fo dof kw x y fid caps Rep):∀ l:List Stmt,∀ st∈l,wg p Vo dof kw Rep st
 | [],_,h=>absurd h (by simp)
 | a::r,st,h=>by
  have h1:=GK W a
  have h2:=wh W r
  exact (List.mem_cons.1 h).elim (fun e=>e▸h1) fun h=>h2 st h
termination_by structural l=>l
end
theorem Ey(W:oy p Vo Fo dof kw x y fid caps Rep)(L:List Stmt):vv p Vo dof kw Rep L:=Av (wh W L) W.kw0
def A6(kw:Key)(L:List Func)(k:Nat)(H:HP):St:=⟨[(0,.p kw 0),(11,.l 85 (L.map bC)),(12,I L.length),(13,I k)],[],H⟩
set_option maxHeartbeats 8000000 in
theorem HZ(W:oy p Vo Fo dof kw x y fid caps Rep){dp a k:Nat}{s s':σ}{a':Nat}{H:HP}{f:Func}{q:Level}(h0:0<dp)(hL:p.Funcs.length≤1000)(hg:p.Funcs[k]? =some f)(hb:f.Body.length≤1000)(hq:(Fo s)[k]? =some q)(hlow:aS dp H)(hr:Rep a s H)
  (hs:gk p Vo dof f.Body a q s=some (a',s')):∃ H',run G Ω0 ⟨dp,false⟩ BV (A6 kw p.Funcs k H)=some (.nrm,A6 kw p.Funcs (k+1) H')∧Rep a' s' H'∧aS dp H'∧∀ k:Key,k.dp≠0→H' k=H k:=by
 have hlt:k<p.Funcs.length:=(List.getElem?_eq_some_iff.1 hg).1
 have hk:((k:Int)<(p.Funcs.length:Int)):=by omega
 have hwr:=og k (by omega)
 have hw0:=W.kw0
 have e1:¬kw.dp=dp:=by omega
 have e2:∀ d,¬kw=⟨dp,d⟩:=fun d=>bH (by omega)
 have e3:kw.dp≤dp:=by omega
 have hbox:=W.box hr
 obtain ⟨H1,c1,c2,c3,c4⟩:=Ey W f.Body (dp:=dp+1) (H:=fun k=>if k.dp=dp then (if 3=k.d then some (cN f) else none) else H k) (by omega) hb (fun q hq=>by
  simp only [if_neg (show ¬q.dp=dp by omega)];exact hlow q (by omega)) (W.ext hr fun q hq=>by simp only [if_neg (show ¬q.dp=dp by omega)]) hs
 have b3:H1 ⟨dp,3⟩=some (cN f):=by rw [c4 _ (show ¬dp=0 by omega)];simp
 obtain ⟨H2,hH2⟩:∃ H2:HP,H2=(fun k=>if k.dp<dp then H1 k else none):=⟨_,rfl⟩
 refine ⟨H2,?_,by subst hH2;exact W.ext c2 fun q hq=>by simp only [if_pos (show q.dp<dp by omega)],by subst hH2;exact fun q hq=>by simp only [if_neg hq],fun q hq=>?_⟩
 rotate_left
 ·subst hH2
  by_cases hlt:q.dp<dp
  ·simp only [if_pos hlt]
   rw [c4 q hq]
   simp only [if_neg (show ¬q.dp=dp by omega)]
  ·simp only [if_neg hlt]
   rw [hlow q hlt]
 apply ak (by simp [A6,hk];rfl)
 apply ak
 ·apply eK (by simp [hk])
  exact db _ _
 apply kq
 apply ak
 ·apply nM
  apply ak (by simp [hg,bC,e2];rfl)
  have hy:=W.fy hr
  refine (?_:run G Ω0 _ _ _=some (.nrm,⟨[(0,.p kw 0),(11,.l 85 (p.Funcs.map bC)),(12,I p.Funcs.length),(13,I k)],[],fun k=>if k.dp<dp then H1 k else none⟩))
  generalize hfo:Fo s=fo at hy hq
  cases hy with
  | l t _=>
   apply lE 9
   ·rfl
   ·simp
   ·simp [e1,hbox,hq,ah]
    rfl
   ·simp [hq,ah,cm,AV.iE,c1,St.back,b3,da,e3]
    rfl
   ·simp
  | sp ky _ hky hkk=>
   have ek:ky.dp=0:=by rcases hkk with rfl | rfl<;>rfl
   have e4:¬ky.dp=dp:=by omega
   obtain ⟨f1,f2⟩:=vu hq
   have f3:k<fo.length:=(List.getElem?_eq_some_iff.1 hq).1
   apply lE 9
   ·rfl
   ·simp
   ·simp [e1,hbox]
    rfl
   ·simp [e4,hky,f1,f2,f3,cm,AV.iE,c1,St.back,b3,da,e3]
    rfl
   ·simp
 simp [A6,hwr,hH2]
theorem A7(W:oy p Vo Fo dof kw x y fid caps Rep){dp a':Nat}{s':σ}(h0:0<dp)(hL:p.Funcs.length≤1000):∀ (rest:List Func)(k a:Nat)(s:σ)(H:HP),p.Funcs.drop k=rest→aS dp H→Rep a s H→qu p Vo Fo dof rest k a s=some (a',s')→
  ∃ H' z,mI G Ω0 ⟨dp,false⟩ IP (A6 kw p.Funcs k H)=some (.ex 0,z)∧z.aD [0] [0]=⟨[(0,.p kw 0)],[],H'⟩∧Rep a' s' H'∧aS dp H'∧∀ k:Key,k.dp≠0→H' k=H k
 | [],k,a,s,H,hd,hlow,hr,hs=>by
  have hk:¬((k:Int)<(p.Funcs.length:Int)):=by
   have:=List.drop_eq_nil_iff.1 hd;omega
  rw [qu] at hs
  obtain ⟨rfl,rfl⟩:=Prod.mk.inj (Option.some.inj hs)
  refine ⟨H,_,iW (r:=(.ex 0,?_)) ?_ (by simp),?_,hr,hlow,fun _ _=>rfl⟩
  rotate_left
  ·show run G Ω0 _ BV (A6 kw p.Funcs k H)=_
   apply ak (by simp [A6,hk];rfl)
   apply oZ
   apply dH (by simp [hk])
   exact gK _ _ _
  ·simp
 | f::rest,k,a,s,H,hd,hlow,hr,hs=>by
  rw [qu] at hs
  split at hs
  ·rename_i hb
   obtain ⟨q,hq,hs⟩:=Option.bind_eq_some_iff.1 hs
   obtain ⟨⟨a1,s1⟩,h1,h2⟩:=Option.bind_eq_some_iff.1 hs
   have hg:p.Funcs[k]? =some f:=by
    have:=congrArg (fun l=>l[0]?) hd
    simpa using this
   have hd2:p.Funcs.drop (k+1)=rest:=by
    have:=congrArg List.tail hd
    simpa using this
   obtain ⟨H1,r1,r2,r3,r4⟩:=HZ W h0 hL hg hb hq hlow hr h1
   obtain ⟨H',z,q1,q2,q3,q4,q5⟩:=A7 W h0 hL rest (k+1) a1 s1 H1 hd2 r3 r2 h2
   refine ⟨H',z,?_,q2,q3,q4,fun k hk=>(q5 k hk).trans (r4 k hk)⟩
   rw [gq]
   exact q1
   show (run G Ω0 _ BV (A6 kw p.Funcs k H)).bind _=_
   rw [r1];rfl
  ·cases hs
set_option maxHeartbeats 8000000 in
theorem tw(W:oy p Vo Fo dof kw x y fid caps Rep){dp a a':Nat}{s s':σ}{H:HP}(h0:0<dp)(hlow:aS dp H)(hr:Rep a s H)(hs:rj p Vo Fo dof s=some (a',s')) :
  ∃ H',call G Ω0 ⟨dp,false⟩ 28 [.p kw 0] H=some (.ret (.tp []),H')∧Rep a' s' H'∧aS dp H'∧∀ k:Key,k.dp≠0→H' k=H k:=by
 have hw0:=W.kw0
 have e1:¬kw.dp=dp:=by omega
 have e2:∀ d,¬kw=⟨dp,d⟩:=fun d=>bH (by omega)
 have e3:kw.dp≤dp:=by omega
 have hbox:=W.box hr
 unfold rj at hs
 split at hs
 ·rename_i hb
  obtain ⟨⟨a1,s1⟩,h1,hs⟩:=Option.bind_eq_some_iff.1 hs
  obtain ⟨q,hq,h2⟩:=Option.bind_eq_some_iff.1 hs
  obtain ⟨H0,hH0⟩:∃ H0:HP,H0=aj H kw (iQ p x y (.f fid caps) ((0:Nat):Int)):=⟨_,rfl⟩
  have r0:Rep 0 s H0:=by subst hH0;exact W.bump hr (fun q hq _=>jj hq) (cY ..)
  have l0:aS dp H0:=by subst hH0;exact bc (by omega) hlow
  have m0:∀ k:Key,k.dp≠0→H0 k=H k:=fun q hq=>by subst hH0;rw [jj (fun e=>hq (by rw [e];exact hw0))]
  obtain ⟨H1,z,i1,i2,r1,l1,m1⟩:=A7 W h0 hb.1 p.Funcs 0 0 s H0 rfl l0 r0 h1
  have hbox0:=W.box r0
  have hbox1:=W.box r1
  have hB:=gG (E:=⟨dp,false⟩) (jc p.aa q hq) (by simp) (by simp)
  obtain ⟨H2,c1,c2,c3,c4⟩:=Ey W p.Main (dp:=dp+1) (H:=fun k=>if k.dp=dp then none else H1 k) (by omega) hb.2 (fun q hq=>by
   simp only [if_neg (show ¬q.dp=dp by omega)];exact l1 q (by omega)) (W.ext r1 fun q hq=>by simp only [if_neg (show ¬q.dp=dp by omega)]) h2
  refine ⟨fun k=>if k.dp<dp then H2 k else none,?_,W.ext c2 fun q hq=>by simp only [if_pos (show q.dp<dp by omega)],fun q hq=>by simp only [if_neg hq],fun q hq=>?_⟩
  rotate_left
  ·by_cases hlt:q.dp<dp
   ·simp only [if_pos hlt]
    rw [c4 q hq]
    simp only [if_neg (show ¬q.dp=dp by omega)]
    rw [m1 q hq,m0 q hq]
   ·simp only [if_neg hlt]
    rw [hlow q hlt]
  apply zf TE
  ·refine ak (st1:=⟨[(0,.p kw 0)],[],H0⟩) (by subst hH0;simp [hbox,e1,e3]) ?_
   apply ak
   ·apply ak (by simp [e1,hbox0];rfl)
    apply sP
    rw [iw]
    exact i1
   show run G Ω0 _ (.kp _ _ IQ) z=_
   rw [iG,i2]
   apply lE 9
   ·rfl
   ·simp
   ·simp [e1,hbox1]
    rfl
   ·simp [-bE,e1,hbox1,hB,cm,AV.iE,c1,St.back,da,e3]
    rfl
   ·simp
    rfl
  ·rfl
  ·rfl
 ·cases hs
end Go.Proofs.Ytkkkkondjclcnaa.A
