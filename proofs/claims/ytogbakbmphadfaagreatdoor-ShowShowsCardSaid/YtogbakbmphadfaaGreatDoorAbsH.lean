/- Regions that run in the order of their text; what a function hands back. -/
import Derived.Test.YtogbakbmphadfaaGreatDoorAbsG
import Derived.Orders
set_option linter.unusedSectionVars false
set_option linter.unusedVariables false
set_option linter.unusedSimpArgs false
set_option linter.constructorNameAsVariable false
namespace Go.Proofs.YtogbakbmphadfaaGreatDoor.A
open Go
variable [bJ]
def wo(ops:Array Oper)(g g':Option (Nat×Bool)):Bool:=
 match g,g' with
 | none,none=>true
 | some (j,want),some (t,want')=>want==want'&&((ops[j]?).bind (·.dst)==some t)
 | _,_=>false
def xV(P:Program)(nt:Nat)(ops:Array Oper)(o:Oper)(g:cL):Bool:=
 aI P g.o o.op&&o.dst==g.d&&(match g.d with | some d=>decide (d<nt) | none=>true)&&wo ops o.guard g.g
def ui(P:Program)(nt:Nat)(ops:Array Oper):List Oper→List cL→Bool
 | [],[]=>true
 | o::os,g::gs=>xV P nt ops o g&&ui P nt ops os gs
 | _,_=>false
section
variable {C:Cx}{st:St}{a:Act}{w:World}{σ:Sp}{o:Oper}{d:Option Nat}{R:Rec}{Ω:cI}{r:AV×St}
theorem DA.put{st':St}{x:AV}{cv:Value}{w':World}{σ':Sp}(h:DA C st' a w σ d x cv w' σ')(hd:∀ dd,d=some dd→dd<C.nt):ah C (A.put st' d x) (a.put d cv) w' σ':=by
 cases d with
 | none=>exact h.conc
 | some dd=>exact h.conc.put (hd dd rfl) (h.val dd rfl) (fun t es e=>h.own dd t es rfl e)
theorem DA.Rk{st':St}{x:AV}{cv:Value}{w':World}{σ':Sp}(h:DA C st' a w σ d x cv w' σ')(hd:∀ dd,d=some dd→dd<C.nt)(fz:Bool) :
  ∃ σ'',dA C w σ w' σ''∧ah C (A.put st' d (eh fz x)) (a.put d cv) w' σ'':=by
 have h1:=h.put hd
 cases fz with
 | false=>exact ⟨σ',h.stp,by simpa [eh] using h1⟩
 | true=>
  cases x with
  | o t es=>
   cases d with
   | none=>exact ⟨σ',h.stp,h1⟩
   | some dd=>
    have hx:an (A.put st' (some dd) (.o t es)).fr dd= .o t es:=by simp [A.put,St.b5,an]
    obtain ⟨σ'',hs,hc⟩:=h1.QX (p:=.fz dd) (st':=(A.put st' (some dd) (.o t es)).b5 dd (.l t es)) (by simp [fy,hx])
    refine ⟨σ'',h.stp.trans hs,hc.yA (fun d'=>.inr ?_) (fun _ _ h=>h) (fun _ _ _ h=>h)⟩
    simp only [A.put,eh,iA]
    split<;>rfl
  | _=>exact ⟨σ',h.stp,h1⟩
theorem zW{nt:Nat}{ops:Array Oper}{g:cL}(hl:xV C.P nt ops o g=true)(hnt:nt≤C.nt):aI C.P g.o o.op=true∧o.dst=g.d∧(∀ dd,g.d=some dd→dd<C.nt)∧wo ops o.guard g.g=true:=by
 simp only [xV,Bool.and_eq_true,beq_iff_eq] at hl
 refine ⟨hl.1.1.1,hl.1.1.2,fun dd hd=>?_,hl.2⟩
 have:=hl.1.2
 rw [hd] at this
 simp at this
 omega
theorem ah.guard(h:ah C st a w σ){ops:Array Oper}{g:cL}(hl:wo ops o.guard g.g=true):(g.g=none→Region.wanted o (yielded ops a.tmps)=true)∧
  ∀ j want y,g.g=some (j,want)→wX (an st.fr j) want=some y→Region.wanted o (yielded ops a.tmps)=y:=by
 unfold wo at hl
 split at hl
 ·rename_i h1 h2
  exact ⟨fun _=>by simp [Region.wanted,h1],fun j want y e=>by rw [h2] at e;cases e⟩
 ·rename_i j want t want' h1 h2
  simp only [Bool.and_eq_true,beq_iff_eq] at hl
  obtain ⟨rfl,hdst⟩:=hl
  refine ⟨fun e=>(by rw [h2] at e;cases e),fun j' want' y e hy=>?_⟩
  rw [h2] at e
  obtain ⟨rfl,rfl⟩:=Prod.mk.inj (Option.some.inj e)
  have hs:=h.fr t
  have hdst':(ops[j]?.bind fun x=>x.dst)=some t:=hdst
  unfold wX at hy
  split at hy
  ·rename_i x hx
   obtain rfl:=Option.some.inj hy
   rw [hx] at hs
   have hv:=VR.ue hs
   have ht:a.tmps[t]? =some (.bool x):=by
    rw [Array.getD_eq_getD_getElem?] at hv
    cases hq:a.tmps[t]? with
    | none=>rw [hq] at hv;simp [undef] at hv
    | some q=>rw [hq] at hv;simpa using hv
   simp only [Region.wanted,h1,yielded,hdst',Option.bind_some,ht]
   exact Option.some_beq_some
  ·rename_i hx
   obtain rfl:=Option.some.inj hy
   rw [hx] at hs
   have hv:=VR.Qv hs
   simp only [Region.wanted,h1,yielded,hdst',Option.bind_some]
   rw [Array.getD_eq_getD_getElem?] at hv
   cases hq:a.tmps[t]? with
   | none=>simp
   | some q=>
    rw [hq] at hv
    have:q=undef:=by simpa using hv
    subst this
    simp [undef]
  ·cases hy
 ·cases hl
theorem ah.MH(h:ah C st a w σ)(hd:∀ dd,d=some dd→dd<C.nt):ah C (A.put st d .sk) (a.put d undef) w σ:=by
 cases d with
 | none=>exact h
 | some dd=>exact h.put (hd dd rfl) VR.sk (fun _ _ e=>by cases e)
theorem ah.MI{nt i:Nat}{ops:Array Oper}{g:cL}{st':St}{K:Act→World→Prop}{Q:Exit→Act→World→Prop}(hR:kB C.P R)(hΩ:fe C.P Ω)(h:ah C st a w σ)(ho:ops[i]? =some o)(hl:xV C.P nt ops o g=true)(hnt:nt≤C.nt)
  (he:fu R Ω C.E st g=some st') (hK:∀ a' w' σ',dA C w σ w' σ'→ah C st' a' w' σ'→K a' w'):wpOp C.P ops Q i K a w:=by
 obtain ⟨hlo,hdst,hd,hgd⟩:=zW hl hnt
 obtain ⟨hg1,hg2⟩:=h.guard hgd
 have hgo:∀ r,execOp R Ω C.E st g.d g.o=some r→st'=A.put r.2 g.d (eh g.fz r.1)→o.wp C.P a w K Q:=by
  intro r hr hst
  refine xU hR hΩ g.o h hlo hr _ _ fun cv w' σ' hop=>?_
  obtain ⟨σ'',hs,hc⟩:=hop.Rk hd g.fz
  rw [hdst]
  rw [←hst] at hc
  exact hK _ _ _ hs hc
 simp only [wpOp,ho]
 unfold fu at he
 split at he
 ·rename_i hgn
  rw [if_pos (hg1 hgn)]
  obtain ⟨r,hr,he1⟩:=Option.bind_eq_some_iff.1 he
  exact .inl (hgo r hr (Option.some.inj he1).symm)
 ·rename_i j want hgs
  obtain ⟨y,hy,he1⟩:=Option.bind_eq_some_iff.1 he
  have hwt:=hg2 j want y hgs hy
  split at he1
  ·rename_i hyt
   rw [if_pos (by rw [hwt,hyt])]
   obtain ⟨r,hr,he2⟩:=Option.bind_eq_some_iff.1 he1
   exact .inl (hgo r hr (Option.some.inj he2).symm)
  ·rename_i hyf
   rw [if_neg (by rw [hwt];exact hyf)]
   refine hK _ _ _ (.refl _ _ _) ?_
   rw [←Option.some.inj he1,hdst]
   exact h.MH hd
theorem ah.step{nt i:Nat}{ops:Array Oper}{g:cL}{st':St}{rest:List Nat}{Q:Exit→Act→World→Prop}(hR:kB C.P R)(hΩ:fe C.P Ω)(h:ah C st a w σ)(ho:ops[i]? =some o)(hl:xV C.P nt ops o g=true)(hnt:nt≤C.nt)
  (he:fu R Ω C.E st g=some st') (hK:∀ a' w' σ',dA C w σ w' σ'→ah C st' a' w' σ'→wpOps C.P ops Q rest a' w'):wpOps C.P ops Q (i::rest) a w:=by
 rw [wpOps_cons]
 exact h.MI hR hΩ ho hl hnt he hK
theorem ah.steps{nt:Nat}{ops:Array Oper}{Q:Exit→Act→World→Prop}(hR:kB C.P R)(hΩ:fe C.P Ω)(hnt:nt≤C.nt):∀ (gs:List cL)(os:List Oper)(i:Nat)(st st':St)(a:Act)(w:World)(σ:Sp),ops.toList.drop i=os→
  ui C.P nt ops os gs=true→ah C st a w σ→jw R Ω C.E st gs=some st'→(∀ a' w' σ',dA C w σ w' σ'→ah C st' a' w' σ'→Q .normal a' w')→wpOps C.P ops Q (List.range' i os.length) a w
 | [],[],i,st,st',a,w,σ,_,_,h,he,hK=>by
  obtain rfl:=Option.some.inj he
  exact hK a w σ (.refl _ _ _) h
 | g::gs,o::os,i,st,st',a,w,σ,hi,hl,h,he,hK=>by
  simp only [ui,Bool.and_eq_true] at hl
  obtain ⟨st1,he1,he2⟩:=Option.bind_eq_some_iff.1 he
  have ho:ops[i]? =some o:=by
   have:(ops.toList.drop i)[0]? =some o:=by rw [hi];rfl
   rw [List.getElem?_drop] at this
   simpa using this
  have hi':ops.toList.drop (i+1)=os:=by
   rw [←List.drop_drop,hi];rfl
  rw [List.length_cons,List.range'_succ]
  exact h.step hR hΩ ho hl.1 hnt he1 fun a' w' σ' hs hc=>ah.steps hR hΩ hnt gs os (i+1) st1 st' a' w' σ' hi' hl.2 hc he2 fun a'' w'' σ'' hs' hc'=>hK a'' w'' σ'' (hs.trans hs') hc'
 | [],_::_,_,_,_,_,_,_,_,hl,_,_,_=>by simp [ui] at hl
 | _::_,[],_,_,_,_,_,_,_,hl,_,_,_=>by simp [ui] at hl
theorem ah.region{nt id:Nat}{ops:Array Oper}{Q:Exit→Act→World→Prop}{gs:List cL}{st':St}(hR:kB C.P R)(hΩ:fe C.P Ω)(hnt:nt≤C.nt)(hl:ui C.P nt ops ops.toList gs=true)(h:ah C st a w σ)
  (he:jw R Ω C.E st gs=some st') (hK:∀ a' w' σ',dA C w σ w' σ'→ah C st' a' w' σ'→Q .normal a' w'):(Code.region id ops false).wp C.P Q a w:=by
 refine wp_region ?_
 have:=ah.steps (ops:=ops) hR hΩ hnt gs ops.toList 0 st st' a w σ rfl hl h he hK
 rwa [Array.length_toList,←List.range_eq_range'] at this
def dz.dep:dz→Nat
 | .grp dp _=>dp
 | .box k=>k.dp
 | .rowS dp _=>dp
 | .rowC k _=>k.dp
def wq(C:Cx)(w:World)(σ:Sp):Nat→Prop:=fun b=>σ.I b∨(C.W b∧∃ l,σ.ow b=some l∧l.dep=C.E.dp)
theorem OwnAt.IK{L:dz}{wp:Prop}{t:TypeId}{es:List AV}{v:Value}(h:ah C st a w σ)(hw:wp)(hL:L.dep=C.E.dp)(ho:OwnAt C.P C.W w σ L wp t es v):VR w (wq C w σ) σ.κ (.l t es) v:=by
 rcases ho with ⟨rfl,rfl⟩ | ⟨g,cap,cs,rfl,hR⟩
 ·exact .lnil _ _ _
 ·exact hR.La (fun _ h=>.inl h) (.inr ⟨hR.wr hw,L,hR.ow,hL⟩)
theorem VR.toEnd{x:AV}{v:Value}(h:VR w σ.I σ.κ x v):VR w (wq C w σ) σ.κ x v:=h.mono (fun _ h=>.inl h) (fun _ _=>rfl) (fun _ _=>rfl)
theorem ah.kM(h:ah C st a w σ){n:Nat}{x y:AV}{v:Value}(hx:SR C w σ st a n x v)(he:st.kM C.E.dp x=some y):VR w (wq C w σ) σ.κ y v∨y.pure=false:=by
 cases x with
 | o t es=>
  obtain rfl:=Option.some.inj he
  exact .inl (OwnAt.IK h trivial rfl hx)
 | r pl=>
  cases pl with
  | s d=>
   obtain ⟨⟨t,es⟩,hr,he1⟩:=Option.bind_eq_some_iff.1 he
   obtain rfl:=Option.some.inj he1
   rw [hx (by rw [hr];rfl)]
   exact .inl (OwnAt.IK h rfl rfl (h.row hr))
  | c k off=>
   simp only [St.kM] at he
   split at he
   ·rename_i hd
    obtain ⟨⟨t,es⟩,hr,he1⟩:=Option.bind_eq_some_iff.1 he
    obtain rfl:=Option.some.inj he1
    rw [hx (by rw [hr];rfl)]
    exact .inl (OwnAt.IK (L:=.rowC k off) h (C9 hd) hd (h.row hr))
   ·cases he
 | v pl lo len=>
  cases pl with
  | s d=>
   obtain ⟨⟨t,es⟩,hr,he1⟩:=Option.bind_eq_some_iff.1 he
   simp only at he1
   split at he1
   ·rename_i hle
    obtain rfl:=Option.some.inj he1
    obtain ⟨A,n',cap,hpv,hv⟩:=hx t es hr hle
    rw [hv]
    by_cases hl:len=0
    ·subst hl;exact .inl (by simpa using VR.lnil _ _ _)
    ·obtain ⟨g,cap',cs,hpv',hR⟩:=h.wc hr (fun e=>by subst e;simp at hle;omega)
     obtain ⟨rfl,rfl,rfl⟩:A=some ⟨g,0,none⟩∧n'=es.length∧cap=cap':=by
      rw [hpv] at hpv';simpa using hpv'
     have hec:=hR.ecap
     rw [if_neg (by omega)]
     simp only [Option.map_some,add_lit,Nat.zero_add]
     exact .inl (hR.bG (fun _ h=>.inl h) (.inr ⟨hR.wr rfl,_,hR.ow,rfl⟩) hle)
   ·cases he1
  | c k off=>
   obtain rfl:=Option.some.inj he
   exact .inr rfl
 | q pl i sz off=>
  obtain rfl:=Option.some.inj he
  exact .inr rfl
 | w _ _ _=>cases he
 | bp _ _ _=>cases he
 | _=>
  obtain rfl:=Option.some.inj he
  exact .inl (VR.toEnd hx)
theorem MJ{k:Key}{off:Nat}{c:AV}{v:Value}(h:CR C w σ k off c v)(hd:k.dp=C.E.dp)(hC:ah C st a w σ){y:AV}(he:st.kM C.E.dp c=some y)(hone:c.one=true∨c= .u):VR w (wq C w σ) σ.κ y v:=by
 cases c with
 | o t es=>
  obtain rfl:=Option.some.inj he
  exact OwnAt.IK (L:=.rowC k off) hC (C9 hd) hd h
 | r pl=>rcases hone with h1 | h1<;>simp [AV.one] at h1
 | v pl lo len=>rcases hone with h1 | h1<;>simp [AV.one] at h1
 | q pl i sz off=>rcases hone with h1 | h1<;>simp [AV.one] at h1
 | w _ _ _=>cases he
 | bp _ _ _=>cases he
 | _=>
  obtain rfl:=Option.some.inj he
  exact VR.toEnd h
def fE(P:Program):List ResultVar→List RV→Bool
 | [],[]=>true
 | .tmp t::rs,.t n::xs=>t==n&&fE P rs xs
 | .cell a ty::rs,.c n sz::xs=>a==n&&kz P ty sz&&fE P rs xs
 | _,_=>false
def mr(tmps:Array Value)(x:ResultVar):Sem Value:=
 match x with
 | .tmp t=>pure (tmps.getD t undef)
 | .cell a t=>do loadVar t (←asAddr (tmps.getD a undef))
theorem Gq{dp:Nat} : ∀ (ds ys:List AV),st.Bu dp ds=some ys→ds.length=ys.length∧∀ (i:Nat)(y:AV),ys[i]? =some y→∃ c,ds[i]? =some c∧st.kM dp c=some y
 | [],ys,h=>by obtain rfl:=Option.some.inj h;exact ⟨rfl,fun i y hi=>by simp at hi⟩
 | d::ds,ys,h=>by
  obtain ⟨y,h1,h2⟩:=Option.bind_eq_some_iff.1 h
  obtain ⟨ys',h3,h4⟩:=Option.bind_eq_some_iff.1 h2
  obtain rfl:=Option.some.inj h4
  obtain ⟨h5,h6⟩:=Gq ds ys' h3
  refine ⟨by simp [h5],fun i z hi=>?_⟩
  cases i with
  | zero=>exact ⟨d,rfl,by rw [h1];simpa using hi⟩
  | succ i=>simpa using h6 i z (by simpa using hi)
theorem Lf{dp:Nat}{c y:AV}(h:st.kM dp c=some y)(hc:c.one=true):y.one=true:=by
 cases c with
 | o t es=>obtain rfl:=Option.some.inj h;rfl
 | r pl=>simp [AV.one] at hc
 | v pl lo len=>simp [AV.one] at hc
 | w _ _ _=>cases h
 | bp _ _ _=>cases h
 | _=>obtain rfl:=Option.some.inj h;exact hc
theorem ah.ur(h:ah C st a w σ){x:ResultVar}{z:RV}{y:AV}(hl:fE C.P [x] [z]=true)(he:st.ur C.E z=some y)(hp:y.pure=true):∃ v,(mr a.tmps x).run C.P w= .ok v w∧VR w (wq C w σ) σ.κ y v:=by
 cases x with
 | tmp t=>
  cases z with
  | t n=>
   obtain rfl:t=n:=by simpa [fE] using hl
   refine ⟨_,rfl,(h.kM (h.fr t) he).resolve_right (by simp [hp])⟩
  | c n sz=>simp [fE] at hl
 | cell n' ty=>
  cases z with
  | t n=>simp [fE] at hl
  | c n sz=>
   obtain ⟨rfl,hn⟩:n'=n∧kz C.P ty sz=true:=by simpa [fE] using hl
   simp only [St.ur] at he
   split at he
   ·rename_i k off hx
    split at he
    ·rename_i hd
     obtain ⟨cs,hb,he1⟩:=Option.bind_eq_some_iff.1 he
     obtain ⟨q,hq,he2⟩:=Option.bind_eq_some_iff.1 he1
     have hbx:st.box C.E.dp k=some cs:=by simp [St.box,hd,hb]
     obtain ⟨vs,T,hB⟩:=h.bx k cs hbx
     have hs:=h.fr n'
     rw [hx] at hs
     have hv:=VR.il hs
     have hrun:∀ v,(loadVar ty ⟨σ.κ k,off,none⟩).run C.P w= .ok v w→(mr a.tmps (.cell n' ty)).run C.P w= .ok v w:=by
      intro v hr
      unfold mr
      simp only [hv]
      simp [asAddr,hr]
     cases sz with
     | none=>
      obtain ⟨hag,_⟩:rK C.P ty=some false∧C.P.cellsOf ty=1:=by simpa [kz] using hn
      have hq':cs[off]? =some q:=hq
      have hlt:off<vs.size:=by rw [hB.size];exact bc hq'
      have hc:w.cell? ⟨σ.κ k,off,none⟩=some vs[off]:=by rw [o6 hB.hh];simp [hlt]
      have hcr:=hB.cell off q hq'
      have hvo:vs.getD off undef=vs[off]:=by simp [hlt]
      rw [hvo] at hcr
      refine ⟨vs[off],hrun _ (by unfold loadVar;simp [kF hag w,hc]),?_⟩
      have hqa:∀ ds,q≠.a ds:=fun ds e=>by
       have:=hB.one q (List.mem_of_getElem? hq')
       subst e
       rcases this with h1 | h1<;>simp [AV.one] at h1
      have he3:st.kM C.E.dp q=some y:=by
       cases q<;>first | exact he2 | exact absurd rfl (hqa _)
      exact MJ hcr hd h he3 (hB.one q (List.mem_of_getElem? hq'))
     | some m=>
      obtain ⟨⟨hag,hi⟩,hm⟩:(rK C.P ty=some true∧(C.P.info? ty).isSome=true)∧C.P.cellsOf ty=m:=by simpa [kz] using hn
      simp only [pick] at hq
      split at hq
      ·rename_i hle
       obtain rfl:=Option.some.inj hq
       simp only at he2
       obtain ⟨ds,hds,he3⟩:=Option.bind_eq_some_iff.1 he2
       obtain rfl:=Option.some.inj he3
       obtain ⟨hlen,hget⟩:=Gq _ _ hds
       have hdl:ds.length=m:=by rw [←hlen];simp;omega
       have hl:=run_loadCells (P:=C.P) w ⟨σ.κ k,off,none⟩ m (fun j=>vs.getD (off+j) undef) (fun j hj=>by
        rw [add_lit,o6 hB.hh]
        have:off+j<vs.size:=by rw [hB.size];omega
        simp [this])
       refine ⟨.agg (((List.range m).map fun j=>vs.getD (off+j) undef).toArray),hrun _ ?_,?_⟩
       ·unfold loadVar
        simp only [Sem.run_bind,kF hag w,Result.andThen_ok,if_true,fU hi,hm,hl,Sem.run_pure]
       ·have hcell:∀ (j:Nat)(z:AV),ds[j]? =some z→∃ c,cs[off+j]? =some c∧st.kM C.E.dp c=some z:=by
         intro j z hj
         obtain ⟨c,hc,hz⟩:=hget j z hj
         rw [List.getElem?_take] at hc
         split at hc
         ·rw [List.getElem?_drop] at hc;exact ⟨c,hc,hz⟩
         ·cases hc
        have hpl:=iq (l:=ds) (by simpa [AV.pure] using hp)
        refine VR.a _ _ (by simp [hdl]) (fun z hz=>?_) fun j z hj=>?_
        ·obtain ⟨j,hj⟩:=List.mem_iff_getElem?.1 hz
         obtain ⟨c,hc,hfz⟩:=hcell j z hj
         have hz1:=hB.one c (List.mem_of_getElem? hc)
         rcases hz1 with h1 | h1
         ·exact Lf hfz h1
         ·subst h1
          obtain rfl:=Option.some.inj hfz
          have:=hpl _ hz;cases this
        ·obtain ⟨c,hc,hfz⟩:=hcell j z hj
         have hjm:=bc hj
         have hcr:=MJ (hB.cell _ c hc) hd h hfz (hB.one c (List.mem_of_getElem? hc))
         simpa [hdl▸hjm] using hcr
      ·cases hq
    ·cases he
   ·cases he
theorem ah.oa(h:ah C st a w σ):∀ (rs:List ResultVar)(zs:List RV)(xs:List AV),fE C.P rs zs=true→st.oa C.E zs=some xs→(∀ x∈xs,x.pure=true)→
  ∃ vs,(rs.mapM (mr a.tmps)).run C.P w= .ok vs w∧vs.length=xs.length∧∀ (i:Nat)(x:AV),xs[i]? =some x→VR w (wq C w σ) σ.κ x (vs[i]?.getD undef)
 | [],[],xs,_,he,_=>by
  obtain rfl:=Option.some.inj he
  exact ⟨[],by simp,rfl,fun i x hi=>by simp at hi⟩
 | r::rs,z::zs,xs,hl,he,hp=>by
  obtain ⟨y,h1,h2⟩:=Option.bind_eq_some_iff.1 he
  obtain ⟨ys,h3,h4⟩:=Option.bind_eq_some_iff.1 h2
  obtain rfl:=Option.some.inj h4
  have hl1:fE C.P [r] [z]=true∧fE C.P rs zs=true:=by
   cases r<;>cases z<;>simp_all [fE]
  obtain ⟨v,hv,hvr⟩:=h.ur hl1.1 h1 (hp y (by simp))
  obtain ⟨vs,hvs,hlen,hvrs⟩:=ah.oa h rs zs ys hl1.2 h3 (fun x hx=>hp x (by simp [hx]))
  refine ⟨v::vs,?_,by simp [hlen],fun i x hi=>?_⟩
  ·simp [List.mapM_cons,hv,hvs]
  ·cases i with
   | zero=>
    obtain rfl:y=x:=by simpa using hi
    simpa using hvr
   | succ i=>simpa using hvrs i x (by simpa using hi)
 | [],_::_,_,hl,_,_=>by simp [fE] at hl
 | r::_,[],_,hl,_,_=>by cases r<;>simp [fE] at hl
theorem ah.result(h:ah C st a w σ){fn:Func}{zs:List RV}{x:AV}(hl:fE C.P fn.results.toList zs=true)(he:st.result C.E zs=some x):∃ v,(results fn a.tmps).run C.P w= .ok v w∧VR w (wq C w σ) σ.κ x v:=by
 obtain ⟨xs,h1,h2⟩:=Option.bind_eq_some_iff.1 he
 split at h2
 ·rename_i hp
  obtain rfl:=Option.some.inj h2
  obtain ⟨vs,hvs,hlen,hvr⟩:=h.oa _ zs xs hl h1 (iq hp)
  refine ⟨if hs:vs.toArray.size=1 then vs.toArray[0] else .tuple vs.toArray,?_,?_⟩
  ·have hm:(fn.results.mapM (mr a.tmps)).run C.P w= .ok vs.toArray w:=by
    rw [Array.mapM_eq_mapM_toList]
    simp [hvs]
   have e:results fn a.tmps=(fn.results.mapM (mr a.tmps)) >>=fun vs=>pure (if h:vs.size=1 then vs[0] else .tuple vs):=by
    unfold results mr
    rfl
   rw [e,Sem.run_bind,hm]
   rfl
  ·match xs,vs,hlen,hvr with
   | [],[],_,hvr=>exact .tp [] _ rfl fun m c hm=>by simp at hm
   | [y],[v],_,hvr=>simpa [Hq] using hvr 0 y rfl
   | y::y2::ys,v::v2::vs,hlen,hvr=>
    have:¬(v::v2::vs).toArray.size=1:=by simp
    rw [dif_neg this]
    refine .tp _ _ (by simpa using hlen.symm) fun m c hm=>?_
    have:=hvr m c hm
    simpa [Array.getD_eq_getD_getElem?] using this
 ·cases h2
end
end Go.Proofs.YtogbakbmphadfaaGreatDoor.A
