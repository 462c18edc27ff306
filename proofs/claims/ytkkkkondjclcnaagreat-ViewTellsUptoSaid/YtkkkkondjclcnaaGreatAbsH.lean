/- Regions that run in the order of their text; what a function hands back. -/
import Derived.Test.YtkkkkondjclcnaaGreatAbsG
import Derived.Orders
set_option linter.all false
namespace Go.Proofs.YtkkkkondjclcnaaGreat.A
open Go
variable [bJ]
def Bw(ops:Array Oper)(g g':Option (Nat×Bool)):Bool:=
 match g,g' with
 | none,none=>true
 | some (j,want),some (t,want')=>want==want'&&((ops[j]?).bind (·.dst)==some t)
 | _,_=>false
def Db(P:Program)(nt:Nat)(ops:Array Oper)(o:Oper)(g:cN):Bool:=
 bC P g.o o.op&&o.dst==g.d&&(match g.d with | some d=>decide (d<nt) | none=>true)&&Bw ops o.guard g.g
def zu(P:Program)(nt:Nat)(ops:Array Oper):List Oper→List cN→Bool
 | [],[]=>true
 | o::os,g::gs=>Db P nt ops o g&&zu P nt ops os gs
 | _,_=>false
section
variable {C:Cx}{st:St}{a:Act}{w:World}{σ:Sp}{o:Oper}{d:Option Nat}{R:Rec}{Ω:du}{r:AV×St}
theorem JD.put{st':St}{x:AV}{cv:Value}{w':World}{σ':Sp}(h:JD C st' a w σ d x cv w' σ')(hd:∀ dd,d=some dd→dd<C.nt):au C (A.put st' d x) (a.put d cv) w' σ':=by
 cases d with
 | none=>exact h.conc
 | some dd=>exact h.conc.put (hd dd rfl) (h.val dd rfl) (fun t es e=>h.own dd t es rfl e)
theorem JD.ab4{st':St}{x:AV}{cv:Value}{w':World}{σ':Sp}(h:JD C st' a w σ d x cv w' σ')(hd:∀ dd,d=some dd→dd<C.nt)(fz:Bool) :
  ∃ σ'',cM C w σ w' σ''∧au C (A.put st' d (eN fz x)) (a.put d cv) w' σ'':=by
 have h1:=h.put hd
 cases fz with
 | false=>exact ⟨σ',h.stp,by simpa [eN] using h1⟩
 | true=>
  cases x with
  | o t es=>
   cases d with
   | none=>exact ⟨σ',h.stp,h1⟩
   | some dd=>
    have hx:ax (A.put st' (some dd) (.o t es)).fr dd= .o t es:=by simp [A.put,St.cV,ax]
    obtain ⟨σ'',hs,hc⟩:=h1.abV (p:=.fz dd) (st':=(A.put st' (some dd) (.o t es)).cV dd (.l t es)) (by simp [gj,hx])
    refine ⟨σ'',h.stp.trans hs,hc.Bs (fun d'=>.inr ?_) (fun _ _ h=>h) (fun _ _ _ h=>h)⟩
    simp only [A.put,eN,lA]
    split<;>rfl
  | _=>exact ⟨σ',h.stp,h1⟩
theorem Ft{nt:Nat}{ops:Array Oper}{g:cN}(hl:Db C.P nt ops o g=true)(hnt:nt≤C.nt):bC C.P g.o o.op=true∧o.dst=g.d∧(∀ dd,g.d=some dd→dd<C.nt)∧Bw ops o.guard g.g=true:=by
 simp only [Db,aA,cS] at hl
 refine ⟨hl.1.1.1,hl.1.1.2,fun dd hd=>?_,hl.2⟩
 have:=hl.1.2
 rw [hd] at this
 simp at this
 omega
theorem au.guard(h:au C st a w σ){ops:Array Oper}{g:cN}(hl:Bw ops o.guard g.g=true):(g.g=none→Region.wanted o (yielded ops a.tmps)=true)∧
  ∀ j want y,g.g=some (j,want)→vS (ax st.fr j) want=some y→Region.wanted o (yielded ops a.tmps)=y:=by
 unfold Bw at hl
 split at hl
 ·rename_i h1 h2
  exact ⟨fun _=>by simp [Region.wanted,h1],fun j want y e=>by rw [h2] at e;cases e⟩
 ·rename_i j want t want' h1 h2
  simp only [aA,cS] at hl
  obtain ⟨rfl,hdst⟩:=hl
  refine ⟨fun e=>(by rw [h2] at e;cases e),fun j' want' y e hy=>?_⟩
  rw [h2] at e
  obtain ⟨rfl,rfl⟩:=eJ (aa e)
  have hs:=h.fr t
  have hdst':(ops[j]?.bind fun x=>x.dst)=some t:=hdst
  unfold vS at hy
  split at hy
  ·rename_i x hx
   obtain rfl:=aa hy
   rw [hx] at hs
   have hv:=VR.vz hs
   have ht:a.tmps[t]? =some (.bool x):=by
    rw [bn] at hv
    cases hq:a.tmps[t]? with
    | none=>rw [hq] at hv;simp [undef] at hv
    | some q=>rw [hq] at hv;simpa using hv
   simp only [Region.wanted,h1,yielded,hdst',af,ht]
   exact Option.some_beq_some
  ·rename_i hx
   obtain rfl:=aa hy
   rw [hx] at hs
   have hv:=VR.abv hs
   simp only [Region.wanted,h1,yielded,hdst',af]
   rw [bn] at hv
   cases hq:a.tmps[t]? with
   | none=>simp
   | some q=>
    rw [hq] at hv
    have:q=undef:=by simpa using hv
    subst this
    simp [undef]
  ·cases hy
 ·cases hl
theorem au.VP(h:au C st a w σ)(hd:∀ dd,d=some dd→dd<C.nt):au C (A.put st d .sk) (a.put d undef) w σ:=by
 cases d with
 | none=>exact h
 | some dd=>exact h.put (hd dd rfl) VR.sk (fun _ _ e=>by cases e)
theorem au.VQ{nt i:Nat}{ops:Array Oper}{g:cN}{st':St}{K:Act→World→Prop}{Q:Exit→Act→World→Prop}(hR:lX C.P R)(hΩ:iA C.P Ω)(h:au C st a w σ)(ho:ops[i]? =some o)(hl:Db C.P nt ops o g=true)(hnt:nt≤C.nt)
  (he:ic R Ω C.E st g=some st') (hK:∀ a' w' σ',cM C w σ w' σ'→au C st' a' w' σ'→K a' w'):wpOp C.P ops Q i K a w:=by
 obtain ⟨hlo,hdst,hd,hgd⟩:=Ft hl hnt
 obtain ⟨hg1,hg2⟩:=h.guard hgd
 have hgo:∀ r,execOp R Ω C.E st g.d g.o=some r→st'=A.put r.2 g.d (eN g.fz r.1)→o.wp C.P a w K Q:=by
  intro r hr hst
  refine Da hR hΩ g.o h hlo hr _ _ fun cv w' σ' hop=>?_
  obtain ⟨σ'',hs,hc⟩:=hop.ab4 hd g.fz
  rw [hdst]
  rw [←hst] at hc
  exact hK _ _ _ hs hc
 simp only [wpOp,ho]
 unfold ic at he
 split at he
 ·rename_i hgn
  rw [ab (hg1 hgn)]
  obtain ⟨r,hr,he1⟩:=ah.1 he
  exact .inl (hgo r hr (aa he1).symm)
 ·rename_i j want hgs
  obtain ⟨y,hy,he1⟩:=ah.1 he
  have hwt:=hg2 j want y hgs hy
  split at he1
  ·rename_i hyt
   rw [ab (by rw [hwt,hyt])]
   obtain ⟨r,hr,he2⟩:=ah.1 he1
   exact .inl (hgo r hr (aa he2).symm)
  ·rename_i hyf
   rw [ad (by rw [hwt];exact hyf)]
   refine hK _ _ _ (.refl _ _ _) ?_
   rw [←aa he1,hdst]
   exact h.VP hd
theorem au.step{nt i:Nat}{ops:Array Oper}{g:cN}{st':St}{rest:List Nat}{Q:Exit→Act→World→Prop}(hR:lX C.P R)(hΩ:iA C.P Ω)(h:au C st a w σ)(ho:ops[i]? =some o)(hl:Db C.P nt ops o g=true)(hnt:nt≤C.nt)
  (he:ic R Ω C.E st g=some st') (hK:∀ a' w' σ',cM C w σ w' σ'→au C st' a' w' σ'→wpOps C.P ops Q rest a' w'):wpOps C.P ops Q (i::rest) a w:=by
 rw [wpOps_cons]
 exact h.VQ hR hΩ ho hl hnt he hK
theorem au.steps{nt:Nat}{ops:Array Oper}{Q:Exit→Act→World→Prop}(hR:lX C.P R)(hΩ:iA C.P Ω)(hnt:nt≤C.nt):∀ (gs:List cN)(os:List Oper)(i:Nat)(st st':St)(a:Act)(w:World)(σ:Sp),ops.toList.drop i=os→
  zu C.P nt ops os gs=true→au C st a w σ→fQ R Ω C.E st gs=some st'→(∀ a' w' σ',cM C w σ w' σ'→au C st' a' w' σ'→Q .normal a' w')→wpOps C.P ops Q (List.range' i os.length) a w
 | [],[],i,st,st',a,w,σ,_,_,h,he,hK=>by
  obtain rfl:=aa he
  exact hK a w σ (.refl _ _ _) h
 | g::gs,o::os,i,st,st',a,w,σ,hi,hl,h,he,hK=>by
  simp only [zu,aA] at hl
  obtain ⟨st1,he1,he2⟩:=ah.1 he
  have ho:ops[i]? =some o:=by
   have:(ops.toList.drop i)[0]? =some o:=by rw [hi];rfl
   rw [gx] at this
   simpa using this
  have hi':ops.toList.drop (i+1)=os:=by
   rw [←List.drop_drop,hi];rfl
  rw [bu,yT]
  exact h.step hR hΩ ho hl.1 hnt he1 fun a' w' σ' hs hc=>au.steps hR hΩ hnt gs os (i+1) st1 st' a' w' σ' hi' hl.2 hc he2 fun a'' w'' σ'' hs' hc'=>hK a'' w'' σ'' (hs.trans hs') hc'
 | [],_::_,_,_,_,_,_,_,_,hl,_,_,_=>by simp [zu] at hl
 | _::_,[],_,_,_,_,_,_,_,hl,_,_,_=>by simp [zu] at hl
theorem au.region{nt id:Nat}{ops:Array Oper}{Q:Exit→Act→World→Prop}{gs:List cN}{st':St}(hR:lX C.P R)(hΩ:iA C.P Ω)(hnt:nt≤C.nt)(hl:zu C.P nt ops ops.toList gs=true)(h:au C st a w σ)
  (he:fQ R Ω C.E st gs=some st') (hK:∀ a' w' σ',cM C w σ w' σ'→au C st' a' w' σ'→Q .normal a' w'):(Code.region id ops false).wp C.P Q a w:=by
 refine wp_region ?_
 have:=au.steps (ops:=ops) hR hΩ hnt gs ops.toList 0 st st' a w σ rfl hl h he hK
 rwa [Array.length_toList,←vH] at this
def dz.dep:dz→Nat
 | .grp dp _=>dp
 | .mark dp=>dp
 | .box k=>k.dp
 | .rowS dp _=>dp
 | .rowC k _=>k.dp
def wI(C:Cx)(w:World)(σ:Sp):Nat→Prop:=fun b=>σ.I b∨(C.W b∧∃ l,σ.ow b=some l∧l.dep=C.E.dp)
theorem OwnAt.PB{L:dz}{wp:Prop}{t:TypeId}{es:List AV}{v:Value}(h:au C st a w σ)(hw:wp)(hL:L.dep=C.E.dp)(ho:OwnAt C.P C.W w σ L wp t es v):VR w (wI C w σ) σ.κ (.l t es) v:=by
 rcases ho with ⟨rfl,rfl⟩ | ⟨g,cap,cs,rfl,hR⟩
 ·exact .lnil _ _ _
 ·exact hR.TB (fun _ h=>.inl h) (.inr ⟨hR.wr hw,L,hR.ow,hL⟩)
theorem VR.toEnd{x:AV}{v:Value}(h:VR w σ.I σ.κ x v):VR w (wI C w σ) σ.κ x v:=h.mono (fun _ h=>.inl h) (fun _ _=>rfl) (fun _ _=>rfl)
theorem au.oC(h:au C st a w σ){n:Nat}{x y:AV}{v:Value}(hx:SR C w σ st a n x v)(he:st.oC C.E.dp x=some y):VR w (wI C w σ) σ.κ y v∨y.pure=false:=by
 cases x with
 | o t es=>
  obtain rfl:=aa he
  exact .inl (OwnAt.PB h trivial rfl hx)
 | r pl=>
  cases pl with
  | s d=>
   obtain ⟨⟨t,es⟩,hr,he1⟩:=ah.1 he
   obtain rfl:=aa he1
   rw [hx (by rw [hr];rfl)]
   exact .inl (OwnAt.PB h rfl rfl (h.row hr))
  | c k off=>
   simp only [St.oC] at he
   split at he
   ·rename_i hd
    obtain ⟨⟨t,es⟩,hr,he1⟩:=ah.1 he
    obtain rfl:=aa he1
    rw [hx (by rw [hr];rfl)]
    exact .inl (OwnAt.PB (L:=.rowC k off) h (As hd) hd (h.row hr))
   ·cases he
 | v pl lo len=>
  cases pl with
  | s d=>
   obtain ⟨⟨t,es⟩,hr,he1⟩:=ah.1 he
   simp only at he1
   split at he1
   ·rename_i hle
    obtain rfl:=aa he1
    obtain ⟨A,n',cap,hpv,hv⟩:=hx t es hr hle
    rw [hv]
    by_cases hl:len=0
    ·subst hl;exact .inl (by simpa using VR.lnil _ _ _)
    ·obtain ⟨g,cap',cs,hpv',hR⟩:=h.Bm hr (fun e=>by subst e;simp at hle;omega)
     obtain ⟨rfl,rfl,rfl⟩:A=some ⟨g,0,none⟩∧n'=es.length∧cap=cap':=by
      rw [hpv] at hpv';simpa using hpv'
     have hec:=hR.ecap
     rw [ad (by omega)]
     simp only [gv,add_lit,eU]
     exact .inl (hR.bT (fun _ h=>.inl h) (.inr ⟨hR.wr rfl,_,hR.ow,rfl⟩) hle)
   ·cases he1
  | c k off=>
   obtain rfl:=aa he
   exact .inr rfl
 | q pl i sz off=>
  obtain rfl:=aa he
  exact .inr rfl
 | w _ _ _=>cases he
 | ag _ _=>cases he
 | bp _ _ _=>cases he
 | _=>
  obtain rfl:=aa he
  exact .inl (VR.toEnd hx)
theorem VS{k:Key}{off:Nat}{c:AV}{v:Value}(h:CR C w σ k off c v)(hd:k.dp=C.E.dp)(hC:au C st a w σ){y:AV}(he:st.oC C.E.dp c=some y)(hone:c.one=true∨c= .u):VR w (wI C w σ) σ.κ y v:=by
 cases c with
 | o t es=>
  obtain rfl:=aa he
  exact OwnAt.PB (L:=.rowC k off) hC (As hd) hd h
 | r pl=>rcases hone with h1 | h1<;>simp [AV.one] at h1
 | v pl lo len=>rcases hone with h1 | h1<;>simp [AV.one] at h1
 | q pl i sz off=>rcases hone with h1 | h1<;>simp [AV.one] at h1
 | w _ _ _=>cases he
 | ag _ _=>cases he
 | bp _ _ _=>cases he
 | _=>
  obtain rfl:=aa he
  exact VR.toEnd h
def eO(P:Program):List ResultVar→List RV→Bool
 | [],[]=>true
 | .tmp t::rs,.t n::xs=>t==n&&eO P rs xs
 | .tmp t::rs,.r n::xs=>t==n&&eO P rs xs
 | .cell a ty::rs,.c n sz::xs=>a==n&&sZ P ty sz&&eO P rs xs
 | _,_=>false
def tZ(tmps:Array Value)(x:ResultVar):Sem Value:=
 match x with
 | .tmp t=>pure (tmps.getD t undef)
 | .cell a t=>do loadVar t (←asAddr (tmps.getD a undef))
theorem LS{dp:Nat} : ∀ (ds ys:List AV),st.Ii dp ds=some ys→ds.length=ys.length∧∀ (i:Nat)(y:AV),ys[i]? =some y→∃ c,ds[i]? =some c∧st.oC dp c=some y
 | [],ys,h=>by obtain rfl:=aa h;exact ⟨rfl,fun i y hi=>by simp at hi⟩
 | d::ds,ys,h=>by
  obtain ⟨y,h1,h2⟩:=ah.1 h
  obtain ⟨ys',h3,h4⟩:=ah.1 h2
  obtain rfl:=aa h4
  obtain ⟨h5,h6⟩:=LS ds ys' h3
  refine ⟨by simp [h5],fun i z hi=>?_⟩
  cases i with
  | zero=>exact ⟨d,rfl,by rw [h1];simpa using hi⟩
  | succ i=>simpa using h6 i z (by simpa using hi)
theorem TE{dp:Nat}{c y:AV}(h:st.oC dp c=some y)(hc:c.one=true):y.one=true:=by
 cases c with
 | o t es=>obtain rfl:=aa h;rfl
 | r pl=>simp [AV.one] at hc
 | v pl lo len=>simp [AV.one] at hc
 | w _ _ _=>cases h
 | ag _ _=>cases h
 | bp _ _ _=>cases h
 | _=>obtain rfl:=aa h;exact hc
theorem au.xF(h:au C st a w σ){x:ResultVar}{z:RV}{y:AV}(hl:eO C.P [x] [z]=true)(he:st.xF C.E z=some y)(hp:y.pure=true):∃ v,(tZ a.tmps x).run C.P w= .ok v w∧VR w (wI C w σ) σ.κ y v:=by
 cases x with
 | tmp t=>
  cases z with
  | t n=>
   obtain rfl:t=n:=by simpa [eO] using hl
   refine ⟨_,rfl,(h.oC (h.fr t) he).resolve_right (by simp [hp])⟩
  | c n sz=>simp [eO] at hl
  | r n=>cases he
 | cell n' ty=>
  cases z with
  | t n=>simp [eO] at hl
  | r n=>cases he
  | c n sz=>
   obtain ⟨rfl,hn⟩:n'=n∧sZ C.P ty sz=true:=by simpa [eO] using hl
   simp only [St.xF] at he
   split at he
   ·rename_i k off hx
    split at he
    ·rename_i hd
     obtain ⟨cs,hb,he1⟩:=ah.1 he
     obtain ⟨q,hq,he2⟩:=ah.1 he1
     have hbx:st.box C.E.dp k=some cs:=by simp [St.box,hd,hb]
     obtain ⟨vs,T,hB⟩:=h.bx k cs hbx
     have hs:=h.fr n'
     rw [hx] at hs
     have hv:=VR.xm hs
     have hrun:∀ v,(loadVar ty ⟨σ.κ k,off,none⟩).run C.P w= .ok v w→(tZ a.tmps (.cell n' ty)).run C.P w= .ok v w:=by
      intro v hr
      unfold tZ
      simp only [hv]
      simp [asAddr,hr]
     cases sz with
     | none=>
      obtain ⟨hag,_⟩:xW C.P ty=some false∧C.P.cellsOf ty=1:=by simpa [sZ] using hn
      have hq':cs[off]? =some q:=hq
      have hlt:off<vs.size:=eb (cB hq') hB.size
      have hc:w.cell? ⟨σ.κ k,off,none⟩=some vs[off]:=by rw [uX hB.hh];simp [hlt]
      have hcr:=hB.cell off q hq'
      have hvo:vs.getD off undef=vs[off]:=by simp [hlt]
      rw [hvo] at hcr
      refine ⟨vs[off],hrun _ (by unfold loadVar;simp [qA hag w,hc]),?_⟩
      have hqa:∀ ds,q≠.a ds:=fun ds e=>by
       have:=hB.one q (aL hq')
       subst e
       rcases this with h1 | h1<;>simp [AV.one] at h1
      have he3:st.oC C.E.dp q=some y:=by
       cases q<;>first | exact he2 | exact absurd rfl (hqa _)
      exact VS hcr hd h he3 (hB.one q (aL hq'))
     | some m=>
      obtain ⟨⟨hag,hi⟩,hm⟩:(xW C.P ty=some true∧(C.P.info? ty).isSome=true)∧C.P.cellsOf ty=m:=by simpa [sZ] using hn
      simp only [pick] at hq
      split at hq
      ·rename_i hle
       obtain rfl:=aa hq
       simp only at he2
       obtain ⟨ds,hds,he3⟩:=ah.1 he2
       obtain rfl:=aa he3
       obtain ⟨hlen,hget⟩:=LS _ _ hds
       have hdl:ds.length=m:=by rw [←hlen];simp;omega
       have hl:=run_loadCells (P:=C.P) w ⟨σ.κ k,off,none⟩ m (fun j=>vs.getD (off+j) undef) (fun j hj=>by
        rw [add_lit,uX hB.hh]
        have:off+j<vs.size:=by have:=hB.size;omega
        simp [this])
       refine ⟨.agg (((List.range m).map fun j=>vs.getD (off+j) undef).toArray),hrun _ ?_,?_⟩
       ·unfold loadVar
        simp only [Sem.run_bind,qA hag w,Result.andThen_ok,aq,jM hi,hm,hl,Sem.run_pure]
       ·have hcell:∀ (j:Nat)(z:AV),ds[j]? =some z→∃ c,cs[off+j]? =some c∧st.oC C.E.dp c=some z:=by
         intro j z hj
         obtain ⟨c,hc,hz⟩:=hget j z hj
         rw [eV] at hc
         split at hc
         ·rw [gx] at hc;exact ⟨c,hc,hz⟩
         ·cases hc
        have hpl:=ft (l:=ds) (by simpa [AV.pure] using hp)
        refine VR.a _ _ (by simp [hdl]) (fun z hz=>?_) fun j z hj=>?_
        ·obtain ⟨j,hj⟩:=ec.1 hz
         obtain ⟨c,hc,hfz⟩:=hcell j z hj
         have hz1:=hB.one c (aL hc)
         rcases hz1 with h1 | h1
         ·exact TE hfz h1
         ·subst h1
          obtain rfl:=aa hfz
          have:=hpl _ hz;cases this
        ·obtain ⟨c,hc,hfz⟩:=hcell j z hj
         have hjm:=cB hj
         have hcr:=VS (hB.cell _ c hc) hd h hfz (hB.one c (aL hc))
         simpa [hdl▸hjm] using hcr
      ·cases hq
    ·cases he
   ·cases he
theorem au.qw(h:au C st a w σ):∀ (rs:List ResultVar)(zs:List RV)(xs:List AV),eO C.P rs zs=true→st.qw C.E zs=some xs→(∀ x∈xs,x.pure=true)→
  ∃ vs,(rs.mapM (tZ a.tmps)).run C.P w= .ok vs w∧vs.length=xs.length∧∀ (i:Nat)(x:AV),xs[i]? =some x→VR w (wI C w σ) σ.κ x (vs[i]?.getD undef)
 | [],[],xs,_,he,_=>by
  obtain rfl:=aa he
  exact ⟨[],by simp,rfl,fun i x hi=>by simp at hi⟩
 | r::rs,z::zs,xs,hl,he,hp=>by
  obtain ⟨y,h1,h2⟩:=ah.1 he
  obtain ⟨ys,h3,h4⟩:=ah.1 h2
  obtain rfl:=aa h4
  have hl1:eO C.P [r] [z]=true∧eO C.P rs zs=true:=by
   cases r<;>cases z<;>simp_all [eO]
  obtain ⟨v,hv,hvr⟩:=h.xF hl1.1 h1 (hp y (by simp))
  obtain ⟨vs,hvs,hlen,hvrs⟩:=au.qw h rs zs ys hl1.2 h3 (fun x hx=>hp x (by simp [hx]))
  refine ⟨v::vs,?_,by simp [hlen],fun i x hi=>?_⟩
  ·simp [vF,hv,hvs]
  ·cases i with
   | zero=>
    obtain rfl:y=x:=by simpa using hi
    simpa using hvr
   | succ i=>simpa using hvrs i x (by simpa using hi)
 | [],_::_,_,hl,_,_=>by simp [eO] at hl
 | r::_,[],_,hl,_,_=>by cases r<;>simp [eO] at hl
theorem au.result(h:au C st a w σ){fn:Func}{zs:List RV}{x:AV}(hl:eO C.P fn.results.toList zs=true)(he:st.result C.E zs=some x):∃ v,(results fn a.tmps).run C.P w= .ok v w∧VR w (wI C w σ) σ.κ x v:=by
 obtain ⟨xs,h1,h2⟩:=ah.1 he
 split at h2
 ·rename_i hp
  obtain rfl:=aa h2
  obtain ⟨vs,hvs,hlen,hvr⟩:=h.qw _ zs xs hl h1 (ft hp)
  refine ⟨if hs:vs.toArray.size=1 then vs.toArray[0] else .tuple vs.toArray,?_,?_⟩
  ·have hm:(fn.results.mapM (tZ a.tmps)).run C.P w= .ok vs.toArray w:=by
    rw [Array.mapM_eq_mapM_toList]
    simp [hvs]
   have e:results fn a.tmps=(fn.results.mapM (tZ a.tmps)) >>=fun vs=>pure (if h:vs.size=1 then vs[0] else .tuple vs):=by
    unfold results tZ
    rfl
   rw [e,Sem.run_bind,hm]
   rfl
  ·match xs,vs,hlen,hvr with
   | [],[],_,hvr=>exact .tp [] _ rfl fun m c hm=>by simp at hm
   | [y],[v],_,hvr=>simpa [NU] using hvr 0 y rfl
   | y::y2::ys,v::v2::vs,hlen,hvr=>
    have:¬(v::v2::vs).toArray.size=1:=by simp
    rw [dif_neg this]
    refine .tp _ _ (by simpa using hlen.symm) fun m c hm=>?_
    have:=hvr m c hm
    simpa [bn] using this
 ·cases h2
end
variable [bJ]
structure Le(dp:Nat)(v s:St):Prop where
 fr:∀ d,ax v.fr d= .u∨ax v.fr d=ax s.fr d
 bx:∀ k cs,v.box dp k=some cs→s.box dp k=some cs
section
variable {E:Env}{v s:St}{R:Rec}{Ω:du}{d:Option Nat}{r:AV×St}
theorem Le.ev(h:Le E.dp v s){x:ba}{y:AV}(hx:v.ev x=y)(hy:y≠.u):s.ev x=y:=by
 cases x with
 | c z=>exact hx
 | t n=>
  rcases h.fr n with e | e
  ·exact absurd (hx.symm.trans e) hy
  ·exact e.symm.trans hx
theorem Le.slot(h:Le E.dp v s){n:Nat}{y:AV}(hx:ax v.fr n=y)(hy:y≠.u):ax s.fr n=y:=h.ev (x:=.t n) hx hy
theorem Le.rowAt(h:Le E.dp v s){pl:Pl}{q:TypeId×List AV}(hr:v.rowAt E.dp pl=some q):s.rowAt E.dp pl=some q:=by
 cases pl with
 | s n=>
  simp only [St.rowAt] at hr ⊢
  split at hr
  ·rename_i t es hx
   rw [h.slot hx (by simp)];exact hr
  ·cases hr
 | c k off=>
  simp only [St.rowAt] at hr ⊢
  cases hb:v.box E.dp k with
  | none=>simp [hb] at hr
  | some cs=>rw [h.bx k cs hb];rw [hb] at hr;exact hr
theorem Le.elems(h:Le E.dp v s){y:AV}{q:TypeId×List AV}(hr:v.elems E.dp y=some q):s.elems E.dp y=some q:=by
 cases y with
 | r pl=>exact h.rowAt hr
 | v pl lo len=>
  simp only [St.elems] at hr ⊢
  split at hr
  ·rename_i t es hx
   rw [h.rowAt hx];exact hr
  ·cases hr
 | _=>exact hr
theorem Le.nQ(h:Le E.dp v s){k:Key}{o n sz:Nat}{q:AV×List TypeId}(hr:v.nQ E.dp k o n sz=some q):s.nQ E.dp k o n sz=some q:=by
 obtain ⟨cs,h1,h2⟩:=ah.1 hr
 simp only [St.nQ,h.bx k cs h1];exact h2
theorem Le.oW(h:Le E.dp v s):∀ {cs:List AV}{q:List AV×List TypeId},v.oW E.dp cs=some q→s.oW E.dp cs=some q
 | [],q,hr=>hr
 | c::cs,q,hr=>by
  obtain ⟨z,h1,h2⟩:=ah.1 hr
  obtain ⟨z2,h3,h4⟩:=ah.1 h2
  have h5:s.D3 E.dp c=some z:=by
   unfold St.D3 at h1 ⊢
   split at h1
   ·exact h.nQ h1
   ·exact h1
  simp only [St.oW,h5,Le.oW h h3,af];exact h4
theorem Le.iD(h:Le E.dp v s){y:AV}{q:AV×List TypeId}(hr:v.iD E.dp y=some q):s.iD E.dp y=some q∧y≠.u:=by
 cases y with
 | r pl=>
  obtain ⟨z,h1,h2⟩:=ah.1 hr
  exact ⟨by simp only [St.iD,h.rowAt h1];exact h2,by simp⟩
 | v pl lo len=>
  obtain ⟨z,h1,h2⟩:=ah.1 hr
  exact ⟨by simp only [St.iD,h.rowAt h1];exact h2,by simp⟩
 | u=>simp [St.iD,AV.pure] at hr
 | sp k o n sz=>exact ⟨h.nQ hr,by simp⟩
 | a cs=>
  refine ⟨?_,by simp⟩
  simp only [St.iD] at hr ⊢
  split at hr
  ·rename_i hp;rw [ab hp];exact hr
  ·rename_i hp
   obtain ⟨z,h1,h2⟩:=ah.1 hr
   rw [ad hp,h.oW h1];exact h2
 | _=>exact ⟨hr,by simp⟩
theorem Le.ew(h:Le E.dp v s):∀ {ys:List AV}{q:List AV×List TypeId},v.ew E.dp ys=some q→s.ew E.dp ys=some q∧∀ y∈ys,y≠.u
 | [],q,hr=>⟨hr,fun _ h=>by cases h⟩
 | y::ys,q,hr=>by
  obtain ⟨z,h1,h2⟩:=ah.1 hr
  obtain ⟨z2,h3,h4⟩:=ah.1 h2
  obtain ⟨h5,h6⟩:=Le.ew h h3
  refine ⟨by simp only [St.ew,(h.iD h1).1,h5,af];exact h4,fun w hw=>?_⟩
  rcases cR.1 hw with rfl | hw
  ·exact (h.iD h1).2
  ·exact h6 w hw
theorem Le.map(h:Le E.dp v s){xs:List ba}(hx:∀ x∈xs,v.ev x≠.u):xs.map s.ev=xs.map v.ev:=by
 apply qi
 intro x hm
 exact h.ev rfl (hx x hm)
theorem Wr{y:AV}{j:Nat}(h:qV y=some j):y≠.u:=by intro e;subst e;cases h
theorem ahE{y:AV}{j:Bool}(h:qu y=some j):y≠.u:=by intro e;subst e;cases h
theorem v7{y:AV}(h:y.copy=true):y≠.u:=by intro e;subst e;cases h
theorem ab5{y:AV}(h:y.pure=true):y≠.u:=by intro e;subst e;cases h
theorem Le.nat(h:Le E.dp v s){x:ba}{j:Nat}(hx:qV (v.ev x)=some j):qV (s.ev x)=some j:=by rw [h.ev rfl (Wr hx)];exact hx
theorem Le.qu(h:Le E.dp v s){x:ba}{j:Bool}(hx:qu (v.ev x)=some j):qu (s.ev x)=some j:=by rw [h.ev rfl (ahE hx)];exact hx
theorem Le.Od(h:Le E.dp v s){x:Option ba}{n j:Nat}(hx:oB v x n=some j):oB s x n=some j:=by
 cases x with
 | none=>exact hx
 | some x=>exact h.nat hx
def qk:oV→Bool
 | .cn _ _=>false
 | .c3 _ _=>false
 | .d3 _ _=>false
 | .cr _ _ _=>false
 | .cm _ _ _ _=>false
 | .c2 _ _=>false
 | .d2 _ _=>false
 | .as _=>false
 | .bx _=>false
 | .al _=>false
 | .st _ _ _=>false
 | .bs _ _ _=>false
 | .ms _ _ _ _ _=>false
 | .ap _ _ _ _ _=>false
 | _=>true
theorem Dc(h:Le E.dp v s){m:Nat}{f:FuncId}{ys:List AV}(he:aU R Ω E v m f ys=some r):(r.2=v∧aU R Ω E s m f ys=some (r.1,s))∧∀ y∈ys,y≠.u:=by
 unfold aU at he ⊢
 split at he
 ·obtain ⟨q,h1,h2⟩:=ah.1 he
  obtain ⟨q2,h3,h4⟩:=ah.1 h2
  obtain ⟨h5,h6⟩:=h.ew h1
  obtain ⟨e2,hp2⟩:=q2
  cases e2 with
  | new cs=>cases h4
  | row _ _=>cases h4
  | pF _ _ _ _ _ _=>cases h4
  | ret x=>?_
  simp only at h4
  split at h4
  ·rename_i hc
   obtain rfl:=aa h4
   refine ⟨⟨rfl,?_⟩,h6⟩
   simp only [h5,af,h3,hc,aq]
  ·cases h4
 ·obtain ⟨q,h1,h2⟩:=ah.1 he
  obtain ⟨q2,h3,h4⟩:=ah.1 h2
  obtain ⟨h5,h6⟩:=h.ew h1
  split at h4
  ·rename_i hc
   obtain rfl:=aa h4
   refine ⟨⟨rfl,?_⟩,h6⟩
   simp only [h5,af,h3,hc,aq]
  ·cases h4
 ·cases he
theorem K4{ao:oV}(h:Le E.dp v s)(hq:qk ao=true)(hlt:lE v ao=true)(he:execOp R Ω E v d ao=some r):r.2=v∧execOp R Ω E s d ao=some (r.1,s):=by
 cases ao with
 | mv x=>
  have hu:v.ev x≠.u:=by intro e;simp [lE,e,CO] at hlt
  have hx:=h.ev rfl hu
  simp only [execOp,hx] at he ⊢
  cases hv:v.ev x<;>rw [hv] at he<;>simp only at he ⊢<;>first | (obtain rfl:=aa he;exact ⟨by trivial,by trivial⟩) | skip
  cases x with
  | t n=>obtain rfl:=aa he;exact ⟨by trivial,by trivial⟩
  | c z=>cases he
 | pk c x y=>
  simp only [execOp] at he ⊢
  obtain ⟨z,hz,he1⟩:=ah.1 he
  rw [h.qu hz,af]
  cases z with
  | true=>
   simp only [aq] at he1 ⊢
   split at he1
   ·rename_i hc
    rw [h.ev rfl (v7 hc),ab hc]
    obtain rfl:=aa he1
    exact ⟨by trivial,by trivial⟩
   ·cases he1
  | false=>
   simp only [bB,aM] at he1 ⊢
   split at he1
   ·rename_i hc
    rw [h.ev rfl (v7 hc),ab hc]
    obtain rfl:=aa he1
    exact ⟨by trivial,by trivial⟩
   ·cases he1
 | ld n x=>
  simp only [execOp] at he ⊢
  split at he
  ·rename_i k off hx
   rw [h.ev hx (by simp)]
   obtain ⟨cs,hb,he1⟩:=ah.1 he
   obtain ⟨y,hy,he2⟩:=ah.1 he1
   simp only [h.bx k cs hb,af,hy]
   split at he2
   ·obtain rfl:=aa he2;exact ⟨by trivial,by trivial⟩
   ·split at he2
    ·rename_i hc
     obtain rfl:=aa he2
     exact ⟨rfl,by rw [ab hc]⟩
    ·cases he2
  ·rename_i z off hx
   rw [h.ev hx (by simp)]
   obtain ⟨y,hy,he1⟩:=ah.1 he
   obtain rfl:=aa he1
   simp only [hy,af]
   exact ⟨by trivial,by trivial⟩
  ·rename_i pl i sz off hx
   rw [h.ev hx (by simp)]
   obtain ⟨q,hb,he1⟩:=ah.1 he
   obtain ⟨e,hee,he2⟩:=ah.1 he1
   simp only [h.rowAt hb,af,hee]
   split at he2
   ·rename_i hn
    obtain ⟨y,hy,he3⟩:=ah.1 he2
    obtain rfl:=aa he3
    simp only [ab hn,hy,af]
    exact ⟨by trivial,by trivial⟩
   ·cases he2
  ·cases he
 | fa off x=>
  simp only [execOp] at he ⊢
  split at he
  ·rename_i k o hx
   rw [h.ev hx (by simp)]
   obtain rfl:=aa he
   exact ⟨by trivial,by trivial⟩
  ·rename_i k o hx
   rw [h.ev hx (by simp)]
   obtain rfl:=aa he
   exact ⟨by trivial,by trivial⟩
  ·rename_i pl i sz o hx
   rw [h.ev hx (by simp)]
   obtain ⟨q,hb,he1⟩:=ah.1 he
   simp only [h.rowAt hb,af]
   split at he1
   ·rename_i hn
    obtain rfl:=aa he1
    exact ⟨rfl,by rw [ab hn]⟩
   ·cases he1
  ·cases he
 | fd n off x=>
  simp only [execOp] at he ⊢
  split at he
  ·rename_i cs hx
   rw [h.ev hx (by simp)]
   obtain ⟨y,hy,he1⟩:=ah.1 he
   obtain rfl:=aa he1
   simp only [hy,af]
   exact ⟨by trivial,by trivial⟩
  ·cases he
 | ia sz arr x i=>
  simp only [execOp] at he ⊢
  obtain ⟨j,hj,he1⟩:=ah.1 he
  rw [h.nat hj,af]
  have hel:∀ {e:Option AV}{f:AV→AV},elemAt sz v e f=some r→r.2=v∧elemAt sz s e f=some (r.1,s):=by
   intro e f hh
   obtain ⟨z,h1,h2,rfl⟩:=tY hh
   exact ⟨rfl,by simp [elemAt,h1,h2]⟩
  cases arr with
  | some len=>
   simp only at he1 ⊢
   split at he1
   ·rename_i hlt
    rw [ab hlt]
    split at he1
    ·rename_i k o hx
     rw [h.ev hx (by simp)]
     obtain rfl:=aa he1
     exact ⟨by trivial,by trivial⟩
    ·rename_i k o hx
     rw [h.ev hx (by simp)]
     obtain rfl:=aa he1
     exact ⟨by trivial,by trivial⟩
    ·cases he1
   ·cases he1
  | none=>
   simp only at he1 ⊢
   split at he1
   ·rename_i t es hx
    rw [h.ev hx (by simp)]
    exact hel he1
   ·rename_i t es hx
    rw [h.ev hx (by simp)]
    cases x with
    | t m=>exact hel he1
    | c z=>cases he1
   ·rename_i pl hx
    rw [h.ev hx (by simp)]
    obtain ⟨q,hb,he2⟩:=ah.1 he1
    simp only [h.rowAt hb,af]
    exact hel he2
   ·rename_i pl lo len hx
    rw [h.ev hx (by simp)]
    split at he1
    ·rename_i hjl
     obtain ⟨q,hb,he2⟩:=ah.1 he1
     simp only [ab hjl,h.rowAt hb,af]
     split at he2
     ·rename_i hl
      rw [ab hl]
      exact hel he2
     ·cases he2
    ·cases he1
   ·rename_i k o n s' hx
    rw [h.ev hx (by simp)]
    split at he1
    ·rename_i hc
     obtain rfl:=aa he1
     exact ⟨rfl,by simp only [ab hc]⟩
    ·cases he1
   ·cases he1
 | bo op bl x y=>
  simp only [execOp] at he ⊢
  obtain ⟨z,hz,he1⟩:=ah.1 he
  obtain rfl:=aa he1
  have hxu:v.ev x≠.u:=by intro e;rw [e] at hz;simp [py] at hz
  have hyu:v.ev y≠.u:=by
   intro e;rw [e] at hz
   unfold py at hz
   split at hz<;>first | cases hz | (rename_i h2;cases h2) | skip
   all_goals simp_all
  rw [h.ev rfl hxu,h.ev rfl hyu,hz]
  exact ⟨by trivial,by trivial⟩
 | ae ks ng x y=>
  simp only [execOp] at he ⊢
  split at he
  ·rename_i xs ys hx hy
   obtain ⟨z,hz,he1⟩:=ah.1 he
   obtain rfl:=aa he1
   rw [h.ev hx (by simp),h.ev hy (by simp)]
   simp only [hz,af]
   exact ⟨by trivial,by trivial⟩
  ·cases he
 | no x=>
  simp only [execOp] at he ⊢
  obtain ⟨z,hz,he1⟩:=ah.1 he
  obtain rfl:=aa he1
  rw [h.qu hz]
  exact ⟨by trivial,by trivial⟩
 | bd zs fs=>
  simp only [execOp] at he ⊢
  split at he
  ·rename_i hall
   obtain rfl:=aa he
   have hev:∀ f∈fs,s.ev f.2.2=v.ev f.2.2:=fun f hf=>by
    have:=bH.1 hall f hf
    simp only [aA] at this
    exact h.ev rfl (v7 this.1.1.1)
   have h1:fs.all (fun f=>(s.ev f.2.2).copy&&(s.ev f.2.2).nc==f.2.1&&(s.ev f.2.2).cl.all AV.one&&decide (f.1+f.2.1≤zs.length))=true:=by
    rw [bH] at hall ⊢
    intro f hf
    rw [hev f hf]
    exact hall f hf
   rw [ab h1]
   refine ⟨rfl,?_⟩
   have:∀ (fs:List (Nat×Nat×ba))(zs:List AV),(∀ f∈fs,s.ev f.2.2=v.ev f.2.2)→fs.foldl (fun cs f=>putCells cs f.1 (s.ev f.2.2).cl) zs=fs.foldl (fun cs f=>putCells cs f.1 (v.ev f.2.2).cl) zs:=by
    intro fs
    induction fs with
    | nil=>intro zs _;rfl
    | cons f fs ih=>
     intro zs hf
     simp only [qb]
     rw [hf f (by simp)]
     exact ih _ fun g hg=>hf g (by simp [hg])
   rw [this fs zs hev]
  ·cases he
 | sl t sz x lo hi=>
  simp only [execOp] at he ⊢
  split at he
  ·rename_i l hx
   rw [h.ev hx (by simp)]
   obtain ⟨p,hp,he1⟩:=ah.1 he
   obtain ⟨q,hq,he2⟩:=ah.1 he1
   simp only [h.Od hp,h.Od hq,af]
   split at he2
   ·rename_i hc
    obtain rfl:=aa he2
    exact ⟨rfl,by rw [ab hc]⟩
   ·cases he2
  ·rename_i t' es hx
   rw [h.ev hx (by simp)]
   obtain ⟨p,hp,he1⟩:=ah.1 he
   obtain ⟨q,hq,he2⟩:=ah.1 he1
   simp only [h.Od hp,h.Od hq,af]
   split at he2
   ·rename_i hc
    obtain rfl:=aa he2
    exact ⟨rfl,by rw [ab hc]⟩
   ·cases he2
  ·rename_i pl hx
   rw [h.ev hx (by simp)]
   obtain ⟨z,hz,he0⟩:=ah.1 he
   obtain ⟨p,hp,he1⟩:=ah.1 he0
   obtain ⟨q,hq,he2⟩:=ah.1 he1
   simp only [h.rowAt hz,h.Od hp,h.Od hq,af]
   split at he2
   ·rename_i hc
    obtain rfl:=aa he2
    exact ⟨rfl,by rw [ab hc]⟩
   ·cases he2
  ·cases he
 | ex x i=>
  simp only [execOp] at he ⊢
  split at he
  ·rename_i vs hx
   rw [h.ev hx (by simp)]
   obtain ⟨y,hy,he1⟩:=ah.1 he
   obtain rfl:=aa he1
   simp only [hy,af]
   exact ⟨by trivial,by trivial⟩
  ·cases he
 | mf f caps=>
  simp only [execOp] at he ⊢
  split at he
  ·rename_i hc
   have hm:=h.map (xs:=caps) fun x hx=>v7 (yI hc _ (ox hx))
   rw [hm,ab hc]
   obtain rfl:=aa he
   exact ⟨by trivial,by trivial⟩
  ·cases he
 | ca m f args=>
  simp only [execOp] at he ⊢
  obtain ⟨⟨h1,h2⟩,h3⟩:=Dc h he
  rw [h.map fun x hx=>h3 _ (ox hx)]
  exact ⟨h1,h2⟩
 | cf m x args=>
  simp only [execOp] at he ⊢
  split at he
  ·rename_i f caps hx
   rw [h.ev hx (by simp)]
   split at he
   ·rename_i hg
    obtain ⟨⟨h1,h2⟩,h3⟩:=Dc h he
    simp only [ab hg]
    rw [h.map fun x hx=>h3 _ (gD _ (ox hx))]
    exact ⟨h1,h2⟩
   ·cases he
  ·cases he
 | ln str x=>
  simp only [execOp] at he ⊢
  have hu:v.ev x≠.u:=by
   intro e
   rw [e] at he
   simp only [St.elems] at he
   split at he<;>simp at he
  rw [h.ev rfl hu]
  split at he
  ·split at he
   ·rename_i hs
    obtain rfl:=aa he
    exact ⟨rfl,by rw [ab hs]⟩
   ·cases he
  ·split at he
   ·cases he
   ·rename_i hs
    obtain rfl:=aa he
    exact ⟨rfl,by rw [ad hs]⟩
  ·rename_i hx
   split at he
   ·cases he
   ·rename_i hs
    obtain ⟨q,hq,he1⟩:=ah.1 he
    obtain rfl:=aa he1
    refine ⟨rfl,?_⟩
    rw [ad hs,h.elems hq];rfl
 | nc x=>
  simp only [execOp] at he ⊢
  split at he
  ·rename_i k o hx
   rw [h.ev hx (by simp)]
   obtain rfl:=aa he
   exact ⟨by trivial,by trivial⟩
  ·rename_i k o hx
   rw [h.ev hx (by simp)]
   obtain rfl:=aa he
   exact ⟨by trivial,by trivial⟩
  ·cases he
  ·rename_i k o hx
   rw [h.ev hx (by simp)]
   obtain rfl:=aa he
   exact ⟨by trivial,by trivial⟩
  ·cases he
 | _=>simp [qk] at hq
end
end Go.Proofs.YtkkkkondjclcnaaGreat.A
