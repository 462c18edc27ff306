/- Regions that run in the order of their text; what a function hands back. -/
import Derived.Test.YtkkkkondjclcnaaGreatAbsG
import Derived.Orders
set_option linter.all false
namespace Go.Proofs.YtkkkkondjclcnaaGreat.A
open Go
variable [bM]
def Ej(ops:Array Oper)(g g':Option (Nat×Bool)):Bool:=
 match g,g' with
 | none,none=>true
 | some (j,want),some (t,want')=>want==want'&&((ops[j]?).bind (·.dst)==some t)
 | _,_=>false
def F6(P:Program)(nt:Nat)(ops:Array Oper)(o:Oper)(g:de):Bool:=
 bG P g.o o.op&&o.dst==g.d&&(match g.d with | some d=>decide (d<nt) | none=>true)&&Ej ops o.guard g.g
def BZ(P:Program)(nt:Nat)(ops:Array Oper):List Oper→List de→Bool
 | [],[]=>true
 | o::os,g::gs=>F6 P nt ops o g&&BZ P nt ops os gs
 | _,_=>false
section
variable {C:Cx}{st:St}{a:Act}{w:World}{σ:Sp}{o:Oper}{d:Option Nat}{R:Rec}{Ω:ef}{r:AV×St}
theorem Mw.put{st':St}{x:AV}{cv:Value}{w':World}{σ':Sp}(h:Mw C st' a w σ d x cv w' σ')(hd:∀ dd,d=some dd→dd<C.nt):aq C (A.put st' d x) (a.put d cv) w' σ':=by
 cases d with
 | none=>exact h.conc
 | some dd=>exact h.conc.put (hd dd rfl) (h.val dd rfl) (fun t es e=>h.own dd t es rfl e)
theorem Mw.afL{st':St}{x:AV}{cv:Value}{w':World}{σ':Sp}(h:Mw C st' a w σ d x cv w' σ')(hd:∀ dd,d=some dd→dd<C.nt)(fz:Bool) :
  ∃ σ'',cZ C w σ w' σ''∧aq C (A.put st' d (eV fz x)) (a.put d cv) w' σ'':=by
 have h1:=h.put hd
 cases fz with
 | false=>exact ⟨σ',h.stp,by simpa [eV] using h1⟩
 | true=>
  cases x with
  | o t es=>
   cases d with
   | none=>exact ⟨σ',h.stp,h1⟩
   | some dd=>
    have hx:au (A.put st' (some dd) (.o t es)).fr dd= .o t es:=by simp [A.put,St.dC,au]
    obtain ⟨σ'',hs,hc⟩:=h1.afA (p:=.fz dd) (st':=(A.put st' (some dd) (.o t es)).dC dd (.l t es)) (by simp [iE,hx])
    refine ⟨σ'',h.stp.trans hs,hc.Ee (fun d'=>.inr ?_) (fun _ _ h=>h) (fun _ _ _ h=>h)⟩
    grind [A.put,eV,mw]
  | _=>exact ⟨σ',h.stp,h1⟩
theorem Iy{nt:Nat}{ops:Array Oper}{g:de}(hl:F6 C.P nt ops o g=true)(F:nt≤C.nt):bG C.P g.o o.op=true∧o.dst=g.d∧(∀ dd,g.d=some dd→dd<C.nt)∧Ej ops o.guard g.g=true:=by
 grind [F6]
theorem aq.guard(h:aq C st a w σ){ops:Array Oper}{g:de}(hl:Ej ops o.guard g.g=true):(g.g=none→Region.wanted o (yielded ops a.tmps)=true)∧
  ∀ j want y,g.g=some (j,want)→wN (au st.fr j) want=some y→Region.wanted o (yielded ops a.tmps)=y:=by
 unfold Ej at hl
 split at hl
 ·grind [Region.wanted]
 ·rename_i j want t want' h1 h2
  simp only [aC,eh] at hl
  obtain ⟨rfl,J⟩:=hl
  refine ⟨by grind,fun j' want' y e hy=>?_⟩
  rw [h2] at e
  obtain ⟨rfl,rfl⟩:=gN (af e)
  have hs:=h.fr t
  have O:(ops[j]?.bind fun x=>x.dst)=some t:=J
  unfold wN at hy
  split at hy
  ·rename_i x hx
   cases hy
   rw [hx] at hs
   have hv:=VR.rE hs
   have ht:a.tmps[t]? =some (.bool x):=by
    rw [dK] at hv
    grind [undef]
   grind [Region.wanted,yielded]
  ·rename_i hx
   cases hy
   rw [hx] at hs
   have hv:=VR.afb hs
   simp only [Region.wanted,h1,yielded,O,ad]
   rw [dK] at hv
   grind [undef]
  ·cases hy
 ·cases hl
theorem aq.YM(h:aq C st a w σ)(hd:∀ dd,d=some dd→dd<C.nt):aq C (A.put st d .sk) (a.put d undef) w σ:=by
 cases d with
 | none=>exact h
 | some dd=>exact h.put (hd dd rfl) VR.sk (fun _ _ e=>by cases e)
theorem aq.YN{nt i:Nat}{ops:Array Oper}{g:de}{st':St}{K:Act→World→Prop}{Q:Exit→Act→World→Prop}(hR:m8 C.P R)(hΩ:je C.P Ω)(h:aq C st a w σ)(ho:ops[i]? =some o)(hl:F6 C.P nt ops o g=true)(F:nt≤C.nt)
  (he:fS R Ω C.E st g=some st') (hK:∀ a' w' σ',cZ C w σ w' σ'→aq C st' a' w' σ'→K a' w'):wpOp C.P ops Q i K a w:=by
 obtain ⟨aD,J,hd,aK⟩:=Iy hl F
 obtain ⟨a2,aL⟩:=h.guard aK
 have a1:∀ r,execOp R Ω C.E st g.d g.o=some r→st'=A.put r.2 g.d (eV g.fz r.1)→o.wp C.P a w K Q:=by
  intro r hr aW
  refine F5 hR hΩ g.o h aD hr _ _ fun cv w' σ' aA=>?_
  obtain ⟨σ'',hs,hc⟩:=aA.afL hd g.fz
  grind
 simp only [wpOp,ho]
 unfold fS at he
 split at he
 ·grind [Option.bind_eq_some_iff]
 ·rename_i j want aI
  obtain ⟨y,hy,B⟩:=ah.1 he
  have aV:=aL j want y aI hy
  split at B
  ·grind [Option.bind_eq_some_iff]
  ·rename_i aU
   rw [aa (by grind)]
   refine hK _ _ _ (.refl _ _ _) ?_
   rw [←af B,J]
   exact h.YM hd
theorem aq.step{nt i:Nat}{ops:Array Oper}{g:de}{st':St}{rest:List Nat}{Q:Exit→Act→World→Prop}(hR:m8 C.P R)(hΩ:je C.P Ω)(h:aq C st a w σ)(ho:ops[i]? =some o)(hl:F6 C.P nt ops o g=true)(F:nt≤C.nt)
  (he:fS R Ω C.E st g=some st') (hK:∀ a' w' σ',cZ C w σ w' σ'→aq C st' a' w' σ'→wpOps C.P ops Q rest a' w'):wpOps C.P ops Q (i::rest) a w:=by
 rw [wpOps_cons]
 exact h.YN hR hΩ ho hl F he hK
theorem aq.steps{nt:Nat}{ops:Array Oper}{Q:Exit→Act→World→Prop}(hR:m8 C.P R)(hΩ:je C.P Ω)(F:nt≤C.nt):∀ (gs:List de)(os:List Oper)(i:Nat)(st st':St)(a:Act)(w:World)(σ:Sp),ops.toList.drop i=os→
  BZ C.P nt ops os gs=true→aq C st a w σ→iq R Ω C.E st gs=some st'→(∀ a' w' σ',cZ C w σ w' σ'→aq C st' a' w' σ'→Q .normal a' w')→wpOps C.P ops Q (List.range' i os.length) a w
 | [],[],i,st,st',a,w,σ,_,_,h,he,hK=>by
  cases he
  exact hK a w σ (.refl _ _ _) h
 | g::gs,o::os,i,st,st',a,w,σ,hi,hl,h,he,hK=>by
  simp only [BZ,aC] at hl
  obtain ⟨st1,B,D⟩:=ah.1 he
  have ho:ops[i]? =some o:=by
   have:(ops.toList.drop i)[0]? =some o:=by rw [hi];rfl
   rw [mT] at this
   simpa using this
  have aH:ops.toList.drop (i+1)=os:=by
   rw [←List.drop_drop,hi];rfl
  rw [cC,Ft]
  exact h.step hR hΩ ho hl.1 F B fun a' w' σ' hs hc=>aq.steps hR hΩ F gs os (i+1) st1 st' a' w' σ' aH hl.2 hc D fun a'' w'' σ'' aw aR=>hK a'' w'' σ'' (hs.trans aw) aR
 | [],_::_,_,_,_,_,_,_,_,hl,_,_,_=>by simp [BZ] at hl
 | _::_,[],_,_,_,_,_,_,_,hl,_,_,_=>by simp [BZ] at hl
theorem aq.region{nt id:Nat}{ops:Array Oper}{Q:Exit→Act→World→Prop}{gs:List de}{st':St}(hR:m8 C.P R)(hΩ:je C.P Ω)(F:nt≤C.nt)(hl:BZ C.P nt ops ops.toList gs=true)(h:aq C st a w σ)
  (he:iq R Ω C.E st gs=some st') (hK:∀ a' w' σ',cZ C w σ w' σ'→aq C st' a' w' σ'→Q .normal a' w'):(Code.region id ops false).wp C.P Q a w:=by
 grind [wp_region,aq.steps,Array.length_toList,List.range_eq_range']
def ez.dep:ez→Nat
 | .grp dp _=>dp
 | .mark dp=>dp
 | .box k=>k.dp
 | .rowS dp _=>dp
 | .rowC k _=>k.dp
def zj(C:Cx)(w:World)(σ:Sp):Nat→Prop:=fun b=>σ.I b∨(C.W b∧∃ l,σ.ow b=some l∧l.dep=C.E.dp)
theorem OwnAt.S6{L:ez}{wp:Prop}{t:TypeId}{es:List AV}{v:Value}(h:aq C st a w σ)(hw:wp)(hL:L.dep=C.E.dp)(ho:OwnAt C.P C.W w σ L wp t es v):VR w (zj C w σ) σ.κ (.l t es) v:=by
 rcases ho with ⟨rfl,rfl⟩ | ⟨g,cap,cs,rfl,hR⟩
 ·exact .lnil _ _ _
 ·exact hR.Wv (fun _ h=>.inl h) (.inr ⟨hR.wr hw,L,hR.ow,hL⟩)
theorem VR.toEnd{x:AV}{v:Value}(h:VR w σ.I σ.κ x v):VR w (zj C w σ) σ.κ x v:=h.mono (fun _ h=>.inl h) (fun _ _=>rfl) (fun _ _=>rfl)
theorem aq.pZ(h:aq C st a w σ){n:Nat}{x y:AV}{v:Value}(hx:SR C w σ st a n x v)(he:st.pZ C.E.dp x=some y):VR w (zj C w σ) σ.κ y v∨y.pure=false:=by
 cases x with
 | o t es=>
  cases he
  exact .inl (OwnAt.S6 h trivial rfl hx)
 | r pl=>
  cases pl with
  | s d=>
   obtain ⟨⟨t,es⟩,hr,B⟩:=ah.1 he
   cases B
   rw [hx (by rw [hr];rfl)]
   exact .inl (OwnAt.S6 h rfl rfl (h.row hr))
  | c k off=>
   simp only [St.pZ] at he
   split at he
   ·rename_i hd
    obtain ⟨⟨t,es⟩,hr,B⟩:=ah.1 he
    cases B
    rw [hx (by rw [hr];rfl)]
    exact .inl (OwnAt.S6 (L:=.rowC k off) h (CZ hd) hd (h.row hr))
   ·cases he
 | v pl lo len=>
  cases pl with
  | s d=>
   obtain ⟨⟨t,es⟩,hr,B⟩:=ah.1 he
   simp only at B
   split at B
   ·rename_i hle
    cases B
    obtain ⟨A,n',cap,aZ,hv⟩:=hx t es hr hle
    rw [hv]
    by_cases hl:len=0
    ·grind [VR.lnil]
    ·obtain ⟨g,cap',cs,ax,hR⟩:=h.D8 hr ((by grind))
     obtain ⟨rfl,rfl,rfl⟩:A=some ⟨g,0,none⟩∧n'=es.length∧cap=cap':=by
      grind
     have a4:=hR.ecap
     rw [aa (by omega)]
     simp only [fE,add_lit,gh]
     exact .inl (hR.bP (fun _ h=>.inl h) (.inr ⟨hR.wr rfl,_,hR.ow,rfl⟩) hle)
   ·cases B
  | c k off=>
   cases he
   exact .inr rfl
 | q pl i sz off=>
  cases he
  exact .inr rfl
 | w _ _ _=>cases he
 | ag _ _=>cases he
 | bp _ _ _=>cases he
 | _=>
  cases he
  exact .inl (VR.toEnd hx)
theorem YO{k:Key}{off:Nat}{c:AV}{v:Value}(h:CR C w σ k off c v)(hd:k.dp=C.E.dp)(hC:aq C st a w σ){y:AV}(he:st.pZ C.E.dp c=some y)(aB:c.one=true∨c= .u):VR w (zj C w σ) σ.κ y v:=by
 cases c with
 | o t es=>
  cases he
  exact OwnAt.S6 (L:=.rowC k off) hC (CZ hd) hd h
 | r pl=>grind [AV.one]
 | v pl lo len=>grind [AV.one]
 | q pl i sz off=>grind [AV.one]
 | w _ _ _=>cases he
 | ag _ _=>cases he
 | bp _ _ _=>cases he
 | _=>
  cases he
  exact VR.toEnd h
def fP(P:Program):List ResultVar→List RV→Bool
 | [],[]=>true
 | .tmp t::rs,.t n::xs=>t==n&&fP P rs xs
 | .tmp t::rs,.r n::xs=>t==n&&fP P rs xs
 | .cell a ty::rs,.c n sz::xs=>a==n&&ud P ty sz&&fP P rs xs
 | _,_=>false
def wh(tmps:Array Value)(x:ResultVar):Sem Value:=
 match x with
 | .tmp t=>pure (tmps.getD t undef)
 | .cell a t=>do loadVar t (←asAddr (tmps.getD a undef))
theorem OT{dp:Nat} : ∀ (ds ys:List AV),st.K1 dp ds=some ys→ds.length=ys.length∧∀ (i:Nat)(y:AV),ys[i]? =some y→∃ c,ds[i]? =some c∧st.pZ dp c=some y
 | [],ys,h=>by cases h;grind
 | d::ds,ys,h=>by
  obtain ⟨y,h1,h2⟩:=ah.1 h
  obtain ⟨ys',h3,h4⟩:=ah.1 h2
  cases h4
  obtain ⟨h5,h6⟩:=OT ds ys' h3
  grind
theorem Wy{dp:Nat}{c y:AV}(h:st.pZ dp c=some y)(hc:c.one=true):y.one=true:=by
 cases c with
 | o t es=>cases h;rfl
 | r pl=>simp [AV.one] at hc
 | v pl lo len=>simp [AV.one] at hc
 | w _ _ _=>cases h
 | ag _ _=>cases h
 | bp _ _ _=>cases h
 | _=>cases h;exact hc
theorem aq.Ay(h:aq C st a w σ){x:ResultVar}{z:RV}{y:AV}(hl:fP C.P [x] [z]=true)(he:st.Ay C.E z=some y)(hp:y.pure=true):∃ v,(wh a.tmps x).run C.P w= .ok v w∧VR w (zj C w σ) σ.κ y v:=by
 cases x with
 | tmp t=>
  cases z with
  | t n=>
   obtain rfl:t=n:=by simpa [fP] using hl
   refine ⟨_,rfl,(h.pZ (h.fr t) he).resolve_right (by simp [hp])⟩
  | c n sz=>simp [fP] at hl
  | r n=>cases he
 | cell n' ty=>
  cases z with
  | t n=>simp [fP] at hl
  | r n=>cases he
  | c n sz=>
   obtain ⟨rfl,hn⟩:n'=n∧ud C.P ty sz=true:=by simpa [fP] using hl
   simp only [St.Ay] at he
   split at he
   ·rename_i k off hx
    split at he
    ·rename_i hd
     obtain ⟨cs,hb,B⟩:=ah.1 he
     obtain ⟨q,hq,D⟩:=ah.1 B
     have aS:st.box C.E.dp k=some cs:=by simp [St.box,hd,hb]
     obtain ⟨vs,T,hB⟩:=h.bx k cs aS
     have hs:=h.fr n'
     rw [hx] at hs
     have hv:=VR.zS hs
     have M:∀ v,(loadVar ty ⟨σ.κ k,off,none⟩).run C.P w= .ok v w→(wh a.tmps (.cell n' ty)).run C.P w= .ok v w:=by
      grind [wh,asAddr]
     cases sz with
     | none=>
      obtain ⟨aT,_⟩:AO C.P ty=some false∧C.P.cellsOf ty=1:=by simpa [ud] using hn
      have U:cs[off]? =some q:=hq
      have N:off<vs.size:=ea (dB U) hB.size
      have hc:w.cell? ⟨σ.κ k,off,none⟩=some vs[off]:=by rw [xj hB.hh];simp [N]
      have ac:=hB.cell off q U
      have av:vs.getD off undef=vs[off]:=by simp [N]
      rw [av] at ac
      refine ⟨vs[off],M _ (by simp_all [loadVar,so]),?_⟩
      have aX:∀ ds,q≠.a ds:=fun ds e=>by
       have:=hB.one q (bg U)
       grind [AV.one]
      have Z:st.pZ C.E.dp q=some y:=by
       grind
      exact YO ac hd h Z (hB.one q (bg U))
     | some m=>
      obtain ⟨⟨aT,hi⟩,hm⟩:(AO C.P ty=some true∧(C.P.info? ty).isSome=true)∧C.P.cellsOf ty=m:=by simpa [ud] using hn
      simp only [pick] at hq
      split at hq
      ·rename_i hle
       cases hq
       simp only at D
       obtain ⟨ds,aO,Z⟩:=ah.1 D
       cases Z
       obtain ⟨hlen,aJ⟩:=OT _ _ aO
       have aP:ds.length=m:=by grind
       have hl:=run_loadCells (P:=C.P) w ⟨σ.κ k,off,none⟩ m (fun j=>vs.getD (off+j) undef) (fun j hj=>by
        rw [add_lit,xj hB.hh]
        have:off+j<vs.size:=by have:=hB.size;omega
        simp [this])
       refine ⟨.agg (((List.range m).map fun j=>vs.getD (off+j) undef).toArray),M _ ?_,?_⟩
       ·simp_all [loadVar,so,lg]
       ·have G:∀ (j:Nat)(z:AV),ds[j]? =some z→∃ c,cs[off+j]? =some c∧st.pZ C.E.dp c=some z:=by
         grind
        have ay:=fB (l:=ds) (by simpa [AV.pure] using hp)
        refine VR.a _ _ (by simp [aP]) (fun z hz=>?_) fun j z hj=>?_
        ·obtain ⟨j,hj⟩:=eZ.1 hz
         obtain ⟨c,hc,V⟩:=G j z hj
         have an:=hB.one c (bg hc)
         rcases an with h1 | h1
         ·exact Wy V h1
         ·subst h1
          cases V
          have:=ay _ hz;cases this
        ·obtain ⟨c,hc,V⟩:=G j z hj
         have a0:=dB hj
         have ac:=YO (hB.cell _ c hc) hd h V (hB.one c (bg hc))
         simp_all
      ·cases hq
    ·cases he
   ·cases he
theorem aq.sc(h:aq C st a w σ):∀ (rs:List ResultVar)(zs:List RV)(xs:List AV),fP C.P rs zs=true→st.sc C.E zs=some xs→(∀ x∈xs,x.pure=true)→
  ∃ vs,(rs.mapM (wh a.tmps)).run C.P w= .ok vs w∧vs.length=xs.length∧∀ (i:Nat)(x:AV),xs[i]? =some x→VR w (zj C w σ) σ.κ x (vs[i]?.getD undef)
 | [],[],xs,_,he,_=>by
  cases he
  simp_all
 | r::rs,z::zs,xs,hl,he,hp=>by
  obtain ⟨y,h1,h2⟩:=ah.1 he
  obtain ⟨ys,h3,h4⟩:=ah.1 h2
  cases h4
  have ak:fP C.P [r] [z]=true∧fP C.P rs zs=true:=by
   cases r<;>cases z<;>simp_all [fP]
  obtain ⟨v,hv,H⟩:=h.Ay ak.1 h1 (hp y (by simp))
  obtain ⟨vs,aj,hlen,Y⟩:=aq.sc h rs zs ys ak.2 h3 (fun x hx=>hp x (by simp [hx]))
  refine ⟨v::vs,?_,by simp [hlen],fun i x hi=>?_⟩
  ·simp [yn,hv,aj]
  ·cases i with
   | zero=>
    obtain rfl:y=x:=by simpa using hi
    simpa using H
   | succ i=>simpa using Y i x (by simpa using hi)
 | [],_::_,_,hl,_,_=>by simp [fP] at hl
 | r::_,[],_,hl,_,_=>by grind [fP]
theorem aq.result(h:aq C st a w σ){fn:Func}{zs:List RV}{x:AV}(hl:fP C.P fn.results.toList zs=true)(he:st.result C.E zs=some x):∃ v,(results fn a.tmps).run C.P w= .ok v w∧VR w (zj C w σ) σ.κ x v:=by
 obtain ⟨xs,h1,h2⟩:=ah.1 he
 split at h2
 ·rename_i hp
  cases h2
  obtain ⟨vs,aj,hlen,H⟩:=h.sc _ zs xs hl h1 (fB hp)
  refine ⟨if hs:vs.toArray.size=1 then vs.toArray[0] else .tuple vs.toArray,?_,?_⟩
  ·have hm:(fn.results.mapM (wh a.tmps)).run C.P w= .ok vs.toArray w:=by
    simp_all [Array.mapM_eq_mapM_toList]
   have e:results fn a.tmps=(fn.results.mapM (wh a.tmps)) >>=fun vs=>pure (if h:vs.size=1 then vs[0] else .tuple vs):=by
    unfold results wh
    rfl
   simp_all
  ·match xs,vs,hlen,H with
   | [],[],_,H=>exact .tp [] _ rfl fun m c hm=>by simp at hm
   | [y],[v],_,H=>simpa [EM] using H 0 y rfl
   | y::y2::ys,v::v2::vs,hlen,H=>
    have:¬(v::v2::vs).toArray.size=1:=by simp
    rw [dif_neg this]
    refine .tp _ _ (by grind) fun m c hm=>?_
    simp_all
 ·cases h2
end
variable [bM]
structure Le(dp:Nat)(v s:St):Prop where
 fr:∀ d,au v.fr d= .u∨au v.fr d=au s.fr d
 bx:∀ k cs,v.box dp k=some cs→s.box dp k=some cs
section
variable {E:Env}{v s:St}{R:Rec}{Ω:ef}{d:Option Nat}{r:AV×St}
theorem Le.ev(h:Le E.dp v s){x:aY}{y:AV}(hx:v.ev x=y)(hy:y≠.u):s.ev x=y:=by
 cases x with
 | c z=>exact hx
 | t n=>
  rcases h.fr n with e | e
  ·exact absurd (hx.symm.trans e) hy
  ·exact e.symm.trans hx
theorem Le.slot(h:Le E.dp v s){n:Nat}{y:AV}(hx:au v.fr n=y)(hy:y≠.u):au s.fr n=y:=h.ev (x:=.t n) hx hy
theorem Le.rowAt(h:Le E.dp v s){pl:Pl}{q:TypeId×List AV}(hr:v.rowAt E.dp pl=some q):s.rowAt E.dp pl=some q:=by
 cases pl with
 | s n=>
  simp only [St.rowAt] at hr ⊢
  split at hr
  ·rename_i t es hx
   rw [h.slot hx (by simp)];exact hr
  ·cases hr
 | c k off=>
  simp only [St.rowAt] at hr ⊢
  cases hb:v.box E.dp k with
  | none=>simp [hb] at hr
  | some cs=>rw [h.bx k cs hb];grind
theorem Le.elems(h:Le E.dp v s){y:AV}{q:TypeId×List AV}(hr:v.elems E.dp y=some q):s.elems E.dp y=some q:=by
 cases y with
 | r pl=>exact h.rowAt hr
 | v pl lo len=>
  simp only [St.elems] at hr ⊢
  split at hr
  ·rename_i t es hx
   rw [h.rowAt hx];exact hr
  ·cases hr
 | _=>exact hr
theorem Le.oV(h:Le E.dp v s){k:Key}{o n sz:Nat}{q:AV×List TypeId}(hr:v.oV E.dp k o n sz=some q):s.oV E.dp k o n sz=some q:=by
 obtain ⟨cs,h1,h2⟩:=ah.1 hr
 simp only [St.oV,h.bx k cs h1];exact h2
theorem Le.qC(h:Le E.dp v s):∀ {cs:List AV}{q:List AV×List TypeId},v.qC E.dp cs=some q→s.qC E.dp cs=some q
 | [],q,hr=>hr
 | c::cs,q,hr=>by
  obtain ⟨z,h1,h2⟩:=ah.1 hr
  obtain ⟨z2,h3,h4⟩:=ah.1 h2
  have h5:s.GW E.dp c=some z:=by
   unfold St.GW at h1 ⊢
   split at h1
   ·exact h.oV h1
   ·exact h1
  simp only [St.qC,h5,Le.qC h h3,ad];exact h4
theorem Le.jl(h:Le E.dp v s){y:AV}{q:AV×List TypeId}(hr:v.jl E.dp y=some q):s.jl E.dp y=some q∧y≠.u:=by
 cases y with
 | r pl=>
  obtain ⟨z,h1,h2⟩:=ah.1 hr
  exact ⟨by simp only [St.jl,h.rowAt h1];exact h2,by simp⟩
 | v pl lo len=>
  obtain ⟨z,h1,h2⟩:=ah.1 hr
  exact ⟨by simp only [St.jl,h.rowAt h1];exact h2,by simp⟩
 | u=>simp [St.jl,AV.pure] at hr
 | sp k o n sz=>exact ⟨h.oV hr,by simp⟩
 | a cs=>
  refine ⟨?_,by simp⟩
  simp only [St.jl] at hr ⊢
  split at hr
  ·grind
  ·rename_i hp
   obtain ⟨z,h1,h2⟩:=ah.1 hr
   rw [aa hp,h.qC h1];exact h2
 | _=>exact ⟨hr,by simp⟩
theorem Le.fk(h:Le E.dp v s):∀ {ys:List AV}{q:List AV×List TypeId},v.fk E.dp ys=some q→s.fk E.dp ys=some q∧∀ y∈ys,y≠.u
 | [],q,hr=>⟨hr,fun _ h=>by cases h⟩
 | y::ys,q,hr=>by
  obtain ⟨z,h1,h2⟩:=ah.1 hr
  obtain ⟨z2,h3,h4⟩:=ah.1 h2
  obtain ⟨h5,h6⟩:=Le.fk h h3
  refine ⟨by simp only [St.fk,(h.jl h1).1,h5,ad];exact h4,fun w hw=>?_⟩
  rcases eX.1 hw with rfl | hw
  ·exact (h.jl h1).2
  ·exact h6 w hw
theorem Le.map(h:Le E.dp v s){xs:List aY}(hx:∀ x∈xs,v.ev x≠.u):xs.map s.ev=xs.map v.ev:=by
 apply rU
 intro x hm
 exact h.ev rfl (hx x hm)
theorem Zn{y:AV}{j:Nat}(h:sX y=some j):y≠.u:=by intro e;subst e;cases h
theorem akk{y:AV}{j:Bool}(h:qA y=some j):y≠.u:=by intro e;subst e;cases h
theorem yK{y:AV}(h:y.copy=true):y≠.u:=by intro e;subst e;cases h
theorem UR{y:AV}(h:y.pure=true):y≠.u:=by intro e;subst e;cases h
theorem Le.nat(h:Le E.dp v s){x:aY}{j:Nat}(hx:sX (v.ev x)=some j):sX (s.ev x)=some j:=by rw [h.ev rfl (Zn hx)];exact hx
theorem Le.qA(h:Le E.dp v s){x:aY}{j:Bool}(hx:qA (v.ev x)=some j):qA (s.ev x)=some j:=by rw [h.ev rfl (akk hx)];exact hx
theorem Le.RD(h:Le E.dp v s){x:Option aY}{n j:Nat}(hx:pY v x n=some j):pY s x n=some j:=by
 cases x with
 | none=>exact hx
 | some x=>exact h.nat hx
def qk:nY→Bool
 | .ck _ _=>false
 | .c3 _ _=>false
 | .d3 _ _=>false
 | .cr _ _ _=>false
 | .cm _ _ _ _=>false
 | .c2 _ _=>false
 | .d2 _ _=>false
 | .as _=>false
 | .bx _=>false
 | .al _=>false
 | .st _ _ _=>false
 | .bs _ _ _=>false
 | .ms _ _ _ _ _=>false
 | .ap _ _ _ _ _=>false
 | .ch _ _ _ _ _=>false
 | _=>true
theorem F7(h:Le E.dp v s){m:Nat}{f:FuncId}{ys:List AV}(he:aF R Ω E v m f ys=some r):(r.2=v∧aF R Ω E s m f ys=some (r.1,s))∧∀ y∈ys,y≠.u:=by
 unfold aF at he ⊢
 split at he
 ·obtain ⟨q,h1,h2⟩:=ah.1 he
  obtain ⟨q2,h3,h4⟩:=ah.1 h2
  obtain ⟨h5,h6⟩:=h.fk h1
  grind
 ·obtain ⟨q,h1,h2⟩:=ah.1 he
  obtain ⟨q2,h3,h4⟩:=ah.1 h2
  obtain ⟨h5,h6⟩:=h.fk h1
  grind
 ·cases he
theorem N2{ao:nY}(h:Le E.dp v s)(hq:qk ao=true)(N:kR v ao=true)(he:execOp R Ω E v d ao=some r):r.2=v∧execOp R Ω E s d ao=some (r.1,s):=by
 cases ao with
 | mv x=>
  have hu:v.ev x≠.u:=by grind [kR,EL]
  have hx:=h.ev rfl hu
  simp only [execOp,hx] at he ⊢
  cases hv:v.ev x<;>rw [hv] at he<;>simp only at he ⊢<;>first | (cases he;exact ⟨by trivial,by trivial⟩) | skip
  grind
 | pk c x y=>
  simp only [execOp] at he ⊢
  obtain ⟨z,hz,B⟩:=ah.1 he
  rw [h.qA hz,ad]
  cases z with
  | true=>
   simp only [az] at B ⊢
   split at B
   ·rename_i hc
    rw [h.ev rfl (yK hc),ab hc]
    grind
   ·cases B
  | false=>
   simp only [bU,bB] at B ⊢
   split at B
   ·rename_i hc
    rw [h.ev rfl (yK hc),ab hc]
    grind
   ·cases B
 | ld n x=>
  simp only [execOp] at he ⊢
  split at he
  ·rename_i k off hx
   rw [h.ev hx (by simp)]
   obtain ⟨cs,hb,B⟩:=ah.1 he
   obtain ⟨y,hy,D⟩:=ah.1 B
   simp only [h.bx k cs hb,ad,hy]
   grind
  ·rename_i z off hx
   rw [h.ev hx (by simp)]
   grind [Option.bind_eq_some_iff]
  ·rename_i pl i sz off hx
   rw [h.ev hx (by simp)]
   obtain ⟨q,hb,B⟩:=ah.1 he
   obtain ⟨e,aM,D⟩:=ah.1 B
   simp only [h.rowAt hb,ad,aM]
   grind [Option.bind_eq_some_iff]
  ·cases he
 | lk n x y lv=>
  simp only [execOp] at he ⊢
  split at he
  ·rename_i k off hx
   rw [h.ev hx (by simp)]
   split at he
   ·rename_i hk
    have aE:fi E.dp s (s.ev y) lv=some k:=by
     have X:v.ev y≠.u:=by intro e;rw [e] at hk;cases hk
     rw [h.ev rfl X]
     generalize v.ev y=yy at hk
     cases yy<;>first | (simp [fi] at hk;done) | skip
     rename_i k' off'
     cases lv with
     | false=>exact hk
     | true=>
      simp only [fi,az] at hk ⊢
      split at hk
      ·rename_i k2 o2 hc
       obtain ⟨cs,hb,aQ⟩:=ah.1 hc
       simp only [h.bx _ cs hb,ad,aQ]
       exact hk
      ·cases hk
    simp only [ab aE]
    obtain ⟨cs,hb,B⟩:=ah.1 he
    obtain ⟨y,hy,D⟩:=ah.1 B
    simp only [h.bx k cs hb,ad,hy]
    grind
   ·cases he
  ·cases he
 | fa off x=>
  simp only [execOp] at he ⊢
  split at he
  ·rename_i k o hx
   rw [h.ev hx (by simp)]
   grind
  ·rename_i k o hx
   rw [h.ev hx (by simp)]
   grind
  ·rename_i pl i sz o hx
   rw [h.ev hx (by simp)]
   obtain ⟨q,hb,B⟩:=ah.1 he
   simp only [h.rowAt hb,ad]
   grind
  ·cases he
 | fd n off x=>
  simp only [execOp] at he ⊢
  split at he
  ·rename_i cs hx
   rw [h.ev hx (by simp)]
   grind [Option.bind_eq_some_iff]
  ·cases he
 | ia sz arr x i=>
  simp only [execOp] at he ⊢
  obtain ⟨j,hj,B⟩:=ah.1 he
  rw [h.nat hj,ad]
  have am:∀ {e:Option AV}{f:AV→AV},elemAt sz v e f=some r→r.2=v∧elemAt sz s e f=some (r.1,s):=by
   grind [we,elemAt]
  cases arr with
  | some len=>
   simp only at B ⊢
   split at B
   ·rename_i N
    rw [ab N]
    split at B
    ·rename_i k o hx
     rw [h.ev hx (by simp)]
     grind
    ·rename_i k o hx
     rw [h.ev hx (by simp)]
     grind
    ·cases B
   ·cases B
  | none=>
   simp only at B ⊢
   split at B
   ·rename_i t es hx
    rw [h.ev hx (by simp)]
    exact am B
   ·rename_i t es hx
    rw [h.ev hx (by simp)]
    grind
   ·rename_i pl hx
    rw [h.ev hx (by simp)]
    obtain ⟨q,hb,D⟩:=ah.1 B
    simp only [h.rowAt hb,ad]
    exact am D
   ·rename_i pl lo len hx
    rw [h.ev hx (by simp)]
    split at B
    ·rename_i aG
     obtain ⟨q,hb,D⟩:=ah.1 B
     simp only [ab aG,h.rowAt hb,ad]
     grind
    ·cases B
   ·rename_i k o n s' hx
    rw [h.ev hx (by simp)]
    grind
   ·cases B
 | bo op bl x y=>
  simp only [execOp] at he ⊢
  obtain ⟨z,hz,B⟩:=ah.1 he
  cases B
  have ar:v.ev x≠.u:=by grind [rn]
  have X:v.ev y≠.u:=by
   grind [rn]
  rw [h.ev rfl ar,h.ev rfl X,hz]
  grind
 | ae ks ng x y=>
  simp only [execOp] at he ⊢
  split at he
  ·rename_i xs ys hx hy
   obtain ⟨z,hz,B⟩:=ah.1 he
   cases B
   rw [h.ev hx (by simp),h.ev hy (by simp)]
   grind
  ·cases he
 | no x=>
  simp only [execOp] at he ⊢
  obtain ⟨z,hz,B⟩:=ah.1 he
  cases B
  rw [h.qA hz]
  grind
 | bd zs fs=>
  simp only [execOp] at he ⊢
  split at he
  ·rename_i ai
   cases he
   have a3:∀ f∈fs,s.ev f.2.2=v.ev f.2.2:=fun f hf=>by
    have:=cJ.1 ai f hf
    simp only [aC] at this
    exact h.ev rfl (yK this.1.1.1)
   have h1:fs.all (fun f=>(s.ev f.2.2).copy&&(s.ev f.2.2).nc==f.2.1&&(s.ev f.2.2).cl.all AV.one&&decide (f.1+f.2.1≤zs.length))=true:=by
    grind
   rw [ab h1]
   refine ⟨rfl,?_⟩
   have:∀ (fs:List (Nat×Nat×aY))(zs:List AV),(∀ f∈fs,s.ev f.2.2=v.ev f.2.2)→fs.foldl (fun cs f=>putCells cs f.1 (s.ev f.2.2).cl) zs=fs.foldl (fun cs f=>putCells cs f.1 (v.ev f.2.2).cl) zs:=by
    intro fs
    induction fs with
    | nil=>intro zs _;rfl
    | cons f fs ih=>
     grind
   grind
  ·cases he
 | sl t sz x lo hi=>
  simp only [execOp] at he ⊢
  split at he
  ·rename_i l hx
   rw [h.ev hx (by simp)]
   obtain ⟨p,hp,B⟩:=ah.1 he
   obtain ⟨q,hq,D⟩:=ah.1 B
   simp only [h.RD hp,h.RD hq,ad]
   grind
  ·rename_i t' es hx
   rw [h.ev hx (by simp)]
   obtain ⟨p,hp,B⟩:=ah.1 he
   obtain ⟨q,hq,D⟩:=ah.1 B
   simp only [h.RD hp,h.RD hq,ad]
   grind
  ·rename_i pl hx
   rw [h.ev hx (by simp)]
   obtain ⟨z,hz,aN⟩:=ah.1 he
   obtain ⟨p,hp,B⟩:=ah.1 aN
   obtain ⟨q,hq,D⟩:=ah.1 B
   simp only [h.rowAt hz,h.RD hp,h.RD hq,ad]
   grind
  ·cases he
 | ex x i=>
  simp only [execOp] at he ⊢
  split at he
  ·rename_i vs hx
   rw [h.ev hx (by simp)]
   grind [Option.bind_eq_some_iff]
  ·cases he
 | mf f S=>
  simp only [execOp] at he ⊢
  split at he
  ·rename_i hc
   have hm:=h.map (xs:=S) fun x hx=>yK ((by grind [Bz]))
   grind
  ·cases he
 | ca m f args=>
  simp only [execOp] at he ⊢
  obtain ⟨⟨h1,h2⟩,h3⟩:=F7 h he
  rw [h.map (by grind)]
  grind
 | cf m x args=>
  simp only [execOp] at he ⊢
  split at he
  ·rename_i f S hx
   rw [h.ev hx (by simp)]
   split at he
   ·rename_i hg
    obtain ⟨⟨h1,h2⟩,h3⟩:=F7 h he
    simp only [ab hg]
    rw [h.map (by grind)]
    grind
   ·cases he
  ·cases he
 | ln str x=>
  simp only [execOp] at he ⊢
  have hu:v.ev x≠.u:=by
   grind [St.elems]
  rw [h.ev rfl hu]
  split at he
  ·grind
  ·grind
  ·rename_i hx
   split at he
   ·cases he
   ·rename_i hs
    obtain ⟨q,hq,B⟩:=ah.1 he
    cases B
    refine ⟨rfl,?_⟩
    rw [aa hs,h.elems hq];rfl
 | nc x=>
  simp only [execOp] at he ⊢
  split at he
  ·rename_i k o hx
   rw [h.ev hx (by simp)]
   grind
  ·rename_i k o hx
   rw [h.ev hx (by simp)]
   grind
  ·cases he
  ·rename_i k o hx
   rw [h.ev hx (by simp)]
   grind
  ·cases he
 | _=>simp [qk] at hq
end
end Go.Proofs.YtkkkkondjclcnaaGreat.A
