/- Regions that run in the order of their text; what a function hands back. -/
import Derived.Test.YtlmphbbhaeampaaGreatAbsG
import Derived.Orders
set_option linter.all false
namespace Go.Proofs.YtlmphbbhaeampaaGreat.A
open Go
variable [cj]
def Ce(ops:Array Oper)(g g':Option (Nat×Bool)):Bool:=
 match g,g' with
 | none,none=>true
 | some (j,want),some (t,want')=>want==want'&&((ops[j]?).bind (·.dst)==some t)
 | _,_=>false
def DU(P:Program)(nt:Nat)(ops:Array Oper)(o:Oper)(g:dx):Bool:=
 bN P g.o o.op&&o.dst==g.d&&(match g.d with | some d=>decide (d<nt) | none=>true)&&Ce ops o.guard g.g
def zV(P:Program)(nt:Nat)(ops:Array Oper):List Oper→List dx→Bool
 | [],[]=>true
 | o::os,g::gs=>DU P nt ops o g&&zV P nt ops os gs
 | _,_=>false
section
variable {C:Cx}{st:St}{a:Act}{w:World}{σ:Sp}{o:Oper}{d:Option Nat}{R:Rec}{Ω:dK}{r:AV×St}
theorem JU.put{st':St}{x:AV}{cv:Value}{w':World}{σ':Sp}(h:JU C st' a w σ d x cv w' σ')(hd:∀ dd,d=some dd→dd<C.nt):aw C (A.put st' d x) (a.put d cv) w' σ':=by
 cases d with
 | none=>exact h.conc
 | some dd=>exact h.conc.put (hd dd rfl) (h.val dd rfl) (fun t es e=>h.own dd t es rfl e)
theorem JU.acR{st':St}{x:AV}{cv:Value}{w':World}{σ':Sp}(h:JU C st' a w σ d x cv w' σ')(hd:∀ dd,d=some dd→dd<C.nt)(fz:Bool) :
  ∃ σ'',cX C w σ w' σ''∧aw C (A.put st' d (fg fz x)) (a.put d cv) w' σ'':=by
 have h1:=h.put hd
 cases fz with
 | false=>exact ⟨σ',h.stp,by simpa [fg] using h1⟩
 | true=>
  cases x with
  | o t es=>
   cases d with
   | none=>exact ⟨σ',h.stp,h1⟩
   | some dd=>
    have hx:az (A.put st' (some dd) (.o t es)).fr dd= .o t es:=by simp [A.put,St.cS,az]
    obtain ⟨σ'',hs,hc⟩:=h1.acI (p:=.fz dd) (st':=(A.put st' (some dd) (.o t es)).cS dd (.l t es)) (by simp [iM,hx])
    refine ⟨σ'',h.stp.trans hs,hc.B9 (fun d'=>.inr ?_) (fun _ _ h=>h) (fun _ _ _ h=>h)⟩
    grind [A.put,fg,ma]
  | _=>exact ⟨σ',h.stp,h1⟩
theorem FY{nt:Nat}{ops:Array Oper}{g:dx}(hl:DU C.P nt ops o g=true)(F:nt≤C.nt):bN C.P g.o o.op=true∧o.dst=g.d∧(∀ dd,g.d=some dd→dd<C.nt)∧Ce ops o.guard g.g=true:=by
 grind [DU]
theorem aw.guard(h:aw C st a w σ){ops:Array Oper}{g:dx}(hl:Ce ops o.guard g.g=true):(g.g=none→Region.wanted o (yielded ops a.tmps)=true)∧
  ∀ j want y,g.g=some (j,want)→xm (az st.fr j) want=some y→Region.wanted o (yielded ops a.tmps)=y:=by
 unfold Ce at hl
 split at hl
 ·grind [Region.wanted]
 ·rename_i j want t want' h1 h2
  simp only [aL,dH] at hl
  obtain ⟨rfl,J⟩:=hl
  refine ⟨by grind,fun j' want' y e hy=>?_⟩
  rw [h2] at e
  obtain ⟨rfl,rfl⟩:=dM (ah e)
  have hs:=h.fr t
  have O:(ops[j]?.bind fun x=>x.dst)=some t:=J
  unfold xm at hy
  split at hy
  ·rename_i x hx
   cases hy
   rw [hx] at hs
   have hv:=VR.vN hs
   have ht:a.tmps[t]? =some (.bool x):=by
    rw [eL] at hv
    grind [undef]
   grind [Region.wanted,yielded]
  ·rename_i hx
   cases hy
   rw [hx] at hs
   have hv:=VR.ace hs
   simp only [Region.wanted,h1,yielded,O,ad]
   rw [eL] at hv
   grind [undef]
  ·cases hy
 ·cases hl
theorem aw.Vc(h:aw C st a w σ)(hd:∀ dd,d=some dd→dd<C.nt):aw C (A.put st d .sk) (a.put d undef) w σ:=by
 cases d with
 | none=>exact h
 | some dd=>exact h.put (hd dd rfl) VR.sk (fun _ _ e=>by cases e)
theorem aw.Vd{nt i:Nat}{ops:Array Oper}{g:dx}{st':St}{K:Act→World→Prop}{Q:Exit→Act→World→Prop}(hR:my C.P R)(hΩ:iT C.P Ω)(h:aw C st a w σ)(ho:ops[i]? =some o)(hl:DU C.P nt ops o g=true)(F:nt≤C.nt)
  (he:ix R Ω C.E st g=some st') (hK:∀ a' w' σ',cX C w σ w' σ'→aw C st' a' w' σ'→K a' w'):wpOp C.P ops Q i K a w:=by
 obtain ⟨aC,J,hd,aH⟩:=FY hl F
 obtain ⟨aY,aI⟩:=h.guard aH
 have aX:∀ r,execOp R Ω C.E st g.d g.o=some r→st'=A.put r.2 g.d (fg g.fz r.1)→o.wp C.P a w K Q:=by
  intro r hr aT
  refine DT hR hΩ g.o h aC hr _ _ fun cv w' σ' ay=>?_
  obtain ⟨σ'',hs,hc⟩:=ay.acR hd g.fz
  grind
 simp only [wpOp,ho]
 unfold ix at he
 split at he
 ·grind [Option.bind_eq_some_iff]
 ·rename_i j want aF
  obtain ⟨y,hy,B⟩:=aj.1 he
  have aS:=aI j want y aF hy
  split at B
  ·grind [Option.bind_eq_some_iff]
  ·rename_i aR
   rw [ab (by grind)]
   refine hK _ _ _ (.refl _ _ _) ?_
   rw [←ah B,J]
   exact h.Vc hd
theorem aw.step{nt i:Nat}{ops:Array Oper}{g:dx}{st':St}{rest:List Nat}{Q:Exit→Act→World→Prop}(hR:my C.P R)(hΩ:iT C.P Ω)(h:aw C st a w σ)(ho:ops[i]? =some o)(hl:DU C.P nt ops o g=true)(F:nt≤C.nt)
  (he:ix R Ω C.E st g=some st') (hK:∀ a' w' σ',cX C w σ w' σ'→aw C st' a' w' σ'→wpOps C.P ops Q rest a' w'):wpOps C.P ops Q (i::rest) a w:=by
 rw [wpOps_cons]
 exact h.Vd hR hΩ ho hl F he hK
theorem aw.steps{nt:Nat}{ops:Array Oper}{Q:Exit→Act→World→Prop}(hR:my C.P R)(hΩ:iT C.P Ω)(F:nt≤C.nt):∀ (gs:List dx)(os:List Oper)(i:Nat)(st st':St)(a:Act)(w:World)(σ:Sp),ops.toList.drop i=os→
  zV C.P nt ops os gs=true→aw C st a w σ→iL R Ω C.E st gs=some st'→(∀ a' w' σ',cX C w σ w' σ'→aw C st' a' w' σ'→Q .normal a' w')→wpOps C.P ops Q (List.range' i os.length) a w
 | [],[],i,st,st',a,w,σ,_,_,h,he,hK=>by
  cases he
  exact hK a w σ (.refl _ _ _) h
 | g::gs,o::os,i,st,st',a,w,σ,hi,hl,h,he,hK=>by
  simp only [zV,aL] at hl
  obtain ⟨st1,B,D⟩:=aj.1 he
  have ho:ops[i]? =some o:=by
   have:(ops.toList.drop i)[0]? =some o:=by rw [hi];rfl
   rw [nS] at this
   simpa using this
  have aE:ops.toList.drop (i+1)=os:=by
   rw [←List.drop_drop,hi];rfl
  rw [eM,Dt]
  exact h.step hR hΩ ho hl.1 F B fun a' w' σ' hs hc=>aw.steps hR hΩ F gs os (i+1) st1 st' a' w' σ' aE hl.2 hc D fun a'' w'' σ'' au aO=>hK a'' w'' σ'' (hs.trans au) aO
 | [],_::_,_,_,_,_,_,_,_,hl,_,_,_=>by simp [zV] at hl
 | _::_,[],_,_,_,_,_,_,_,hl,_,_,_=>by simp [zV] at hl
theorem aw.region{nt id:Nat}{ops:Array Oper}{Q:Exit→Act→World→Prop}{gs:List dx}{st':St}(hR:my C.P R)(hΩ:iT C.P Ω)(F:nt≤C.nt)(hl:zV C.P nt ops ops.toList gs=true)(h:aw C st a w σ)
  (he:iL R Ω C.E st gs=some st') (hK:∀ a' w' σ',cX C w σ w' σ'→aw C st' a' w' σ'→Q .normal a' w'):(Code.region id ops false).wp C.P Q a w:=by
 grind [wp_region,aw.steps,Array.length_toList,List.range_eq_range']
def eI.dep:eI→Nat
 | .grp dp _=>dp
 | .mark dp=>dp
 | .box k=>k.dp
 | .rowS dp _=>dp
 | .rowC k _=>k.dp
def wU(C:Cx)(w:World)(σ:Sp):Nat→Prop:=fun b=>σ.I b∨(C.W b∧∃ l,σ.ow b=some l∧l.dep=C.E.dp)
theorem OwnAt.AB{L:eI}{wp:Prop}{t:TypeId}{es:List AV}{v:Value}(h:aw C st a w σ)(hw:wp)(hL:L.dep=C.E.dp)(ho:OwnAt C.P C.W w σ L wp t es v):VR w (wU C w σ) σ.κ (.l t es) v:=by
 rcases ho with ⟨rfl,rfl⟩ | ⟨g,cap,cs,rfl,hR⟩
 ·exact .lnil _ _ _
 ·exact hR.Ty (fun _ h=>.inl h) (.inr ⟨hR.wr hw,L,hR.ow,hL⟩)
theorem VR.toEnd{x:AV}{v:Value}(h:VR w σ.I σ.κ x v):VR w (wU C w σ) σ.κ x v:=h.mono (fun _ h=>.inl h) (fun _ _=>rfl) (fun _ _=>rfl)
theorem aw.rV(h:aw C st a w σ){n:Nat}{x y:AV}{v:Value}(hx:SR C w σ st a n x v)(he:st.rV C.E.dp x=some y):VR w (wU C w σ) σ.κ y v∨y.pure=false:=by
 cases x with
 | o t es=>
  cases he
  exact .inl (OwnAt.AB h trivial rfl hx)
 | r pl=>
  cases pl with
  | s d=>
   obtain ⟨⟨t,es⟩,hr,B⟩:=aj.1 he
   cases B
   rw [hx (by rw [hr];rfl)]
   exact .inl (OwnAt.AB h rfl rfl (h.row hr))
  | c k off=>
   simp only [St.rV] at he
   split at he
   ·rename_i hd
    obtain ⟨⟨t,es⟩,hr,B⟩:=aj.1 he
    cases B
    rw [hx (by rw [hr];rfl)]
    exact .inl (OwnAt.AB (L:=.rowC k off) h (A5 hd) hd (h.row hr))
   ·cases he
 | v pl lo len=>
  cases pl with
  | s d=>
   obtain ⟨⟨t,es⟩,hr,B⟩:=aj.1 he
   simp only at B
   split at B
   ·rename_i hle
    cases B
    obtain ⟨A,n',cap,aV,hv⟩:=hx t es hr hle
    rw [hv]
    by_cases hl:len=0
    ·grind [VR.lnil]
    ·obtain ⟨g,cap',cs,av,hR⟩:=h.B3 hr ((by grind))
     obtain ⟨rfl,rfl,rfl⟩:A=some ⟨g,0,none⟩∧n'=es.length∧cap=cap':=by
      grind
     have a0:=hR.ecap
     rw [ab (by omega)]
     simp only [jf,add_lit,gO]
     exact .inl (hR.cz (fun _ h=>.inl h) (.inr ⟨hR.wr rfl,_,hR.ow,rfl⟩) hle)
   ·cases B
  | c k off=>
   cases he
   exact .inr rfl
 | q pl i sz off=>
  cases he
  exact .inr rfl
 | w _ _ _=>cases he
 | ag _ _=>cases he
 | bp _ _ _=>cases he
 | _=>
  cases he
  exact .inl (VR.toEnd hx)
theorem Ve{k:Key}{off:Nat}{c:AV}{v:Value}(h:CR C w σ k off c v)(hd:k.dp=C.E.dp)(hC:aw C st a w σ){y:AV}(he:st.rV C.E.dp c=some y)(aB:c.one=true∨c= .u):VR w (wU C w σ) σ.κ y v:=by
 cases c with
 | o t es=>
  cases he
  exact OwnAt.AB (L:=.rowC k off) hC (A5 hd) hd h
 | r pl=>grind [AV.one]
 | v pl lo len=>grind [AV.one]
 | q pl i sz off=>grind [AV.one]
 | w _ _ _=>cases he
 | ag _ _=>cases he
 | bp _ _ _=>cases he
 | _=>
  cases he
  exact VR.toEnd h
def fP(P:Program):List ResultVar→List RV→Bool
 | [],[]=>true
 | .tmp t::rs,.t n::xs=>t==n&&fP P rs xs
 | .tmp t::rs,.r n::xs=>t==n&&fP P rs xs
 | .cell a ty::rs,.c n sz::xs=>a==n&&sY P ty sz&&fP P rs xs
 | _,_=>false
def tK(tmps:Array Value)(x:ResultVar):Sem Value:=
 match x with
 | .tmp t=>pure (tmps.getD t undef)
 | .cell a t=>do loadVar t (←asAddr (tmps.getD a undef))
theorem LQ{dp:Nat} : ∀ (ds ys:List AV),st.Ix dp ds=some ys→ds.length=ys.length∧∀ (i:Nat)(y:AV),ys[i]? =some y→∃ c,ds[i]? =some c∧st.rV dp c=some y
 | [],ys,h=>by cases h;grind
 | d::ds,ys,h=>by
  obtain ⟨y,h1,h2⟩:=aj.1 h
  obtain ⟨ys',h3,h4⟩:=aj.1 h2
  cases h4
  obtain ⟨h5,h6⟩:=LQ ds ys' h3
  grind
theorem TC{dp:Nat}{c y:AV}(h:st.rV dp c=some y)(hc:c.one=true):y.one=true:=by
 cases c with
 | o t es=>cases h;rfl
 | r pl=>simp [AV.one] at hc
 | v pl lo len=>simp [AV.one] at hc
 | w _ _ _=>cases h
 | ag _ _=>cases h
 | bp _ _ _=>cases h
 | _=>cases h;exact hc
theorem aw.Ar(h:aw C st a w σ){x:ResultVar}{z:RV}{y:AV}(hl:fP C.P [x] [z]=true)(he:st.Ar C.E z=some y)(hp:y.pure=true):∃ v,(tK a.tmps x).run C.P w= .ok v w∧VR w (wU C w σ) σ.κ y v:=by
 cases x with
 | tmp t=>
  cases z with
  | t n=>
   obtain rfl:t=n:=by simpa [fP] using hl
   refine ⟨_,rfl,(h.rV (h.fr t) he).resolve_right (by simp [hp])⟩
  | c n sz=>simp [fP] at hl
  | r n=>cases he
 | cell n' ty=>
  cases z with
  | t n=>simp [fP] at hl
  | r n=>cases he
  | c n sz=>
   obtain ⟨rfl,hn⟩:n'=n∧sY C.P ty sz=true:=by simpa [fP] using hl
   simp only [St.Ar] at he
   split at he
   ·rename_i k off hx
    split at he
    ·rename_i hd
     obtain ⟨cs,hb,B⟩:=aj.1 he
     obtain ⟨q,hq,D⟩:=aj.1 B
     have aP:st.box C.E.dp k=some cs:=by simp [St.box,hd,hb]
     obtain ⟨vs,T,hB⟩:=h.bx k cs aP
     have hs:=h.fr n'
     rw [hx] at hs
     have hv:=VR.xD hs
     have M:∀ v,(loadVar ty ⟨σ.κ k,off,none⟩).run C.P w= .ok v w→(tK a.tmps (.cell n' ty)).run C.P w= .ok v w:=by
      grind [tK,asAddr]
     cases sz with
     | none=>
      obtain ⟨aQ,_⟩:yp C.P ty=some false∧C.P.cellsOf ty=1:=by simpa [sY] using hn
      have U:cs[off]? =some q:=hq
      have N:off<vs.size:=eK (dC U) hB.size
      have hc:w.cell? ⟨σ.κ k,off,none⟩=some vs[off]:=by rw [uZ hB.hh];simp [N]
      have Z:=hB.cell off q U
      have ar:vs.getD off undef=vs[off]:=by simp [N]
      rw [ar] at Z
      refine ⟨vs[off],M _ (by simp_all [loadVar,qM]),?_⟩
      have aU:∀ ds,q≠.a ds:=fun ds e=>by
       have:=hB.one q (bu U)
       grind [AV.one]
      have Y:st.rV C.E.dp q=some y:=by
       grind
      exact Ve Z hd h Y (hB.one q (bu U))
     | some m=>
      obtain ⟨⟨aQ,hi⟩,hm⟩:(yp C.P ty=some true∧(C.P.info? ty).isSome=true)∧C.P.cellsOf ty=m:=by simpa [sY] using hn
      simp only [pick] at hq
      split at hq
      ·rename_i hle
       cases hq
       simp only at D
       obtain ⟨ds,aM,Y⟩:=aj.1 D
       cases Y
       obtain ⟨hlen,aG⟩:=LQ _ _ aM
       have aN:ds.length=m:=by grind
       have hl:=run_loadCells (P:=C.P) w ⟨σ.κ k,off,none⟩ m (fun j=>vs.getD (off+j) undef) (fun j hj=>by
        rw [add_lit,uZ hB.hh]
        have:off+j<vs.size:=by have:=hB.size;omega
        simp [this])
       refine ⟨.agg (((List.range m).map fun j=>vs.getD (off+j) undef).toArray),M _ ?_,?_⟩
       ·simp_all [loadVar,qM,kr]
       ·have G:∀ (j:Nat)(z:AV),ds[j]? =some z→∃ c,cs[off+j]? =some c∧st.rV C.E.dp c=some z:=by
         grind
        have ax:=fp (l:=ds) (by simpa [AV.pure] using hp)
        refine VR.a _ _ (by simp [aN]) (fun z hz=>?_) fun j z hj=>?_
        ·obtain ⟨j,hj⟩:=ey.1 hz
         obtain ⟨c,hc,V⟩:=G j z hj
         have am:=hB.one c (bu hc)
         rcases am with h1 | h1
         ·exact TC V h1
         ·subst h1
          cases V
          have:=ax _ hz;cases this
        ·obtain ⟨c,hc,V⟩:=G j z hj
         have aW:=dC hj
         have Z:=Ve (hB.cell _ c hc) hd h V (hB.one c (bu hc))
         simp_all
      ·cases hq
    ·cases he
   ·cases he
theorem aw.sd(h:aw C st a w σ):∀ (rs:List ResultVar)(zs:List RV)(xs:List AV),fP C.P rs zs=true→st.sd C.E zs=some xs→(∀ x∈xs,x.pure=true)→
  ∃ vs,(rs.mapM (tK a.tmps)).run C.P w= .ok vs w∧vs.length=xs.length∧∀ (i:Nat)(x:AV),xs[i]? =some x→VR w (wU C w σ) σ.κ x (vs[i]?.getD undef)
 | [],[],xs,_,he,_=>by
  cases he
  simp_all
 | r::rs,z::zs,xs,hl,he,hp=>by
  obtain ⟨y,h1,h2⟩:=aj.1 he
  obtain ⟨ys,h3,h4⟩:=aj.1 h2
  cases h4
  have ai:fP C.P [r] [z]=true∧fP C.P rs zs=true:=by
   cases r<;>cases z<;>simp_all [fP]
  obtain ⟨v,hv,H⟩:=h.Ar ai.1 h1 (hp y (by simp))
  obtain ⟨vs,ac,hlen,X⟩:=aw.sd h rs zs ys ai.2 h3 (fun x hx=>hp x (by simp [hx]))
  refine ⟨v::vs,?_,by simp [hlen],fun i x hi=>?_⟩
  ·simp [wi,hv,ac]
  ·cases i with
   | zero=>
    obtain rfl:y=x:=by simpa using hi
    simpa using H
   | succ i=>simpa using X i x (by simpa using hi)
 | [],_::_,_,hl,_,_=>by simp [fP] at hl
 | r::_,[],_,hl,_,_=>by grind [fP]
theorem aw.result(h:aw C st a w σ){fn:Func}{zs:List RV}{x:AV}(hl:fP C.P fn.results.toList zs=true)(he:st.result C.E zs=some x):∃ v,(results fn a.tmps).run C.P w= .ok v w∧VR w (wU C w σ) σ.κ x v:=by
 obtain ⟨xs,h1,h2⟩:=aj.1 he
 split at h2
 ·rename_i hp
  cases h2
  obtain ⟨vs,ac,hlen,H⟩:=h.sd _ zs xs hl h1 (fp hp)
  refine ⟨if hs:vs.toArray.size=1 then vs.toArray[0] else .tuple vs.toArray,?_,?_⟩
  ·have hm:(fn.results.mapM (tK a.tmps)).run C.P w= .ok vs.toArray w:=by
    simp_all [Dq]
   have e:results fn a.tmps=(fn.results.mapM (tK a.tmps)) >>=fun vs=>pure (if h:vs.size=1 then vs[0] else .tuple vs):=by
    unfold results tK
    rfl
   simp_all
  ·match xs,vs,hlen,H with
   | [],[],_,H=>exact .tp [] _ rfl fun m c hm=>by simp at hm
   | [y],[v],_,H=>simpa [CX] using H 0 y rfl
   | y::y2::ys,v::v2::vs,hlen,H=>
    have:¬(v::v2::vs).toArray.size=1:=by simp
    rw [dif_neg this]
    refine .tp _ _ (by grind) fun m c hm=>?_
    simp_all
 ·cases h2
end
variable [cj]
structure Le(dp:Nat)(v s:St):Prop where
 fr:∀ d,az v.fr d= .u∨az v.fr d=az s.fr d
 bx:∀ k cs,v.box dp k=some cs→s.box dp k=some cs
section
variable {E:Env}{v s:St}{R:Rec}{Ω:dK}{d:Option Nat}{r:AV×St}
theorem Le.ev(h:Le E.dp v s){x:bz}{y:AV}(hx:v.ev x=y)(hy:y≠.u):s.ev x=y:=by
 cases x with
 | c z=>exact hx
 | t n=>
  rcases h.fr n with e | e
  ·exact absurd (hx.symm.trans e) hy
  ·exact e.symm.trans hx
theorem Le.slot(h:Le E.dp v s){n:Nat}{y:AV}(hx:az v.fr n=y)(hy:y≠.u):az s.fr n=y:=h.ev (x:=.t n) hx hy
theorem Le.rowAt(h:Le E.dp v s){pl:Pl}{q:TypeId×List AV}(hr:v.rowAt E.dp pl=some q):s.rowAt E.dp pl=some q:=by
 cases pl with
 | s n=>
  simp only [St.rowAt] at hr ⊢
  split at hr
  ·rename_i t es hx
   rw [h.slot hx (by simp)];exact hr
  ·cases hr
 | c k off=>
  simp only [St.rowAt] at hr ⊢
  cases hb:v.box E.dp k with
  | none=>simp [hb] at hr
  | some cs=>rw [h.bx k cs hb];grind
theorem Le.elems(h:Le E.dp v s){y:AV}{q:TypeId×List AV}(hr:v.elems E.dp y=some q):s.elems E.dp y=some q:=by
 cases y with
 | r pl=>exact h.rowAt hr
 | v pl lo len=>
  simp only [St.elems] at hr ⊢
  split at hr
  ·rename_i t es hx
   rw [h.rowAt hx];exact hr
  ·cases hr
 | _=>exact hr
theorem Le.qH(h:Le E.dp v s){k:Key}{o n sz:Nat}{q:AV×List TypeId}(hr:v.qH E.dp k o n sz=some q):s.qH E.dp k o n sz=some q:=by
 obtain ⟨cs,h1,h2⟩:=aj.1 hr
 simp only [St.qH,h.bx k cs h1];exact h2
theorem Le.tE(h:Le E.dp v s):∀ {cs:List AV}{q:List AV×List TypeId},v.tE E.dp cs=some q→s.tE E.dp cs=some q
 | [],q,hr=>hr
 | c::cs,q,hr=>by
  obtain ⟨z,h1,h2⟩:=aj.1 hr
  obtain ⟨z2,h3,h4⟩:=aj.1 h2
  have h5:s.GR E.dp c=some z:=by
   unfold St.GR at h1 ⊢
   split at h1
   ·exact h.qH h1
   ·exact h1
  simp only [St.tE,h5,Le.tE h h3,ad];exact h4
theorem Le.jE(h:Le E.dp v s){y:AV}{q:AV×List TypeId}(hr:v.jE E.dp y=some q):s.jE E.dp y=some q∧y≠.u:=by
 cases y with
 | r pl=>
  obtain ⟨z,h1,h2⟩:=aj.1 hr
  exact ⟨by simp only [St.jE,h.rowAt h1];exact h2,by simp⟩
 | v pl lo len=>
  obtain ⟨z,h1,h2⟩:=aj.1 hr
  exact ⟨by simp only [St.jE,h.rowAt h1];exact h2,by simp⟩
 | u=>simp [St.jE,AV.pure] at hr
 | sp k o n sz=>exact ⟨h.qH hr,by simp⟩
 | a cs=>
  refine ⟨?_,by simp⟩
  simp only [St.jE] at hr ⊢
  split at hr
  ·grind
  ·rename_i hp
   obtain ⟨z,h1,h2⟩:=aj.1 hr
   rw [ab hp,h.tE h1];exact h2
 | _=>exact ⟨hr,by simp⟩
theorem Le.eX(h:Le E.dp v s):∀ {ys:List AV}{q:List AV×List TypeId},v.eX E.dp ys=some q→s.eX E.dp ys=some q∧∀ y∈ys,y≠.u
 | [],q,hr=>⟨hr,fun _ h=>by cases h⟩
 | y::ys,q,hr=>by
  obtain ⟨z,h1,h2⟩:=aj.1 hr
  obtain ⟨z2,h3,h4⟩:=aj.1 h2
  obtain ⟨h5,h6⟩:=Le.eX h h3
  refine ⟨by simp only [St.eX,(h.jE h1).1,h5,ad];exact h4,fun w hw=>?_⟩
  rcases dh.1 hw with rfl | hw
  ·exact (h.jE h1).2
  ·exact h6 w hw
theorem Le.map(h:Le E.dp v s){xs:List bz}(hx:∀ x∈xs,v.ev x≠.u):xs.map s.ev=xs.map v.ev:=by
 apply sK
 intro x hm
 exact h.ev rfl (hx x hm)
theorem VT{y:AV}{j:Nat}(h:rf y=some j):y≠.u:=by intro e;subst e;cases h
theorem afs{y:AV}{j:Bool}(h:pB y=some j):y≠.u:=by intro e;subst e;cases h
theorem wF{y:AV}(h:y.copy=true):y≠.u:=by intro e;subst e;cases h
theorem RO{y:AV}(h:y.pure=true):y≠.u:=by intro e;subst e;cases h
theorem Le.nat(h:Le E.dp v s){x:bz}{j:Nat}(hx:rf (v.ev x)=some j):rf (s.ev x)=some j:=by rw [h.ev rfl (VT hx)];exact hx
theorem Le.pB(h:Le E.dp v s){x:bz}{j:Bool}(hx:pB (v.ev x)=some j):pB (s.ev x)=some j:=by rw [h.ev rfl (afs hx)];exact hx
theorem Le.OE(h:Le E.dp v s){x:Option bz}{n j:Nat}(hx:pd v x n=some j):pd s x n=some j:=by
 cases x with
 | none=>exact hx
 | some x=>exact h.nat hx
def qk:pC→Bool
 | .cn _ _=>false
 | .ck _ _=>false
 | .bg _ _=>false
 | .bxg _=>false
 | .c3 _ _=>false
 | .d3 _ _=>false
 | .cr _ _ _=>false
 | .c2 _ _=>false
 | .d2 _ _=>false
 | .as _=>false
 | .bx _=>false
 | .al _=>false
 | .st _ _ _=>false
 | .bs _ _ _=>false
 | .ms _ _ _ _ _=>false
 | .ap _ _ _ _ _=>false
 | _=>true
theorem DV(h:Le E.dp v s){m:Nat}{f:FuncId}{ys:List AV}(he:dj R Ω E v m f ys=some r):(r.2=v∧dj R Ω E s m f ys=some (r.1,s))∧∀ y∈ys,y≠.u:=by
 unfold dj at he ⊢
 split at he
 ·obtain ⟨q,h1,h2⟩:=aj.1 he
  obtain ⟨q2,h3,h4⟩:=aj.1 h2
  obtain ⟨h5,h6⟩:=h.eX h1
  grind
 ·obtain ⟨q,h1,h2⟩:=aj.1 he
  obtain ⟨q2,h3,h4⟩:=aj.1 h2
  obtain ⟨h5,h6⟩:=h.eX h1
  grind
 ·cases he
theorem Lg{ao:pC}(h:Le E.dp v s)(hq:qk ao=true)(N:me v ao=true)(he:execOp R Ω E v d ao=some r):r.2=v∧execOp R Ω E s d ao=some (r.1,s):=by
 cases ao with
 | mv x=>
  have hu:v.ev x≠.u:=by grind [me,A0]
  have hx:=h.ev rfl hu
  simp only [execOp,hx] at he ⊢
  cases hv:v.ev x<;>rw [hv] at he<;>simp only at he ⊢<;>first | (cases he;exact ⟨by trivial,by trivial⟩) | skip
  grind
 | pk c x y=>
  simp only [execOp] at he ⊢
  obtain ⟨z,hz,B⟩:=aj.1 he
  rw [h.pB hz,ad]
  cases z with
  | true=>
   simp only [aA] at B ⊢
   split at B
   ·rename_i hc
    rw [h.ev rfl (wF hc),af hc]
    grind
   ·cases B
  | false=>
   simp only [dq,cF] at B ⊢
   split at B
   ·rename_i hc
    rw [h.ev rfl (wF hc),af hc]
    grind
   ·cases B
 | ld n x=>
  simp only [execOp] at he ⊢
  split at he
  ·rename_i k off hx
   rw [h.ev hx (by simp)]
   obtain ⟨cs,hb,B⟩:=aj.1 he
   obtain ⟨y,hy,D⟩:=aj.1 B
   simp only [h.bx k cs hb,ad,hy]
   grind
  ·rename_i z off hx
   rw [h.ev hx (by simp)]
   grind [Option.bind_eq_some_iff]
  ·rename_i pl i sz off hx
   rw [h.ev hx (by simp)]
   obtain ⟨q,hb,B⟩:=aj.1 he
   obtain ⟨e,aJ,D⟩:=aj.1 B
   simp only [h.rowAt hb,ad,aJ]
   grind [Option.bind_eq_some_iff]
  ·cases he
 | fa off x=>
  simp only [execOp] at he ⊢
  split at he
  ·rename_i k o hx
   rw [h.ev hx (by simp)]
   grind
  ·rename_i k o hx
   rw [h.ev hx (by simp)]
   grind
  ·rename_i pl i sz o hx
   rw [h.ev hx (by simp)]
   obtain ⟨q,hb,B⟩:=aj.1 he
   simp only [h.rowAt hb,ad]
   grind
  ·cases he
 | fd n off x=>
  simp only [execOp] at he ⊢
  split at he
  ·rename_i cs hx
   rw [h.ev hx (by simp)]
   grind [Option.bind_eq_some_iff]
  ·cases he
 | ia sz arr x i=>
  simp only [execOp] at he ⊢
  obtain ⟨j,hj,B⟩:=aj.1 he
  rw [h.nat hj,ad]
  have ak:∀ {e:Option AV}{f:AV→AV},elemAt sz v e f=some r→r.2=v∧elemAt sz s e f=some (r.1,s):=by
   grind [tJ,elemAt]
  cases arr with
  | some len=>
   simp only at B ⊢
   split at B
   ·rename_i N
    rw [af N]
    split at B
    ·rename_i k o hx
     rw [h.ev hx (by simp)]
     grind
    ·rename_i k o hx
     rw [h.ev hx (by simp)]
     grind
    ·cases B
   ·cases B
  | none=>
   simp only at B ⊢
   split at B
   ·rename_i t es hx
    rw [h.ev hx (by simp)]
    exact ak B
   ·rename_i t es hx
    rw [h.ev hx (by simp)]
    grind
   ·rename_i pl hx
    rw [h.ev hx (by simp)]
    obtain ⟨q,hb,D⟩:=aj.1 B
    simp only [h.rowAt hb,ad]
    exact ak D
   ·rename_i pl lo len hx
    rw [h.ev hx (by simp)]
    split at B
    ·rename_i aD
     obtain ⟨q,hb,D⟩:=aj.1 B
     simp only [af aD,h.rowAt hb,ad]
     grind
    ·cases B
   ·rename_i k o n s' hx
    rw [h.ev hx (by simp)]
    grind
   ·cases B
 | bo op bl x y=>
  simp only [execOp] at he ⊢
  obtain ⟨z,hz,B⟩:=aj.1 he
  cases B
  have aq:v.ev x≠.u:=by grind [qb]
  have an:v.ev y≠.u:=by
   grind [qb]
  rw [h.ev rfl aq,h.ev rfl an,hz]
  grind
 | ae ks ng x y=>
  simp only [execOp] at he ⊢
  split at he
  ·rename_i xs ys hx hy
   obtain ⟨z,hz,B⟩:=aj.1 he
   cases B
   rw [h.ev hx (by simp),h.ev hy (by simp)]
   grind
  ·cases he
 | no x=>
  simp only [execOp] at he ⊢
  obtain ⟨z,hz,B⟩:=aj.1 he
  cases B
  rw [h.pB hz]
  grind
 | cv k x=>
  simp only [execOp] at he ⊢
  split at he
  ·rename_i k n hx
   rw [h.ev hx (by simp)]
   grind
  ·cases he
 | bd zs fs=>
  simp only [execOp] at he ⊢
  split at he
  ·rename_i aa
   cases he
   have aZ:∀ f∈fs,s.ev f.2.2=v.ev f.2.2:=fun f hf=>by
    have:=cI.1 aa f hf
    simp only [aL] at this
    exact h.ev rfl (wF this.1.1.1)
   have h1:fs.all (fun f=>(s.ev f.2.2).copy&&(s.ev f.2.2).nc==f.2.1&&(s.ev f.2.2).cl.all AV.one&&decide (f.1+f.2.1≤zs.length))=true:=by
    grind
   rw [af h1]
   refine ⟨rfl,?_⟩
   have:∀ (fs:List (Nat×Nat×bz))(zs:List AV),(∀ f∈fs,s.ev f.2.2=v.ev f.2.2)→fs.foldl (fun cs f=>putCells cs f.1 (s.ev f.2.2).cl) zs=fs.foldl (fun cs f=>putCells cs f.1 (v.ev f.2.2).cl) zs:=by
    intro fs
    induction fs with
    | nil=>intro zs _;rfl
    | cons f fs ih=>
     grind
   grind
  ·cases he
 | sl t sz x lo hi=>
  simp only [execOp] at he ⊢
  split at he
  ·rename_i l hx
   rw [h.ev hx (by simp)]
   obtain ⟨p,hp,B⟩:=aj.1 he
   obtain ⟨q,hq,D⟩:=aj.1 B
   simp only [h.OE hp,h.OE hq,ad]
   grind
  ·rename_i t' es hx
   rw [h.ev hx (by simp)]
   obtain ⟨p,hp,B⟩:=aj.1 he
   obtain ⟨q,hq,D⟩:=aj.1 B
   simp only [h.OE hp,h.OE hq,ad]
   grind
  ·rename_i pl hx
   rw [h.ev hx (by simp)]
   obtain ⟨z,hz,aK⟩:=aj.1 he
   obtain ⟨p,hp,B⟩:=aj.1 aK
   obtain ⟨q,hq,D⟩:=aj.1 B
   simp only [h.rowAt hz,h.OE hp,h.OE hq,ad]
   grind
  ·cases he
 | ex x i=>
  simp only [execOp] at he ⊢
  split at he
  ·rename_i vs hx
   rw [h.ev hx (by simp)]
   grind [Option.bind_eq_some_iff]
  ·cases he
 | mf f S=>
  simp only [execOp] at he ⊢
  split at he
  ·rename_i hc
   have hm:=h.map (xs:=S) fun x hx=>wF ((by grind [zy]))
   grind
  ·cases he
 | ca m f args=>
  simp only [execOp] at he ⊢
  obtain ⟨⟨h1,h2⟩,h3⟩:=DV h he
  rw [h.map (by grind)]
  grind
 | cf m x args=>
  simp only [execOp] at he ⊢
  split at he
  ·rename_i f S hx
   rw [h.ev hx (by simp)]
   split at he
   ·rename_i hg
    obtain ⟨⟨h1,h2⟩,h3⟩:=DV h he
    simp only [af hg]
    rw [h.map (by grind)]
    grind
   ·cases he
  ·cases he
 | ln str x=>
  simp only [execOp] at he ⊢
  have hu:v.ev x≠.u:=by
   grind [St.elems]
  rw [h.ev rfl hu]
  split at he
  ·grind
  ·grind
  ·rename_i hx
   split at he
   ·cases he
   ·rename_i hs
    obtain ⟨q,hq,B⟩:=aj.1 he
    cases B
    refine ⟨rfl,?_⟩
    rw [ab hs,h.elems hq];rfl
 | nc x=>
  simp only [execOp] at he ⊢
  split at he
  ·rename_i k o hx
   rw [h.ev hx (by simp)]
   grind
  ·rename_i k o hx
   rw [h.ev hx (by simp)]
   grind
  ·cases he
  ·rename_i k o hx
   rw [h.ev hx (by simp)]
   grind
  ·cases he
 | _=>simp [qk] at hq
end
end Go.Proofs.YtlmphbbhaeampaaGreat.A
