/- Regions that run in the order of their text; what a function hands back. -/
import Derived.Test.YtlmphbbhaeampaaGreatAbsG
import Derived.Orders
set_option linter.all false
namespace Go.Proofs.YtlmphbbhaeampaaGreat.A
open Go
variable [cN]
def EF(ops:Array Oper)(g g':Option (Nat×Bool)):Bool:=
 match g,g' with
 | none,none=>true
 | some (j,want),some (t,want')=>want==want'&&((ops[j]?).bind (·.dst)==some t)
 | _,_=>false
def Gw(P:Program)(nt:Nat)(ops:Array Oper)(o:Oper)(g:dE):Bool:=
 cE P g.o o.op&&o.dst==g.d&&(match g.d with | some d=>decide (d<nt) | none=>true)&&EF ops o.guard g.g
def Cn(P:Program)(nt:Nat)(ops:Array Oper):List Oper→List dE→Bool
 | [],[]=>true
 | o::os,g::gs=>Gw P nt ops o g&&Cn P nt ops os gs
 | _,_=>false
section
variable {C:Cx}{st:St}{a:Act}{w:World}{σ:Sp}{o:Oper}{d:Option Nat}{R:Rec}{Ω:ej}{r:AV×St}
theorem Nz.put{st':St}{x:AV}{cv:Value}{w':World}{σ':Sp}(h:Nz C st' a w σ d x cv w' σ')(hd:∀ dd,d=some dd→dd<C.nt):aE C (A.put st' d x) (a.put d cv) w' σ':=by
 cases d with
 | none=>exact h.conc
 | some dd=>exact h.conc.put (hd dd rfl) (h.val dd rfl) (fun t es e=>h.own dd t es rfl e)
theorem Nz.ahy{st':St}{x:AV}{cv:Value}{w':World}{σ':Sp}(h:Nz C st' a w σ d x cv w' σ')(hd:∀ dd,d=some dd→dd<C.nt)(fz:Bool) :
  ∃ σ'',dJ C w σ w' σ''∧aE C (A.put st' d (fM fz x)) (a.put d cv) w' σ'':=by
 have h1:=h.put hd
 cases fz with
 | false=>exact ⟨σ',h.stp,by simpa [fM] using h1⟩
 | true=>
  cases x with
  | o t es=>
   cases d with
   | none=>exact ⟨σ',h.stp,h1⟩
   | some dd=>
    have hx:aQ (A.put st' (some dd) (.o t es)).fr dd= .o t es:=by simp [A.put,St.dA,aQ]
    obtain ⟨σ'',hs,hc⟩:=h1.ahp (p:=.fz dd) (st':=(A.put st' (some dd) (.o t es)).dA dd (.l t es)) (by simp [mb,hx])
    refine ⟨σ'',h.stp.trans hs,hc.HQ (fun d'=>.inr ?_) (fun _ _ h=>h) (fun _ _ _ h=>h)⟩
    grind [A.put,fM,mS]
  | _=>exact ⟨σ',h.stp,h1⟩
theorem I5{nt:Nat}{ops:Array Oper}{g:dE}(hl:Gw C.P nt ops o g=true)(F:nt≤C.nt):cE C.P g.o o.op=true∧o.dst=g.d∧(∀ dd,g.d=some dd→dd<C.nt)∧EF ops o.guard g.g=true:=by
 grind [Gw]
theorem aE.guard(h:aE C st a w σ){ops:Array Oper}{g:dE}(hl:EF ops o.guard g.g=true):(g.g=none→Region.wanted o (yielded ops a.tmps)=true)∧
  ∀ j want y,g.g=some (j,want)→zb (aQ st.fr j) want=some y→Region.wanted o (yielded ops a.tmps)=y:=by
 unfold EF at hl
 split at hl
 ·grind [Region.wanted]
 ·rename_i j want t want' h1 h2
  simp only [aY,eB] at hl
  obtain ⟨rfl,J⟩:=hl
  refine ⟨by grind,fun j' want' y e hy=>?_⟩
  rw [h2] at e
  obtain ⟨rfl,rfl⟩:=iB (aq e)
  have hs:=h.fr t
  have O:(ops[j]?.bind fun x=>x.dst)=some t:=J
  unfold zb at hy
  split at hy
  ·rename_i x hx
   cases hy
   rw [hx] at hs
   have hv:=VR.yG hs
   have ht:a.tmps[t]? =some (.bool x):=by
    rw [iy] at hv
    grind [undef]
   grind [Region.wanted,yielded]
  ·rename_i hx
   cases hy
   rw [hx] at hs
   have hv:=VR.agY hs
   simp only [Region.wanted,h1,yielded,O,ab]
   rw [iy] at hv
   grind [undef]
  ·cases hy
 ·cases hl
theorem aE.Y7(h:aE C st a w σ)(hd:∀ dd,d=some dd→dd<C.nt):aE C (A.put st d .sk) (a.put d undef) w σ:=by
 cases d with
 | none=>exact h
 | some dd=>exact h.put (hd dd rfl) VR.sk (fun _ _ e=>by cases e)
theorem aE.Y8{nt i:Nat}{ops:Array Oper}{g:dE}{st':St}{K:Act→World→Prop}{Q:Exit→Act→World→Prop}(hR:nm C.P R)(hΩ:jw C.P Ω)(h:aE C st a w σ)(ho:ops[i]? =some o)(hl:Gw C.P nt ops o g=true)(F:nt≤C.nt)
  (he:iX R Ω C.E st g=some st') (hK:∀ a' w' σ',dJ C w σ w' σ'→aE C st' a' w' σ'→K a' w'):wpOp C.P ops Q i K a w:=by
 obtain ⟨az,J,hd,aF⟩:=I5 hl F
 obtain ⟨aX,aG⟩:=h.guard aF
 have aW:∀ r,execOp R Ω C.E st g.d g.o=some r→st'=A.put r.2 g.d (fM g.fz r.1)→o.wp C.P a w K Q:=by
  intro r hr aS
  refine Gv hR hΩ g.o h az hr _ _ fun cv w' σ' ax=>?_
  obtain ⟨σ'',hs,hc⟩:=ax.ahy hd g.fz
  grind
 simp only [wpOp,ho]
 unfold iX at he
 split at he
 ·grind [Option.bind_eq_some_iff]
 ·rename_i j want aC
  obtain ⟨y,hy,B⟩:=au.1 he
  have aR:=aG j want y aC hy
  split at B
  ·grind [Option.bind_eq_some_iff]
  ·rename_i aP
   rw [ah (by grind)]
   refine hK _ _ _ (.refl _ _ _) ?_
   rw [←aq B,J]
   exact h.Y7 hd
theorem aE.step{nt i:Nat}{ops:Array Oper}{g:dE}{st':St}{rest:List Nat}{Q:Exit→Act→World→Prop}(hR:nm C.P R)(hΩ:jw C.P Ω)(h:aE C st a w σ)(ho:ops[i]? =some o)(hl:Gw C.P nt ops o g=true)(F:nt≤C.nt)
  (he:iX R Ω C.E st g=some st') (hK:∀ a' w' σ',dJ C w σ w' σ'→aE C st' a' w' σ'→wpOps C.P ops Q rest a' w'):wpOps C.P ops Q (i::rest) a w:=by
 rw [wpOps_cons]
 exact h.Y8 hR hΩ ho hl F he hK
theorem aE.steps{nt:Nat}{ops:Array Oper}{Q:Exit→Act→World→Prop}(hR:nm C.P R)(hΩ:jw C.P Ω)(F:nt≤C.nt):∀ (gs:List dE)(os:List Oper)(i:Nat)(st st':St)(a:Act)(w:World)(σ:Sp),ops.toList.drop i=os→
  Cn C.P nt ops os gs=true→aE C st a w σ→ib R Ω C.E st gs=some st'→(∀ a' w' σ',dJ C w σ w' σ'→aE C st' a' w' σ'→Q .normal a' w')→wpOps C.P ops Q (List.range' i os.length) a w
 | [],[],i,st,st',a,w,σ,_,_,h,he,hK=>by
  cases he
  exact hK a w σ (.refl _ _ _) h
 | g::gs,o::os,i,st,st',a,w,σ,hi,hl,h,he,hK=>by
  simp only [Cn,aY] at hl
  obtain ⟨st1,B,D⟩:=au.1 he
  have ho:ops[i]? =some o:=by
   have:(ops.toList.drop i)[0]? =some o:=by rw [hi];rfl
   rw [xm] at this
   simpa using this
  have aB:ops.toList.drop (i+1)=os:=by
   rw [←List.drop_drop,hi];rfl
  rw [fj,F8]
  exact h.step hR hΩ ho hl.1 F B fun a' w' σ' hs hc=>aE.steps hR hΩ F gs os (i+1) st1 st' a' w' σ' aB hl.2 hc D fun a'' w'' σ'' ar aM=>hK a'' w'' σ'' (hs.trans ar) aM
 | [],_::_,_,_,_,_,_,_,_,hl,_,_,_=>by simp [Cn] at hl
 | _::_,[],_,_,_,_,_,_,_,hl,_,_,_=>by simp [Cn] at hl
theorem aE.region{nt id:Nat}{ops:Array Oper}{Q:Exit→Act→World→Prop}{gs:List dE}{st':St}(hR:nm C.P R)(hΩ:jw C.P Ω)(F:nt≤C.nt)(hl:Cn C.P nt ops ops.toList gs=true)(h:aE C st a w σ)
  (he:ib R Ω C.E st gs=some st') (hK:∀ a' w' σ',dJ C w σ w' σ'→aE C st' a' w' σ'→Q .normal a' w'):(Code.region id ops false).wp C.P Q a w:=by
 grind [wp_region,aE.steps,Array.length_toList,List.range_eq_range']
def e8.dep:e8→Nat
 | .grp dp _=>dp
 | .mark dp=>dp
 | .box k=>k.dp
 | .rowS dp _=>dp
 | .rowC k _=>k.dp
def zD(C:Cx)(w:World)(σ:Sp):Nat→Prop:=fun b=>σ.I b∨(C.W b∧∃ l,σ.ow b=some l∧l.dep=C.E.dp)
theorem OwnAt.Tm{L:e8}{wp:Prop}{t:TypeId}{es:List AV}{v:Value}(h:aE C st a w σ)(hw:wp)(hL:L.dep=C.E.dp)(ho:OwnAt C.P C.W w σ L wp t es v):VR w (zD C w σ) σ.κ (.l t es) v:=by
 rcases ho with ⟨rfl,rfl⟩ | ⟨g,cap,cs,rfl,hR⟩
 ·exact .lnil _ _ _
 ·exact hR.W3 (fun _ h=>.inl h) (.inr ⟨hR.wr hw,L,hR.ow,hL⟩)
theorem VR.toEnd{x:AV}{v:Value}(h:VR w σ.I σ.κ x v):VR w (zD C w σ) σ.κ x v:=h.mono (fun _ h=>.inl h) (fun _ _=>rfl) (fun _ _=>rfl)
theorem aE.ua(h:aE C st a w σ){n:Nat}{x y:AV}{v:Value}(hx:SR C w σ st a n x v)(he:st.ua C.E.dp x=some y):VR w (zD C w σ) σ.κ y v∨y.pure=false:=by
 cases x with
 | o t es=>
  cases he
  exact .inl (OwnAt.Tm h trivial rfl hx)
 | r pl=>
  cases pl with
  | s d=>
   obtain ⟨⟨t,es⟩,hr,B⟩:=au.1 he
   cases B
   rw [hx (by rw [hr];rfl)]
   exact .inl (OwnAt.Tm h rfl rfl (h.row hr))
  | c k off=>
   simp only [St.ua] at he
   split at he
   ·rename_i hd
    obtain ⟨⟨t,es⟩,hr,B⟩:=au.1 he
    cases B
    rw [hx (by rw [hr];rfl)]
    exact .inl (OwnAt.Tm (L:=.rowC k off) h (HR hd) hd (h.row hr))
   ·cases he
 | v pl lo len=>
  cases pl with
  | s d=>
   obtain ⟨⟨t,es⟩,hr,B⟩:=au.1 he
   simp only at B
   split at B
   ·rename_i hle
    cases B
    obtain ⟨A,n',cap,aU,hv⟩:=hx t es hr hle
    rw [hv]
    by_cases hl:len=0
    ·grind [VR.lnil]
    ·obtain ⟨g,cap',cs,av,hR⟩:=h.Ew hr ((by grind))
     obtain ⟨rfl,rfl,rfl⟩:A=some ⟨g,0,none⟩∧n'=es.length∧cap=cap':=by
      grind
     have a0:=hR.ecap
     rw [ah (by omega)]
     simp only [kJ,add_lit,jL]
     exact .inl (hR.da (fun _ h=>.inl h) (.inr ⟨hR.wr rfl,_,hR.ow,rfl⟩) hle)
   ·cases B
  | c k off=>
   cases he
   exact .inr rfl
 | q pl i sz off=>
  cases he
  exact .inr rfl
 | w _ _ _=>cases he
 | ag _ _=>cases he
 | bp _ _ _=>cases he
 | _=>
  cases he
  exact .inl (VR.toEnd hx)
theorem Y9{k:Key}{off:Nat}{c:AV}{v:Value}(h:CR C w σ k off c v)(hd:k.dp=C.E.dp)(hC:aE C st a w σ){y:AV}(he:st.ua C.E.dp c=some y)(ay:c.one=true∨c= .u):VR w (zD C w σ) σ.κ y v:=by
 cases c with
 | o t es=>
  cases he
  exact OwnAt.Tm (L:=.rowC k off) hC (HR hd) hd h
 | r pl=>grind [AV.one]
 | v pl lo len=>grind [AV.one]
 | q pl i sz off=>grind [AV.one]
 | w _ _ _=>cases he
 | ag _ _=>cases he
 | bp _ _ _=>cases he
 | _=>
  cases he
  exact VR.toEnd h
def gy(P:Program):List ResultVar→List RV→Bool
 | [],[]=>true
 | .tmp t::rs,.t n::xs=>t==n&&gy P rs xs
 | .tmp t::rs,.r n::xs=>t==n&&gy P rs xs
 | .cell a ty::rs,.c n sz::xs=>a==n&&AW P ty sz&&gy P rs xs
 | _,_=>false
def vX(tmps:Array Value)(x:ResultVar):Sem Value:=
 match x with
 | .tmp t=>pure (tmps.getD t undef)
 | .cell a t=>do loadVar t (←asAddr (tmps.getD a undef))
theorem Pj{dp:Nat} : ∀ (ds ys:List AV),st.LX dp ds=some ys→ds.length=ys.length∧∀ (i:Nat)(y:AV),ys[i]? =some y→∃ c,ds[i]? =some c∧st.ua dp c=some y
 | [],ys,h=>by cases h;grind
 | d::ds,ys,h=>by
  obtain ⟨y,h1,h2⟩:=au.1 h
  obtain ⟨ys',h3,h4⟩:=au.1 h2
  cases h4
  obtain ⟨h5,h6⟩:=Pj ds ys' h3
  grind
theorem W6{dp:Nat}{c y:AV}(h:st.ua dp c=some y)(hc:c.one=true):y.one=true:=by
 cases c with
 | o t es=>cases h;rfl
 | r pl=>simp [AV.one] at hc
 | v pl lo len=>simp [AV.one] at hc
 | w _ _ _=>cases h
 | ag _ _=>cases h
 | bp _ _ _=>cases h
 | _=>cases h;exact hc
theorem aE.CY(h:aE C st a w σ){x:ResultVar}{z:RV}{y:AV}(hl:gy C.P [x] [z]=true)(he:st.CY C.E z=some y)(hp:y.pure=true):∃ v,(vX a.tmps x).run C.P w= .ok v w∧VR w (zD C w σ) σ.κ y v:=by
 cases x with
 | tmp t=>
  cases z with
  | t n=>
   obtain rfl:t=n:=by simpa [gy] using hl
   refine ⟨_,rfl,(h.ua (h.fr t) he).resolve_right (by simp [hp])⟩
  | c n sz=>simp [gy] at hl
  | r n=>cases he
 | cell n' ty=>
  cases z with
  | t n=>simp [gy] at hl
  | r n=>cases he
  | c n sz=>
   obtain ⟨rfl,hn⟩:n'=n∧AW C.P ty sz=true:=by simpa [gy] using hl
   simp only [St.CY] at he
   split at he
   ·rename_i k off hx
    split at he
    ·rename_i hd
     obtain ⟨cs,hb,B⟩:=au.1 he
     obtain ⟨q,hq,D⟩:=au.1 B
     have aN:st.box C.E.dp k=some cs:=by simp [St.box,hd,hb]
     obtain ⟨vs,T,hB⟩:=h.bx k cs aN
     have hs:=h.fr n'
     rw [hx] at hs
     have hv:=VR.Ak hs
     have M:∀ v,(loadVar ty ⟨σ.κ k,off,none⟩).run C.P w= .ok v w→(vX a.tmps (.cell n' ty)).run C.P w= .ok v w:=by
      grind [vX,asAddr]
     cases sz with
     | none=>
      obtain ⟨aO,_⟩:Ev C.P ty=some false∧C.P.cellsOf ty=1:=by simpa [AW] using hn
      have U:cs[off]? =some q:=hq
      have N:off<vs.size:=fO (eh U) hB.size
      have hc:w.cell? ⟨σ.κ k,off,none⟩=some vs[off]:=by rw [xM hB.hh];simp [N]
      have Z:=hB.cell off q U
      have an:vs.getD off undef=vs[off]:=by simp [N]
      rw [an] at Z
      refine ⟨vs[off],M _ (by simp_all [loadVar,zf]),?_⟩
      have aT:∀ ds,q≠.a ds:=fun ds e=>by
       have:=hB.one q (cm U)
       grind [AV.one]
      have Y:st.ua C.E.dp q=some y:=by
       grind
      exact Y9 Z hd h Y (hB.one q (cm U))
     | some m=>
      obtain ⟨⟨aO,hi⟩,hm⟩:(Ev C.P ty=some true∧(C.P.info? ty).isSome=true)∧C.P.cellsOf ty=m:=by simpa [AW] using hn
      simp only [pick] at hq
      split at hq
      ·rename_i hle
       cases hq
       simp only at D
       obtain ⟨ds,aK,Y⟩:=au.1 D
       cases Y
       obtain ⟨hlen,aD⟩:=Pj _ _ aK
       have aL:ds.length=m:=by grind
       have hl:=run_loadCells (P:=C.P) w ⟨σ.κ k,off,none⟩ m (fun j=>vs.getD (off+j) undef) (fun j hj=>by
        rw [add_lit,xM hB.hh]
        have:off+j<vs.size:=by have:=hB.size;omega
        simp [this])
       refine ⟨.agg (((List.range m).map fun j=>vs.getD (off+j) undef).toArray),M _ ?_,?_⟩
       ·simp_all [loadVar,zf,mQ]
       ·have G:∀ (j:Nat)(z:AV),ds[j]? =some z→∃ c,cs[off+j]? =some c∧st.ua C.E.dp c=some z:=by
         grind
        have aw:=jm (l:=ds) (by simpa [AV.pure] using hp)
        refine VR.a _ _ (by simp [aL]) (fun z hz=>?_) fun j z hj=>?_
        ·obtain ⟨j,hj⟩:=fP.1 hz
         obtain ⟨c,hc,V⟩:=G j z hj
         have aj:=hB.one c (cm hc)
         rcases aj with h1 | h1
         ·exact W6 V h1
         ·subst h1
          cases V
          have:=aw _ hz;cases this
        ·obtain ⟨c,hc,V⟩:=G j z hj
         have aV:=eh hj
         have Z:=Y9 (hB.cell _ c hc) hd h V (hB.one c (cm hc))
         simp_all
      ·cases hq
    ·cases he
   ·cases he
theorem aE.uo(h:aE C st a w σ):∀ (rs:List ResultVar)(zs:List RV)(xs:List AV),gy C.P rs zs=true→st.uo C.E zs=some xs→(∀ x∈xs,x.pure=true)→
  ∃ vs,(rs.mapM (vX a.tmps)).run C.P w= .ok vs w∧vs.length=xs.length∧∀ (i:Nat)(x:AV),xs[i]? =some x→VR w (zD C w σ) σ.κ x (vs[i]?.getD undef)
 | [],[],xs,_,he,_=>by
  cases he
  simp_all
 | r::rs,z::zs,xs,hl,he,hp=>by
  obtain ⟨y,h1,h2⟩:=au.1 he
  obtain ⟨ys,h3,h4⟩:=au.1 h2
  cases h4
  have ad:gy C.P [r] [z]=true∧gy C.P rs zs=true:=by
   cases r<;>cases z<;>simp_all [gy]
  obtain ⟨v,hv,H⟩:=h.CY ad.1 h1 (hp y (by simp))
  obtain ⟨vs,ac,hlen,X⟩:=aE.uo h rs zs ys ad.2 h3 (fun x hx=>hp x (by simp [hx]))
  refine ⟨v::vs,?_,by simp [hlen],fun i x hi=>?_⟩
  ·simp [AP,hv,ac]
  ·cases i with
   | zero=>
    obtain rfl:y=x:=by simpa using hi
    simpa using H
   | succ i=>simpa using X i x (by simpa using hi)
 | [],_::_,_,hl,_,_=>by simp [gy] at hl
 | r::_,[],_,hl,_,_=>by grind [gy]
theorem aE.result(h:aE C st a w σ){fn:Func}{zs:List RV}{x:AV}(hl:gy C.P fn.results.toList zs=true)(he:st.result C.E zs=some x):∃ v,(results fn a.tmps).run C.P w= .ok v w∧VR w (zD C w σ) σ.κ x v:=by
 obtain ⟨xs,h1,h2⟩:=au.1 he
 split at h2
 ·rename_i hp
  cases h2
  obtain ⟨vs,ac,hlen,H⟩:=h.uo _ zs xs hl h1 (jm hp)
  refine ⟨if hs:vs.toArray.size=1 then vs.toArray[0] else .tuple vs.toArray,?_,?_⟩
  ·have hm:(fn.results.mapM (vX a.tmps)).run C.P w= .ok vs.toArray w:=by
    simp_all [F6]
   have e:results fn a.tmps=(fn.results.mapM (vX a.tmps)) >>=fun vs=>pure (if h:vs.size=1 then vs[0] else .tuple vs):=by
    unfold results vX
    rfl
   simp_all
  ·match xs,vs,hlen,H with
   | [],[],_,H=>exact .tp [] _ rfl fun m c hm=>by simp at hm
   | [y],[v],_,H=>simpa [Fg] using H 0 y rfl
   | y::y2::ys,v::v2::vs,hlen,H=>
    have:¬(v::v2::vs).toArray.size=1:=by simp
    rw [dif_neg this]
    refine .tp _ _ (by grind) fun m c hm=>?_
    simp_all
 ·cases h2
end
variable [cN]
structure Le(dp:Nat)(v s:St):Prop where
 fr:∀ d,aQ v.fr d= .u∨aQ v.fr d=aQ s.fr d
 bx:∀ k cs,v.box dp k=some cs→s.box dp k=some cs
section
variable {E:Env}{v s:St}{R:Rec}{Ω:ej}{d:Option Nat}{r:AV×St}
theorem Le.ev(h:Le E.dp v s){x:bY}{y:AV}(hx:v.ev x=y)(hy:y≠.u):s.ev x=y:=by
 cases x with
 | c z=>exact hx
 | t n=>
  rcases h.fr n with e | e
  ·exact absurd (hx.symm.trans e) hy
  ·exact e.symm.trans hx
theorem Le.slot(h:Le E.dp v s){n:Nat}{y:AV}(hx:aQ v.fr n=y)(hy:y≠.u):aQ s.fr n=y:=h.ev (x:=.t n) hx hy
theorem Le.rowAt(h:Le E.dp v s){pl:Pl}{q:TypeId×List AV}(hr:v.rowAt E.dp pl=some q):s.rowAt E.dp pl=some q:=by
 cases pl with
 | s n=>
  simp only [St.rowAt] at hr ⊢
  split at hr
  ·rename_i t es hx
   rw [h.slot hx (by simp)];exact hr
  ·cases hr
 | c k off=>
  simp only [St.rowAt] at hr ⊢
  cases hb:v.box E.dp k with
  | none=>simp [hb] at hr
  | some cs=>rw [h.bx k cs hb];grind
theorem Le.elems(h:Le E.dp v s){y:AV}{q:TypeId×List AV}(hr:v.elems E.dp y=some q):s.elems E.dp y=some q:=by
 cases y with
 | r pl=>exact h.rowAt hr
 | v pl lo len=>
  simp only [St.elems] at hr ⊢
  split at hr
  ·rename_i t es hx
   rw [h.rowAt hx];exact hr
  ·cases hr
 | _=>exact hr
theorem Le.um(h:Le E.dp v s){k:Key}{o n sz:Nat}{q:AV×List TypeId}(hr:v.um E.dp k o n sz=some q):s.um E.dp k o n sz=some q:=by
 obtain ⟨cs,h1,h2⟩:=au.1 hr
 simp only [St.um,h.bx k cs h1];exact h2
theorem Le.vP(h:Le E.dp v s):∀ {cs:List AV}{q:List AV×List TypeId},v.vP E.dp cs=some q→s.vP E.dp cs=some q
 | [],q,hr=>hr
 | c::cs,q,hr=>by
  obtain ⟨z,h1,h2⟩:=au.1 hr
  obtain ⟨z2,h3,h4⟩:=au.1 h2
  have h5:s.J7 E.dp c=some z:=by
   unfold St.J7 at h1 ⊢
   split at h1
   ·exact h.um h1
   ·exact h1
  simp only [St.vP,h5,Le.vP h h3,ab];exact h4
theorem Le.m8(h:Le E.dp v s){y:AV}{q:AV×List TypeId}(hr:v.m8 E.dp y=some q):s.m8 E.dp y=some q∧y≠.u:=by
 cases y with
 | r pl=>
  obtain ⟨z,h1,h2⟩:=au.1 hr
  exact ⟨by simp only [St.m8,h.rowAt h1];exact h2,by simp⟩
 | v pl lo len=>
  obtain ⟨z,h1,h2⟩:=au.1 hr
  exact ⟨by simp only [St.m8,h.rowAt h1];exact h2,by simp⟩
 | u=>simp [St.m8,AV.pure] at hr
 | sp k o n sz=>exact ⟨h.um hr,by simp⟩
 | a cs=>
  refine ⟨?_,by simp⟩
  simp only [St.m8] at hr ⊢
  split at hr
  ·grind
  ·rename_i hp
   obtain ⟨z,h1,h2⟩:=au.1 hr
   rw [ah hp,h.vP h1];exact h2
 | _=>exact ⟨hr,by simp⟩
theorem Le.fK(h:Le E.dp v s):∀ {ys:List AV}{q:List AV×List TypeId},v.fK E.dp ys=some q→s.fK E.dp ys=some q∧∀ y∈ys,y≠.u
 | [],q,hr=>⟨hr,fun _ h=>by cases h⟩
 | y::ys,q,hr=>by
  obtain ⟨z,h1,h2⟩:=au.1 hr
  obtain ⟨z2,h3,h4⟩:=au.1 h2
  obtain ⟨h5,h6⟩:=Le.fK h h3
  refine ⟨by simp only [St.fK,(h.m8 h1).1,h5,ab];exact h4,fun w hw=>?_⟩
  rcases eA.1 hw with rfl | hw
  ·exact (h.m8 h1).2
  ·exact h6 w hw
theorem Le.map(h:Le E.dp v s){xs:List bY}(hx:∀ x∈xs,v.ev x≠.u):xs.map s.ev=xs.map v.ev:=by
 apply xe
 intro x hm
 exact h.ev rfl (hx x hm)
theorem ZP{y:AV}{j:Nat}(h:sV y=some j):y≠.u:=by intro e;subst e;cases h
theorem amg{y:AV}{j:Bool}(h:qH y=some j):y≠.u:=by intro e;subst e;cases h
theorem zi{y:AV}(h:y.copy=true):y≠.u:=by intro e;subst e;cases h
theorem Vz{y:AV}(h:y.pure=true):y≠.u:=by intro e;subst e;cases h
theorem Le.nat(h:Le E.dp v s){x:bY}{j:Nat}(hx:sV (v.ev x)=some j):sV (s.ev x)=some j:=by rw [h.ev rfl (ZP hx)];exact hx
theorem Le.qH(h:Le E.dp v s){x:bY}{j:Bool}(hx:qH (v.ev x)=some j):qH (s.ev x)=some j:=by rw [h.ev rfl (amg hx)];exact hx
theorem Le.Sd(h:Le E.dp v s){x:Option bY}{n j:Nat}(hx:qc v x n=some j):qc s x n=some j:=by
 cases x with
 | none=>exact hx
 | some x=>exact h.nat hx
def qk:qI→Bool
 | .ck _ _=>false
 | .bg _ _=>false
 | .bxg _=>false
 | .c3 _ _=>false
 | .cr _ _ _=>false
 | .c2 _ _=>false
 | .d2 _ _=>false
 | .as _=>false
 | .bx _=>false
 | .al _=>false
 | .st _ _ _=>false
 | .bs _ _ _=>false
 | .ms _ _ _ _ _=>false
 | .ap _ _ _ _ _=>false
 | _=>true
theorem Gx(h:Le E.dp v s){m:Nat}{f:FuncId}{ys:List AV}(he:cK R Ω E v m f ys=some r):(r.2=v∧cK R Ω E s m f ys=some (r.1,s))∧∀ y∈ys,y≠.u:=by
 unfold cK at he ⊢
 split at he
 ·obtain ⟨q,h1,h2⟩:=au.1 he
  obtain ⟨q2,h3,h4⟩:=au.1 h2
  obtain ⟨h5,h6⟩:=h.fK h1
  grind
 ·obtain ⟨q,h1,h2⟩:=au.1 he
  obtain ⟨q2,h3,h4⟩:=au.1 h2
  obtain ⟨h5,h6⟩:=h.fK h1
  grind
 ·cases he
theorem OR{ao:qI}(h:Le E.dp v s)(hq:qk ao=true)(N:mY v ao=true)(he:execOp R Ω E v d ao=some r):r.2=v∧execOp R Ω E s d ao=some (r.1,s):=by
 cases ao with
 | mv x=>
  have hu:v.ev x≠.u:=by grind [mY,Cg]
  have hx:=h.ev rfl hu
  simp only [execOp,hx] at he ⊢
  cases hv:v.ev x<;>rw [hv] at he<;>simp only at he ⊢<;>first | (cases he;exact ⟨by trivial,by trivial⟩) | skip
  grind
 | pk c x y=>
  simp only [execOp] at he ⊢
  obtain ⟨z,hz,B⟩:=au.1 he
  rw [h.qH hz,ab]
  cases z with
  | true=>
   simp only [aH] at B ⊢
   split at B
   ·rename_i hc
    rw [h.ev rfl (zi hc),af hc]
    grind
   ·cases B
  | false=>
   simp only [dy,cH] at B ⊢
   split at B
   ·rename_i hc
    rw [h.ev rfl (zi hc),af hc]
    grind
   ·cases B
 | ld n x=>
  simp only [execOp] at he ⊢
  split at he
  ·rename_i k off hx
   rw [h.ev hx (by simp)]
   obtain ⟨cs,hb,B⟩:=au.1 he
   obtain ⟨y,hy,D⟩:=au.1 B
   simp only [h.bx k cs hb,ab,hy]
   grind
  ·rename_i z off hx
   rw [h.ev hx (by simp)]
   grind [Option.bind_eq_some_iff]
  ·rename_i pl i sz off hx
   rw [h.ev hx (by simp)]
   obtain ⟨q,hb,B⟩:=au.1 he
   obtain ⟨e,aI,D⟩:=au.1 B
   simp only [h.rowAt hb,ab,aI]
   grind [Option.bind_eq_some_iff]
  ·cases he
 | fa off x=>
  simp only [execOp] at he ⊢
  split at he
  ·rename_i k o hx
   rw [h.ev hx (by simp)]
   grind
  ·rename_i k o hx
   rw [h.ev hx (by simp)]
   grind
  ·rename_i pl i sz o hx
   rw [h.ev hx (by simp)]
   obtain ⟨q,hb,B⟩:=au.1 he
   simp only [h.rowAt hb,ab]
   grind
  ·cases he
 | ia sz arr x i=>
  simp only [execOp] at he ⊢
  obtain ⟨j,hj,B⟩:=au.1 he
  rw [h.nat hj,ab]
  have ai:∀ {e:Option AV}{f:AV→AV},elemAt sz v e f=some r→r.2=v∧elemAt sz s e f=some (r.1,s):=by
   grind [vV,elemAt]
  cases arr with
  | some len=>
   simp only at B ⊢
   split at B
   ·rename_i N
    rw [af N]
    split at B
    ·rename_i k o hx
     rw [h.ev hx (by simp)]
     grind
    ·rename_i k o hx
     rw [h.ev hx (by simp)]
     grind
    ·cases B
   ·cases B
  | none=>
   simp only at B ⊢
   split at B
   ·rename_i t es hx
    rw [h.ev hx (by simp)]
    exact ai B
   ·rename_i t es hx
    rw [h.ev hx (by simp)]
    grind
   ·rename_i pl hx
    rw [h.ev hx (by simp)]
    obtain ⟨q,hb,D⟩:=au.1 B
    simp only [h.rowAt hb,ab]
    exact ai D
   ·rename_i pl lo len hx
    rw [h.ev hx (by simp)]
    split at B
    ·rename_i aA
     obtain ⟨q,hb,D⟩:=au.1 B
     simp only [af aA,h.rowAt hb,ab]
     grind
    ·cases B
   ·rename_i k o n s' hx
    rw [h.ev hx (by simp)]
    grind
   ·cases B
 | bo op bl x y=>
  simp only [execOp] at he ⊢
  obtain ⟨z,hz,B⟩:=au.1 he
  cases B
  have am:v.ev x≠.u:=by grind [rp]
  have ak:v.ev y≠.u:=by
   grind [rp]
  rw [h.ev rfl am,h.ev rfl ak,hz]
  grind
 | ae ks ng x y=>
  simp only [execOp] at he ⊢
  split at he
  ·rename_i xs ys hx hy
   obtain ⟨z,hz,B⟩:=au.1 he
   cases B
   rw [h.ev hx (by simp),h.ev hy (by simp)]
   grind
  ·cases he
 | no x=>
  simp only [execOp] at he ⊢
  obtain ⟨z,hz,B⟩:=au.1 he
  cases B
  rw [h.qH hz]
  grind
 | cv k x=>
  simp only [execOp] at he ⊢
  split at he
  ·rename_i k n hx
   rw [h.ev hx (by simp)]
   grind
  ·cases he
 | bd zs fs=>
  simp only [execOp] at he ⊢
  split at he
  ·rename_i aa
   cases he
   have aZ:∀ f∈fs,s.ev f.2.2=v.ev f.2.2:=fun f hf=>by
    have:=dz.1 aa f hf
    simp only [aY] at this
    exact h.ev rfl (zi this.1.1.1)
   have h1:fs.all (fun f=>(s.ev f.2.2).copy&&(s.ev f.2.2).nc==f.2.1&&(s.ev f.2.2).cl.all AV.one&&decide (f.1+f.2.1≤zs.length))=true:=by
    grind
   rw [af h1]
   refine ⟨rfl,?_⟩
   have:∀ (fs:List (Nat×Nat×bY))(zs:List AV),(∀ f∈fs,s.ev f.2.2=v.ev f.2.2)→fs.foldl (fun cs f=>putCells cs f.1 (s.ev f.2.2).cl) zs=fs.foldl (fun cs f=>putCells cs f.1 (v.ev f.2.2).cl) zs:=by
    intro fs
    induction fs with
    | nil=>intro zs _;rfl
    | cons f fs ih=>
     grind
   grind
  ·cases he
 | sl t sz x lo hi=>
  simp only [execOp] at he ⊢
  split at he
  ·rename_i l hx
   rw [h.ev hx (by simp)]
   obtain ⟨p,hp,B⟩:=au.1 he
   obtain ⟨q,hq,D⟩:=au.1 B
   simp only [h.Sd hp,h.Sd hq,ab]
   grind
  ·rename_i t' es hx
   rw [h.ev hx (by simp)]
   obtain ⟨p,hp,B⟩:=au.1 he
   obtain ⟨q,hq,D⟩:=au.1 B
   simp only [h.Sd hp,h.Sd hq,ab]
   grind
  ·rename_i pl hx
   rw [h.ev hx (by simp)]
   obtain ⟨z,hz,aJ⟩:=au.1 he
   obtain ⟨p,hp,B⟩:=au.1 aJ
   obtain ⟨q,hq,D⟩:=au.1 B
   simp only [h.rowAt hz,h.Sd hp,h.Sd hq,ab]
   grind
  ·cases he
 | ex x i=>
  simp only [execOp] at he ⊢
  split at he
  ·rename_i vs hx
   rw [h.ev hx (by simp)]
   grind [Option.bind_eq_some_iff]
  ·cases he
 | mf f S=>
  simp only [execOp] at he ⊢
  split at he
  ·rename_i hc
   have hm:=h.map (xs:=S) fun x hx=>zi ((by grind [BX]))
   grind
  ·cases he
 | ca m f args=>
  simp only [execOp] at he ⊢
  obtain ⟨⟨h1,h2⟩,h3⟩:=Gx h he
  rw [h.map (by grind)]
  grind
 | cf m x args=>
  simp only [execOp] at he ⊢
  split at he
  ·rename_i f S hx
   rw [h.ev hx (by simp)]
   split at he
   ·rename_i hg
    obtain ⟨⟨h1,h2⟩,h3⟩:=Gx h he
    simp only [af hg]
    rw [h.map (by grind)]
    grind
   ·cases he
  ·cases he
 | ln str x=>
  simp only [execOp] at he ⊢
  have hu:v.ev x≠.u:=by
   grind [St.elems]
  rw [h.ev rfl hu]
  split at he
  ·grind
  ·grind
  ·rename_i hx
   split at he
   ·cases he
   ·rename_i hs
    obtain ⟨q,hq,B⟩:=au.1 he
    cases B
    refine ⟨rfl,?_⟩
    rw [ah hs,h.elems hq];rfl
 | nc x=>
  simp only [execOp] at he ⊢
  split at he
  ·rename_i k o hx
   rw [h.ev hx (by simp)]
   grind
  ·rename_i k o hx
   rw [h.ev hx (by simp)]
   grind
  ·cases he
  ·rename_i k o hx
   rw [h.ev hx (by simp)]
   grind
  ·cases he
 | _=>simp [qk] at hq
end
end Go.Proofs.YtlmphbbhaeampaaGreat.A
