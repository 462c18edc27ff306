/- Calls of functions that change nothing; every operation. -/
import Derived.Test.YtkkkkondjclcnaaGreatAbsP
import Derived.RangeFuncOwn
set_option linter.unusedSectionVars false
set_option linter.unusedVariables false
set_option linter.unusedSimpArgs false
set_option linter.constructorNameAsVariable false
namespace Go.Proofs.YtkkkkondjclcnaaGreat.A
open Go
variable [aY]
def gZ(P:Program)(f:FuncId):Prop:=∃ fn,P.funcs[f]? =some fn∧fn.body.isNone=false∧(fn.name== "runtime.NumGoroutine")=false
def lH(P:Program)(f:FuncId)(ys:List AV)(x:AV):Prop:=
 gZ P f∧∀ (w:World)(I:Nat→Prop)(κ:Key→Nat)(cargs:Array Value),aY.n0≤w.heap.size∧DT w I→(∀ b,I b→b<w.heap.size)→cargs.size=ys.length→(∀ (i:Nat)(y:AV),ys[i]? =some y→VR w I κ y (cargs.getD i undef))→
  Calls P f cargs w fun e w'=>∃ v I',e= .returned v∧VR w' I' κ x v∧w.heap.size≤w'.heap.size∧(∀ b,b<w.heap.size→w'.heap[b]? =w.heap[b]?)∧(∀ b,I b→I' b)∧(∀ b,I' b→I b∨w.heap.size≤b)∧(∀ b,I' b→b<w'.heap.size)∧w'.os=w.os∧w'.output=w.output
def oQ(P:Program)(W:Nat→Prop)(dp:Nat):Cx:=⟨P,W,⟨dp,false⟩,0⟩
structure s9(P:Program)(W:Nat→Prop)(dp:Nat)(hp:HP)(w:World)(σ:Sp):Prop where
 bx:∀ k cs,hp k=some cs→k.dp<dp→∃ vs T,e9 (oQ P W dp) w σ k cs vs T
 deep:∀ k cs,hp k=some cs→k.dp≠dp→k.dp<dp∧∀ c∈cs,c.deep k.dp=true
 own:∀ b l,σ.ow b=some l→b<w.heap.size
 ba:∀ b,σ.I b→b<w.heap.size∧σ.ow b=none
 lay:DT w σ.I
def vi(P:Program)(dp:Nat)(f:FuncId)(ys:List AV)(hp:HP)(x:AV)(hp':HP):Prop:=
 x.pure=true∧gZ P f∧∀ (W:Nat→Prop)(w:World)(σ:Sp)(cargs:Array Value),(∀ b,w.heap.size≤b→W b∧aY.n0≤b)→s9 P W dp hp w σ→cargs.size=ys.length→
  (∀ (i:Nat)(y:AV),ys[i]? =some y→VR w σ.I σ.κ y (cargs.getD i undef))→
  Calls P f cargs w fun e w'=>∃ v σ',e= .returned v∧VR w' σ'.I σ'.κ x v∧bN (oQ P W dp) w σ w' σ'∧s9 P W dp hp' w' σ'
def E2(P:Program)(dp:Nat)(f:FuncId)(ys:List AV)(hp:HP)(cs:List AV)(hp':HP):Prop:=
 cs.all oU=true∧gZ P f∧∀ (W:Nat→Prop)(w:World)(σ:Sp)(cargs:Array Value),(∀ b,w.heap.size≤b→W b∧aY.n0≤b)→s9 P W dp hp w σ→cargs.size=ys.length→
  (∀ (i:Nat)(y:AV),ys[i]? =some y→VR w σ.I σ.κ y (cargs.getD i undef))→
  Calls P f cargs w fun e w'=>∃ σ' kk vs T,e= .returned (.pointer (some ⟨σ'.κ kk,0,none⟩))∧kk.dp=dp∧e9 (oQ P W dp) w' σ' kk cs vs T∧bN (oQ P W dp) w σ w' σ'∧s9 P W dp hp' w' σ'
def QV(P:Program)(w:World)(dp:Nat):Cx:=⟨P,fun b=>w.heap.size≤b,⟨dp,true⟩,0⟩
structure HpR(P:Program)(dp:Nat)(hp:HP)(w:World)(σ:Sp):Prop where
 bx:∀ k cs,hp k=some cs→k.dp<dp→∃ vs T,e9 (QV P w dp) w σ k cs vs T
 deep:∀ k cs,hp k=some cs→k.dp≠dp→k.dp<dp∧∀ c∈cs,c.deep k.dp=true
 own:∀ b l,σ.ow b=some l→b<w.heap.size
 ba:∀ b,σ.I b→b<w.heap.size∧σ.ow b=none
 lay:DT w σ.I
def E3(P:Program)(dp:Nat)(f:FuncId)(ys:List AV)(hp:HP)(x:AV):Prop:=
 x.pure=true∧gZ P f∧∀ (w:World)(σ:Sp)(cargs:Array Value),aY.n0≤w.heap.size→HpR P dp hp w σ→cargs.size=ys.length→
  (∀ (i:Nat)(y:AV),ys[i]? =some y→VR w σ.I σ.κ y (cargs.getD i undef))→
  Calls P f cargs w fun e w'=>∃ v I',e= .returned v∧VR w' I' σ.κ x v∧w.heap.size≤w'.heap.size∧(∀ b,b<w.heap.size→w'.heap[b]? =w.heap[b]?)∧(∀ b,σ.I b→I' b)∧(∀ b,I' b→σ.I b∨w.heap.size≤b)∧(∀ b,I' b→b<w'.heap.size)∧w'.os=w.os∧w'.output=w.output
def QW(P:Program)(f:FuncId)(ys:List AV)(t:TypeId):Prop:=
 gZ P f∧0<P.cellsOf t∧∀ (w:World)(I:Nat→Prop)(κ:Key→Nat)(cargs:Array Value),aY.n0≤w.heap.size→(∀ b,I b→b<w.heap.size)→cargs.size=ys.length→(∀ (i:Nat)(y:AV),ys[i]? =some y→VR w I κ y (cargs.getD i undef))→
  Calls P f cargs w fun e w'=>∃ v,e= .returned v∧(v= .slice none 0 0∨∃ g cap cs,v= .slice (some ⟨g,0,none⟩) 0 cap∧w.heap.size≤g∧w'.heap[g]? =some (.cells cs t (0,0))∧cap≤maxLen∧cs.size=cap*P.cellsOf t)∧
   w.heap.size≤w'.heap.size∧(∀ b,b<w.heap.size→w'.heap[b]? =w.heap[b]?)∧w'.os=w.os∧w'.output=w.output
def E4(P:Program)(dp:Nat)(f:FuncId)(ys:List AV)(i:Nat)(cs:List AV)(t:TypeId)(n sz:Nat)(bs:List AV):Prop:=
 (AV.aK cs=true∧AV.aK bs=true)∧gZ P f∧∀ (W:Nat→Prop)(w:World)(σ:Sp)(cargs:Array Value),(∀ b,w.heap.size≤b→W b∧aY.n0≤b)→s9 P W dp (fun _=>none) w σ→cargs.size=ys.length→
  (∀ (i:Nat)(y:AV),ys[i]? =some y→VR w σ.I σ.κ y (cargs.getD i undef))→
  Calls P f cargs w fun e w'=>∃ v σ' kk vs,e= .returned v∧kk.dp=dp∧e9 (oQ P W dp) w' σ' kk bs vs t∧VR w' σ'.I σ'.κ (.a (cs.set i (.sp kk 0 n sz))) v∧bN (oQ P W dp) w σ w' σ'∧s9 P W dp (fun _=>none) w' σ'
structure gN(P:Program)(R:Rec):Prop where
 ret:∀ dp f ys hp x hp',R ⟨dp,false⟩ f ys hp=some (.ret x,hp')→(∀ y∈ys,y.copy=true)→vi P dp f ys hp x hp'
 new:∀ dp f ys hp cs hp',R ⟨dp,false⟩ f ys hp=some (.new cs,hp')→(∀ y∈ys,y.copy=true)→E2 P dp f ys hp cs hp'
 ro:∀ dp f ys hp x hp',R ⟨dp,true⟩ f ys hp=some (.ret x,hp')→(∀ y∈ys,y.copy=true)→E3 P dp f ys hp x
 iq:∀ dp f ys hp' i cs t n sz bs,R ⟨dp,false⟩ f ys (fun _=>none)=some (.iq i cs t n sz bs,hp')→(∀ y∈ys,y.pure=true)→E4 P dp f ys i cs t n sz bs
def RS(P:Program)(f:FuncId)(y:AV):Prop:=
 gZ P f∧∀ (w:World)(I:Nat→Prop)(κ:Key→Nat)(v:Value),(∀ b,I b→∃ cs T,w.heap[b]? =some (.cells cs T (0,0)))→VR w I κ y v→
  Calls P f #[v] w fun e w'=>(∃ r,e= .returned r)∧w.heap.size≤w'.heap.size∧(∀ b,b<w.heap.size→¬I b→w'.heap[b]? =w.heap[b]?)∧w'.os=w.os∧w'.output=w.output
def kz(P:Program)(R:Rec):Prop:=∀ B:aY,@gN B P R
theorem kz.h{P:Program}{R:Rec}(h:kz P R):gN P R:=h _
def Via(P:Program)(f g:FuncId)(n:Int):Prop:=∀ dp ys hp cs hp',ys.length=1→(cs.length:Int)=n→vi P dp g ys hp (.a cs) hp'→vi P dp f ys hp (.tp [.a cs,.i .i64 0,.i .i64 0]) hp'
def ZT(P:Program)(f:FuncId)(t:TypeId):Prop:=
 gZ P f∧∀ (w:World)(b off:Nat)(vs:Array Value)(T:TypeId)(g cap:Nat)(cs:Array Value)(l:List UInt8),w.heap[b]? =some (.cells vs T (0,0))→off+1<vs.size→vs.getD (off+1) undef= .slice (some ⟨g,0,none⟩) l.length cap→
  w.heap[g]? =some (.cells cs t (0,0))→l.length≤cap→cap≤maxLen→cs.size=cap→l≠[]→(∀ (j:Nat)(c:UInt8),l[j]? =some c→cs[j]? =some (.int .u8 c.toNat))→
  Calls P f #[.pointer (some ⟨b,off,none⟩)] w fun e w'=>e= .returned (.string ⟨l.toArray⟩)∧w'.heap.size=w.heap.size∧(∀ x,x≠g→w'.heap[x]? =w.heap[x]?)∧w'.os=w.os∧w'.output=w.output
def IC(P:Program)(f:FuncId)(c:AV)(ns:List Int):Prop:=
 ∀ (w:World)(I:Nat→Prop)(κ:Key→Nat)(v:Value),aY.n0≤w.heap.size→(∀ b,I b→b<w.heap.size)→VR w I κ (.f f [c]) v→
  ∃ gf lb,v= .func (.func gf) #[] lb∧(∀ args w,(callFunc gf args).run P w= .ok (.enter gf args) w)∧
   ∀ (l m:Nat)(J:(Nat→Prop)→List Int→World→Prop)(Jx:List Int→World→Prop)(T:Nat→Prop)(W:World),
    w.heap.size≤W.heap.size→(∀ b,I b→W.heap[b]? =w.heap[b]?)→
    (∀ T pre W W',J T pre W→RowKit.Below W.heap.size W W'→J (fun b=>T b∨(W.heap.size≤b∧b<W'.heap.size)) pre W')→
    (∀ T pre n rest W1 m,ns=pre++n::rest→J T pre W1→YieldAt Fence.wide m P l #[.int .i64 n] W1 fun e W2=>
     (e= .returned (.bool true)∧J T (pre++[n]) W2∧(∀ b,T b→W2.heap[b]? =W1.heap[b]?)∧(∀ b,I b→W2.heap[b]? =W1.heap[b]?)∧W1.heap.size≤W2.heap.size)∨
     (e= .returned (.bool false)∧Jx (pre++[n]) W2))→
    J T [] W→
    CallsIn Fence.wide m P gf (#[.func (.yield l) #[] #[]]++lb) W fun e W'=>(∃ v,e= .returned v)∧((∃ T',J T' ns W')∨(∃ pre n rest,ns=pre++n::rest∧Jx (pre++[n]) W'))
structure eX(P:Program)(Ω:cm):Prop where
 via:∀ f (g:FuncId) n,Ω f [.u,.i .i64 g]=some (.i .i64 n)→Via P f g n
 spo:∀ f y,Ω f [y]=some .u→y.pure=true→RS P f y
 ret:∀ f ys x,Ω f ys=some x→(∀ y∈ys,y.pure=true)→x.pure=true→lH P f ys x
 row:∀ f ys t,Ω f ys=some (.o t [])→(∀ y∈ys,y.pure=true)→QW P f ys t
 str:∀ f (t:TypeId),Ω f [.u,.u,.i .i64 t]=some (.s [])→ZT P f t
 it:∀ f c es ns,Ω f [.u,c]=some (.l 0 es)→qz es=some ns→IC P f c ns
theorem gN.pure{P:Program}{R:Rec}(hR:gN P R){f:FuncId}{ys:List AV}{x:AV}{hp':HP}(he:R ⟨0,false⟩ f ys (fun _=>none)=some (.ret x,hp'))(hy:∀ y∈ys,y.pure=true):lH P f ys x:=by
 obtain ⟨hpx,hb,hc⟩:=hR.ret 0 f ys _ x hp' he (fun y hm=>cH y (hy y hm))
 refine ⟨hb,fun w I κ cargs hn hI hs ha=>?_⟩
 refine (hc (fun b=>w.heap.size≤b) w ⟨κ,fun _=>none,I⟩ cargs (fun b hb=>⟨hb,Nat.le_trans hn.1 hb⟩) ⟨fun k cs hk=>(by cases hk),fun k cs hk=>(by cases hk),fun b l hb=>(by cases hb),fun b hb=>⟨hI b hb,rfl⟩,hn.2⟩ hs ha).mono ?_
 rintro e w' ⟨v,σ',rfl,hv,hst,hH⟩
 exact ⟨v,σ'.I,rfl,hv.wi (fun _ h=>h) (fun _ _=>rfl) hpx,hst.size,fun b hb=>hst.aH b hb (show ¬w.heap.size≤b by omega),hst.up,hst.dn,fun b hb=>(hH.ba b hb).1,hst.io⟩
theorem V2{ts:List TypeId}{x:AV}(h:x.off ts=true):∀ c∈x.cl,c.off ts=true:=by
 intro c hc
 cases x<;>simp only [AV.cl,List.mem_singleton] at hc<;>first | (subst hc;exact h) | skip
 exact sw (by simpa [AV.off] using h) c hc
theorem VR.acx{w:World}{I B:Nat→Prop}{κ:Key→Nat}{ts:List TypeId}(hts:ts≠[])(hB:∀ b,B b→∃ cs T fz,w.heap[b]? =some (.cells cs T fz)∧T∈ts∧aY.n0≤b){x:AV}{v:Value}(h:VR w I κ x v)(hx:x.off ts=true) :
  VR w (fun b=>I b∧¬B b) κ x v:=by
 induction h with
 | u v=>exact .u v
 | sk=>exact .sk
 | b x=>exact .b x
 | i k n=>exact .i k n
 | s l=>exact .s l
 | n=>exact .n
 | z=>exact .z
 | nf=>exact .nf
 | ni=>exact .ni
 | lnil t A cap=>exact .lnil t A cap
 | l t es g o cap cs T fz sz hI0 hh0 ht hsz hnc hsize hp h1 hcap hmax hc ih=>
  cases es with
  | nil=>exact .lnil _ _ _
  | cons e0 es=>
   have hx':(t≠0∧¬t∈ts)∧AV.ua ts (e0::es)=true:=by
    simpa [AV.off,Bool.and_assoc,and_assoc] using hx
   refine .l t (e0::es) g o cap cs T fz sz ⟨hI0,fun hb=>?_⟩ hh0 ht hsz hnc hsize hp h1 hcap hmax fun j e m c he hc'=>ih j e m c he hc' (V2 (sw hx'.2 e (List.mem_of_getElem? he)) c (List.mem_of_getElem? hc'))
   obtain ⟨cs',T',fz',h2,h3,h4⟩:=hB g hb
   rw [hh0] at h2
   simp only [Option.some.injEq,Obj.cells.injEq] at h2
   rw [←h2.2.1,((ht hx'.1.1).1 h4).1] at h3
   exact hx'.1.2 h3
 | e x off g o cs T fz hI0 hh0 hp hsize h1 hc ih=>
  simp only [AV.off,List.isEmpty_iff] at hx
  exact absurd hx hts
 | f g caps vs hg hl hc ih=>exact .f g caps vs hg hl fun m c hc'=>ih m c hc' (sw (by simpa [AV.off] using hx) c (List.mem_of_getElem? hc'))
 | fm g caps vs hl hc ih=>exact .fm g caps vs hl fun m c hc'=>ih m c hc' (sw (by simpa [AV.off] using hx) c (List.mem_of_getElem? hc'))
 | a cs vs hl h1 hc ih=>exact .a cs vs hl h1 fun m c hc'=>ih m c hc' (sw (by simpa [AV.off] using hx) c (List.mem_of_getElem? hc'))
 | tp cs vs hl hc ih=>exact .tp cs vs hl fun m c hc'=>ih m c hc' (sw (by simpa [AV.off] using hx) c (List.mem_of_getElem? hc'))
 | ifc t x v h ih=>exact .ifc t x v (ih (by simpa [AV.off] using hx))
 | p k off=>exact .p k off
 | sp k off n sz cap h1 h2=>exact .sp k off n sz cap h1 h2
section
variable {C:Cx}{st:St}{a:Act}{w:World}{σ:Sp}{o:Oper}{d:Option Nat}{R:Rec}{Ω:cm}{r:AV×St}
structure E5(C:Cx)(w:World)(σ:Sp)(y:AV)(v:Value)(ts:List TypeId)(B:Nat→Prop):Prop where
 vr:VR w (fun b=>σ.I b∨B b) σ.κ y v
 pure:y.pure=true
 blk:∀ b,B b→(∃ l,σ.ow b=some l)∧∃ cs T fz,w.heap[b]? =some (.cells cs T fz)∧T∈ts∧aY.n0≤b
theorem ad.NG(h:ad C st a w σ){k:Key}{o n sz:Nat}{y:AV}{v:Value}{ts:List TypeId}(hx:VR w σ.I σ.κ (.sp k o n sz) v)(he:st.oe C.E.dp k o n sz=some (y,ts)):(∃ B,E5 C w σ y v ts B)∧y.one=true:=by
 unfold St.oe at he
 obtain ⟨cs,hb,he1⟩:=Option.bind_eq_some_iff.1 he
 split at he1
 ·rename_i hc
  obtain ⟨rfl,rfl⟩:=Prod.mk.inj (Option.some.inj he1)
  simp only [Bool.and_eq_true,decide_eq_true_eq] at hc
  obtain ⟨⟨⟨hk,hp⟩,hsz⟩,hle⟩:=hc
  obtain ⟨vs,T,hB⟩:=h.bx k cs hb
  have hT:=hB.kb.1 hk
  have hpl:=cT hp
  have hone:∀ c∈cs,c.one=true:=fun c hc=>(hB.one c hc).resolve_right fun e=>by have:=hpl c hc;rw [e] at this;cases this
  have hone':∀ c∈cs.drop o,c.one=true:=fun c hc=>hone c (List.mem_of_mem_drop hc)
  have hp':AV.aK (cs.drop o)=true:=ib fun c hc=>hpl c (List.mem_of_mem_drop hc)
  have hle':n*sz≤(cs.drop o).length:=by rw [List.length_drop];omega
  have hlen:=zi sz n (cs.drop o)
  refine ⟨⟨fun b=>b=σ.κ k,?_,rfl,fun b hb=>by subst hb;exact ⟨⟨_,hB.ow⟩,vs,T,(0,0),hB.hh,by simp [hT],hB.kb.2⟩⟩,rfl⟩
  ·have hx':=hx
   cases hx' with
   | sp _ _ _ _ cap hc1 hc2=>
    have:=VR.l (w:=w) (I:=fun b=>σ.I b∨b=σ.κ k) (κ:=σ.κ) 0 (chunks sz n (cs.drop o)) (σ.κ k) o cap vs T (0,0) sz (.inr rfl) hB.hh (fun h=>absurd rfl h) hsz (fun e he=>?_) ?_ (fun e he=>?_) (fun e he c hc=>?_) (by omega) hc2 (fun j e m c he hc=>?_)
    ·rw [hlen] at this;exact this
    ·obtain ⟨j,hj⟩:=List.mem_iff_getElem?.1 he
     obtain ⟨h3,h4,_⟩:=jG sz hsz hone' hle' hj
     unfold AV.nc
     rw [h3,List.length_take,List.length_drop]
     rw [Nat.add_mul] at h4
     omega
    ·rw [hlen];have:=hB.size;omega
    ·obtain ⟨j,hj⟩:=List.mem_iff_getElem?.1 he
     exact (jG sz hsz hone' hle' hj).2.2 hp'
    ·obtain ⟨j,hj⟩:=List.mem_iff_getElem?.1 he
     obtain ⟨h3,_,_⟩:=jG sz hsz hone' hle' hj
     rw [h3] at hc
     exact hone' c (List.mem_of_mem_drop (List.mem_of_mem_take hc))
    ·obtain ⟨h3,_,_⟩:=jG sz hsz hone' hle' he
     rw [h3,List.getElem?_take] at hc
     split at hc
     ·rw [List.getElem?_drop,List.getElem?_drop,←Nat.add_assoc] at hc
      have hcm:=List.mem_of_getElem? hc
      exact (IA (hpl c hcm) (hB.cell _ c hc)).wi (fun _ h=>.inl h) (fun _ _=>rfl) (hpl c hcm)
     ·cases hc
 ·cases he1
theorem ad.ZU(h:ad C st a w σ){c y:AV}{v:Value}{ts:List TypeId}(hx:VR w σ.I σ.κ c v)(h1:c.one=true)(he:st.CN C.E.dp c=some (y,ts)):(∃ B,E5 C w σ y v ts B)∧y.one=true:=by
 unfold St.CN at he
 split at he
 ·exact h.NG hx he
 ·split at he
  ·rename_i hp
   obtain ⟨rfl,rfl⟩:=Prod.mk.inj (Option.some.inj he)
   exact ⟨⟨fun _=>False,hx.mono (fun _ h=>.inl h) (fun _ _=>rfl) (fun _ _=>rfl),hp,fun _ h=>h.elim⟩,h1⟩
  ·cases he
theorem ad.NH(h:ad C st a w σ):∀ (cs:List AV)(vs:List Value)(ys:List AV)(ts:List TypeId),cs.length=vs.length→(∀ (m:Nat)(c:AV),cs[m]? =some c→VR w σ.I σ.κ c (vs[m]?.getD undef))→(∀ c∈cs,c.one=true)→
  st.rK C.E.dp cs=some (ys,ts)→∃ B:Nat→Prop,ys.length=vs.length∧(∀ b,B b→(∃ l,σ.ow b=some l)∧∃ cs T fz,w.heap[b]? =some (.cells cs T fz)∧T∈ts∧aY.n0≤b)∧(∀ y∈ys,y.pure=true∧y.one=true)∧
   ∀ (m:Nat)(y:AV),ys[m]? =some y→VR w (fun b=>σ.I b∨B b) σ.κ y (vs[m]?.getD undef)
 | [],vs,ys,ts,hl,_,_,he=>by
  obtain ⟨rfl,rfl⟩:=Prod.mk.inj (Option.some.inj he)
  exact ⟨fun _=>False,hl,fun _ h=>h.elim,fun y hy=>absurd hy (List.not_mem_nil),fun i y hi=>(by simp at hi)⟩
 | c::cs,[],_,_,hl,_,_,_=>by simp at hl
 | c::cs,v::vs,ys,ts,hl,hx,h1,he=>by
  obtain ⟨⟨y,ts1⟩,e1,he1⟩:=Option.bind_eq_some_iff.1 he
  obtain ⟨⟨ys',ts2⟩,e2,he2⟩:=Option.bind_eq_some_iff.1 he1
  obtain ⟨rfl,rfl⟩:=Prod.mk.inj (Option.some.inj he2)
  obtain ⟨⟨B1,hL⟩,hy1⟩:=h.ZU (by simpa using hx 0 c rfl) (h1 c (by simp)) e1
  obtain ⟨B2,hl2,hb2,hp2,hv2⟩:=ad.NH h cs vs ys' ts2 (by simpa using hl) (fun i x hi=>by simpa using hx (i+1) x (by simpa using hi)) (fun c hc=>h1 c (by simp [hc])) e2
  refine ⟨fun b=>B1 b∨B2 b,by simpa using hl2,fun b hb=>?_,fun z hz=>?_,fun i z hi=>?_⟩
  ·rcases hb with hb | hb
   ·obtain ⟨h3,cs,T,fz,h4,h5⟩:=hL.blk b hb
    exact ⟨h3,cs,T,fz,h4,List.mem_append_left _ h5.1,h5.2⟩
   ·obtain ⟨h3,cs,T,fz,h4,h5⟩:=hb2 b hb
    exact ⟨h3,cs,T,fz,h4,List.mem_append_right _ h5.1,h5.2⟩
  ·rcases List.mem_cons.1 hz with rfl | hz
   ·exact ⟨hL.pure,hy1⟩
   ·exact hp2 z hz
  ·cases i with
   | zero=>
    obtain rfl:y=z:=by simpa using hi
    exact hL.vr.mono (fun b hb=>hb.elim .inl fun h=>.inr (.inl h)) (fun _ _=>rfl) (fun _ _=>rfl)
   | succ i=>exact (hv2 i z (by simpa using hi)).mono (fun b hb=>hb.elim .inl fun h=>.inr (.inr h)) (fun _ _=>rfl) (fun _ _=>rfl)
theorem ad.wg(h:ad C st a w σ){n:Nat}{x y:AV}{v:Value}{ts:List TypeId}(hx:SR C w σ st a n x v)(he:st.fL C.E.dp x=some (y,ts)):∃ B,E5 C w σ y v ts B:=by
 have hrow:∀ (L:cQ)(wp:Prop) t es lo len cap' v,OwnAt C.P C.W w σ L wp t es v→lo+len≤es.length→(∀ A n cap,v= .slice A n cap→cap'=cap)→
   ∃ B,E5 C w σ (.l t ((es.drop lo).take len)) (match v with | .slice A _ cap=>.slice (if cap=lo then A else A.map (·.add (lo*C.P.cellsOf t))) len (cap - lo) | v=>v) [t] B:=by
  intro L wp t es lo len cap' v ho hle _
  rcases ho with ⟨rfl,rfl⟩ | ⟨g,cap,cs,rfl,hR⟩
  ·simp only [List.length_nil] at hle
   obtain rfl:lo=0:=by omega
   obtain rfl:len=0:=by omega
   exact ⟨fun _=>False,by simpa using VR.lnil _ _ _,rfl,fun _ h=>h.elim⟩
  ·by_cases hl:len=0
   ·subst hl
    exact ⟨fun _=>False,by simpa using VR.lnil _ _ _,by simp [AV.pure],fun _ h=>h.elim⟩
   ·have hec:=hR.ecap
    refine ⟨fun b=>b=g,?_,rfl,fun b hb=>⟨⟨_,hb▸hR.ow⟩,cs,t,_,hb▸hR.hh,by simp,hb▸hR.base⟩⟩
    have:=hR.ba (I:=fun b=>σ.I b∨b=g) (fun _ h=>.inl h) (.inr rfl) hle
    simp only [if_neg (show ¬cap=lo by omega),Option.map_some,add_lit,Nat.zero_add]
    exact this
 have hwhole:∀ (L:cQ)(wp:Prop) t es v,OwnAt C.P C.W w σ L wp t es v→∃ B,E5 C w σ (.l t es) v [t] B:=by
  intro L wp t es v ho
  rcases ho with ⟨rfl,rfl⟩ | ⟨g,cap,cs,rfl,hR⟩
  ·exact ⟨fun _=>False,.lnil _ _ _,rfl,fun _ h=>h.elim⟩
  ·exact ⟨fun b=>b=g,hR.PY (I:=fun b=>σ.I b∨b=g) (fun _ h=>.inl h) (.inr rfl),rfl,fun b hb=>⟨⟨_,hb▸hR.ow⟩,cs,t,_,hb▸hR.hh,by simp,hb▸hR.base⟩⟩
 have hplain:∀ x,SR C w σ st a n x v→x.pure=true→∃ B,E5 C w σ x v [] B:=fun x hx hp=>
  ⟨fun _=>False,(hx.xu (cH x hp)).mono (fun _ h=>.inl h) (fun _ _=>rfl) (fun _ _=>rfl),hp,fun _ h=>h.elim⟩
 cases x with
 | o t es=>
  obtain ⟨rfl,rfl⟩:=Prod.mk.inj (Option.some.inj he)
  exact hwhole _ _ t es v hx
 | r pl=>
  obtain ⟨⟨t,es⟩,hr,he1⟩:=Option.bind_eq_some_iff.1 he
  obtain ⟨rfl,rfl⟩:=Prod.mk.inj (Option.some.inj he1)
  rw [hx (by rw [hr];rfl)]
  exact hwhole _ _ t es _ (h.row hr)
 | v pl lo len=>
  obtain ⟨⟨t,es⟩,hr,he1⟩:=Option.bind_eq_some_iff.1 he
  simp only at he1
  split at he1
  ·rename_i hle
   obtain ⟨rfl,rfl⟩:=Prod.mk.inj (Option.some.inj he1)
   obtain ⟨A,n',cap,hpv,hv⟩:=hx t es hr hle
   obtain ⟨B,hB⟩:=hrow _ _ t es lo len cap _ (h.row hr) hle (fun A' n2 cap2 e=>by rw [hpv] at e;simp at e;exact e.2.2)
   rw [hpv] at hB
   exact ⟨B,by rw [hv];exact hB⟩
  ·cases he1
 | w g t z=>
  obtain ⟨rfl,rfl⟩:=Prod.mk.inj (Option.some.inj he)
  obtain ⟨hp,hz⟩:=hx
  refine ⟨_,hz.mono (fun _ h=>.inr h) (fun _ _=>rfl) (fun _ _=>rfl),hp,fun b hb=>⟨⟨_,hb.1⟩,?_⟩⟩
  obtain ⟨cs,e⟩:=hb.2.2.2
  exact ⟨cs,t,_,e,by simp,hb.2.2.1⟩
 | sp k o n sz=>exact (h.NG hx he).1
 | a cs=>
  simp only [St.fL] at he
  split at he
  ·rename_i hp
   obtain ⟨rfl,rfl⟩:=Prod.mk.inj (Option.some.inj he)
   exact hplain _ hx hp
  ·obtain ⟨⟨ys,ts'⟩,he1,he2⟩:=Option.bind_eq_some_iff.1 he
   obtain ⟨rfl,rfl⟩:=Prod.mk.inj (Option.some.inj he2)
   have hx':VR w σ.I σ.κ (.a cs) v:=hx
   cases hx' with
   | a _ vs hl h1 hc=>
    obtain ⟨B,g1,g2,g3,g4⟩:=h.NH cs vs.toList ys ts' (by simpa using hl) (fun m c hm=>by simpa [Array.getD_eq_getD_getElem?] using hc m c hm) h1 he1
    exact ⟨B,.a _ _ (by simpa using g1) (fun c hc=>(g3 c hc).2) (fun m c hm=>by simpa [Array.getD_eq_getD_getElem?] using g4 m c hm),ib fun c hc=>(g3 c hc).1,g2⟩
 | _=>
  simp only [St.fL] at he
  split at he
  ·rename_i hp
   obtain ⟨rfl,rfl⟩:=Prod.mk.inj (Option.some.inj he)
   exact hplain _ hx hp
  ·cases he
theorem ad.Ks(h:ad C st a w σ):∀ (xs:List AV)(vs:List Value)(ys:List AV)(ts:List TypeId),xs.length=vs.length→(∀ (i:Nat)(x:AV),xs[i]? =some x→∃ n,SR C w σ st a n x (vs[i]?.getD undef))→
  st.du C.E.dp xs=some (ys,ts)→∃ B:Nat→Prop,ys.length=vs.length∧(∀ b,B b→(∃ l,σ.ow b=some l)∧∃ cs T fz,w.heap[b]? =some (.cells cs T fz)∧T∈ts∧aY.n0≤b)∧(∀ y∈ys,y.pure=true)∧
   ∀ (i:Nat)(y:AV),ys[i]? =some y→VR w (fun b=>σ.I b∨B b) σ.κ y (vs[i]?.getD undef)
 | [],vs,ys,ts,hl,_,he=>by
  obtain ⟨rfl,rfl⟩:=Prod.mk.inj (Option.some.inj he)
  exact ⟨fun _=>False,hl,fun _ h=>h.elim,fun y hy=>absurd hy (List.not_mem_nil),fun i y hi=>(by simp at hi)⟩
 | x::xs,[],_,_,hl,_,_=>by simp at hl
 | x::xs,v::vs,ys,ts,hl,hx,he=>by
  obtain ⟨⟨y,ts1⟩,h1,he1⟩:=Option.bind_eq_some_iff.1 he
  obtain ⟨⟨ys',ts2⟩,h2,he2⟩:=Option.bind_eq_some_iff.1 he1
  obtain ⟨rfl,rfl⟩:=Prod.mk.inj (Option.some.inj he2)
  obtain ⟨n,hx0⟩:=hx 0 x rfl
  obtain ⟨B1,hL⟩:=h.wg hx0 h1
  obtain ⟨B2,hl2,hb2,hp2,hv2⟩:=ad.Ks h xs vs ys' ts2 (by simpa using hl) (fun i x hi=>by simpa using hx (i+1) x (by simpa using hi)) h2
  refine ⟨fun b=>B1 b∨B2 b,by simpa using hl2,fun b hb=>?_,fun z hz=>?_,fun i z hi=>?_⟩
  ·rcases hb with hb | hb
   ·obtain ⟨h3,cs,T,fz,h4,h5⟩:=hL.blk b hb
    exact ⟨h3,cs,T,fz,h4,List.mem_append_left _ h5.1,h5.2⟩
   ·obtain ⟨h3,cs,T,fz,h4,h5⟩:=hb2 b hb
    exact ⟨h3,cs,T,fz,h4,List.mem_append_right _ h5.1,h5.2⟩
  ·rcases List.mem_cons.1 hz with rfl | hz
   ·exact hL.pure
   ·exact hp2 z hz
  ·cases i with
   | zero=>
    obtain rfl:y=z:=by simpa using hi
    exact hL.vr.mono (fun b hb=>hb.elim .inl fun h=>.inr (.inl h)) (fun _ _=>rfl) (fun _ _=>rfl)
   | succ i=>exact (hv2 i z (by simpa using hi)).mono (fun b hb=>hb.elim .inl fun h=>.inr (.inr h)) (fun _ _=>rfl) (fun _ _=>rfl)
theorem dH{P:Program}{f:FuncId}(hf:gZ P f)(args:Array Value)(w:World):(callFunc f args).run P w= .ok (.enter f args) w:=by
 obtain ⟨fn,h1,h2,h3⟩:=hf
 have h3':fn.name≠ "runtime.NumGoroutine" :=by simpa using h3
 have h2':fn.body≠none:=by intro e;rw [e] at h2;cases h2
 simp [callFunc,h1,h2',h3']
theorem ID{f:FuncId}{xs ys:List AV}{vs:List Value}{ts:List TypeId}{x:AV}(h:ad C st a w σ)(hl:xs.length=vs.length)(hx:∀ (i:Nat)(x:AV),xs[i]? =some x→∃ n,SR C w σ st a n x (vs[i]?.getD undef))
  (hys:st.du C.E.dp xs=some (ys,ts)) (hc:(∀ y∈ys,y.pure=true)→lH C.P f ys x) (hp:x.pure=true) (ho:(ts.isEmpty||x.off ts)=true)
  (hrun:gZ C.P f→(Go.execOp a.eval o).run C.P w= .ok (.enter f vs.toArray) w):cX C o d a w σ st x:=by
 obtain ⟨B,hyl,hB,hyp,hyv⟩:=h.Ks xs vs ys ts hl hx hys
 obtain ⟨hb,hcall⟩:=hc hyp
 intro K Q hK
 unfold Oper.wp
 rw [hrun hb,Oper.upon_enter]
 have hlt:∀ b,B b→b<w.heap.size:=fun b hb=>by
  obtain ⟨⟨l,hl⟩,_⟩:=hB b hb
  exact h.own b l hl
 refine (hcall w (fun b=>σ.I b∨B b) σ.κ vs.toArray ⟨(h.new _ (Nat.le_refl _)).2,h.lay.aH (fun _ h=>.inl h) fun _ _=>rfl⟩ (fun b hb=>hb.elim (fun h1=>(h.ba b h1).1) (hlt b)) (by simpa using hyl.symm) (fun i y hi=>?_)).mono ?_
 ·have:=hyv i y hi
  simpa [Array.getD_eq_getD_getElem?] using this
 ·rintro e w' ⟨v,I',rfl,hv,hsize,hold,hup,hdn,hlt',hio⟩
  refine hK v w' {σ with I:=fun b=>I' b∧¬B b} ?_
  have hin:∀ b,σ.I b→¬B b:=fun b hb hbb=>by
   obtain ⟨⟨l,hl⟩,_⟩:=hB b hbb
   have:=(h.ba b hb).2
   rw [hl] at this;cases this
  have hsame:fj C w σ w' {σ with I:=fun b=>I' b∧¬B b} none:=
   ⟨fun b l hb _=>⟨hold b (h.own b l hb),hb⟩,fun b hb=>hold b (h.ba b hb).1,fun b hb=>⟨hup b (.inl hb),hin b hb⟩,rfl,hsize,fun b l hb=>Nat.lt_of_lt_of_le (h.own b l hb) hsize,fun b hb=>⟨hlt' b hb.1,by
    rcases hdn b hb.1 with h1 | h1
    ·rcases h1 with h1 | h1
     ·exact (h.ba b h1).2
     ·exact absurd h1 hb.2
    ·show σ.ow b=none
     cases hq:σ.ow b with
     | none=>rfl
     | some l=>have:=h.own b l hq;omega⟩⟩
  refine ⟨⟨hsize,fun b hb _=>hold b hb,hsame.up,hsame.ba,fun b hb=>?_,fun _ _=>rfl,fun _ _ _=>rfl,hio⟩,h.same hsame,fun _ _=>iy ?_,fun _ _ _ _ e=>by subst e;cases hp⟩
  ·rcases hdn b hb.1 with h1 | h1
   ·rcases h1 with h1 | h1
    ·exact .inl h1
    ·exact absurd h1 hb.2
   ·exact .inr (h.new b h1).1
  ·by_cases hts:ts=[]
   ·subst hts
    have hnoB:∀ b,¬B b:=fun b hb=>by
     obtain ⟨_,_,_,_,_,hm,_⟩:=hB b hb
     cases hm
    exact hv.mono (fun b hb=>⟨hb,hnoB b⟩) (fun _ _=>rfl) (fun _ _=>rfl)
   ·have hoff:x.off ts=true:=by
     rcases Bool.or_eq_true_iff.1 ho with h1 | h1
     ·exact absurd (List.isEmpty_iff.1 h1) hts
     ·exact h1
    exact hv.acx hts (fun b hb=>by
     obtain ⟨⟨l,hl⟩,cs,T,fz,h1,h2⟩:=hB b hb
     exact ⟨cs,T,fz,(hold b (h.own b l hl)).trans h1,h2⟩) hoff
theorem zj{m:Nat}{f:FuncId}{xs:List AV}{vs:List Value}(hR:gN C.P R)(hΩ:eX C.P Ω)(h:ad C st a w σ)(hl:xs.length=vs.length)(hx:∀ (i:Nat)(x:AV),xs[i]? =some x→∃ n,SR C w σ st a n x (vs[i]?.getD undef))
  (he:bk R Ω C.E st m f xs=some r) (hrun:gZ C.P f→(Go.execOp a.eval o).run C.P w= .ok (.enter f vs.toArray) w):cX C o d a w σ r.2 r.1:=by
 unfold bk at he
 split at he
 ·obtain ⟨⟨ys,ts⟩,hys,he1⟩:=Option.bind_eq_some_iff.1 he
  clear he
  obtain ⟨⟨q,hp'⟩,hq,he2⟩:=Option.bind_eq_some_iff.1 he1
  clear he1
  cases q with
  | new cs=>cases he2
  | row _ _=>cases he2
  | iq _ _ _ _ _ _=>cases he2
  | ret x=>?_
  simp only at he2
  split at he2
  ·rename_i hc
   simp only [Bool.and_eq_true] at hc
   obtain rfl:=Option.some.inj he2
   exact ID h hl hx hys (fun hyp=>hR.pure hq hyp) hc.1 hc.2 hrun
  ·cases he2
 ·obtain ⟨⟨ys,ts⟩,hys,he1⟩:=Option.bind_eq_some_iff.1 he
  clear he
  obtain ⟨x,hq,he2⟩:=Option.bind_eq_some_iff.1 he1
  clear he1
  split at he2
  ·rename_i hc
   simp only [Bool.and_eq_true] at hc
   obtain rfl:=Option.some.inj he2
   exact ID h hl hx hys (fun hyp=>hΩ.ret f ys x hq hyp hc.1) hc.1 hc.2 hrun
  ·cases he2
 ·cases he
theorem ad.wk(h:ad C st a w σ):∀ (ys:List Operand)(xs:List aO),ee ys xs=true→(xs.map st.ev).length=(ys.map a.eval).length∧
  ∀ (i:Nat)(x:AV),(xs.map st.ev)[i]? =some x→∃ n,SR C w σ st a n x ((ys.map a.eval)[i]?.getD undef)
 | [],[],_=>⟨rfl,fun i x hi=>by simp at hi⟩
 | y::ys,x::xs,hl=>by
  simp only [ee,Bool.and_eq_true] at hl
  obtain ⟨h1,h2⟩:=ad.wk h ys xs hl.2
  refine ⟨by simpa using h1,fun i z hi=>?_⟩
  cases i with
  | zero=>
   obtain rfl:st.ev x=z:=by simpa using hi
   cases x with
   | t n=>exact ⟨n,h.slot hl.1⟩
   | c z=>exact ⟨0,CB (.inl (cH z (ry hl.1))) (by simpa using h.su hl.1 (cH z (ry hl.1)))⟩
  | succ i=>simpa using h2 i z (by simpa using hi)
 | [],_::_,hl=>by simp [ee] at hl
 | _::_,[],hl=>by simp [ee] at hl
theorem NI{m:Nat}{f:FuncId}{xs:List aO}(hR:gN C.P R)(hΩ:eX C.P Ω)(h:ad C st a w σ)(hl:aV C.P (.ca m f xs) o.op=true)(he:execOp R Ω C.E st d (.ca m f xs)=some r) :
  cX C o d a w σ r.2 r.1:=by
 simp only [aV] at hl;split at hl
 ·rename_i c hop
  simp only [Bool.and_eq_true] at hl
  obtain ⟨h1,h2⟩:=hl
  split at h1
  ·rename_i f' hcal
   have hff:f=f':=by simpa using h1
   obtain ⟨h3,h4⟩:=h.wk _ _ h2
   simp only [execOp] at he
   refine zj hR hΩ h h3 h4 he fun hb=>?_
   have hev:a.eval (.func f')= .func (.func f') #[] #[]:=rfl
   have hcf:=dH hb (List.map a.eval c.args.toList).toArray w
   have ha:(List.map a.eval c.args.toList).toArray=c.args.map a.eval:=by apply Array.ext';simp
   rw [hff,ha] at hcf
   rw [hff,ha]
   unfold Go.execOp
   simp [hop,resolve,hcal,hev,Deferred.ofValue,invoke]
   exact hcf
  ·cases h1
 ·cases hl
theorem V3{m:Nat}{x:aO}{xs:List aO}(hR:gN C.P R)(hΩ:eX C.P Ω)(h:ad C st a w σ)(hl:aV C.P (.cf m x xs) o.op=true)(he:execOp R Ω C.E st d (.cf m x xs)=some r) :
  cX C o d a w σ r.2 r.1:=by
 simp only [aV] at hl;split at hl
 ·rename_i c hop
  simp only [Bool.and_eq_true] at hl
  obtain ⟨h1,h2⟩:=hl
  split at h1
  ·rename_i y hcal
   obtain ⟨h3,h4⟩:=h.wk _ _ h2
   simp only [execOp] at he
   split at he
   ·rename_i f caps hx
    have hv:=(hx▸h.dR h1 (by rw [hx];simp) (by rw [hx];rfl))
    split at he
    rotate_left
    ·cases he
    rename_i hg
    obtain ⟨vs,hvv,hcl,hcc⟩:=hv.GK hg
    refine zj (vs:=c.args.toList.map a.eval++vs.toList) hR hΩ h (by rw [List.length_append,List.length_append,h3,hcl];simp) (fun i z hi=>?_) he fun hb=>?_
    ·rw [List.getElem?_append] at hi ⊢
     rw [h3] at hi
     split
     ·rename_i hlt
      rw [if_pos hlt] at hi
      exact h4 i z hi
     ·rename_i hlt
      rw [if_neg hlt] at hi
      have:=hcc _ z hi
      exact ⟨0,iy (by simpa [Array.getD_eq_getD_getElem?] using this)⟩
    ·unfold Go.execOp
     have hcf:=dH hb (List.map a.eval c.args.toList++vs.toList).toArray w
     have ha:(List.map a.eval c.args.toList++vs.toList).toArray=c.args.map a.eval++vs:=by apply Array.ext';simp
     rw [ha] at hcf
     rw [ha]
     simp [hop,resolve,hcal,hvv,Deferred.ofValue,invoke]
     exact hcf
   ·cases he
  ·cases h1
 ·cases hl
theorem wZ(dp:Nat)(hp':HP)(d:Nat):aj (st.back dp hp').fr d=if jr (aj st.fr d)=true then .u else aj st.fr d:=by
 show aj (st.fr.map fun x=>(x.1,if jr x.2=true then .u else x.2)) d=_
 induction st.fr with
 | nil=>simp [aj,jr]
 | cons y fr ih=>
  simp only [List.map_cons,aj]
  split
  ·rfl
  ·exact ih
theorem u0{dp:Nat}{hp':HP} : ∀ {bx:List (Nat×List AV)}{d:Nat}{cs:List AV},aq (bC dp hp' bx) d=some cs→hp' ⟨dp,d⟩=some cs
 | [],d,cs,h=>by cases h
 | (d',cs')::r,d,cs,h=>by
  simp only [bC] at h
  split at h
  ·rename_i zs hz
   simp only [aq] at h
   split at h
   ·rename_i e
    subst e
    rw [hz,←h]
   ·exact u0 h
  ·exact u0 h
theorem u5{dp:Nat}{hp':HP}{d:Nat}{r:TypeId×List AV}(h:(st.back dp hp').rowAt dp (.s d)=some r):st.rowAt dp (.s d)=some r:=by
 simp only [St.rowAt,wZ] at h ⊢
 by_cases hb:jr (aj st.fr d)=true
 ·rw [if_pos hb] at h;cases h
 ·rw [if_neg hb] at h;exact h
theorem dT.zk{P:Program}{W W':Nat→Prop}{w:World}{σ σ':Sp}{L:cQ}{wr wr':Prop}{t:TypeId}{es:List AV}{g cap:Nat}{cs:Array Value}(h:dT P W w σ L wr t es g cap cs)(how:σ'.ow g=some L)(hI:∀ b,σ.I b→σ'.I b)
  (hw:wr'→W' g):dT P W' w σ' L wr' t es g cap cs:=
 ⟨how,hw,h.hh,h.pos,h.nc,h.ecap,h.max,h.size,h.pure,h.one,fun j e m c he hc=>(h.cell j e m c he hc).wi hI (fun _ _=>rfl) (iQ (h.pure e (List.mem_of_getElem? he)) c (List.mem_of_getElem? hc)),h.base⟩
theorem e9.zk{C C':Cx}{w:World}{σ σ':Sp}{k:Key}{cs:List AV}{vs:Array Value}{T:TypeId}(h:e9 C w σ k cs vs T)(hP:C'.P=C.P)(hk:σ'.κ k=σ.κ k)(how:∀ b l,σ.ow b=some l→(l= .box k∨∃ off,l= .rowC k off)→σ'.ow b=some l)
  (hI:∀ b,σ.I b→σ'.I b) (hm:C.E.ro=false) (hW:∀ b l,σ.ow b=some l→(l= .box k∨∃ off,l= .rowC k off)→C.W b→C'.W b) (hd:∀ c∈cs,∀ k',c.bb k'=false→σ'.κ k'=σ.κ k') (hnw:∀ c∈cs,∀ g t x,c≠.w g t x):e9 C' w σ' k cs vs T:=by
 have hmine:∀ off,(Pl.c k off).fK C.E=true:=fun off=>by simp [Pl.fK,hm]
 refine ⟨by rw [hk];exact h.hh,h.size,by rw [hk];exact how _ _ h.ow (.inl rfl),fun _=>by rw [hk];exact hW _ _ h.ow (.inl rfl) (h.wr (hmine 0)),h.one,fun off c hc=>?_,h.ty,by rw [hk];exact h.kb⟩
 have hcell:=h.cell off c hc
 have hd':=hd c (List.mem_of_getElem? hc)
 have hnw':=hnw c (List.mem_of_getElem? hc)
 cases c with
 | o t es=>
  rcases hcell with h1 | ⟨g,cap,cs',hv,hr⟩
  ·exact .inl h1
  ·refine .inr ⟨g,cap,cs',hv,?_⟩
   rw [hP]
   exact hr.zk (how _ _ hr.ow (.inr ⟨off,rfl⟩)) hI fun _=>hW _ _ hr.ow (.inr ⟨off,rfl⟩) (hr.wr (hmine off))
 | w g t x=>exact absurd rfl (hnw' g t x)
 | bp t k' u=>exact ⟨hcell.1,by rw [hk];exact hcell.2⟩
 | _=>exact VR.mono hcell hI (fun _ _=>rfl) hd'
theorem mW{n:Nat}{c:AV}(h:c.deep n=true):∀ g t x,c≠.w g t x:=fun g t x e=>by subst e;cases h
theorem RT{I:Nat→Prop}{κ:Key→Nat}{w:World}{n:Nat}{x:AV}{v:Value}(h:VR w I κ x v)(hd:x.deep n=true){k:Key}(hk:x.bb k=false):k.dp≤n:=by
 apply Classical.byContradiction
 intro hn
 have:=FT (dp:=k.dp) (s:=k.d) (by omega) x h hd
 rw [this] at hk;cases hk
theorem e9.QX{C:Cx}{w:World}{σ:Sp}{k:Key}{cs:List AV}{vs:Array Value}{T:TypeId}{n:Nat}(h:e9 C w σ k cs vs T)(hd:∀ c∈cs,c.deep n=true):∀ c∈cs,∀ k',c.bb k'=false→k'.dp≤n:=by
 intro c hc k' hk'
 obtain ⟨off,ho⟩:=List.mem_iff_getElem?.1 hc
 have hcell:=h.cell off c ho
 have hdc:=hd c hc
 cases c with
 | o t es=>cases hk'
 | r _=>cases hcell
 | v _ _ _=>cases hcell
 | q _ _ _ _=>cases hcell
 | u=>cases hk'
 | w _ _ _=>cases hdc
 | bp t k2 u=>
  have h2:k2.dp≤n:=by simpa [AV.deep] using hdc
  have h3:k2=k':=by simpa [AV.bb] using hk'
  exact h3▸h2
 | _=>exact RT hcell hdc hk'
def Wc(C:Cx)(σ:Sp):Nat→Prop:=fun b=>(C.W b∧σ.ow b≠some (.mark C.E.dp))∧∀ d,σ.ow b≠some (.rowS C.E.dp d)∧σ.ow b≠some (.grp C.E.dp d)
theorem ad.PZ(h:ad C st a w σ)(hro:C.E.ro=false)(hdp:∀ d cs,aq st.bx d=some cs→∀ c∈cs,c.deep C.E.dp=true):s9 C.P (Wc C σ) (C.E.dp+1) (fun k=>st.box C.E.dp k) w σ:=by
 refine ⟨fun k cs hk hkd=>?_,fun k cs hk hkd=>?_,h.own,h.ba,h.lay⟩
 ·obtain ⟨vs',T,hB⟩:=h.bx k cs hk
  refine ⟨vs',T,hB.zk rfl rfl (fun _ _ h _=>h) (fun _ h=>h) hro (fun b l hl hor hW=>⟨⟨hW,fun e=>(by rw [hl] at e;rcases hor with rfl | ⟨_,rfl⟩<;>cases e)⟩,fun d=>⟨fun e=>(by rw [hl] at e;rcases hor with rfl | ⟨_,rfl⟩<;>cases e),fun e=>(by rw [hl] at e;rcases hor with rfl | ⟨_,rfl⟩<;>cases e)⟩⟩) (fun _ _ _ _=>rfl) fun c hc=>?_⟩
  by_cases hkk:k.dp=C.E.dp
  ·simp only [St.box,hkk,if_true] at hk
   exact mW (hdp _ _ hk c hc)
  ·simp only [St.box,if_neg hkk] at hk
   exact mW ((h.hpd k cs hkk hk).2 c hc)
 ·by_cases hkk:k.dp=C.E.dp
  ·refine ⟨by omega,?_⟩
   simp only [St.box,hkk,if_true] at hk
   rw [hkk]
   exact hdp _ _ hk
  ·simp only [St.box,if_neg hkk] at hk
   obtain ⟨h1,h2⟩:=h.hpd k cs hkk hk
   exact ⟨by omega,h2⟩
theorem ad.called{w':World}{σ1:Sp}{hp':HP}(h:ad C st a w σ)(hst:bN (oQ C.P (Wc C σ) (C.E.dp+1)) w σ w' σ1)(hH:s9 C.P (Wc C σ) (C.E.dp+1) hp' w' σ1) :
  bN C w σ w' {σ1 with κ:=σ.κ}∧ad C (st.back C.E.dp hp') a w' {σ1 with κ:=σ.κ}:=by
 have hk1:∀ k:Key,k.dp≤C.E.dp→σ1.κ k=σ.κ k:=fun k hk=>hst.kap k (show k.dp<C.E.dp+1 by omega)
 have hnW:∀ b,¬C.W b→¬((C.W b∧σ.ow b≠some (.mark C.E.dp))∧∀ d,σ.ow b≠some (.rowS C.E.dp d)∧σ.ow b≠some (.grp C.E.dp d)):=fun b hb hb'=>hb hb'.1.1
 have hrowS:∀ g d,σ.ow g=some (.rowS C.E.dp d)→w'.heap[g]? =w.heap[g]? ∧σ1.ow g=some (.rowS C.E.dp d):=fun g d hg=>
  have hn:¬((C.W g∧σ.ow g≠some (.mark C.E.dp))∧∀ d,σ.ow g≠some (.rowS C.E.dp d)∧σ.ow g≠some (.grp C.E.dp d)):=fun hh=>(hh.2 d).1 hg
  ⟨hst.aH g (h.own g _ hg) hn,(hst.ow g (h.own g _ hg) hn).trans hg⟩
 have hgrp:∀ g d,σ.ow g=some (.grp C.E.dp d)→w'.heap[g]? =w.heap[g]? ∧σ1.ow g=some (.grp C.E.dp d):=fun g d hg=>
  have hn:¬((C.W g∧σ.ow g≠some (.mark C.E.dp))∧∀ d,σ.ow g≠some (.rowS C.E.dp d)∧σ.ow g≠some (.grp C.E.dp d)):=fun hh=>(hh.2 d).2 hg
  ⟨hst.aH g (h.own g _ hg) hn,(hst.ow g (h.own g _ hg) hn).trans hg⟩
 refine ⟨⟨hst.size,fun b hb hW=>hst.aH b hb (hnW b hW),hst.up,hst.ba,fun b hb=>(hst.dn b hb).imp id fun h=>h.1.1,fun _ _=>rfl,fun b hb hW=>hst.ow b hb (hnW b hW),hst.io⟩,?_⟩
 have hmk:Marks C a.defers w' {σ1 with κ:=σ.κ}:=by
  obtain ⟨Ds,h0,h1,h2⟩:=h.defers
  refine ⟨Ds,h0,h1,fun D hD=>?_⟩
  ·obtain ⟨h2,h3,h4⟩:=h2 D hD
   have hn:¬((C.W D∧σ.ow D≠some (.mark C.E.dp))∧∀ d,σ.ow D≠some (.rowS C.E.dp d)∧σ.ow D≠some (.grp C.E.dp d)):=fun hh=>hh.1.2 h2
   exact ⟨(hst.ow D (h.own D _ h2) hn).trans h2,h3,(hst.aH D (h.own D _ h2) hn).trans h4⟩
 refine ⟨h.size,hmk,fun d=>?_,fun k cs hk=>?_,fun k cs hne hk=>?_,hH.own,hH.ba,fun b hb=>h.new b (Nat.le_trans hst.size hb),hH.lay⟩
 ·rw [wZ]
  split
  ·exact VR.u _
  ·rename_i hb
   have hx0:=h.fr d
   generalize aj st.fr d=y at hx0 hb
   show SR C w' {σ1 with κ:=σ.κ} _ a d y _
   cases y with
   | o t es=>exact OwnAt.aH (C:=C) hx0 (fun g hg=>hrowS g d hg) hst.up hst.ba
   | r pl=>
    cases pl with
    | c k off=>exact absurd rfl hb
    | s d'=>
     intro hs
     obtain ⟨r,hr⟩:=Option.isSome_iff_exists.1 hs
     exact hx0 (by rw [u5 hr];rfl)
   | v pl lo len=>
    cases pl with
    | c k off=>exact absurd rfl hb
    | s d'=>
     intro t es ht hle
     exact hx0 t es (u5 ht) hle
   | q pl i sz off=>
    cases pl with
    | c k off=>exact absurd rfl hb
    | s d'=>
     intro t es ht hle
     exact hx0 t es (u5 ht) hle
   | w g t x=>exact nT.aH hx0 (fun b hb=>hgrp b g hb) fun _ h=>h
   | ag cs' rs=>exact uv.to hx0 (fun c _ v hv=>hv.mono hst.up hst.ba fun _ _=>rfl) (fun q _ hr=>by
     obtain ⟨r,hr⟩:=Option.isSome_iff_exists.1 hr
     exact ⟨by rw [u5 hr];rfl,rfl⟩)
   | _=>exact VR.mono hx0 hst.up hst.ba fun _ _=>rfl
 ·have hkp:hp' k=some cs∧k.dp≤C.E.dp:=by
   by_cases hkk:k.dp=C.E.dp
   ·simp only [St.box,hkk,if_true] at hk
    have:=u0 hk
    refine ⟨?_,by omega⟩
    rw [←hkk] at this
    exact this
   ·simp only [St.box,if_neg hkk,St.back] at hk
    split at hk
    ·exact ⟨hk,by omega⟩
    ·cases hk
  obtain ⟨vs',T,hB⟩:=hH.bx k cs hkp.1 (by omega)
  have hdeep:=(hH.deep k cs hkp.1 (by omega)).2
  exact ⟨vs',T,hB.zk rfl (hk1 k hkp.2).symm (fun _ _ h _=>h) (fun _ h=>h) rfl (fun b l _ _ hW=>hW.1.1) (fun c hc k' hk'=>(hk1 k' (Nat.le_trans (hB.QX hdeep c hc k' hk') hkp.2)).symm) fun c hc=>mW (hdeep c hc)⟩
 ·simp only [St.back] at hk
  split at hk
  ·rename_i hlt
   exact ⟨hlt,(hH.deep k cs hk (by omega)).2⟩
  ·cases hk
theorem NJ{f:FuncId}{xs:List AV}{vs:List Value}{x:AV}{hp':HP}(hro:C.E.ro=false)(h:ad C st a w σ)(hl:xs.length=vs.length)(hx:∀ (i:Nat)(x:AV),xs[i]? =some x→∃ n,SR C w σ st a n x (vs[i]?.getD undef))
  (hcp:∀ x∈xs,x.copy=true) (hdp:∀ d cs,aq st.bx d=some cs→∀ c∈cs,c.deep C.E.dp=true) (hc:vi C.P (C.E.dp+1) f xs (fun k=>st.box C.E.dp k) x hp')
  (hrun:gZ C.P f→(Go.execOp a.eval o).run C.P w= .ok (.enter f vs.toArray) w):cX C o d a w σ (st.back C.E.dp hp') x:=by
 obtain ⟨hpx,hb,hcall⟩:=hc
 intro K Q hK
 unfold Oper.wp
 rw [hrun hb,Oper.upon_enter]
 refine (hcall (Wc C σ) w σ vs.toArray (fun b hb=>⟨⟨⟨(h.new b hb).1,fun e=>absurd (h.own b _ e) (Nat.not_lt.2 hb)⟩,fun d=>⟨fun e=>?_,fun e=>?_⟩⟩,(h.new b hb).2⟩) (h.PZ hro hdp) (by simpa using hl.symm) (fun i y hi=>?_)).mono ?_
 ·have:=h.own b _ e;omega
 ·have:=h.own b _ e;omega
 ·obtain ⟨n,hn⟩:=hx i y hi
  have:=hn.xu (hcp y (List.mem_of_getElem? hi))
  simpa [Array.getD_eq_getD_getElem?] using this
 ·rintro e w' ⟨v,σ1,rfl,hv,hst,hH⟩
  obtain ⟨h1,h2⟩:=h.called hst hH
  exact hK v w' {σ1 with κ:=σ.κ} ⟨h1,h2,fun _ _=>iy (hv.wi (fun _ h=>h) (fun _ _=>rfl) hpx),fun _ _ _ _ e=>by subst e;cases hpx⟩
noncomputable def lI(W:Nat→Prop)(σ:Sp)(kk:Key)(k':Key):Nat→Option cQ:=fun b=>open Classical in match σ.ow b with
 | some (.box k)=>if k=kk∧W b then some (.box k') else some (.box k)
 | some (.rowC k off)=>if k=kk∧W b then some (.rowC k' off) else some (.rowC k off)
 | x=>x
theorem JA{W:Nat→Prop}{σ:Sp}{kk k':Key}{b:Nat}{l:cQ}(h:σ.ow b=some l)(hd:l.dpt≠kk.dp):lI W σ kk k' b=some l:=by
 unfold lI
 rw [h]
 cases l with
 | box k=>simp only;rw [if_neg (fun e=>hd (by rw [←e.1];rfl))]
 | rowS dp d=>rfl
 | grp dp g=>rfl
 | mark dp=>rfl
 | rowC k off=>simp only;rw [if_neg (fun e=>hd (by rw [←e.1];rfl))]
theorem LP{W:Nat→Prop}{σ:Sp}{kk k':Key}{b:Nat}(h:¬W b):lI W σ kk k' b=σ.ow b:=by
 unfold lI
 cases hb:σ.ow b with
 | none=>rfl
 | some l=>cases l<;>simp [h]
theorem JB{W:Nat→Prop}{σ:Sp}{kk k':Key}{b:Nat}{l:cQ}(h:lI W σ kk k' b=some l):∃ l',σ.ow b=some l':=by
 unfold lI at h
 cases hb:σ.ow b with
 | none=>rw [hb] at h;cases h
 | some l'=>exact ⟨l',rfl⟩
theorem JC{W:Nat→Prop}{σ:Sp}{kk k':Key}{b:Nat}(h:σ.ow b=none):lI W σ kk k' b=none:=by
 unfold lI;rw [h]
theorem NK{f:FuncId}{xs:List AV}{vs:List Value}{cs:List AV}{hp':HP}{dd:Nat}(h:ad C st a w σ)(hl:xs.length=vs.length)(hx:∀ (i:Nat)(x:AV),xs[i]? =some x→∃ n,SR C w σ st a n x (vs[i]?.getD undef))
  (hcp:∀ x∈xs,x.pure=true) (hc:E2 C.P (C.E.dp+1) f xs (fun _=>none) cs hp') (hd6:dd<1000000) (hfr:∀ d',(aj st.fr d').bb ⟨C.E.dp,dd⟩=true) (hbx:∀ d' cs',aq st.bx d'=some cs'→∀ c∈cs',c.bb ⟨C.E.dp,dd⟩=true)
  (hrun:gZ C.P f→(Go.execOp a.eval o).run C.P w= .ok (.enter f vs.toArray) w):cX C o d a w σ {st with bx:=(dd,cs)::st.bx} (.p ⟨C.E.dp,dd⟩ 0):=by
 obtain ⟨hcs,hb,hcall⟩:=hc
 intro K Q hK
 unfold Oper.wp
 rw [hrun hb,Oper.upon_enter]
 refine (hcall (fun b=>w.heap.size≤b) w σ vs.toArray (fun b hb=>⟨hb,(h.new b hb).2⟩) ⟨fun k cs hk=>(by cases hk),fun k cs hk=>(by cases hk),h.own,h.ba,h.lay⟩ (by simpa using hl.symm) (fun i y hi=>?_)).mono ?_
 ·obtain ⟨n,hn⟩:=hx i y hi
  have:=hn.xu (cH y (hcp y (List.mem_of_getElem? hi)))
  simpa [Array.getD_eq_getD_getElem?] using this
 ·rintro e w' ⟨σ1,kk,vs',T,rfl,hkk,hB,hst,hH⟩
  have hold:∀ b,b<w.heap.size→w'.heap[b]? =w.heap[b]? :=fun b hb=>hst.aH b hb (Nat.not_le.2 hb)
  have hsame:fj C w σ w' {σ1 with κ:=σ.κ} none:=
   ⟨fun b l hb _=>⟨hold b (h.own b l hb),(hst.ow b (h.own b l hb) (Nat.not_le.2 (h.own b l hb))).trans hb⟩,fun b hb=>hold b (h.ba b hb).1,hst.up,rfl,hst.size,hH.own,hH.ba⟩
  have h2:ad C st a w' {σ1 with κ:=σ.κ}:=h.same hsame
  have hmine:∀ off,(Pl.c kk off).fK (oQ C.P (fun b=>w.heap.size≤b) (C.E.dp+1)).E=true:=fun off=>by simp [Pl.fK,oQ]
  have hWg:w.heap.size≤σ1.κ kk:=hB.wr (hmine 0)
  have hadopt:=h2.LO (d:=dd) (cs:=cs) (vs:=vs') (T:=T) (g:=σ1.κ kk) (ow':=lI (fun b=>w.heap.size≤b) σ1 kk ⟨C.E.dp,dd⟩)
   (fun b l hb hd=>JA hb (by rw [hkk];omega)) (fun b l hb=>by obtain ⟨l',h3⟩:=JB hb;exact hH.own b l' h3) (fun b hb=>JC (hH.ba b hb).2)
   hB.hh ⟨fun hq=>absurd hq (Nat.not_le.2 hd6),hB.kb.2⟩ hB.size (by unfold lI;rw [hB.ow];simp [hWg]) (h.new _ hWg).1 hB.one (fun off c hc=>by
    have hcell:=hB.cell off c hc
    have hnew:=List.all_eq_true.1 hcs c (List.mem_of_getElem? hc)
    unfold CR at hcell
    split
    ·rcases hcell with h3 | ⟨g,cap,cs',hv,hr⟩
     ·exact .inl h3
     ·have hw:w.heap.size≤g:=hr.wr (hmine off)
      refine .inr ⟨g,cap,cs',hv,⟨?_,fun _=>(h.new _ hw).1,hr.hh,hr.pos,hr.nc,hr.ecap,hr.max,hr.size,hr.pure,hr.one,fun j e m c he hc=>(hr.cell j e m c he hc).wi (fun _ h=>h) (fun _ _=>rfl) (iQ (hr.pure e (List.mem_of_getElem? he)) c (List.mem_of_getElem? hc)),hr.base⟩⟩
      show lI _ σ1 kk ⟨C.E.dp,dd⟩ g=_
      unfold lI;rw [hr.ow];simp [hw]
    ·rename_i hne
     have hp:c.pure=true:=by
      cases c with
      | o t es=>exact absurd rfl (hne _ _)
      | _=>exact hnew
     refine ⟨hp,?_⟩
     split at hcell
     ·exact absurd rfl (hne _ _)
     ·cases hp
     ·cases hp
     ·exact hcell.wi (fun _ h=>h) (fun _ _=>rfl) hp) hfr hbx
  refine hK _ w' ⟨fun k=>if k=⟨C.E.dp,dd⟩ then σ1.κ kk else σ.κ k,lI (fun b=>w.heap.size≤b) σ1 kk ⟨C.E.dp,dd⟩,σ1.I⟩ ⟨⟨hst.size,fun b hb _=>hold b hb,hst.up,hst.ba,fun b hb=>(hst.dn b hb).imp id fun h3=>(h.new b h3).1,fun k hk=>?_,fun b hb hW=>?_,hst.io⟩,hadopt,fun _ _=>iy (LL (by simp)),fun _ _ _ _ e=>by cases e⟩
  ·show (if k=⟨C.E.dp,dd⟩ then _ else _)=_
   rw [if_neg (fun e=>by subst e;exact Nat.lt_irrefl _ hk)]
  ·show lI _ _ _ _ b=_
   rw [LP (Nat.not_le.2 hb)]
   exact hst.ow b hb (Nat.not_le.2 hb)
theorem e9.ro{C:Cx}{w:World}{σ:Sp}{k:Key}{cs:List AV}{vs:Array Value}{T:TypeId}{dp:Nat}(h:e9 C w σ k cs vs T)(hk:k.dp<dp)(hnw:∀ c∈cs,∀ g t x,c≠.w g t x):e9 (QV C.P w dp) w σ k cs vs T:=by
 have hmine:∀ off,¬(Pl.c k off).fK (QV C.P w dp).E=true:=fun off=>by
  intro hm
  have:k.dp=dp:=by simp [Pl.fK,QV] at hm;exact of_decide_eq_true hm
  omega
 refine ⟨h.hh,h.size,h.ow,fun hm=>absurd hm (hmine 0),h.one,fun off c hc=>?_,h.ty,h.kb⟩
 have hcell:=h.cell off c hc
 have hnw':=hnw c (List.mem_of_getElem? hc)
 cases c with
 | o t es=>
  rcases hcell with h1 | ⟨g,cap,cs',hv,hr⟩
  ·exact .inl h1
  ·exact .inr ⟨g,cap,cs',hv,hr.zk hr.ow (fun _ h=>h) fun hm=>absurd hm (hmine off)⟩
 | w g t x=>exact absurd rfl (hnw' g t x)
 | _=>exact hcell
theorem NL{f:FuncId}{xs:List AV}{vs:List Value}{x:AV}{h0:HP}(h:ad C st a w σ)(hl:xs.length=vs.length)(hx:∀ (i:Nat)(x:AV),xs[i]? =some x→∃ n,SR C w σ st a n x (vs[i]?.getD undef))
  (hcp:∀ x∈xs,x.copy=true) (hle:∀ k cs,h0 k=some cs→st.box C.E.dp k=some cs) (hdp:∀ k cs,h0 k=some cs→k.dp=C.E.dp→∀ c∈cs,c.deep C.E.dp=true) (hc:E3 C.P (C.E.dp+1) f xs h0 x)
  (hrun:gZ C.P f→(Go.execOp a.eval o).run C.P w= .ok (.enter f vs.toArray) w):cX C o d a w σ st x:=by
 obtain ⟨hpx,hb,hcall⟩:=hc
 have hk:∀ k cs,h0 k=some cs→k.dp<C.E.dp+1∧∀ c∈cs,c.deep k.dp=true:=by
  intro k cs hk
  by_cases hkk:k.dp=C.E.dp
  ·exact ⟨by omega,by rw [hkk];exact hdp k cs hk hkk⟩
  ·have:=hle k cs hk
   simp only [St.box,if_neg hkk] at this
   obtain ⟨h1,h2⟩:=h.hpd k cs hkk this
   exact ⟨by omega,h2⟩
 intro K Q hK
 unfold Oper.wp
 rw [hrun hb,Oper.upon_enter]
 refine (hcall w σ vs.toArray (h.new _ (Nat.le_refl _)).2 ⟨fun k cs hk' hkd=>?_,fun k cs hk' _=>hk k cs hk',h.own,h.ba,h.lay⟩ (by simpa using hl.symm) (fun i y hi=>?_)).mono ?_
 ·obtain ⟨vs',T,hB⟩:=h.bx k cs (hle k cs hk')
  exact ⟨vs',T,hB.ro hkd fun c hc=>mW ((hk k cs hk').2 c hc)⟩
 ·obtain ⟨n,hn⟩:=hx i y hi
  have:=hn.xu (hcp y (List.mem_of_getElem? hi))
  simpa [Array.getD_eq_getD_getElem?] using this
 ·rintro e w' ⟨v,I',rfl,hv,hsize,hold,hup,hdn,hlt',hio⟩
  have hsame:fj C w σ w' {σ with I:=I'} none:=
   ⟨fun b l hb _=>⟨hold b (h.own b l hb),hb⟩,fun b hb=>hold b (h.ba b hb).1,hup,rfl,hsize,fun b l hb=>Nat.lt_of_lt_of_le (h.own b l hb) hsize,fun b hb=>⟨hlt' b hb,by
    rcases hdn b hb with h1 | h1
    ·exact (h.ba b h1).2
    ·show σ.ow b=none
     cases hq:σ.ow b with
     | none=>rfl
     | some l=>have:=h.own b l hq;omega⟩⟩
  refine hK v w' {σ with I:=I'} ⟨⟨hsize,fun b hb _=>hold b hb,hup,fun b hb=>hold b (h.ba b hb).1,fun b hb=>(hdn b hb).imp id fun h1=>(h.new b h1).1,fun _ _=>rfl,fun _ _ _=>rfl,hio⟩,h.same hsame,fun _ _=>iy hv,fun _ _ _ _ e=>by subst e;cases hpx⟩
theorem BN{v:St}{f:FuncId}{xs:List AV}{vs:List Value}(hR:gN C.P R)(h:ad C st a w σ)(hbx:∀ k cs,v.box C.E.dp k=some cs→st.box C.E.dp k=some cs)(hl:xs.length=vs.length)(hx:∀ (i:Nat)(x:AV),xs[i]? =some x→∃ n,SR C w σ st a n x (vs[i]?.getD undef))
  (he:ie R C.E v f xs=some r) (hrun:gZ C.P f→(Go.execOp a.eval o).run C.P w= .ok (.enter f vs.toArray) w):r.2=v∧cX C o d a w σ st r.1:=by
 unfold ie at he
 split at he
 ·rename_i hc
  simp only [Bool.and_eq_true] at hc
  obtain ⟨⟨q,hp'⟩,hq,he2⟩:=Option.bind_eq_some_iff.1 he
  clear he
  cases q with
  | new cs=>cases he2
  | row _ _=>cases he2
  | iq _ _ _ _ _ _=>cases he2
  | ret x=>?_
  simp only at he2
  split at he2
  ·rename_i hp
   obtain rfl:=Option.some.inj he2
   have hcp':∀ x∈xs,x.copy=true:=fun x hx=>List.all_eq_true.1 hc.1 x hx
   refine ⟨rfl,NL h hl hx hcp' hbx (fun k cs hk hkd c hcm=>?_) (hR.ro (C.E.dp+1) f xs _ x hp' hq hcp') hrun⟩
   simp only [St.box,hkd,if_true] at hk
   exact kZ (lS (p:=fun y=>AV.bP C.E.dp y) _ hc.2 _ cs hk) c hcm
  ·cases he2
 ·cases he
theorem Kt{v:St}{f:FuncId}{xs:List aO}(hR:gN C.P R)(h:ad C st a w σ)(hev:∀ x,v.ev x≠.u→st.ev x=v.ev x)(hbx:∀ k cs,v.box C.E.dp k=some cs→st.box C.E.dp k=some cs)(hl:aV C.P (.c3 f xs) o.op=true)(he:execOp R Ω C.E v d (.c3 f xs)=some r) :
  r.2=v∧cX C o d a w σ st r.1:=by
 simp only [aV] at hl;split at hl
 ·rename_i c hop
  simp only [Bool.and_eq_true] at hl
  obtain ⟨h1,h2⟩:=hl
  split at h1
  ·rename_i f' hcal
   have hff:f=f':=by simpa using h1
   obtain ⟨h3,h4⟩:=h.wk _ _ h2
   simp only [execOp] at he
   have hm:xs.map st.ev=xs.map v.ev:=by
    apply List.map_congr_left
    intro x hxm
    refine hev x fun e=>?_
    unfold ie at he
    split at he
    ·rename_i hc
     simp only [Bool.and_eq_true] at hc
     have:=List.all_eq_true.1 hc.1 _ (List.mem_map_of_mem hxm)
     rw [e] at this;cases this
    ·cases he
   rw [hm] at h3 h4
   refine BN hR h hbx h3 h4 he fun hb=>?_
   have hev:a.eval (.func f')= .func (.func f') #[] #[]:=rfl
   have hcf:=dH hb (List.map a.eval c.args.toList).toArray w
   have ha:(List.map a.eval c.args.toList).toArray=c.args.map a.eval:=by apply Array.ext';simp
   rw [hff,ha] at hcf
   rw [hff,ha]
   unfold Go.execOp
   simp [hop,resolve,hcal,hev,Deferred.ofValue,invoke]
   exact hcf
  ·cases h1
 ·cases hl
theorem FW:∀ l:List AV,l.all AV.copy=true→AV.kC l=true
 | [],_=>rfl
 | z::zs,h=>by
  simp only [List.all_cons,Bool.and_eq_true] at h
  simp only [AV.kC,Bool.and_eq_true]
  exact ⟨h.1,FW zs h.2⟩
theorem Ku{v:St}{x:aO}{xs:List aO}(hR:gN C.P R)(h:ad C st a w σ)(hev:∀ x,v.ev x≠.u→st.ev x=v.ev x)(hbx:∀ k cs,v.box C.E.dp k=some cs→st.box C.E.dp k=some cs)(hl:aV C.P (.d3 x xs) o.op=true)(he:execOp R Ω C.E v d (.d3 x xs)=some r) :
  r.2=v∧cX C o d a w σ st r.1:=by
 simp only [aV] at hl;split at hl
 ·rename_i c hop
  simp only [Bool.and_eq_true] at hl
  obtain ⟨h1,h2⟩:=hl
  split at h1
  ·rename_i y hcal
   obtain ⟨h3,h4⟩:=h.wk _ _ h2
   simp only [execOp] at he
   split at he
   ·rename_i f caps hx
    split at he
    rotate_left
    ·cases he
    rename_i hg
    have hx':st.ev x= .f f caps:=by rw [hev x (by rw [hx];simp),hx]
    have hm:xs.map st.ev=xs.map v.ev:=by
     apply List.map_congr_left
     intro z hzm
     refine hev z fun e=>?_
     unfold ie at he
     split at he
     ·rename_i hc
      simp only [Bool.and_eq_true] at hc
      have:=List.all_eq_true.1 hc.1 _ (List.mem_append_left _ (List.mem_map_of_mem hzm))
      rw [e] at this;cases this
     ·cases he
    rw [hm] at h3 h4
    have hcpf:AV.copy (.f f caps)=true:=by
     unfold ie at he
     split at he
     ·rename_i hc
      simp only [Bool.and_eq_true,List.all_append] at hc
      show AV.kC caps=true
      exact FW caps hc.1.2
     ·cases he
    have hv:=(hx'▸h.dR h1 (by rw [hx'];simp) (by rw [hx'];exact (by cases caps<;>rfl)))
    obtain ⟨vs,hvv,hcl,hcc⟩:=hv.GK hg
    refine BN (vs:=c.args.toList.map a.eval++vs.toList) hR h hbx (by rw [List.length_append,List.length_append,h3,hcl];simp) (fun i z hi=>?_) he fun hb=>?_
    ·rw [List.getElem?_append] at hi ⊢
     rw [h3] at hi
     split
     ·rename_i hlt
      rw [if_pos hlt] at hi
      exact h4 i z hi
     ·rename_i hlt
      rw [if_neg hlt] at hi
      have:=hcc _ z hi
      exact ⟨0,iy (by simpa [Array.getD_eq_getD_getElem?] using this)⟩
    ·unfold Go.execOp
     have hcf:=dH hb (List.map a.eval c.args.toList++vs.toList).toArray w
     have ha:(List.map a.eval c.args.toList++vs.toList).toArray=c.args.map a.eval++vs:=by apply Array.ext';simp
     rw [ha] at hcf
     rw [ha]
     simp [hop,resolve,hcal,hvv,Deferred.ofValue,invoke]
     exact hcf
   ·cases he
  ·cases h1
 ·cases hl
theorem Kv{f:FuncId}{xs:List aO}{cs:List AV}{hp':HP}{dd:Nat}(hR:gN C.P R)(h:ad C st a w σ)(hl:aV C.P (.ck f xs) o.op=true)(hp:AV.aK (xs.map st.ev)=true)
  (hq:R ⟨C.E.dp+1,false⟩ f (xs.map st.ev) (fun _=>none)=some (.new cs,hp')) (hd6:dd<1000000) (hfr:∀ d',(aj st.fr d').bb ⟨C.E.dp,dd⟩=true) (hbx:∀ d' cs',aq st.bx d'=some cs'→∀ c∈cs',c.bb ⟨C.E.dp,dd⟩=true) :
  cX C o d a w σ {st with bx:=(dd,cs)::st.bx} (.p ⟨C.E.dp,dd⟩ 0):=by
 simp only [aV] at hl;split at hl
 ·rename_i c hop
  simp only [Bool.and_eq_true] at hl
  obtain ⟨h1,h2⟩:=hl
  split at h1
  ·rename_i f' hcal
   have hff:f=f':=by simpa using h1
   obtain ⟨h3,h4⟩:=h.wk _ _ h2
   have hcp:∀ x∈xs.map st.ev,x.pure=true:=cT hp
   refine NK h h3 h4 hcp (hR.new (C.E.dp+1) f _ _ cs hp' hq fun x hx=>cH x (hcp x hx)) hd6 hfr hbx fun hb=>?_
   have hev:a.eval (.func f')= .func (.func f') #[] #[]:=rfl
   have hcf:=dH hb (List.map a.eval c.args.toList).toArray w
   have ha:(List.map a.eval c.args.toList).toArray=c.args.map a.eval:=by apply Array.ext';simp
   rw [hff,ha] at hcf
   rw [hff,ha]
   unfold Go.execOp
   simp [hop,resolve,hcal,hev,Deferred.ofValue,invoke]
   exact hcf
  ·cases h1
 ·cases hl
theorem V4{f:FuncId}{xs:List aO}(hR:gN C.P R)(h:ad C st a w σ)(hl:aV C.P (.ck f xs) o.op=true)(he:execOp R Ω C.E st d (.ck f xs)=some r):cX C o d a w σ r.2 r.1:=by
 simp only [execOp] at he
 obtain ⟨dd,hdd,he1⟩:=Option.bind_eq_some_iff.1 he
 unfold u7 at he1
 split at he1
 ·rename_i hp
  obtain ⟨⟨q,hp'⟩,hq,he2⟩:=Option.bind_eq_some_iff.1 he1
  cases q with
  | ret x=>cases he2
  | row _ _=>cases he2
  | iq _ _ _ _ _ _=>cases he2
  | new cs=>?_
  simp only at he2
  split at he2
  ·rename_i hno
   obtain rfl:=Option.some.inj he2
   simp only [Gs,fM,Bool.and_eq_true,decide_eq_true_eq] at hno
   exact Kv hR h hl hp hq hno.2.1.1.2 (lR rfl _ hno.2.1.2) (fun d' cs' hb c hm=>ja (lS _ hno.2.2 d' cs' hb) c hm)
  ·cases he2
 ·cases he1
theorem RU{w w':World}{I I':Nat→Prop}{κ κ':Key→Nat}{cs:List AV}{i n sz:Nat}{k k':Key}{v:Value}(hI:∀ b,I b→I' b)(hh:∀ b,I b→w'.heap[b]? =w.heap[b]?)(hk:κ' k'=κ k)(hp:AV.aK cs=true)(h:VR w I κ (.a (cs.set i (.sp k 0 n sz))) v):VR w' I' κ' (.a (cs.set i (.sp k' 0 n sz))) v:=by
 cases h with
 | a _ vs hl h1 hc=>
  have hg:∀ (m:Nat)(c:AV),(cs.set i (.sp k' 0 n sz))[m]? =some c→(i=m∧m<cs.length∧c= .sp k' 0 n sz)∨(i≠m∧cs[m]? =some c∧(cs.set i (.sp k 0 n sz))[m]? =some c):=by
   intro m c hm
   rw [List.getElem?_set] at hm
   by_cases he:i=m
   ·rw [if_pos he] at hm
    split at hm
    ·exact .inl ⟨he,by omega,(Option.some.inj hm).symm⟩
    ·cases hm
   ·rw [if_neg he] at hm
    exact .inr ⟨he,hm,by rw [List.getElem?_set,if_neg he];exact hm⟩
  refine .a _ vs (by simpa using hl) (fun c hm=>?_) (fun m c hm=>?_)
  ·obtain ⟨m,hm⟩:=List.mem_iff_getElem?.1 hm
   rcases hg m c hm with ⟨_,_,rfl⟩ | ⟨_,_,h3⟩
   ·rfl
   ·exact h1 c (List.mem_of_getElem? h3)
  ·rcases hg m c hm with ⟨rfl,hlt,rfl⟩ | ⟨_,h2,h3⟩
   ·obtain ⟨cap,q1,q2,q3⟩:=(hc i (.sp k 0 n sz) (by rw [List.getElem?_set,if_pos rfl,if_pos hlt])).Ip
    rw [q3,←hk]
    exact .sp k' 0 n sz cap q1 q2
   ·exact (hc m c h3).wi hI hh (cT hp c (List.mem_of_getElem? h2))
theorem NM{f:FuncId}{xs:List AV}{vs:List Value}{i n sz t:Nat}{cs bs:List AV}{dd:Nat}(h:ad C st a w σ)(hl:xs.length=vs.length)(hx:∀ (i:Nat)(x:AV),xs[i]? =some x→∃ n,SR C w σ st a n x (vs[i]?.getD undef))
  (hcp:∀ x∈xs,x.pure=true) (hc:E4 C.P 0 f xs i cs t n sz bs) (hd6:(dd - 1000000) / 1000=t) (hfr:∀ d',(aj st.fr d').bb ⟨C.E.dp,dd⟩=true) (hbx:∀ d' cs',aq st.bx d'=some cs'→∀ c∈cs',c.bb ⟨C.E.dp,dd⟩=true)
  (hrun:gZ C.P f→(Go.execOp a.eval o).run C.P w= .ok (.enter f vs.toArray) w):cX C o d a w σ {st with bx:=(dd,bs)::st.bx} (.a (cs.set i (.sp ⟨C.E.dp,dd⟩ 0 n sz))):=by
 obtain ⟨⟨hpc,hpb⟩,hb,hcall⟩:=hc
 intro K Q hK
 unfold Oper.wp
 rw [hrun hb,Oper.upon_enter]
 refine (hcall (fun b=>w.heap.size≤b) w ⟨σ.κ,fun _=>none,σ.I⟩ vs.toArray (fun b hb=>⟨hb,(h.new b hb).2⟩) ⟨fun k cs hk=>(by cases hk),fun k cs hk=>(by cases hk),fun b l hb=>(by cases hb),fun b hb=>⟨(h.ba b hb).1,rfl⟩,h.lay⟩ (by simpa using hl.symm) (fun i y hi=>?_)).mono ?_
 ·obtain ⟨n,hn⟩:=hx i y hi
  have:=hn.xu (cH y (hcp y (List.mem_of_getElem? hi)))
  simpa [Array.getD_eq_getD_getElem?] using this
 ·rintro e w' ⟨v,σ1,kk,vs',rfl,hkk,hB,hv,hst,hH⟩
  have hold:∀ b,b<w.heap.size→w'.heap[b]? =w.heap[b]? :=fun b hb=>hst.aH b hb (Nat.not_le.2 hb)
  have hWg:w.heap.size≤σ1.κ kk:=hB.wr (by simp [Pl.fK,oQ])
  have hglt:σ1.κ kk<w'.heap.size:=(Array.getElem?_eq_some_iff.1 hB.hh).1
  have hdn:∀ b,σ1.I b→b<w'.heap.size∧(if b<w.heap.size then σ.ow b else if b=σ1.κ kk then some (cQ.box ⟨C.E.dp,dd⟩) else none)=none:=fun b hb=>by
   refine ⟨(hH.ba b hb).1,?_⟩
   split
   ·rcases hst.dn b hb with h1 | h1
    ·exact (h.ba b h1).2
    ·have h2:w.heap.size≤b:=h1
     omega
   ·rw [if_neg]
    intro e
    have h1:=(hH.ba b hb).2
    rw [e,hB.ow] at h1;cases h1
  have hsame:fj C w σ w' ⟨σ.κ,fun b=>if b<w.heap.size then σ.ow b else none,σ1.I⟩ none:=by
   refine ⟨fun b l hb _=>⟨hold b (h.own b l hb),(if_pos (h.own b l hb)).trans hb⟩,fun b hb=>hold b (h.ba b hb).1,hst.up,rfl,hst.size,fun b l hb=>?_,fun b hb=>⟨(hdn b hb).1,?_⟩⟩
   ·by_cases hlt:b<w.heap.size
    ·exact Nat.lt_of_lt_of_le hlt hst.size
    ·simp only [if_neg hlt] at hb;cases hb
   ·have h1:=(hdn b hb).2
    by_cases hlt:b<w.heap.size
    ·simpa only [if_pos hlt] using h1
    ·exact if_neg hlt
  have h2:=h.same hsame
  have hadopt:=h2.LO (d:=dd) (cs:=bs) (vs:=vs') (T:=t) (g:=σ1.κ kk) (ow':=fun b=>if b<w.heap.size then σ.ow b else if b=σ1.κ kk then some (.box ⟨C.E.dp,dd⟩) else none)
   (fun b l hb hd=>by
    by_cases hlt:b<w.heap.size
    ·simpa only [if_pos hlt] using hb
    ·simp only [if_neg hlt] at hb;cases hb) (fun b l hb=>by
    by_cases hlt:b<w.heap.size
    ·exact Nat.lt_of_lt_of_le hlt hst.size
    ·simp only [if_neg hlt] at hb
     split at hb
     ·rename_i e;rw [e];exact hglt
     ·cases hb) (fun b hb=>(hdn b hb).2)
   hB.hh ⟨fun _=>hd6.symm,hB.kb.2⟩ hB.size (by simp only [if_neg (Nat.not_lt.2 hWg),if_true]) (h.new _ hWg).1 hB.one (fun off c hc=>by
    have hcell:=hB.cell off c hc
    have hp:=cT hpb c (List.mem_of_getElem? hc)
    unfold CR at hcell
    split
    ·cases hp
    ·rename_i hne
     refine ⟨hp,?_⟩
     split at hcell
     ·exact absurd rfl (hne _ _)
     ·cases hp
     ·cases hp
     ·exact hcell.wi (fun _ h=>h) (fun _ _=>rfl) hp) hfr hbx
  refine hK _ w' ⟨fun k=>if k=⟨C.E.dp,dd⟩ then σ1.κ kk else σ.κ k,_,σ1.I⟩ ⟨⟨hst.size,fun b hb _=>hold b hb,hst.up,hst.ba,fun b hb=>(hst.dn b hb).imp id fun h3=>(h.new b h3).1,fun k hk=>?_,fun b hb hW=>if_pos hb,hst.io⟩,hadopt,fun _ _=>iy (RU (fun _ h=>h) (fun _ _=>rfl) (by simp) hpc hv),fun _ _ _ _ e=>by cases e⟩
  show (if k=⟨C.E.dp,dd⟩ then _ else _)=_
  rw [if_neg (fun e=>by subst e;exact Nat.lt_irrefl _ hk)]
theorem V5{nd:Nat}{f:FuncId}{xs:List aO}(hR:gN C.P R)(hΩ:eX C.P Ω)(h:ad C st a w σ)(hl:aV C.P (.co nd f xs) o.op=true)(he:execOp R Ω C.E st d (.co nd f xs)=some r):cX C o d a w σ r.2 r.1:=by
 simp only [execOp] at he
 unfold A8 at he
 split at he
 ·rename_i hp
  obtain ⟨⟨q,hp'⟩,hq,he2⟩:=Option.bind_eq_some_iff.1 he
  cases q with
  | new _=>cases he2
  | row _ _=>cases he2
  | ret _=>exact NI (m:=0) hR hΩ h hl he2
  | iq i cs t n sz bs=>
   simp only at he2
   split at he2
   ·rename_i hno
    obtain rfl:=Option.some.inj he2
    simp only [tc,Bool.and_eq_true,decide_eq_true_eq] at hno
    simp only [aV] at hl;split at hl
    ·rename_i c hop
     simp only [Bool.and_eq_true] at hl
     obtain ⟨h1,h2⟩:=hl
     split at h1
     ·rename_i f' hcal
      have hff:f=f':=by simpa using h1
      obtain ⟨h3,h4⟩:=h.wk _ _ h2
      have hcp:∀ x∈xs.map st.ev,x.pure=true:=cT hp
      refine NM h h3 h4 hcp (hR.iq 0 f _ hp' i cs t n sz bs hq hcp) hno.1.1.2 (lR rfl _ hno.1.2) (fun d' cs' hb c hm=>ja (lS _ hno.2 d' cs' hb) c hm) fun hb=>?_
      have hev:a.eval (.func f')= .func (.func f') #[] #[]:=rfl
      have hcf:=dH hb (List.map a.eval c.args.toList).toArray w
      have ha:(List.map a.eval c.args.toList).toArray=c.args.map a.eval:=by apply Array.ext';simp
      rw [hff,ha] at hcf
      rw [hff,ha]
      unfold Go.execOp
      simp [hop,resolve,hcal,hev,Deferred.ofValue,invoke]
      exact hcf
     ·cases h1
    ·cases hl
   ·cases he2
 ·cases he
open Classical in
theorem V6{t:TypeId}{f:FuncId}{xs:List aO}(hΩ:eX C.P Ω)(h:ad C st a w σ)(hl:aV C.P (.cr t f xs) o.op=true)(he:execOp R Ω C.E st d (.cr t f xs)=some r):cX C o d a w σ r.2 r.1:=by
 simp only [aV] at hl;split at hl
 ·rename_i c hop
  simp only [Bool.and_eq_true] at hl
  obtain ⟨h1,h2⟩:=hl
  split at h1
  ·rename_i f' hcal
   have hff:f=f':=by simpa using h1
   obtain ⟨h3,h4⟩:=h.wk _ _ h2
   simp only [execOp] at he
   obtain ⟨dd,hdd,he1⟩:=Option.bind_eq_some_iff.1 he
   clear he
   unfold D7 at he1
   split at he1
   ·rename_i hp
    obtain ⟨x,hx,he2⟩:=Option.bind_eq_some_iff.1 he1
    clear he1
    split at he2
    ·split at he2
     ·rename_i t' htt
      subst htt
      obtain rfl:=Option.some.inj he2
      obtain ⟨hb,hpos,hcall⟩:=hΩ.row f _ _ hx (cT hp)
      have hrun:(Go.execOp a.eval o).run C.P w= .ok (.enter f (c.args.toList.map a.eval).toArray) w:=by
       have hev:a.eval (.func f')= .func (.func f') #[] #[]:=rfl
       have hcf:=dH hb (List.map a.eval c.args.toList).toArray w
       have ha:(List.map a.eval c.args.toList).toArray=c.args.map a.eval:=by apply Array.ext';simp
       rw [hff,ha] at hcf
       rw [hff,ha]
       unfold Go.execOp
       simp [hop,resolve,hcal,hev,Deferred.ofValue,invoke]
       exact hcf
      intro K Q hK
      unfold Oper.wp
      rw [hrun,Oper.upon_enter]
      refine (hcall w σ.I σ.κ _ (h.new _ (Nat.le_refl _)).2 (fun b hb=>(h.ba b hb).1) (by rw [List.size_toArray];exact h3.symm) (fun i y hi=>?_)).mono ?_
      ·obtain ⟨n,hn⟩:=h4 i y hi
       have:=hn.xu (cH _ (cT hp y (List.mem_of_getElem? hi)))
       simpa [Array.getD_eq_getD_getElem?] using this
      ·rintro e w' ⟨v,rfl,hv,hsize,hold,hio⟩
       rcases hv with rfl | ⟨g,cap,cs,rfl,hg,hh,hcap,hcs⟩
       ·have hsame:fj C w σ w' σ none:=⟨fun b l hb _=>⟨hold b (h.own b l hb),hb⟩,fun b hb=>hold b (h.ba b hb).1,fun _ h=>h,rfl,hsize,fun b l hb=>Nat.lt_of_lt_of_le (h.own b l hb) hsize,fun b hb=>⟨Nat.lt_of_lt_of_le (h.ba b hb).1 hsize,(h.ba b hb).2⟩⟩
        exact hK _ w' σ (ad.rH hdd ⟨hsize,fun b hb _=>hold b hb,fun _ h=>h,fun b hb=>hold b (h.ba b hb).1,fun _ h=>.inl h,fun _ _=>rfl,fun _ _ _=>rfl,hio⟩ ((h.same hsame).aL _) (.inl ⟨rfl,rfl⟩))
       ·have hgl:g<w'.heap.size:=by
         apply Classical.byContradiction
         intro hn
         rw [Array.getElem?_eq_none (by omega)] at hh
         cases hh
        have hne:∀ b,b<w.heap.size→b≠g:=fun b hb e=>by omega
        have hsame:fj C w σ w' (σ.add g (some (.rowS C.E.dp dd))) none:=by
         refine ⟨fun b l hb _=>⟨hold b (h.own b l hb),?_⟩,fun b hb=>hold b (h.ba b hb).1,fun _ h=>h,rfl,hsize,fun b l hb=>?_,fun b hb=>⟨Nat.lt_of_lt_of_le (h.ba b hb).1 hsize,?_⟩⟩
         ·simp only [Sp.add,if_neg (hne b (h.own b l hb)),hb]
         ·simp only [Sp.add] at hb
          split at hb
          ·omega
          ·exact Nat.lt_of_lt_of_le (h.own b l hb) hsize
         ·have hb':σ.I b:=hb
          simp only [Sp.add,if_neg (hne b (h.ba b hb').1)]
          exact (h.ba b hb').2
        refine hK _ w' (σ.add g (some (.rowS C.E.dp dd))) (ad.rH hdd ⟨hsize,fun b hb _=>hold b hb,fun _ h=>h,fun b hb=>hold b (h.ba b hb).1,fun _ h=>.inl h,fun _ _=>rfl,fun b hb _=>if_neg (hne b hb),hio⟩ ((h.same hsame).aL _) (.inr ⟨g,cap,cs,rfl,?_⟩))
        exact ⟨by simp [Sp.add],fun _=>(h.new g hg).1,hh,hpos,(fun e he=>by cases he),Nat.zero_le _,hcap,hcs,(fun e he=>by cases he),(fun e he=>by cases he),(fun j e m c he=>by simp at he),(h.new g hg).2⟩
     ·cases he2
    ·cases he2
   ·cases he1
  ·cases h1
 ·cases hl
theorem xy{f:FuncId}{xs:List AV}{vs:List Value}(hR:gN C.P R)(hΩ:eX C.P Ω)(h:ad C st a w σ)(hl:xs.length=vs.length)(hx:∀ (i:Nat)(x:AV),xs[i]? =some x→∃ n,SR C w σ st a n x (vs[i]?.getD undef))
  (he:bj R Ω C.E st f xs=some r) (hrun:gZ C.P f→(Go.execOp a.eval o).run C.P w= .ok (.enter f vs.toArray) w):cX C o d a w σ r.2 r.1:=by
 unfold bj at he
 split at he
 ·exact zj hR hΩ h hl hx he hrun
 split at he
 ·rename_i hc
  simp only [Bool.and_eq_true,Bool.not_eq_true'] at hc
  obtain ⟨⟨hro,hcp⟩,hdp⟩:=hc
  obtain ⟨⟨q,hp'⟩,hq,he2⟩:=Option.bind_eq_some_iff.1 he
  clear he
  cases q with
  | new cs=>cases he2
  | row _ _=>cases he2
  | iq _ _ _ _ _ _=>cases he2
  | ret x=>?_
  obtain rfl:=Option.some.inj he2
  have hcp':∀ x∈xs,x.copy=true:=fun x hx=>List.all_eq_true.1 hcp x hx
  exact NJ hro h hl hx hcp' (fun d cs hb c hc=>kZ (lS (p:=fun y=>AV.bP C.E.dp y) _ hdp d cs hb) c hc) (hR.ret (C.E.dp+1) f xs _ x hp' hq hcp') hrun
 ·cases he
theorem V7{f:FuncId}{xs:List aO}(hR:gN C.P R)(hΩ:eX C.P Ω)(h:ad C st a w σ)(hl:aV C.P (.c2 f xs) o.op=true)(he:execOp R Ω C.E st d (.c2 f xs)=some r) :
  cX C o d a w σ r.2 r.1:=by
 simp only [aV] at hl;split at hl
 ·rename_i c hop
  simp only [Bool.and_eq_true] at hl
  obtain ⟨h1,h2⟩:=hl
  split at h1
  ·rename_i f' hcal
   have hff:f=f':=by simpa using h1
   obtain ⟨h3,h4⟩:=h.wk _ _ h2
   simp only [execOp] at he
   refine xy hR hΩ h h3 h4 he fun hb=>?_
   have hev:a.eval (.func f')= .func (.func f') #[] #[]:=rfl
   have hcf:=dH hb (List.map a.eval c.args.toList).toArray w
   have ha:(List.map a.eval c.args.toList).toArray=c.args.map a.eval:=by apply Array.ext';simp
   rw [hff,ha] at hcf
   rw [hff,ha]
   unfold Go.execOp
   simp [hop,resolve,hcal,hev,Deferred.ofValue,invoke]
   exact hcf
  ·cases h1
 ·cases hl
theorem V8{x:aO}{xs:List aO}(hR:gN C.P R)(hΩ:eX C.P Ω)(h:ad C st a w σ)(hl:aV C.P (.d2 x xs) o.op=true)(he:execOp R Ω C.E st d (.d2 x xs)=some r) :
  cX C o d a w σ r.2 r.1:=by
 simp only [aV] at hl;split at hl
 ·rename_i c hop
  simp only [Bool.and_eq_true] at hl
  obtain ⟨h1,h2⟩:=hl
  split at h1
  ·rename_i y hcal
   obtain ⟨h3,h4⟩:=h.wk _ _ h2
   simp only [execOp] at he
   split at he
   ·rename_i f caps hx
    have hv:=(hx▸h.dR h1 (by rw [hx];simp) (by rw [hx];rfl))
    split at he
    ·rename_i hg
     obtain ⟨vs,hvv,hcl,hcc⟩:=hv.GK hg
     refine xy (vs:=c.args.toList.map a.eval++vs.toList) hR hΩ h (by rw [List.length_append,List.length_append,h3,hcl];simp) (fun i z hi=>?_) he fun hb=>?_
     ·rw [List.getElem?_append] at hi ⊢
      rw [h3] at hi
      split
      ·rename_i hlt
       rw [if_pos hlt] at hi
       exact h4 i z hi
      ·rename_i hlt
       rw [if_neg hlt] at hi
       have:=hcc _ z hi
       exact ⟨0,iy (by simpa [Array.getD_eq_getD_getElem?] using this)⟩
     ·unfold Go.execOp
      have hcf:=dH hb (List.map a.eval c.args.toList++vs.toList).toArray w
      have ha:(List.map a.eval c.args.toList++vs.toList).toArray=c.args.map a.eval++vs:=by apply Array.ext';simp
      rw [ha] at hcf
      rw [ha]
      simp [hop,resolve,hcal,hvv,Deferred.ofValue,invoke]
      exact hcf
    ·rename_i hg
     obtain ⟨vs,hvv,hcl,hcc⟩:=hv.VE hg
     refine xy (vs:=vs.toList++c.args.toList.map a.eval) hR hΩ h (by rw [List.length_append,List.length_append,h3,hcl];simp) (fun i z hi=>?_) he fun hb=>?_
     ·rw [List.getElem?_append] at hi ⊢
      have hcl':caps.length=vs.toList.length:=by rw [hcl];simp
      rw [hcl'] at hi
      split
      ·rename_i hlt
       rw [if_pos hlt] at hi
       have:=hcc _ z hi
       exact ⟨0,iy (by simpa [Array.getD_eq_getD_getElem?] using this)⟩
      ·rename_i hlt
       rw [if_neg hlt] at hi
       exact h4 _ z hi
     ·unfold Go.execOp
      have hcf:=dH hb (vs.toList++List.map a.eval c.args.toList).toArray w
      have ha:(vs.toList++List.map a.eval c.args.toList).toArray=vs++c.args.map a.eval:=by apply Array.ext';simp
      rw [ha] at hcf
      rw [ha]
      simp [hop,resolve,hcal,hvv,Deferred.ofValue,invoke]
      exact hcf
   ·cases he
  ·cases h1
 ·cases hl
theorem pG{t:TypeId}{l:List AV}(h:AV.tD t l=true):∀ x∈l,AV.nI t x=true:=by
 induction l with
 | nil=>intro x hx;cases hx
 | cons y l ih=>
  simp only [AV.tD,Bool.and_eq_true] at h
  intro x hx
  rcases List.mem_cons.1 hx with rfl | hx
  ·exact h.1
  ·exact ih h.2 x hx
theorem P0{t:TypeId}{x:AV}(h:AV.nI t x=true):∀ c∈x.cl,AV.nI t c=true:=by
 intro c hc
 cases x<;>simp only [AV.cl,List.mem_singleton] at hc<;>first | (subst hc;exact h) | skip
 exact pG (by simpa [AV.nI] using h) c hc
theorem VR.fresh{B' B:aY}{w:World}{I J:Nat→Prop}{κ:Key→Nat}{t:TypeId}(h0:t≠0)(htg:B'.tg t=false)(hn:B.n0≤B'.n0)(hJ:∀ b,I b→B'.n0≤b→(∃ cs,w.heap[b]? =some (.cells cs t (0,0)))→J b)
  {x:AV} {v:Value} (h : @VR B' w I κ x v) (hx:AV.nI t x=true) : @VR B w J κ x v:=by
 induction h with
 | u v=>exact .u v
 | sk=>exact .sk
 | b x=>exact .b x
 | i k n=>exact .i k n
 | s l=>exact .s l
 | n=>exact .n
 | z=>exact .z
 | nf=>exact .nf
 | ni=>exact .ni
 | lnil t A cap=>exact .lnil t A cap
 | l s es g o cap cs T fz sz hI0 hh0 ht hsz hnc hsize hp h1 hcap hmax hc ih=>
  cases es with
  | nil=>exact .lnil _ _ _
  | cons e0 es=>
   have hx':s=t∧AV.tD t (e0::es)=true:=by
    simpa [AV.nI] using hx
   obtain ⟨rfl,hx2⟩:=hx'
   have hg:B'.n0≤g:=by
    rcases Nat.lt_or_ge g B'.n0 with hlt | hge
    ·have:=(ht h0).2 hlt
     rw [htg] at this;cases this
    ·exact hge
   obtain ⟨rfl,rfl⟩:=(ht h0).1 hg
   exact @VR.l B w J κ T (e0::es) g o cap cs T (0,0) sz (hJ g hI0 hg ⟨_,hh0⟩) hh0 (fun _=>⟨fun _=>⟨rfl,rfl⟩,fun h=>absurd (Nat.le_trans hn hg) (Nat.not_le_of_lt h)⟩) hsz hnc hsize hp h1 hcap hmax
    fun j e m c he hc'=>ih j e m c he hc' (P0 (pG hx2 e (List.mem_of_getElem? he)) c (List.mem_of_getElem? hc'))
 | e x off g o cs T fz hI0 hh0 hp hsize h1 hc ih=>simp [AV.nI] at hx
 | f g caps vs hg hl hc ih=>exact .f g caps vs hg hl fun m c hc'=>ih m c hc' (pG (by simpa [AV.nI] using hx) c (List.mem_of_getElem? hc'))
 | fm g caps vs hl hc ih=>exact .fm g caps vs hl fun m c hc'=>ih m c hc' (pG (by simpa [AV.nI] using hx) c (List.mem_of_getElem? hc'))
 | a cs vs hl h1 hc ih=>exact .a cs vs hl h1 fun m c hc'=>ih m c hc' (pG (by simpa [AV.nI] using hx) c (List.mem_of_getElem? hc'))
 | tp cs vs hl hc ih=>exact .tp cs vs hl fun m c hc'=>ih m c hc' (pG (by simpa [AV.nI] using hx) c (List.mem_of_getElem? hc'))
 | ifc t x v h ih=>exact .ifc t x v (ih (by simpa [AV.nI] using hx))
 | p k off=>exact .p k off
 | sp k off n sz cap h1 h2=>exact .sp k off n sz cap h1 h2
theorem nT.wrap{y:AV}{g:Nat}{t:TypeId}{v:Value}{n:Nat}(h:nT C.W C.E.dp w σ g t y v):SR C w σ st a n (Qg g t y) v:=by
 unfold Qg
 split
 ·obtain ⟨_,h⟩:=h
  cases h;exact .i _ _
 ·obtain ⟨_,h⟩:=h
  cases h;exact .b _
 ·exact h
theorem tX{bx:List (Nat×List AV)}{g:Nat→List AV→Bool} : qN bx g=true↔∀ d cs,aq bx d=some cs→g d cs=true:=by
 unfold qN
 rw [List.all_eq_true]
 have hmem:∀ (l:List (Nat×List AV)) d cs,aq l d=some cs→∃ y∈l,y.1=d:=by
  intro l d cs h
  induction l with
  | nil=>cases h
  | cons y l ih=>
   obtain ⟨k,c⟩:=y
   simp only [aq] at h
   split at h
   ·rename_i e;exact ⟨(k,c),by simp,e⟩
   ·obtain ⟨z,hz,e⟩:=ih h
    exact ⟨z,List.mem_cons_of_mem _ hz,e⟩
 have hsome:∀ (l:List (Nat×List AV)) y,y∈l→∃ cs,aq l y.1=some cs:=by
  intro l y hy
  induction l with
  | nil=>cases hy
  | cons z l ih=>
   obtain ⟨k,c⟩:=z
   simp only [aq]
   split
   ·exact ⟨_,rfl⟩
   ·rename_i hne
    rcases List.mem_cons.1 hy with rfl | hy
    ·exact absurd rfl hne
    ·exact ih hy
 constructor
 ·intro h d cs hd
  obtain ⟨y,hy,rfl⟩:=hmem _ _ _ hd
  have:=h y hy
  rwa [hd] at this
 ·intro h y hy
  obtain ⟨cs,hc⟩:=hsome _ y hy
  rw [hc];exact h _ _ hc
theorem e9.still{C:Cx}{w w':World}{σ σ':Sp}{k:Key}{cs:List AV}{vs:Array Value}{T:TypeId}(h:e9 C w σ k cs vs T)(hk:σ'.κ k=σ.κ k)(hb:∀ b l,σ.ow b=some l→(l= .box k∨∃ off,l= .rowC k off)→w'.heap[b]? =w.heap[b]? ∧σ'.ow b=some l)
  (hI:∀ b,σ.I b→σ'.I b) (hh:∀ b,σ.I b→w'.heap[b]? =w.heap[b]?) (hd:∀ c∈cs,∀ k',c.bb k'=false→σ'.κ k'=σ.κ k') (hnw:∀ c∈cs,∀ g t x,c≠.w g t x):e9 C w' σ' k cs vs T:=by
 have h1:=hb _ _ h.ow (.inl rfl)
 refine ⟨by rw [hk,h1.1];exact h.hh,h.size,by rw [hk];exact h1.2,fun hm=>by rw [hk];exact h.wr hm,h.one,fun off c hc=>?_,h.ty,by rw [hk];exact h.kb⟩
 have hcell:=h.cell off c hc
 have hd':=hd c (List.mem_of_getElem? hc)
 have hnw':=hnw c (List.mem_of_getElem? hc)
 cases c with
 | o t es=>exact OwnAt.aH hcell (fun g hg=>hb g _ hg (.inr ⟨off,rfl⟩)) hI hh
 | w g t x=>exact absurd rfl (hnw' g t x)
 | bp t k' u=>exact ⟨hcell.1,by rw [hk];exact hcell.2⟩
 | _=>exact VR.mono hcell hI hh hd'
def Wh(C:Cx)(σ:Sp)(hid:Key→Bool):Nat→Prop:=fun b=>Wc C σ b∧∀ k,hid k=true→σ.ow b≠some (.box k)∧∀ off,σ.ow b≠some (.rowC k off)
theorem NN{f:FuncId}{xs:List AV}{vs:List Value}{x:AV}{hp':HP}{hid:Key→Bool}(hro:C.E.ro=false)(h:ad C st a w σ)(hl:xs.length=vs.length)(hx:∀ (i:Nat)(x:AV),xs[i]? =some x→∃ n,SR C w σ st a n x (vs[i]?.getD undef))
  (hcp:∀ x∈xs,x.copy=true) (hfr:(st.fr.all fun y=>!fN hid y.2)=true) (hdp:∀ d cs,aq st.bx d=some cs→∀ c∈cs,c.deep C.E.dp=true) (hc:vi C.P (C.E.dp+1) f xs (fun k=>if hid k=true then none else st.box C.E.dp k) x hp')
  (hrun:gZ C.P f→(Go.execOp a.eval o).run C.P w= .ok (.enter f vs.toArray) w):cX C o d a w σ (st.bu C.E.dp (fun k=>if hid k=true then st.box C.E.dp k else hp' k)) x:=by
 obtain ⟨hpx,hb,hcall⟩:=hc
 have hp0:=h.PZ hro hdp
 intro K Q hK
 unfold Oper.wp
 rw [hrun hb,Oper.upon_enter]
 refine (hcall (Wh C σ hid) w σ vs.toArray (fun b hb=>⟨⟨⟨⟨(h.new b hb).1,fun e=>absurd (h.own b _ e) (Nat.not_lt.2 hb)⟩,fun d=>⟨fun e=>?_,fun e=>?_⟩⟩,fun k _=>⟨fun e=>?_,fun off e=>?_⟩⟩,(h.new b hb).2⟩) ⟨fun k cs hk hkd=>?_,fun k cs hk hkd=>?_,h.own,h.ba,h.lay⟩ (by simpa using hl.symm) (fun i y hi=>?_)).mono ?_
 ·have:=h.own b _ e;omega
 ·have:=h.own b _ e;omega
 ·have:=h.own b _ e;omega
 ·have:=h.own b _ e;omega
 ·split at hk
  ·cases hk
  ·rename_i hn
   obtain ⟨vs',T,hB⟩:=hp0.bx k cs hk hkd
   refine ⟨vs',T,hB.zk rfl rfl (fun _ _ h _=>h) (fun _ h=>h) rfl (fun b l hl hor hW=>⟨hW,fun k' hk'=>⟨fun e=>?_,fun off e=>?_⟩⟩) (fun _ _ _ _=>rfl) fun c hc=>mW ((hp0.deep k cs hk (by omega)).2 c hc)⟩
   ·rw [hl] at e
    rcases hor with rfl | ⟨_,rfl⟩
    ·injection e with e;injection e with e;subst e;exact hn hk'
    ·cases e
   ·rw [hl] at e
    rcases hor with rfl | ⟨_,rfl⟩
    ·cases e
    ·injection e with e;injection e with e;subst e;exact hn hk'
 ·split at hk
  ·cases hk
  ·exact hp0.deep k cs hk hkd
 ·obtain ⟨n,hn⟩:=hx i y hi
  have:=hn.xu (hcp y (List.mem_of_getElem? hi))
  simpa [Array.getD_eq_getD_getElem?] using this
 ·rintro e w' ⟨v,σ1,rfl,hv,hst,hH⟩
  have hW:∀ b,Wh C σ hid b→Wc C σ b:=fun b hb=>hb.1
  have hst':bN (oQ C.P (Wc C σ) (C.E.dp+1)) w σ w' σ1:=
   ⟨hst.size,fun b hb hn=>hst.aH b hb fun hh=>hn (hW b hh),hst.up,hst.ba,fun b hb=>(hst.dn b hb).imp id (hW b),hst.kap,fun b hb hn=>hst.ow b hb fun hh=>hn (hW b hh),hst.io⟩
  have hk1:∀ k:Key,k.dp<C.E.dp+1→σ1.κ k=σ.κ k:=fun k hk=>hst.kap k hk
  have hH':s9 C.P (Wc C σ) (C.E.dp+1) (fun k=>if hid k=true then st.box C.E.dp k else hp' k) w' σ1:=by
   refine ⟨fun k cs hk hkd=>?_,fun k cs hk hkd=>?_,hH.own,hH.ba,hH.lay⟩
   ·split at hk
    ·rename_i hh
     obtain ⟨vs',T,hB⟩:=hp0.bx k cs hk hkd
     have hdeep:=(hp0.deep k cs hk (by omega)).2
     refine ⟨vs',T,hB.still (hk1 k hkd) (fun b l hl hor=>?_) hst.up hst.ba (fun c hc k' hk'=>hk1 k' ?_) fun c hc=>mW (hdeep c hc)⟩
     ·have hn:¬Wh C σ hid b:=fun hw=>by
       rcases hor with rfl | ⟨off,rfl⟩
       ·exact (hw.2 k hh).1 hl
       ·exact (hw.2 k hh).2 off hl
      exact ⟨hst.aH b (h.own b l hl) hn,(hst.ow b (h.own b l hl) hn).trans hl⟩
     ·have:=hB.QX hdeep c hc k' hk';omega
    ·obtain ⟨vs',T,hB⟩:=hH.bx k cs hk hkd
     exact ⟨vs',T,hB.zk rfl rfl (fun _ _ h _=>h) (fun _ h=>h) rfl (fun b l _ _ hw=>hW b hw) (fun _ _ _ _=>rfl) fun c hc=>mW ((hH.deep k cs hk (by omega)).2 c hc)⟩
   ·split at hk
    ·exact hp0.deep k cs hk hkd
    ·exact hH.deep k cs hk hkd
  obtain ⟨h1,h2⟩:=h.called hst' hH'
  have h3:ad C (st.bu C.E.dp (fun k=>if hid k=true then st.box C.E.dp k else hp' k)) a w' {σ1 with κ:=σ.κ}:=by
   refine ⟨h2.size,h2.defers,fun d=>?_,h2.bx,h2.hpd,h2.own,h2.ba,h2.new,h2.lay⟩
   have hrow:∀ pl,(st.bu C.E.dp (fun k=>if hid k=true then st.box C.E.dp k else hp' k)).rowAt C.E.dp pl=(st.back C.E.dp (fun k=>if hid k=true then st.box C.E.dp k else hp' k)).rowAt C.E.dp pl:=by
    intro pl
    cases pl with
    | c k off=>rfl
    | s d'=>
     simp only [St.rowAt,wZ]
     show (match aj st.fr d' with | .o t es=>some (t,es) | _=>none)=_
     generalize aj st.fr d'=y
     cases y with
     | r pl=>cases pl<;>rfl
     | v pl lo len=>cases pl<;>rfl
     | q pl i sz off=>cases pl<;>rfl
     | _=>rfl
   have hnh:fN hid (aj st.fr d)=false:=by
    have:=lR (p:=fun y=>!fN hid y) rfl _ hfr d
    simpa using this
   show SR C w' _ _ a d (aj st.fr d) _
   by_cases hbc:jr (aj st.fr d)=true
   ·have hx0:=h.fr d
    have hkey:∀ k off,hid k=true→∀ r,(st.bu C.E.dp (fun k=>if hid k=true then st.box C.E.dp k else hp' k)).rowAt C.E.dp (.c k off)=some r→st.rowAt C.E.dp (.c k off)=some r∧dQ w' {σ1 with κ:=σ.κ} a (.c k off)=dQ w σ a (.c k off):=by
     intro k off hk r hr
     have hbox:∀ cs,(st.bu C.E.dp (fun k=>if hid k=true then st.box C.E.dp k else hp' k)).box C.E.dp k=some cs→st.box C.E.dp k=some cs:=by
      intro cs hcs
      obtain ⟨kd,ke⟩:=k
      by_cases hkd:kd=C.E.dp
      ·subst hkd
       have h4:aq (bC C.E.dp (fun k=>if hid k=true then st.box C.E.dp k else hp' k) st.bx) ke=some cs:=by simpa [St.box,St.bu] using hcs
       have:=u0 h4
       rw [if_pos hk] at this
       exact this
      ·have h4:(if kd<C.E.dp then (if hid ⟨kd,ke⟩=true then st.box C.E.dp ⟨kd,ke⟩ else hp' ⟨kd,ke⟩) else none)=some cs:=by
        have h5:(st.bu C.E.dp (fun k=>if hid k=true then st.box C.E.dp k else hp' k)).box C.E.dp ⟨kd,ke⟩=(if kd<C.E.dp then (if hid ⟨kd,ke⟩=true then st.box C.E.dp ⟨kd,ke⟩ else hp' ⟨kd,ke⟩) else none):=by
         show (if kd=C.E.dp then _ else _)=_
         rw [if_neg hkd]
         rfl
        rw [←h5];exact hcs
       rw [if_pos hk] at h4
       split at h4
       ·exact h4
       ·cases h4
     simp only [St.rowAt] at hr ⊢
     cases hb:(st.bu C.E.dp (fun k=>if hid k=true then st.box C.E.dp k else hp' k)).box C.E.dp k with
     | none=>simp [hb] at hr
     | some cs=>
      have hb':=hbox cs hb
      rw [hb] at hr
      rw [hb']
      refine ⟨hr,?_⟩
      obtain ⟨vs',T,hB⟩:=h.bx k cs hb'
      have hn:¬Wh C σ hid (σ.κ k):=fun hw=>(hw.2 k hk).1 hB.ow
      simp only [dQ]
      rw [hst.aH _ (h.own _ _ hB.ow) hn]
    generalize aj st.fr d=y at hx0 hbc hnh
    cases y with
    | r pl=>
     cases pl with
     | s d'=>cases hbc
     | c k off=>
      have hk:hid k=true:=by simpa [fN] using hnh
      intro hs
      obtain ⟨r,hr⟩:=Option.isSome_iff_exists.1 hs
      obtain ⟨h4,h5⟩:=hkey k off hk r hr
      rw [h5]
      exact hx0 (by rw [h4];rfl)
    | v pl lo len=>
     cases pl with
     | s d'=>cases hbc
     | c k off=>
      have hk:hid k=true:=by simpa [fN] using hnh
      intro t es ht hle
      obtain ⟨h4,h5⟩:=hkey k off hk _ ht
      rw [h5]
      exact hx0 t es h4 hle
    | q pl i sz off'=>
     cases pl with
     | s d'=>cases hbc
     | c k off=>
      have hk:hid k=true:=by simpa [fN] using hnh
      intro t es ht hle
      obtain ⟨h4,h5⟩:=hkey k off hk _ ht
      rw [h5]
      exact hx0 t es h4 hle
    | _=>cases hbc
   ·have h4:=h2.fr d
    rw [wZ,if_neg hbc] at h4
    exact h4.AK fun pl _ _=>⟨hrow pl,rfl⟩
  exact hK v w' {σ1 with κ:=σ.κ} ⟨h1,h3,fun _ _=>iy (hv.wi (fun _ h=>h) (fun _ _=>rfl) hpx),fun _ _ _ _ e=>by subst e;cases hpx⟩
theorem V9{f:FuncId}{xs:List aO}{sl dl ow:List Nat}(hR:gN C.P R)(h:ad C st a w σ)(hl:aV C.P (.ch f xs sl dl ow) o.op=true)(he:execOp R Ω C.E st d (.ch f xs sl dl ow)=some r):cX C o d a w σ r.2 r.1:=by
 simp only [aV] at hl;split at hl
 ·rename_i c hop
  simp only [Bool.and_eq_true] at hl
  obtain ⟨h1,h2⟩:=hl
  split at h1
  ·rename_i f' hcal
   obtain rfl:f=f':=by simpa using h1
   obtain ⟨h3,h4⟩:=h.wk _ _ h2
   simp only [execOp,kP] at he
   split at he
   ·rename_i hc
    simp only [Bool.and_eq_true,Bool.not_eq_true'] at hc
    obtain ⟨⟨⟨⟨⟨hro,hcp⟩,hdp⟩,hfr⟩,_⟩,_⟩:=hc
    obtain ⟨⟨q,hp'⟩,hq,he2⟩:=Option.bind_eq_some_iff.1 he
    clear he
    cases q with
    | new cs=>cases he2
    | row _ _=>cases he2
    | iq _ _ _ _ _ _=>cases he2
    | ret x=>?_
    simp only at he2
    split at he2
    case isFalse=>cases he2
    obtain rfl:=Option.some.inj he2
    have hcp':∀ x∈List.map st.ev xs,x.copy=true:=fun x hx=>List.all_eq_true.1 hcp x hx
    refine NN (hid:=fh C.E.dp st sl dl ow) hro h h3 h4 hcp' hfr (fun d cs hb c hm=>kZ (tX.1 hdp d cs hb) c hm) (hR.ret _ f _ _ _ hp' hq hcp') fun hb=>?_
    have hev:a.eval (.func f)= .func (.func f) #[] #[]:=rfl
    have hcf:=dH hb (List.map a.eval c.args.toList).toArray w
    have ha:(List.map a.eval c.args.toList).toArray=c.args.map a.eval:=by apply Array.ext';simp
    rw [ha] at hcf
    rw [ha]
    unfold Go.execOp
    simp [hop,resolve,hcal,hev,Deferred.ofValue,invoke]
    exact hcf
   ·cases he
  ·cases h1
 ·cases hl
theorem Wa{n:Option Nat}{x y:aO}{lv:Bool}(h:ad C st a w σ)(hl:aV C.P (.lk n x y lv) o.op=true)(he:execOp R Ω C.E st d (.lk n x y lv)=some r):cX C o d a w σ r.2 r.1:=by
 refine NC (R:=R) (Ω:=Ω) (n:=n) (x:=x) h hl ?_
 simp only [execOp] at he ⊢
 split at he
 ·rename_i k off hx
  rw [hx]
  split at he
  ·exact he
  ·cases he
 ·cases he
theorem AR(hR':kz C.P R)(hΩ:eX C.P Ω)(ao:nH)(h:ad C st a w σ)(hl:aV C.P ao o.op=true)(he:execOp R Ω C.E st d ao=some r):cX C o d a w σ r.2 r.1:=by
 have hR:=hR'.h
 cases ao with
 | mv x=>exact VF h hl he
 | as x=>exact VV h hl he
 | pk c x y=>exact VG h hl he
 | bx x=>exact VU h hl he
 | al zs=>exact VT h hl he
 | ld n x=>exact NC h hl he
 | st n x y=>exact VW h hl he
 | fa off x=>exact VL h hl he
 | fd n off x=>exact VM h hl he
 | ia sz arr x i=>exact VN h hl he
 | bo op bl x y=>exact VO h hl he
 | no x=>exact VH h hl he
 | bs t sz es=>exact VX h hl he
 | bd zs fs=>exact VS h hl he
 | ms t sz by_ x n=>exact VY h hl he
 | sl t sz x lo hi=>exact VQ h hl he
 | ex x i=>exact VI h hl he
 | mf f caps=>exact VJ h hl he
 | ca m f args=>exact NI hR hΩ h hl he
 | cf m x args=>exact V3 hR hΩ h hl he
 | c2 f args=>exact V7 hR hΩ h hl he
 | d2 x args=>exact V8 hR hΩ h hl he
 | c3 f args=>obtain ⟨h1,h2⟩:=Kt hR h (fun _ _=>rfl) (fun _ _ h=>h) hl he;rw [h1];exact h2
 | d3 x args=>obtain ⟨h1,h2⟩:=Ku hR h (fun _ _=>rfl) (fun _ _ h=>h) hl he;rw [h1];exact h2
 | ck f args=>exact V4 hR h hl he
 | cr t f args=>exact V6 hΩ h hl he
 | co nd f args=>exact V5 hR hΩ h hl he
 | ln str x=>exact VP h hl he
 | ap t sz by_ x y=>exact V0 h hl he
 | nc x=>exact VK h hl he
 | ch f args sl dl ow=>exact V9 hR h hl he
 | lk n x y lv=>exact Wa h hl he
end
end Go.Proofs.YtkkkkondjclcnaaGreat.A
