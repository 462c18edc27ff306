/- Calls of functions that change nothing; every operation. -/
import Derived.Test.YtkkkkondjclcnaaGreatAbsP
import Derived.RangeFuncOwn
set_option linter.all false
namespace Go.Proofs.YtkkkkondjclcnaaGreat.A
open Go
variable [bI]
def jL(P:Program)(f:FuncId):Prop:=∃ fn,P.funcs[f]? =some fn∧fn.body.isNone=false∧(fn.name== "runtime.NumGoroutine")=false
def G2(P:Program)(f:FuncId)(ys:List AV)(x:AV):Prop:=
 jL P f∧∀ (w:World)(I:Nat→Prop)(κ:Key→Nat)(cargs:Array Value),bI.n0≤w.heap.size∧JN w I→(∀ b,I b→b<w.heap.size)→cargs.size=ys.length→(∀ (i:Nat)(y:AV),ys[i]? =some y→VR w I κ y (cargs.getD i undef))→
  Calls P f cargs w fun e w'=>∃ v I',e= .returned v∧VR w' I' κ x v∧w.heap.size≤w'.heap.size∧(∀ b,b<w.heap.size→w'.heap[b]? =w.heap[b]?)∧(∀ b,I b→I' b)∧(∀ b,I' b→I b∨w.heap.size≤b)∧(∀ b,I' b→b<w'.heap.size)∧w'.os=w.os∧w'.output=w.output
def yi(P:Program)(W:Nat→Prop)(dp:Nat):Cx:=⟨P,W,⟨dp,false⟩,0⟩
structure wH(P:Program)(W:Nat→Prop)(dp:Nat)(hp:HP)(w:World)(σ:Sp):Prop where
 bx:∀ k cs,hp k=some cs→k.dp<dp→∃ vs T,j6 (yi P W dp) w σ k cs vs T
 deep:∀ k cs,hp k=some cs→k.dp≠dp→k.dp<dp∧∀ c∈cs,c.deep k.dp=true
 own:∀ b l,σ.ow b=some l→b<w.heap.size
 bS:∀ b,σ.I b→b<w.heap.size∧σ.ow b=none
 lay:JN w σ.I
def AK(P:Program)(dp:Nat)(f:FuncId)(ys:List AV)(hp:HP)(x:AV)(hp':HP):Prop:=
 x.pure=true∧jL P f∧∀ (W:Nat→Prop)(w:World)(σ:Sp)(cargs:Array Value),(∀ b,w.heap.size≤b→W b∧bI.n0≤b)→wH P W dp hp w σ→cargs.size=ys.length→
  (∀ (i:Nat)(y:AV),ys[i]? =some y→VR w σ.I σ.κ y (cargs.getD i undef))→
  Calls P f cargs w fun e w'=>∃ v σ',e= .returned v∧VR w' σ'.I σ'.κ x v∧cK (yi P W dp) w σ w' σ'∧wH P W dp hp' w' σ'
def Of(P:Program)(dp:Nat)(f:FuncId)(ys:List AV)(hp:HP)(cs:List AV)(hp':HP):Prop:=
 cs.all xA=true∧jL P f∧∀ (W:Nat→Prop)(w:World)(σ:Sp)(cargs:Array Value),(∀ b,w.heap.size≤b→W b∧bI.n0≤b)→wH P W dp hp w σ→cargs.size=ys.length→
  (∀ (i:Nat)(y:AV),ys[i]? =some y→VR w σ.I σ.κ y (cargs.getD i undef))→
  Calls P f cargs w fun e w'=>∃ σ' kk vs T,e= .returned (.pointer (some ⟨σ'.κ kk,0,none⟩))∧kk.dp=dp∧j6 (yi P W dp) w' σ' kk cs vs T∧cK (yi P W dp) w σ w' σ'∧wH P W dp hp' w' σ'
def VH(P:Program)(w:World)(dp:Nat):Cx:=⟨P,fun b=>w.heap.size≤b,⟨dp,true⟩,0⟩
structure HpR(P:Program)(dp:Nat)(hp:HP)(w:World)(σ:Sp):Prop where
 bx:∀ k cs,hp k=some cs→k.dp<dp→∃ vs T,j6 (VH P w dp) w σ k cs vs T
 deep:∀ k cs,hp k=some cs→k.dp≠dp→k.dp<dp∧∀ c∈cs,c.deep k.dp=true
 own:∀ b l,σ.ow b=some l→b<w.heap.size
 bS:∀ b,σ.I b→b<w.heap.size∧σ.ow b=none
 lay:JN w σ.I
def IL(P:Program)(dp:Nat)(f:FuncId)(ys:List AV)(hp:HP)(x:AV):Prop:=
 x.pure=true∧jL P f∧∀ (w:World)(σ:Sp)(cargs:Array Value),bI.n0≤w.heap.size→HpR P dp hp w σ→cargs.size=ys.length→
  (∀ (i:Nat)(y:AV),ys[i]? =some y→VR w σ.I σ.κ y (cargs.getD i undef))→
  Calls P f cargs w fun e w'=>∃ v I',e= .returned v∧VR w' I' σ.κ x v∧w.heap.size≤w'.heap.size∧(∀ b,b<w.heap.size→w'.heap[b]? =w.heap[b]?)∧(∀ b,σ.I b→I' b)∧(∀ b,I' b→σ.I b∨w.heap.size≤b)∧(∀ b,I' b→b<w'.heap.size)∧w'.os=w.os∧w'.output=w.output
def VI(P:Program)(f:FuncId)(ys:List AV)(t:TypeId):Prop:=
 jL P f∧0<P.cellsOf t∧∀ (w:World)(I:Nat→Prop)(κ:Key→Nat)(cargs:Array Value),bI.n0≤w.heap.size→(∀ b,I b→b<w.heap.size)→cargs.size=ys.length→(∀ (i:Nat)(y:AV),ys[i]? =some y→VR w I κ y (cargs.getD i undef))→
  Calls P f cargs w fun e w'=>∃ v,e= .returned v∧(v= .slice none 0 0∨∃ g cap cs,v= .slice (some ⟨g,0,none⟩) 0 cap∧w.heap.size≤g∧w'.heap[g]? =some (.cells cs t (0,0))∧cap≤maxLen∧cs.size=cap*P.cellsOf t)∧
   w.heap.size≤w'.heap.size∧(∀ b,b<w.heap.size→w'.heap[b]? =w.heap[b]?)∧w'.os=w.os∧w'.output=w.output
def IM(P:Program)(dp:Nat)(f:FuncId)(ys:List AV)(t:TypeId)(es:List AV)(t':TypeId)(es':List AV):Prop:=
 jL P f∧∀ (W:Nat→Prop)(w:World)(σ:Sp)(cargs:Array Value)(v:Value),(∀ b,w.heap.size≤b→W b∧bI.n0≤b)→wH P W dp (fun _=>none) w σ→cargs.size=ys.length→
  (∀ (i:Nat)(y:AV),ys[i]? =some y→VR w σ.I σ.κ y (cargs.getD i undef))→OwnAt P W w σ (.rowS dp ys.length) True t es v→
  Calls P f (cargs.push v) w fun e w'=>∃ v' σ' n,e= .returned v'∧OwnAt P W w' σ' (.rowS dp n) True t' es' v'∧cK (yi P W dp) w σ w' σ'∧wH P W dp (fun _=>none) w' σ'
structure mb(P:Program)(R:Rec):Prop where
 ret:∀ dp f ys hp x hp',R ⟨dp,false⟩ f ys hp=some (.ret x,hp')→(∀ y∈ys,y.copy=true)→AK P dp f ys hp x hp'
 new:∀ dp f ys hp cs hp',R ⟨dp,false⟩ f ys hp=some (.new cs,hp')→(∀ y∈ys,y.copy=true)→Of P dp f ys hp cs hp'
 ro:∀ dp f ys hp x hp',R ⟨dp,true⟩ f ys hp=some (.ret x,hp')→(∀ y∈ys,y.copy=true)→IL P dp f ys hp x
 mov:∀ dp f ys t es hp' t' es',R ⟨dp,false⟩ f (ys++[.o t es]) (fun _=>none)=some (.row t' es',hp')→(∀ y∈ys,y.pure=true)→IM P dp f ys t es t' es'
def Wi(P:Program)(f:FuncId)(y:AV):Prop:=
 jL P f∧∀ (w:World)(I:Nat→Prop)(κ:Key→Nat)(v:Value),(∀ b,I b→∃ cs T,w.heap[b]? =some (.cells cs T (0,0)))→VR w I κ y v→
  Calls P f #[v] w fun e w'=>(∃ r,e= .returned r)∧w.heap.size≤w'.heap.size∧(∀ b,b<w.heap.size→¬I b→w'.heap[b]? =w.heap[b]?)∧w'.os=w.os∧w'.output=w.output
def lM(P:Program)(R:Rec):Prop:=∀ B:bI,@mb B P R
theorem lM.h{P:Program}{R:Rec}(h:lM P R):mb P R:=h _
def Via(P:Program)(f g:FuncId)(n:Int):Prop:=∀ dp ys hp cs hp',ys.length=1→(cs.length:Int)=n→AK P dp g ys hp (.a cs) hp'→AK P dp f ys hp (.tp [.a cs,.i .i64 0,.i .i64 0]) hp'
def agR(P:Program)(f:FuncId)(t:TypeId):Prop:=
 jL P f∧∀ (w:World)(b off:Nat)(vs:Array Value)(T:TypeId)(g cap:Nat)(cs:Array Value)(l:List UInt8),w.heap[b]? =some (.cells vs T (0,0))→off+1<vs.size→vs.getD (off+1) undef= .slice (some ⟨g,0,none⟩) l.length cap→
  w.heap[g]? =some (.cells cs t (0,0))→l.length≤cap→cap≤maxLen→cs.size=cap→l≠[]→(∀ (j:Nat)(c:UInt8),l[j]? =some c→cs[j]? =some (.int .u8 c.toNat))→
  Calls P f #[.pointer (some ⟨b,off,none⟩)] w fun e w'=>e= .returned (.string ⟨l.toArray⟩)∧w'.heap.size=w.heap.size∧(∀ x,x≠g→w'.heap[x]? =w.heap[x]?)∧w'.os=w.os∧w'.output=w.output
def L3(P:Program)(f:FuncId)(c:AV)(ns:List Int):Prop:=
 ∀ (w:World)(I:Nat→Prop)(κ:Key→Nat)(v:Value),bI.n0≤w.heap.size→(∀ b,I b→b<w.heap.size)→VR w I κ (.f f [c]) v→
  ∃ gf lb,v= .func (.func gf) #[] lb∧(∀ args w,(callFunc gf args).run P w= .ok (.enter gf args) w)∧
   ∀ (l m:Nat)(J:(Nat→Prop)→List Int→World→Prop)(Jx:List Int→World→Prop)(T:Nat→Prop)(W:World),
    w.heap.size≤W.heap.size→(∀ b,I b→W.heap[b]? =w.heap[b]?)→
    (∀ T pre W W',J T pre W→RowKit.Below W.heap.size W W'→J (fun b=>T b∨(W.heap.size≤b∧b<W'.heap.size)) pre W')→
    (∀ T pre n rest W1 m,ns=pre++n::rest→J T pre W1→YieldAt Fence.wide m P l #[.int .i64 n] W1 fun e W2=>
     (e= .returned (.bool true)∧J T (pre++[n]) W2∧(∀ b,T b→W2.heap[b]? =W1.heap[b]?)∧(∀ b,I b→W2.heap[b]? =W1.heap[b]?)∧W1.heap.size≤W2.heap.size)∨
     (e= .returned (.bool false)∧Jx (pre++[n]) W2))→
    J T [] W→
    CallsIn Fence.wide m P gf (#[.func (.yield l) #[] #[]]++lb) W fun e W'=>(∃ v,e= .returned v)∧((∃ T',J T' ns W')∨(∃ pre n rest,ns=pre++n::rest∧Jx (pre++[n]) W'))
structure ix(P:Program)(Ω:dt):Prop where
 via:∀ f (g:FuncId) n,Ω f [.u,.i .i64 g]=some (.i .i64 n)→Via P f g n
 spo:∀ f y,Ω f [y]=some .u→y.pure=true→Wi P f y
 ret:∀ f ys x,Ω f ys=some x→(∀ y∈ys,y.pure=true)→x.pure=true→G2 P f ys x
 row:∀ f ys t,Ω f ys=some (.o t [])→(∀ y∈ys,y.pure=true)→VI P f ys t
 str:∀ f (t:TypeId),Ω f [.u,.u,.i .i64 t]=some (.s [])→agR P f t
 it:∀ f c es ns,Ω f [.u,c]=some (.l 0 es)→xL es=some ns→L3 P f c ns
theorem mb.pure{P:Program}{R:Rec}(hR:mb P R){f:FuncId}{ys:List AV}{x:AV}{hp':HP}(he:R ⟨0,false⟩ f ys (fun _=>none)=some (.ret x,hp'))(hy:∀ y∈ys,y.pure=true):G2 P f ys x:=by
 obtain ⟨hpx,hb,hc⟩:=hR.ret 0 f ys _ x hp' he (fun y hm=>dE y (hy y hm))
 refine ⟨hb,fun w I κ cargs hn hI hs ha=>?_⟩
 refine (hc (fun b=>w.heap.size≤b) w ⟨κ,fun _=>none,I⟩ cargs (fun b hb=>⟨hb,bU hn.1 hb⟩) ⟨fun k cs hk=>(by cases hk),fun k cs hk=>(by cases hk),fun b l hb=>(by cases hb),fun b hb=>⟨hI b hb,rfl⟩,hn.2⟩ hs ha).mono ?_
 rintro e w' ⟨v,σ',rfl,hv,hst,hH⟩
 exact ⟨v,σ'.I,rfl,hv.Dm (fun _ h=>h) (fun _ _=>rfl) hpx,hst.size,fun b hb=>hst.aN b hb (show ¬w.heap.size≤b by omega),hst.up,hst.dn,fun b hb=>(hH.bS b hb).1,hst.io⟩
theorem abB{ts:List TypeId}{x:AV}(h:x.off ts=true):∀ c∈x.cl,c.off ts=true:=by
 intro c hc
 cases x<;>simp only [AV.cl,gm] at hc<;>first | (subst hc;exact h) | skip
 exact uN (by simpa [AV.off] using h) c hc
theorem VR.ajk{w:World}{I B:Nat→Prop}{κ:Key→Nat}{ts:List TypeId}(hts:ts≠[])(hB:∀ b,B b→∃ cs T fz,w.heap[b]? =some (.cells cs T fz)∧T∈ts∧bI.n0≤b){x:AV}{v:Value}(h:VR w I κ x v)(hx:x.off ts=true) :
  VR w (fun b=>I b∧¬B b) κ x v:=by
 induction h with
 | u v=>exact .u v
 | sk=>exact .sk
 | b x=>exact .b x
 | i k n=>exact .i k n
 | s l=>exact .s l
 | n=>exact .n
 | z=>exact .z
 | nf=>exact .nf
 | ni=>exact .ni
 | lnil t A cap=>exact .lnil t A cap
 | l t es g o cap cs T fz sz hI0 hh0 ht hsz hnc hsize hp h1 hcap hmax hc ih=>
  cases es with
  | nil=>exact .lnil _ _ _
  | cons e0 es=>
   have hx':(t≠0∧¬t∈ts)∧AV.kS ts (e0::es)=true:=by
    simpa [AV.off,Bool.and_assoc,tH] using hx
   refine .l t (e0::es) g o cap cs T fz sz ⟨hI0,fun hb=>?_⟩ hh0 ht hsz hnc hsize hp h1 hcap hmax fun j e m c he hc'=>ih j e m c he hc' (abB (uN hx'.2 e (aP he)) c (aP hc'))
   obtain ⟨cs',T',fz',h2,h3,h4⟩:=hB g hb
   rw [hh0] at h2
   simp only [jm,Obj.cells.injEq] at h2
   rw [←h2.2.1,((ht hx'.1.1).1 h4).1] at h3
   exact hx'.1.2 h3
 | e x off g o cs T fz hI0 hh0 hp hsize h1 hc ih=>
  simp only [AV.off,zn] at hx
  exact absurd hx hts
 | f g caps vs hg hl hc ih=>exact .f g caps vs hg hl fun m c hc'=>ih m c hc' (uN (by simpa [AV.off] using hx) c (aP hc'))
 | fm g caps vs hl hc ih=>exact .fm g caps vs hl fun m c hc'=>ih m c hc' (uN (by simpa [AV.off] using hx) c (aP hc'))
 | a cs vs hl h1 hc ih=>exact .a cs vs hl h1 fun m c hc'=>ih m c hc' (uN (by simpa [AV.off] using hx) c (aP hc'))
 | tp cs vs hl hc ih=>exact .tp cs vs hl fun m c hc'=>ih m c hc' (uN (by simpa [AV.off] using hx) c (aP hc'))
 | ifc t x v h ih=>exact .ifc t x v (ih (by simpa [AV.off] using hx))
 | p k off=>exact .p k off
 | sp k off n sz cap h1 h2=>exact .sp k off n sz cap h1 h2
section
variable {C:Cx}{st:St}{a:Act}{w:World}{σ:Sp}{o:Oper}{d:Option Nat}{R:Rec}{Ω:dt}{r:AV×St}
structure IN(C:Cx)(w:World)(σ:Sp)(y:AV)(v:Value)(ts:List TypeId)(B:Nat→Prop):Prop where
 vr:VR w (fun b=>σ.I b∨B b) σ.κ y v
 pure:y.pure=true
 blk:∀ b,B b→(∃ l,σ.ow b=some l)∧∃ cs T fz,w.heap[b]? =some (.cells cs T fz)∧T∈ts∧bI.n0≤b
theorem au.Ro(h:au C st a w σ){k:Key}{o n sz:Nat}{y:AV}{v:Value}{ts:List TypeId}(hx:VR w σ.I σ.κ (.sp k o n sz) v)(he:st.nC C.E.dp k o n sz=some (y,ts)):(∃ B,IN C w σ y v ts B)∧y.one=true:=by
 unfold St.nC at he
 obtain ⟨cs,hb,he1⟩:=af.1 he
 split at he1
 ·rename_i hc
  obtain ⟨rfl,rfl⟩:=eR (ad he1)
  simp only [aB,cE] at hc
  obtain ⟨⟨⟨hk,hp⟩,hsz⟩,hle⟩:=hc
  obtain ⟨vs,T,hB⟩:=h.bx k cs hb
  have hT:=hB.kb.1 hk
  have hpl:=fe hp
  have hone:∀ c∈cs,c.one=true:=fun c hc=>(hB.one c hc).resolve_right fun e=>by have:=hpl c hc;rw [e] at this;cases this
  have hone':∀ c∈cs.drop o,c.one=true:=fun c hc=>hone c (fj hc)
  have hp':AV.bk (cs.drop o)=true:=jk fun c hc=>hpl c (fj hc)
  have hle':n*sz≤(cs.drop o).length:=by rw [hZ];omega
  have hlen:=BH sz n (cs.drop o)
  refine ⟨⟨fun b=>b=σ.κ k,?_,rfl,fun b hb=>by subst hb;exact ⟨⟨_,hB.ow⟩,vs,T,(0,0),hB.hh,by simp [hT],hB.kb.2⟩⟩,rfl⟩
  ·have hx':=hx
   cases hx' with
   | sp _ _ _ _ cap hc1 hc2=>
    have:=VR.l (w:=w) (I:=fun b=>σ.I b∨b=σ.κ k) (κ:=σ.κ) 0 (chunks sz n (cs.drop o)) (σ.κ k) o cap vs T (0,0) sz (.inr rfl) hB.hh (fun h=>absurd rfl h) hsz (fun e he=>?_) ?_ (fun e he=>?_) (fun e he c hc=>?_) (by omega) hc2 (fun j e m c he hc=>?_)
    ·rw [hlen] at this;exact this
    ·obtain ⟨j,hj⟩:=dZ.1 he
     obtain ⟨h3,h4,_⟩:=kU sz hsz hone' hle' hj
     unfold AV.nc
     rw [h3,List.length_take,hZ]
     rw [da] at h4
     omega
    ·rw [hlen];have:=hB.size;omega
    ·obtain ⟨j,hj⟩:=dZ.1 he
     exact (kU sz hsz hone' hle' hj).2.2 hp'
    ·obtain ⟨j,hj⟩:=dZ.1 he
     obtain ⟨h3,_,_⟩:=kU sz hsz hone' hle' hj
     rw [h3] at hc
     exact hone' c (fj (eC hc))
    ·obtain ⟨h3,_,_⟩:=kU sz hsz hone' hle' he
     rw [h3,eQ] at hc
     split at hc
     ·rw [gj,gj,←pX] at hc
      have hcm:=aP hc
      exact (L1 (hpl c hcm) (hB.cell _ c hc)).Dm (fun _ h=>.inl h) (fun _ _=>rfl) (hpl c hcm)
     ·cases hc
 ·cases he1
theorem au.agS(h:au C st a w σ){c y:AV}{v:Value}{ts:List TypeId}(hx:VR w σ.I σ.κ c v)(h1:c.one=true)(he:st.Ej C.E.dp c=some (y,ts)):(∃ B,IN C w σ y v ts B)∧y.one=true:=by
 unfold St.Ej at he
 split at he
 ·exact h.Ro hx he
 ·split at he
  ·rename_i hp
   obtain ⟨rfl,rfl⟩:=eR (ad he)
   exact ⟨⟨fun _=>False,hx.mono (fun _ h=>.inl h) (fun _ _=>rfl) (fun _ _=>rfl),hp,fun _ h=>h.elim⟩,h1⟩
  ·cases he
theorem au.Rp(h:au C st a w σ):∀ (cs:List AV)(vs:List Value)(ys:List AV)(ts:List TypeId),cs.length=vs.length→(∀ (m:Nat)(c:AV),cs[m]? =some c→VR w σ.I σ.κ c (vs[m]?.getD undef))→(∀ c∈cs,c.one=true)→
  st.oH C.E.dp cs=some (ys,ts)→∃ B:Nat→Prop,ys.length=vs.length∧(∀ b,B b→(∃ l,σ.ow b=some l)∧∃ cs T fz,w.heap[b]? =some (.cells cs T fz)∧T∈ts∧bI.n0≤b)∧(∀ y∈ys,y.pure=true∧y.one=true)∧
   ∀ (m:Nat)(y:AV),ys[m]? =some y→VR w (fun b=>σ.I b∨B b) σ.κ y (vs[m]?.getD undef)
 | [],vs,ys,ts,hl,_,_,he=>by
  obtain ⟨rfl,rfl⟩:=eR (ad he)
  exact ⟨fun _=>False,hl,fun _ h=>h.elim,fun y hy=>absurd hy (List.not_mem_nil),fun i y hi=>(by simp at hi)⟩
 | c::cs,[],_,_,hl,_,_,_=>by simp at hl
 | c::cs,v::vs,ys,ts,hl,hx,h1,he=>by
  obtain ⟨⟨y,ts1⟩,e1,he1⟩:=af.1 he
  obtain ⟨⟨ys',ts2⟩,e2,he2⟩:=af.1 he1
  obtain ⟨rfl,rfl⟩:=eR (ad he2)
  obtain ⟨⟨B1,hL⟩,hy1⟩:=h.agS (by simpa using hx 0 c rfl) (h1 c (by simp)) e1
  obtain ⟨B2,hl2,hb2,hp2,hv2⟩:=au.Rp h cs vs ys' ts2 (by simpa using hl) (fun i x hi=>by simpa using hx (i+1) x (by simpa using hi)) (fun c hc=>h1 c (by simp [hc])) e2
  refine ⟨fun b=>B1 b∨B2 b,by simpa using hl2,fun b hb=>?_,fun z hz=>?_,fun i z hi=>?_⟩
  ·rcases hb with hb | hb
   ·obtain ⟨h3,cs,T,fz,h4,h5⟩:=hL.blk b hb
    exact ⟨h3,cs,T,fz,h4,gq _ h5.1,h5.2⟩
   ·obtain ⟨h3,cs,T,fz,h4,h5⟩:=hb2 b hb
    exact ⟨h3,cs,T,fz,h4,jo _ h5.1,h5.2⟩
  ·rcases cQ.1 hz with rfl | hz
   ·exact ⟨hL.pure,hy1⟩
   ·exact hp2 z hz
  ·cases i with
   | zero=>
    obtain rfl:y=z:=by simpa using hi
    exact hL.vr.mono (fun b hb=>hb.elim .inl fun h=>.inr (.inl h)) (fun _ _=>rfl) (fun _ _=>rfl)
   | succ i=>exact (hv2 i z (by simpa using hi)).mono (fun b hb=>hb.elim .inl fun h=>.inr (.inr h)) (fun _ _=>rfl) (fun _ _=>rfl)
theorem au.yf(h:au C st a w σ){n:Nat}{x y:AV}{v:Value}{ts:List TypeId}(hx:SR C w σ st a n x v)(he:st.ic C.E.dp x=some (y,ts)):∃ B,IN C w σ y v ts B:=by
 have hrow:∀ (L:dL)(wp:Prop) t es lo len cap' v,OwnAt C.P C.W w σ L wp t es v→lo+len≤es.length→(∀ A n cap,v= .slice A n cap→cap'=cap)→
   ∃ B,IN C w σ (.l t ((es.drop lo).take len)) (match v with | .slice A _ cap=>.slice (if cap=lo then A else A.map (·.add (lo*C.P.cellsOf t))) len (cap - lo) | v=>v) [t] B:=by
  intro L wp t es lo len cap' v ho hle _
  rcases ho with ⟨rfl,rfl⟩ | ⟨g,cap,cs,rfl,hR⟩
  ·simp only [iC] at hle
   obtain rfl:lo=0:=by omega
   obtain rfl:len=0:=by omega
   exact ⟨fun _=>False,by simpa using VR.lnil _ _ _,rfl,fun _ h=>h.elim⟩
  ·by_cases hl:len=0
   ·subst hl
    exact ⟨fun _=>False,by simpa using VR.lnil _ _ _,by simp [AV.pure],fun _ h=>h.elim⟩
   ·have hec:=hR.ecap
    refine ⟨fun b=>b=g,?_,rfl,fun b hb=>⟨⟨_,hb▸hR.ow⟩,cs,t,_,hb▸hR.hh,by simp,hb▸hR.base⟩⟩
    have:=hR.bS (I:=fun b=>σ.I b∨b=g) (fun _ h=>.inl h) (.inr rfl) hle
    simp only [ab (show ¬cap=lo by omega),fg,add_lit,fi]
    exact this
 have hwhole:∀ (L:dL)(wp:Prop) t es v,OwnAt C.P C.W w σ L wp t es v→∃ B,IN C w σ (.l t es) v [t] B:=by
  intro L wp t es v ho
  rcases ho with ⟨rfl,rfl⟩ | ⟨g,cap,cs,rfl,hR⟩
  ·exact ⟨fun _=>False,.lnil _ _ _,rfl,fun _ h=>h.elim⟩
  ·exact ⟨fun b=>b=g,hR.TH (I:=fun b=>σ.I b∨b=g) (fun _ h=>.inl h) (.inr rfl),rfl,fun b hb=>⟨⟨_,hb▸hR.ow⟩,cs,t,_,hb▸hR.hh,by simp,hb▸hR.base⟩⟩
 have hplain:∀ x,SR C w σ st a n x v→x.pure=true→∃ B,IN C w σ x v [] B:=fun x hx hp=>
  ⟨fun _=>False,(hx.Dh (dE x hp)).mono (fun _ h=>.inl h) (fun _ _=>rfl) (fun _ _=>rfl),hp,fun _ h=>h.elim⟩
 cases x with
 | o t es=>
  obtain ⟨rfl,rfl⟩:=eR (ad he)
  exact hwhole _ _ t es v hx
 | r pl=>
  obtain ⟨⟨t,es⟩,hr,he1⟩:=af.1 he
  obtain ⟨rfl,rfl⟩:=eR (ad he1)
  rw [hx (by rw [hr];rfl)]
  exact hwhole _ _ t es _ (h.row hr)
 | v pl lo len=>
  obtain ⟨⟨t,es⟩,hr,he1⟩:=af.1 he
  simp only at he1
  split at he1
  ·rename_i hle
   obtain ⟨rfl,rfl⟩:=eR (ad he1)
   obtain ⟨A,n',cap,hpv,hv⟩:=hx t es hr hle
   obtain ⟨B,hB⟩:=hrow _ _ t es lo len cap _ (h.row hr) hle (fun A' n2 cap2 e=>by rw [hpv] at e;simp at e;exact e.2.2)
   rw [hpv] at hB
   exact ⟨B,by rw [hv];exact hB⟩
  ·cases he1
 | w g t z=>
  obtain ⟨rfl,rfl⟩:=eR (ad he)
  obtain ⟨hp,hz⟩:=hx
  refine ⟨_,hz.mono (fun _ h=>.inr h) (fun _ _=>rfl) (fun _ _=>rfl),hp,fun b hb=>⟨⟨_,hb.1⟩,?_⟩⟩
  obtain ⟨cs,e⟩:=hb.2.2.2
  exact ⟨cs,t,_,e,by simp,hb.2.2.1⟩
 | sp k o n sz=>exact (h.Ro hx he).1
 | a cs=>
  simp only [St.ic] at he
  split at he
  ·rename_i hp
   obtain ⟨rfl,rfl⟩:=eR (ad he)
   exact hplain _ hx hp
  ·obtain ⟨⟨ys,ts'⟩,he1,he2⟩:=af.1 he
   obtain ⟨rfl,rfl⟩:=eR (ad he2)
   have hx':VR w σ.I σ.κ (.a cs) v:=hx
   cases hx' with
   | a _ vs hl h1 hc=>
    obtain ⟨B,g1,g2,g3,g4⟩:=h.Rp cs vs.toList ys ts' (by simpa using hl) (fun m c hm=>by simpa [bA] using hc m c hm) h1 he1
    exact ⟨B,.a _ _ (by simpa using g1) (fun c hc=>(g3 c hc).2) (fun m c hm=>by simpa [bA] using g4 m c hm),jk fun c hc=>(g3 c hc).1,g2⟩
 | _=>
  simp only [St.ic] at he
  split at he
  ·rename_i hp
   obtain ⟨rfl,rfl⟩:=eR (ad he)
   exact hplain _ hx hp
  ·cases he
theorem au.Og(h:au C st a w σ):∀ (xs:List AV)(vs:List Value)(ys:List AV)(ts:List TypeId),xs.length=vs.length→(∀ (i:Nat)(x:AV),xs[i]? =some x→∃ n,SR C w σ st a n x (vs[i]?.getD undef))→
  st.ep C.E.dp xs=some (ys,ts)→∃ B:Nat→Prop,ys.length=vs.length∧(∀ b,B b→(∃ l,σ.ow b=some l)∧∃ cs T fz,w.heap[b]? =some (.cells cs T fz)∧T∈ts∧bI.n0≤b)∧(∀ y∈ys,y.pure=true)∧
   ∀ (i:Nat)(y:AV),ys[i]? =some y→VR w (fun b=>σ.I b∨B b) σ.κ y (vs[i]?.getD undef)
 | [],vs,ys,ts,hl,_,he=>by
  obtain ⟨rfl,rfl⟩:=eR (ad he)
  exact ⟨fun _=>False,hl,fun _ h=>h.elim,fun y hy=>absurd hy (List.not_mem_nil),fun i y hi=>(by simp at hi)⟩
 | x::xs,[],_,_,hl,_,_=>by simp at hl
 | x::xs,v::vs,ys,ts,hl,hx,he=>by
  obtain ⟨⟨y,ts1⟩,h1,he1⟩:=af.1 he
  obtain ⟨⟨ys',ts2⟩,h2,he2⟩:=af.1 he1
  obtain ⟨rfl,rfl⟩:=eR (ad he2)
  obtain ⟨n,hx0⟩:=hx 0 x rfl
  obtain ⟨B1,hL⟩:=h.yf hx0 h1
  obtain ⟨B2,hl2,hb2,hp2,hv2⟩:=au.Og h xs vs ys' ts2 (by simpa using hl) (fun i x hi=>by simpa using hx (i+1) x (by simpa using hi)) h2
  refine ⟨fun b=>B1 b∨B2 b,by simpa using hl2,fun b hb=>?_,fun z hz=>?_,fun i z hi=>?_⟩
  ·rcases hb with hb | hb
   ·obtain ⟨h3,cs,T,fz,h4,h5⟩:=hL.blk b hb
    exact ⟨h3,cs,T,fz,h4,gq _ h5.1,h5.2⟩
   ·obtain ⟨h3,cs,T,fz,h4,h5⟩:=hb2 b hb
    exact ⟨h3,cs,T,fz,h4,jo _ h5.1,h5.2⟩
  ·rcases cQ.1 hz with rfl | hz
   ·exact hL.pure
   ·exact hp2 z hz
  ·cases i with
   | zero=>
    obtain rfl:y=z:=by simpa using hi
    exact hL.vr.mono (fun b hb=>hb.elim .inl fun h=>.inr (.inl h)) (fun _ _=>rfl) (fun _ _=>rfl)
   | succ i=>exact (hv2 i z (by simpa using hi)).mono (fun b hb=>hb.elim .inl fun h=>.inr (.inr h)) (fun _ _=>rfl) (fun _ _=>rfl)
theorem gK{P:Program}{f:FuncId}(hf:jL P f)(args:Array Value)(w:World):(callFunc f args).run P w= .ok (.enter f args) w:=by
 obtain ⟨fn,h1,h2,h3⟩:=hf
 have h3':fn.name≠ "runtime.NumGoroutine" :=by simpa using h3
 have h2':fn.body≠none:=by intro e;rw [e] at h2;cases h2
 simp [callFunc,h1,h2',h3']
theorem L4{f:FuncId}{xs ys:List AV}{vs:List Value}{ts:List TypeId}{x:AV}(h:au C st a w σ)(hl:xs.length=vs.length)(hx:∀ (i:Nat)(x:AV),xs[i]? =some x→∃ n,SR C w σ st a n x (vs[i]?.getD undef))
  (hys:st.ep C.E.dp xs=some (ys,ts)) (hc:(∀ y∈ys,y.pure=true)→G2 C.P f ys x) (hp:x.pure=true) (ho:(ts.isEmpty||x.off ts)=true)
  (hrun:jL C.P f→(Go.execOp a.eval o).run C.P w= .ok (.enter f vs.toArray) w):ez C o d a w σ st x:=by
 obtain ⟨B,hyl,hB,hyp,hyv⟩:=h.Og xs vs ys ts hl hx hys
 obtain ⟨hb,hcall⟩:=hc hyp
 intro K Q hK
 unfold Oper.wp
 rw [hrun hb,Oper.upon_enter]
 have hlt:∀ b,B b→b<w.heap.size:=fun b hb=>by
  obtain ⟨⟨l,hl⟩,_⟩:=hB b hb
  exact h.own b l hl
 refine (hcall w (fun b=>σ.I b∨B b) σ.κ vs.toArray ⟨(h.new _ (aT _)).2,h.lay.aN (fun _ h=>.inl h) fun _ _=>rfl⟩ (fun b hb=>hb.elim (fun h1=>(h.bS b h1).1) (hlt b)) (by simpa using hyl.symm) (fun i y hi=>?_)).mono ?_
 ·have:=hyv i y hi
  simpa [bA] using this
 ·rintro e w' ⟨v,I',rfl,hv,hsize,hold,hup,hdn,hlt',hio⟩
  refine hK v w' {σ with I:=fun b=>I' b∧¬B b} ?_
  have hin:∀ b,σ.I b→¬B b:=fun b hb hbb=>by
   obtain ⟨⟨l,hl⟩,_⟩:=hB b hbb
   have:=(h.bS b hb).2
   rw [hl] at this;cases this
  have hsame:iB C w σ w' {σ with I:=fun b=>I' b∧¬B b} none:=
   ⟨fun b l hb _=>⟨hold b (h.own b l hb),hb⟩,fun b hb=>hold b (h.bS b hb).1,fun b hb=>⟨hup b (.inl hb),hin b hb⟩,rfl,hsize,fun b l hb=>eB (h.own b l hb) hsize,fun b hb=>⟨hlt' b hb.1,by
    rcases hdn b hb.1 with h1 | h1
    ·rcases h1 with h1 | h1
     ·exact (h.bS b h1).2
     ·exact absurd h1 hb.2
    ·show σ.ow b=none
     cases hq:σ.ow b with
     | none=>rfl
     | some l=>have:=h.own b l hq;omega⟩⟩
  refine ⟨⟨hsize,fun b hb _=>hold b hb,hsame.up,hsame.bS,fun b hb=>?_,fun _ _=>rfl,fun _ _ _=>rfl,hio⟩,h.same hsame,fun _ _=>ma ?_,fun _ _ _ _ e=>by subst e;cases hp⟩
  ·rcases hdn b hb.1 with h1 | h1
   ·rcases h1 with h1 | h1
    ·exact .inl h1
    ·exact absurd h1 hb.2
   ·exact .inr (h.new b h1).1
  ·by_cases hts:ts=[]
   ·subst hts
    have hnoB:∀ b,¬B b:=fun b hb=>by
     obtain ⟨_,_,_,_,_,hm,_⟩:=hB b hb
     cases hm
    exact hv.mono (fun b hb=>⟨hb,hnoB b⟩) (fun _ _=>rfl) (fun _ _=>rfl)
   ·have hoff:x.off ts=true:=by
     rcases Bool.or_eq_true_iff.1 ho with h1 | h1
     ·exact absurd (zn.1 h1) hts
     ·exact h1
    exact hv.ajk hts (fun b hb=>by
     obtain ⟨⟨l,hl⟩,cs,T,fz,h1,h2⟩:=hB b hb
     exact ⟨cs,T,fz,(hold b (h.own b l hl)).trans h1,h2⟩) hoff
theorem BI{m:Nat}{f:FuncId}{xs:List AV}{vs:List Value}(hR:mb C.P R)(hΩ:ix C.P Ω)(h:au C st a w σ)(hl:xs.length=vs.length)(hx:∀ (i:Nat)(x:AV),xs[i]? =some x→∃ n,SR C w σ st a n x (vs[i]?.getD undef))
  (he:aS R Ω C.E st m f xs=some r) (hrun:jL C.P f→(Go.execOp a.eval o).run C.P w= .ok (.enter f vs.toArray) w):ez C o d a w σ r.2 r.1:=by
 unfold aS at he
 split at he
 ·obtain ⟨⟨ys,ts⟩,hys,he1⟩:=af.1 he
  clear he
  obtain ⟨⟨q,hp'⟩,hq,he2⟩:=af.1 he1
  clear he1
  cases q with
  | new cs=>cases he2
  | row _ _=>cases he2
  | qx _ _ _ _ _ _=>cases he2
  | ret x=>?_
  simp only at he2
  split at he2
  ·rename_i hc
   simp only [aB] at hc
   obtain rfl:=ad he2
   exact L4 h hl hx hys (fun hyp=>hR.pure hq hyp) hc.1 hc.2 hrun
  ·cases he2
 ·obtain ⟨⟨ys,ts⟩,hys,he1⟩:=af.1 he
  clear he
  obtain ⟨x,hq,he2⟩:=af.1 he1
  clear he1
  split at he2
  ·rename_i hc
   simp only [aB] at hc
   obtain rfl:=ad he2
   exact L4 h hl hx hys (fun hyp=>hΩ.ret f ys x hq hyp hc.1) hc.1 hc.2 hrun
  ·cases he2
 ·cases he
theorem au.BJ(h:au C st a w σ):∀ (ys:List Operand)(xs:List ba),eb ys xs=true→(xs.map st.ev).length=(ys.map a.eval).length∧
  ∀ (i:Nat)(x:AV),(xs.map st.ev)[i]? =some x→∃ n,SR C w σ st a n x ((ys.map a.eval)[i]?.getD undef)
 | [],[],_=>⟨rfl,fun i x hi=>by simp at hi⟩
 | y::ys,x::xs,hl=>by
  simp only [eb,aB] at hl
  obtain ⟨h1,h2⟩:=au.BJ h ys xs hl.2
  refine ⟨by simpa using h1,fun i z hi=>?_⟩
  cases i with
  | zero=>
   obtain rfl:st.ev x=z:=by simpa using hi
   cases x with
   | t n=>exact ⟨n,h.slot hl.1⟩
   | c z=>exact ⟨0,FH (.inl (dE z (s0 hl.1))) (by simpa using h.uG hl.1 (dE z (s0 hl.1)))⟩
  | succ i=>simpa using h2 i z (by simpa using hi)
 | [],_::_,hl=>by simp [eb] at hl
 | _::_,[],hl=>by simp [eb] at hl
theorem abC{m:Nat}{f:FuncId}{xs:List ba}(hR:mb C.P R)(hΩ:ix C.P Ω)(h:au C st a w σ)(hl:bG C.P (.ca m f xs) o.op=true)(he:execOp R Ω C.E st d (.ca m f xs)=some r) :
  ez C o d a w σ r.2 r.1:=by
 simp only [bG] at hl;split at hl
 ·rename_i c hop
  simp only [aB] at hl
  obtain ⟨h1,h2⟩:=hl
  split at h1
  ·rename_i f' hcal
   have hff:f=f':=by simpa using h1
   obtain ⟨h3,h4⟩:=h.BJ _ _ h2
   simp only [execOp] at he
   refine BI hR hΩ h h3 h4 he fun hb=>?_
   have hev:a.eval (.func f')= .func (.func f') #[] #[]:=rfl
   have hcf:=gK hb (List.map a.eval c.args.toList).toArray w
   have ha:(List.map a.eval c.args.toList).toArray=c.args.map a.eval:=by apply mV;simp
   rw [hff,ha] at hcf
   rw [hff,ha]
   unfold Go.execOp
   simp [hop,resolve,hcal,hev,Deferred.ofValue,invoke]
   exact hcf
  ·cases h1
 ·cases hl
theorem abD{m:Nat}{x:ba}{xs:List ba}(hR:mb C.P R)(hΩ:ix C.P Ω)(h:au C st a w σ)(hl:bG C.P (.cf m x xs) o.op=true)(he:execOp R Ω C.E st d (.cf m x xs)=some r) :
  ez C o d a w σ r.2 r.1:=by
 simp only [bG] at hl;split at hl
 ·rename_i c hop
  simp only [aB] at hl
  obtain ⟨h1,h2⟩:=hl
  split at h1
  ·rename_i y hcal
   obtain ⟨h3,h4⟩:=h.BJ _ _ h2
   simp only [execOp] at he
   split at he
   ·rename_i f caps hx
    have hv:=(hx▸h.eS h1 (by rw [hx];simp) (by rw [hx];rfl))
    split at he
    rotate_left
    ·cases he
    rename_i hg
    obtain ⟨vs,hvv,hcl,hcc⟩:=hv.Lc hg
    refine BI (vs:=c.args.toList.map a.eval++vs.toList) hR hΩ h (by rw [cC,cC,h3,hcl];simp) (fun i z hi=>?_) he fun hb=>?_
    ·rw [kh] at hi ⊢
     rw [h3] at hi
     split
     ·rename_i hlt
      rw [aa hlt] at hi
      exact h4 i z hi
     ·rename_i hlt
      rw [ab hlt] at hi
      have:=hcc _ z hi
      exact ⟨0,ma (by simpa [bA] using this)⟩
    ·unfold Go.execOp
     have hcf:=gK hb (List.map a.eval c.args.toList++vs.toList).toArray w
     have ha:(List.map a.eval c.args.toList++vs.toList).toArray=c.args.map a.eval++vs:=by apply mV;simp
     rw [ha] at hcf
     rw [ha]
     simp [hop,resolve,hcal,hvv,Deferred.ofValue,invoke]
     exact hcf
   ·cases he
  ·cases h1
 ·cases hl
theorem JT(dp:Nat)(hp':HP)(d:Nat):ay (st.back dp hp').fr d=if mg (ay st.fr d)=true then .u else ay st.fr d:=by
 show ay (st.fr.map fun x=>(x.1,if mg x.2=true then .u else x.2)) d=_
 induction st.fr with
 | nil=>simp [ay,mg]
 | cons y fr ih=>
  simp only [cq,ay]
  split
  ·rfl
  ·exact ih
theorem BK{dp:Nat}{hp':HP} : ∀ {bx:List (Nat×List AV)}{d:Nat}{cs:List AV},aO (gD dp hp' bx) d=some cs→hp' ⟨dp,d⟩=some cs
 | [],d,cs,h=>by cases h
 | (d',cs')::r,d,cs,h=>by
  simp only [gD] at h
  split at h
  ·rename_i zs hz
   simp only [aO] at h
   split at h
   ·rename_i e
    subst e
    rw [hz,←h]
   ·exact BK h
  ·exact BK h
theorem xp{dp:Nat}{hp':HP}{d:Nat}{r:TypeId×List AV}(h:(st.back dp hp').rowAt dp (.s d)=some r):st.rowAt dp (.s d)=some r:=by
 simp only [St.rowAt,JT] at h ⊢
 by_cases hb:mg (ay st.fr d)=true
 ·rw [aa hb] at h;cases h
 ·rw [ab hb] at h;exact h
theorem eW.FK{P:Program}{W W':Nat→Prop}{w:World}{σ σ':Sp}{L:dL}{wr wr':Prop}{t:TypeId}{es:List AV}{g cap:Nat}{cs:Array Value}(h:eW P W w σ L wr t es g cap cs)(how:σ'.ow g=some L)(hI:∀ b,σ.I b→σ'.I b)
  (hw:wr'→W' g):eW P W' w σ' L wr' t es g cap cs:=
 ⟨how,hw,h.hh,h.pos,h.nc,h.ecap,h.max,h.size,h.pure,h.one,fun j e m c he hc=>(h.cell j e m c he hc).Dm hI (fun _ _=>rfl) (jX (h.pure e (aP he)) c (aP hc)),h.base⟩
theorem j6.FK{C C':Cx}{w:World}{σ σ':Sp}{k:Key}{cs:List AV}{vs:Array Value}{T:TypeId}(h:j6 C w σ k cs vs T)(hP:C'.P=C.P)(hk:σ'.κ k=σ.κ k)(how:∀ b l,σ.ow b=some l→(l= .box k∨∃ off,l= .rowC k off)→σ'.ow b=some l)
  (hI:∀ b,σ.I b→σ'.I b) (hm:C.E.ro=false) (hW:∀ b l,σ.ow b=some l→(l= .box k∨∃ off,l= .rowC k off)→C.W b→C'.W b) (hd:∀ c∈cs,∀ k',c.cJ k'=false→σ'.κ k'=σ.κ k') (hnw:∀ c∈cs,∀ g t x,c≠.w g t x):j6 C' w σ' k cs vs T:=by
 have hmine:∀ off,(Pl.c k off).jr C.E=true:=fun off=>by simp [Pl.jr,hm]
 refine ⟨by rw [hk];exact h.hh,h.size,by rw [hk];exact how _ _ h.ow (.inl rfl),fun _=>by rw [hk];exact hW _ _ h.ow (.inl rfl) (h.wr (hmine 0)),h.one,fun off c hc=>?_,h.ty,by rw [hk];exact h.kb⟩
 have hcell:=h.cell off c hc
 have hd':=hd c (aP hc)
 have hnw':=hnw c (aP hc)
 cases c with
 | o t es=>
  rcases hcell with h1 | ⟨g,cap,cs',hv,hr⟩
  ·exact .inl h1
  ·refine .inr ⟨g,cap,cs',hv,?_⟩
   rw [hP]
   exact hr.FK (how _ _ hr.ow (.inr ⟨off,rfl⟩)) hI fun _=>hW _ _ hr.ow (.inr ⟨off,rfl⟩) (hr.wr (hmine off))
 | w g t x=>exact absurd rfl (hnw' g t x)
 | bp t k' u=>exact ⟨hcell.1,by rw [hk];exact hcell.2⟩
 | _=>exact VR.mono hcell hI (fun _ _=>rfl) hd'
theorem u0{n:Nat}{c:AV}(h:c.deep n=true):∀ g t x,c≠.w g t x:=fun g t x e=>by subst e;cases h
theorem Wj{I:Nat→Prop}{κ:Key→Nat}{w:World}{n:Nat}{x:AV}{v:Value}(h:VR w I κ x v)(hd:x.deep n=true){k:Key}(hk:x.cJ k=false):k.dp≤n:=by
 apply km
 intro hn
 have:=JQ (dp:=k.dp) (s:=k.d) (by omega) x h hd
 rw [this] at hk;cases hk
theorem j6.agT{C:Cx}{w:World}{σ:Sp}{k:Key}{cs:List AV}{vs:Array Value}{T:TypeId}{n:Nat}(h:j6 C w σ k cs vs T)(hd:∀ c∈cs,c.deep n=true):∀ c∈cs,∀ k',c.cJ k'=false→k'.dp≤n:=by
 intro c hc k' hk'
 obtain ⟨off,ho⟩:=dZ.1 hc
 have hcell:=h.cell off c ho
 have hdc:=hd c hc
 cases c with
 | o t es=>cases hk'
 | r _=>cases hcell
 | v _ _ _=>cases hcell
 | q _ _ _ _=>cases hcell
 | u=>cases hk'
 | w _ _ _=>cases hdc
 | bp t k2 u=>
  have h2:k2.dp≤n:=by simpa [AV.deep] using hdc
  have h3:k2=k':=by simpa [AV.cJ] using hk'
  exact h3▸h2
 | _=>exact Wj hcell hdc hk'
def Wc(C:Cx)(σ:Sp):Nat→Prop:=fun b=>(C.W b∧σ.ow b≠some (.mark C.E.dp))∧∀ d,σ.ow b≠some (.rowS C.E.dp d)∧σ.ow b≠some (.grp C.E.dp d)
theorem au.abE(h:au C st a w σ)(hro:C.E.ro=false)(hdp:∀ d cs,aO st.bx d=some cs→∀ c∈cs,c.deep C.E.dp=true):wH C.P (Wc C σ) (C.E.dp+1) (fun k=>st.box C.E.dp k) w σ:=by
 refine ⟨fun k cs hk hkd=>?_,fun k cs hk hkd=>?_,h.own,h.bS,h.lay⟩
 ·obtain ⟨vs',T,hB⟩:=h.bx k cs hk
  refine ⟨vs',T,hB.FK rfl rfl (fun _ _ h _=>h) (fun _ h=>h) hro (fun b l hl hor hW=>⟨⟨hW,fun e=>(by rw [hl] at e;rcases hor with rfl | ⟨_,rfl⟩<;>cases e)⟩,fun d=>⟨fun e=>(by rw [hl] at e;rcases hor with rfl | ⟨_,rfl⟩<;>cases e),fun e=>(by rw [hl] at e;rcases hor with rfl | ⟨_,rfl⟩<;>cases e)⟩⟩) (fun _ _ _ _=>rfl) fun c hc=>?_⟩
  by_cases hkk:k.dp=C.E.dp
  ·simp only [St.box,hkk,an] at hk
   exact u0 (hdp _ _ hk c hc)
  ·simp only [St.box,ab hkk] at hk
   exact u0 ((h.hpd k cs hkk hk).2 c hc)
 ·by_cases hkk:k.dp=C.E.dp
  ·refine ⟨by omega,?_⟩
   simp only [St.box,hkk,an] at hk
   rw [hkk]
   exact hdp _ _ hk
  ·simp only [St.box,ab hkk] at hk
   obtain ⟨h1,h2⟩:=h.hpd k cs hkk hk
   exact ⟨by omega,h2⟩
theorem au.called{w':World}{σ1:Sp}{hp':HP}(h:au C st a w σ)(hst:cK (yi C.P (Wc C σ) (C.E.dp+1)) w σ w' σ1)(hH:wH C.P (Wc C σ) (C.E.dp+1) hp' w' σ1) :
  cK C w σ w' {σ1 with κ:=σ.κ}∧au C (st.back C.E.dp hp') a w' {σ1 with κ:=σ.κ}:=by
 have hk1:∀ k:Key,k.dp≤C.E.dp→σ1.κ k=σ.κ k:=fun k hk=>hst.kap k (show k.dp<C.E.dp+1 by omega)
 have hnW:∀ b,¬C.W b→¬((C.W b∧σ.ow b≠some (.mark C.E.dp))∧∀ d,σ.ow b≠some (.rowS C.E.dp d)∧σ.ow b≠some (.grp C.E.dp d)):=fun b hb hb'=>hb hb'.1.1
 have hrowS:∀ g d,σ.ow g=some (.rowS C.E.dp d)→w'.heap[g]? =w.heap[g]? ∧σ1.ow g=some (.rowS C.E.dp d):=fun g d hg=>
  have hn:¬((C.W g∧σ.ow g≠some (.mark C.E.dp))∧∀ d,σ.ow g≠some (.rowS C.E.dp d)∧σ.ow g≠some (.grp C.E.dp d)):=fun hh=>(hh.2 d).1 hg
  ⟨hst.aN g (h.own g _ hg) hn,(hst.ow g (h.own g _ hg) hn).trans hg⟩
 have hgrp:∀ g d,σ.ow g=some (.grp C.E.dp d)→w'.heap[g]? =w.heap[g]? ∧σ1.ow g=some (.grp C.E.dp d):=fun g d hg=>
  have hn:¬((C.W g∧σ.ow g≠some (.mark C.E.dp))∧∀ d,σ.ow g≠some (.rowS C.E.dp d)∧σ.ow g≠some (.grp C.E.dp d)):=fun hh=>(hh.2 d).2 hg
  ⟨hst.aN g (h.own g _ hg) hn,(hst.ow g (h.own g _ hg) hn).trans hg⟩
 refine ⟨⟨hst.size,fun b hb hW=>hst.aN b hb (hnW b hW),hst.up,hst.bS,fun b hb=>(hst.dn b hb).imp id fun h=>h.1.1,fun _ _=>rfl,fun b hb hW=>hst.ow b hb (hnW b hW),hst.io⟩,?_⟩
 have hmk:Marks C a.defers w' {σ1 with κ:=σ.κ}:=by
  obtain ⟨Ds,h0,h1,h2⟩:=h.defers
  refine ⟨Ds,h0,h1,fun D hD=>?_⟩
  ·obtain ⟨h2,h3,h4⟩:=h2 D hD
   have hn:¬((C.W D∧σ.ow D≠some (.mark C.E.dp))∧∀ d,σ.ow D≠some (.rowS C.E.dp d)∧σ.ow D≠some (.grp C.E.dp d)):=fun hh=>hh.1.2 h2
   exact ⟨(hst.ow D (h.own D _ h2) hn).trans h2,h3,(hst.aN D (h.own D _ h2) hn).trans h4⟩
 refine ⟨h.size,hmk,fun d=>?_,fun k cs hk=>?_,fun k cs hne hk=>?_,hH.own,hH.bS,fun b hb=>h.new b (bU hst.size hb),hH.lay⟩
 ·rw [JT]
  split
  ·exact VR.u _
  ·rename_i hb
   have hx0:=h.fr d
   generalize ay st.fr d=y at hx0 hb
   show SR C w' {σ1 with κ:=σ.κ} _ a d y _
   cases y with
   | o t es=>exact OwnAt.aN (C:=C) hx0 (fun g hg=>hrowS g d hg) hst.up hst.bS
   | r pl=>
    cases pl with
    | c k off=>exact absurd rfl hb
    | s d'=>
     intro hs
     obtain ⟨r,hr⟩:=gd.1 hs
     exact hx0 (by rw [xp hr];rfl)
   | v pl lo len=>
    cases pl with
    | c k off=>exact absurd rfl hb
    | s d'=>
     intro t es ht hle
     exact hx0 t es (xp ht) hle
   | q pl i sz off=>
    cases pl with
    | c k off=>exact absurd rfl hb
    | s d'=>
     intro t es ht hle
     exact hx0 t es (xp ht) hle
   | w g t x=>exact pt.aN hx0 (fun b hb=>hgrp b g hb) fun _ h=>h
   | ag cs' rs=>exact wG.to hx0 (fun c _ v hv=>hv.mono hst.up hst.bS fun _ _=>rfl) (fun q _ hr=>by
     obtain ⟨r,hr⟩:=gd.1 hr
     exact ⟨by rw [xp hr];rfl,rfl⟩)
   | _=>exact VR.mono hx0 hst.up hst.bS fun _ _=>rfl
 ·have hkp:hp' k=some cs∧k.dp≤C.E.dp:=by
   by_cases hkk:k.dp=C.E.dp
   ·simp only [St.box,hkk,an] at hk
    have:=BK hk
    refine ⟨?_,by omega⟩
    rw [←hkk] at this
    exact this
   ·simp only [St.box,ab hkk,St.back] at hk
    split at hk
    ·exact ⟨hk,by omega⟩
    ·cases hk
  obtain ⟨vs',T,hB⟩:=hH.bx k cs hkp.1 (by omega)
  have hdeep:=(hH.deep k cs hkp.1 (by omega)).2
  exact ⟨vs',T,hB.FK rfl (hk1 k hkp.2).symm (fun _ _ h _=>h) (fun _ h=>h) rfl (fun b l _ _ hW=>hW.1.1) (fun c hc k' hk'=>(hk1 k' (bU (hB.agT hdeep c hc k' hk') hkp.2)).symm) fun c hc=>u0 (hdeep c hc)⟩
 ·simp only [St.back] at hk
  split at hk
  ·rename_i hlt
   exact ⟨hlt,(hH.deep k cs hk (by omega)).2⟩
  ·cases hk
theorem Rq{f:FuncId}{xs:List AV}{vs:List Value}{x:AV}{hp':HP}(hro:C.E.ro=false)(h:au C st a w σ)(hl:xs.length=vs.length)(hx:∀ (i:Nat)(x:AV),xs[i]? =some x→∃ n,SR C w σ st a n x (vs[i]?.getD undef))
  (hcp:∀ x∈xs,x.copy=true) (hdp:∀ d cs,aO st.bx d=some cs→∀ c∈cs,c.deep C.E.dp=true) (hc:AK C.P (C.E.dp+1) f xs (fun k=>st.box C.E.dp k) x hp')
  (hrun:jL C.P f→(Go.execOp a.eval o).run C.P w= .ok (.enter f vs.toArray) w):ez C o d a w σ (st.back C.E.dp hp') x:=by
 obtain ⟨hpx,hb,hcall⟩:=hc
 intro K Q hK
 unfold Oper.wp
 rw [hrun hb,Oper.upon_enter]
 refine (hcall (Wc C σ) w σ vs.toArray (fun b hb=>⟨⟨⟨(h.new b hb).1,fun e=>absurd (h.own b _ e) (oc.2 hb)⟩,fun d=>⟨fun e=>?_,fun e=>?_⟩⟩,(h.new b hb).2⟩) (h.abE hro hdp) (by simpa using hl.symm) (fun i y hi=>?_)).mono ?_
 ·have:=h.own b _ e;omega
 ·have:=h.own b _ e;omega
 ·obtain ⟨n,hn⟩:=hx i y hi
  have:=hn.Dh (hcp y (aP hi))
  simpa [bA] using this
 ·rintro e w' ⟨v,σ1,rfl,hv,hst,hH⟩
  obtain ⟨h1,h2⟩:=h.called hst hH
  exact hK v w' {σ1 with κ:=σ.κ} ⟨h1,h2,fun _ _=>ma (hv.Dm (fun _ h=>h) (fun _ _=>rfl) hpx),fun _ _ _ _ e=>by subst e;cases hpx⟩
theorem j6.ro{C:Cx}{w:World}{σ:Sp}{k:Key}{cs:List AV}{vs:Array Value}{T:TypeId}{dp:Nat}(h:j6 C w σ k cs vs T)(hk:k.dp<dp)(hnw:∀ c∈cs,∀ g t x,c≠.w g t x):j6 (VH C.P w dp) w σ k cs vs T:=by
 have hmine:∀ off,¬(Pl.c k off).jr (VH C.P w dp).E=true:=fun off=>by
  intro hm
  have:k.dp=dp:=by simp [Pl.jr,VH] at hm;exact ob hm
  omega
 refine ⟨h.hh,h.size,h.ow,fun hm=>absurd hm (hmine 0),h.one,fun off c hc=>?_,h.ty,h.kb⟩
 have hcell:=h.cell off c hc
 have hnw':=hnw c (aP hc)
 cases c with
 | o t es=>
  rcases hcell with h1 | ⟨g,cap,cs',hv,hr⟩
  ·exact .inl h1
  ·exact .inr ⟨g,cap,cs',hv,hr.FK hr.ow (fun _ h=>h) fun hm=>absurd hm (hmine off)⟩
 | w g t x=>exact absurd rfl (hnw' g t x)
 | _=>exact hcell
theorem Rr{f:FuncId}{xs:List AV}{vs:List Value}{x:AV}{h0:HP}(h:au C st a w σ)(hl:xs.length=vs.length)(hx:∀ (i:Nat)(x:AV),xs[i]? =some x→∃ n,SR C w σ st a n x (vs[i]?.getD undef))
  (hcp:∀ x∈xs,x.copy=true) (hle:∀ k cs,h0 k=some cs→st.box C.E.dp k=some cs) (hdp:∀ k cs,h0 k=some cs→k.dp=C.E.dp→∀ c∈cs,c.deep C.E.dp=true) (hc:IL C.P (C.E.dp+1) f xs h0 x)
  (hrun:jL C.P f→(Go.execOp a.eval o).run C.P w= .ok (.enter f vs.toArray) w):ez C o d a w σ st x:=by
 obtain ⟨hpx,hb,hcall⟩:=hc
 have hk:∀ k cs,h0 k=some cs→k.dp<C.E.dp+1∧∀ c∈cs,c.deep k.dp=true:=by
  intro k cs hk
  by_cases hkk:k.dp=C.E.dp
  ·exact ⟨by omega,by rw [hkk];exact hdp k cs hk hkk⟩
  ·have:=hle k cs hk
   simp only [St.box,ab hkk] at this
   obtain ⟨h1,h2⟩:=h.hpd k cs hkk this
   exact ⟨by omega,h2⟩
 intro K Q hK
 unfold Oper.wp
 rw [hrun hb,Oper.upon_enter]
 refine (hcall w σ vs.toArray (h.new _ (aT _)).2 ⟨fun k cs hk' hkd=>?_,fun k cs hk' _=>hk k cs hk',h.own,h.bS,h.lay⟩ (by simpa using hl.symm) (fun i y hi=>?_)).mono ?_
 ·obtain ⟨vs',T,hB⟩:=h.bx k cs (hle k cs hk')
  exact ⟨vs',T,hB.ro hkd fun c hc=>u0 ((hk k cs hk').2 c hc)⟩
 ·obtain ⟨n,hn⟩:=hx i y hi
  have:=hn.Dh (hcp y (aP hi))
  simpa [bA] using this
 ·rintro e w' ⟨v,I',rfl,hv,hsize,hold,hup,hdn,hlt',hio⟩
  have hsame:iB C w σ w' {σ with I:=I'} none:=
   ⟨fun b l hb _=>⟨hold b (h.own b l hb),hb⟩,fun b hb=>hold b (h.bS b hb).1,hup,rfl,hsize,fun b l hb=>eB (h.own b l hb) hsize,fun b hb=>⟨hlt' b hb,by
    rcases hdn b hb with h1 | h1
    ·exact (h.bS b h1).2
    ·show σ.ow b=none
     cases hq:σ.ow b with
     | none=>rfl
     | some l=>have:=h.own b l hq;omega⟩⟩
  refine hK v w' {σ with I:=I'} ⟨⟨hsize,fun b hb _=>hold b hb,hup,fun b hb=>hold b (h.bS b hb).1,fun b hb=>(hdn b hb).imp id fun h1=>(h.new b h1).1,fun _ _=>rfl,fun _ _ _=>rfl,hio⟩,h.same hsame,fun _ _=>ma hv,fun _ _ _ _ e=>by subst e;cases hpx⟩
theorem Fe{v:St}{f:FuncId}{xs:List AV}{vs:List Value}(hR:mb C.P R)(h:au C st a w σ)(hbx:∀ k cs,v.box C.E.dp k=some cs→st.box C.E.dp k=some cs)(hl:xs.length=vs.length)(hx:∀ (i:Nat)(x:AV),xs[i]? =some x→∃ n,SR C w σ st a n x (vs[i]?.getD undef))
  (he:js R C.E v f xs=some r) (hrun:jL C.P f→(Go.execOp a.eval o).run C.P w= .ok (.enter f vs.toArray) w):r.2=v∧ez C o d a w σ st r.1:=by
 unfold js at he
 split at he
 ·rename_i hc
  simp only [aB] at hc
  obtain ⟨⟨q,hp'⟩,hq,he2⟩:=af.1 he
  clear he
  cases q with
  | new cs=>cases he2
  | row _ _=>cases he2
  | qx _ _ _ _ _ _=>cases he2
  | ret x=>?_
  simp only at he2
  split at he2
  ·rename_i hp
   obtain rfl:=ad he2
   have hcp':∀ x∈xs,x.copy=true:=fun x hx=>bO.1 hc.1 x hx
   refine ⟨rfl,Rr h hl hx hcp' hbx (fun k cs hk hkd c hcm=>?_) (hR.ro (C.E.dp+1) f xs _ x hp' hq hcp') hrun⟩
   simp only [St.box,hkd,an] at hk
   exact nU (qw (p:=fun y=>AV.fJ C.E.dp y) _ hc.2 _ cs hk) c hcm
  ·cases he2
 ·cases he
theorem Oh{v:St}{f:FuncId}{xs:List ba}(hR:mb C.P R)(h:au C st a w σ)(hev:∀ x,v.ev x≠.u→st.ev x=v.ev x)(hbx:∀ k cs,v.box C.E.dp k=some cs→st.box C.E.dp k=some cs)(hl:bG C.P (.c3 f xs) o.op=true)(he:execOp R Ω C.E v d (.c3 f xs)=some r) :
  r.2=v∧ez C o d a w σ st r.1:=by
 simp only [bG] at hl;split at hl
 ·rename_i c hop
  simp only [aB] at hl
  obtain ⟨h1,h2⟩:=hl
  split at h1
  ·rename_i f' hcal
   have hff:f=f':=by simpa using h1
   obtain ⟨h3,h4⟩:=h.BJ _ _ h2
   simp only [execOp] at he
   have hm:xs.map st.ev=xs.map v.ev:=by
    apply sT
    intro x hxm
    refine hev x fun e=>?_
    unfold js at he
    split at he
    ·rename_i hc
     simp only [aB] at hc
     have:=bO.1 hc.1 _ (oe hxm)
     rw [e] at this;cases this
    ·cases he
   rw [hm] at h3 h4
   refine Fe hR h hbx h3 h4 he fun hb=>?_
   have hev:a.eval (.func f')= .func (.func f') #[] #[]:=rfl
   have hcf:=gK hb (List.map a.eval c.args.toList).toArray w
   have ha:(List.map a.eval c.args.toList).toArray=c.args.map a.eval:=by apply mV;simp
   rw [hff,ha] at hcf
   rw [hff,ha]
   unfold Go.execOp
   simp [hop,resolve,hcal,hev,Deferred.ofValue,invoke]
   exact hcf
  ·cases h1
 ·cases hl
theorem JU:∀ l:List AV,l.all AV.copy=true→AV.mC l=true
 | [],_=>rfl
 | z::zs,h=>by
  simp only [zg,aB] at h
  simp only [AV.mC,aB]
  exact ⟨h.1,JU zs h.2⟩
theorem Oi{v:St}{x:ba}{xs:List ba}(hR:mb C.P R)(h:au C st a w σ)(hev:∀ x,v.ev x≠.u→st.ev x=v.ev x)(hbx:∀ k cs,v.box C.E.dp k=some cs→st.box C.E.dp k=some cs)(hl:bG C.P (.d3 x xs) o.op=true)(he:execOp R Ω C.E v d (.d3 x xs)=some r) :
  r.2=v∧ez C o d a w σ st r.1:=by
 simp only [bG] at hl;split at hl
 ·rename_i c hop
  simp only [aB] at hl
  obtain ⟨h1,h2⟩:=hl
  split at h1
  ·rename_i y hcal
   obtain ⟨h3,h4⟩:=h.BJ _ _ h2
   simp only [execOp] at he
   split at he
   ·rename_i f caps hx
    split at he
    rotate_left
    ·cases he
    rename_i hg
    have hx':st.ev x= .f f caps:=by rw [hev x (by rw [hx];simp),hx]
    have hm:xs.map st.ev=xs.map v.ev:=by
     apply sT
     intro z hzm
     refine hev z fun e=>?_
     unfold js at he
     split at he
     ·rename_i hc
      simp only [aB] at hc
      have:=bO.1 hc.1 _ (gq _ (oe hzm))
      rw [e] at this;cases this
     ·cases he
    rw [hm] at h3 h4
    have hcpf:AV.copy (.f f caps)=true:=by
     unfold js at he
     split at he
     ·rename_i hc
      simp only [aB,List.all_append] at hc
      show AV.mC caps=true
      exact JU caps hc.1.2
     ·cases he
    have hv:=(hx'▸h.eS h1 (by rw [hx'];simp) (by rw [hx'];exact (by cases caps<;>rfl)))
    obtain ⟨vs,hvv,hcl,hcc⟩:=hv.Lc hg
    refine Fe (vs:=c.args.toList.map a.eval++vs.toList) hR h hbx (by rw [cC,cC,h3,hcl];simp) (fun i z hi=>?_) he fun hb=>?_
    ·rw [kh] at hi ⊢
     rw [h3] at hi
     split
     ·rename_i hlt
      rw [aa hlt] at hi
      exact h4 i z hi
     ·rename_i hlt
      rw [ab hlt] at hi
      have:=hcc _ z hi
      exact ⟨0,ma (by simpa [bA] using this)⟩
    ·unfold Go.execOp
     have hcf:=gK hb (List.map a.eval c.args.toList++vs.toList).toArray w
     have ha:(List.map a.eval c.args.toList++vs.toList).toArray=c.args.map a.eval++vs:=by apply mV;simp
     rw [ha] at hcf
     rw [ha]
     simp [hop,resolve,hcal,hvv,Deferred.ofValue,invoke]
     exact hcf
   ·cases he
  ·cases h1
 ·cases hl
open Classical in
theorem JV{st1:St}{f:FuncId}{ys:List AV}{vs:List Value}{v:Value}{t t':TypeId}{es es':List AV}{dd:Nat}(Gp:Nat→Prop)(h:au C st a w σ)(h1:au C st1 a w σ)(hdd:d=some dd)(hl:ys.length=vs.length)(hx:∀ (i:Nat)(x:AV),ys[i]? =some x→∃ n,SR C w σ st a n x (vs[i]?.getD undef))
  (hcp:∀ x∈ys,x.pure=true) (hG:∀ b,Gp b→C.W b∧∃ L,σ.ow b=some L∧Idle C st1 (some L)) (hG1:∀ b b',Gp b→Gp b'→b=b') (hc:IM C.P (C.E.dp+1) f ys t es t' es')
  (hv:∀ ow':Nat→Option dL,(∀ b,Gp b→ow' b=some (.rowS (C.E.dp+1) ys.length))→OwnAt C.P (fun b=>w.heap.size≤b∨Gp b) w {σ with ow:=ow'} (.rowS (C.E.dp+1) ys.length) True t es v)
  (hrun:jL C.P f→(Go.execOp a.eval o).run C.P w= .ok (.enter f (vs.toArray.push v)) w):ez C o d a w σ (st1.aX (.s dd)) (.o t' es'):=by
 obtain ⟨hb,hcall⟩:=hc
 let W:Nat→Prop:=fun b=>w.heap.size≤b∨Gp b
 let σ0:Sp:={σ with ow:=fun b=>if Gp b then some (.rowS (C.E.dp+1) ys.length) else σ.ow b}
 let σa:Sp:={σ with ow:=fun b=>if Gp b then none else σ.ow b}
 have hGs:∀ b,Gp b→b<w.heap.size:=fun b hb=>by obtain ⟨_,L,hL,_⟩:=hG b hb;exact h.own b L hL
 have hGi:∀ b,Gp b→¬σ.I b:=fun b hb hi=>by obtain ⟨_,L,hL,_⟩:=hG b hb;rw [(h.bS b hi).2] at hL;cases hL
 have ha:au C st1 a w σa:=by
  by_cases hne:∃ b,Gp b
  ·obtain ⟨g,hg⟩:=hne
   obtain ⟨_,L,hL,hI⟩:=hG g hg
   refine h1.GY (L:=some L) ⟨fun b l hb hne=>⟨rfl,?_⟩,fun _ _=>rfl,fun _ h=>h,rfl,aT _,fun b l hb=>?_,fun b hb=>⟨(h.bS b hb).1,?_⟩⟩ hI
   ·show (if Gp b then none else σ.ow b)=some l
    rw [ab,hb]
    intro hgb
    rw [hG1 b g hgb hg,hL] at hb
    exact hne hb.symm
   ·have hb:(if Gp b then none else σ.ow b)=some l:=hb
    split at hb
    ·cases hb
    ·exact h.own b l hb
   ·show (if Gp b then none else σ.ow b)=none
    rw [ab (fun hg=>hGi b hg hb)]
    exact (h.bS b hb).2
  ·have he:σa=σ:=by
    have:σa.ow=σ.ow:=by
     funext b
     show (if Gp b then none else σ.ow b)=_
     rw [ab fun hg=>hne ⟨b,hg⟩]
    cases σ;simp only [σa] at this ⊢;rw [this]
   rw [he];exact h1
 intro K Q hK
 unfold Oper.wp
 rw [hrun hb,Oper.upon_enter]
 refine (hcall W w σ0 vs.toArray v (fun b hb=>⟨.inl hb,(h.new b hb).2⟩) ⟨fun k cs hk=>(by cases hk),fun k cs hk=>(by cases hk),fun b l hb=>?_,fun b hb=>⟨(h.bS b hb).1,?_⟩,h.lay⟩ (by simpa using hl.symm) (fun i y hi=>?_) (hv _ fun b hb=>aa hb)).mono ?_
 ·have hb:(if Gp b then some (dL.rowS (C.E.dp+1) ys.length) else σ.ow b)=some l:=hb
  split at hb
  ·rename_i hg;exact hGs b hg
  ·exact h.own b l hb
 ·show (if Gp b then some (dL.rowS (C.E.dp+1) ys.length) else σ.ow b)=none
  rw [ab (fun hg=>hGi b hg hb)]
  exact (h.bS b hb).2
 ·obtain ⟨n,hn⟩:=hx i y hi
  have:=hn.Dh (dE y (hcp y (aP hi)))
  simpa [bA] using this
 ·rintro e w' ⟨v',σ1,n,rfl,hv',hst,hH⟩
  have hW0:∀ b,b<w.heap.size→¬Gp b→¬W b:=fun b hb hg hw=>hw.elim (fun h=>absurd hb (oc.2 h)) hg
  have hWC:∀ b,W b→C.W b:=fun b hw=>hw.elim (fun h1=>(h.new b h1).1) fun hg=>(hG b hg).1
  have how0:∀ b,¬Gp b→σ0.ow b=σ.ow b:=fun b hg=>ab hg
  let σ2:Sp:=⟨σ.κ,fun b=>if σ1.ow b=some (.rowS (C.E.dp+1) n)∧W b then some (.rowS C.E.dp dd) else if W b then none else σ.ow b,σ1.I⟩
  have hs2:iB C w σa w' σ2 none:=by
   refine ⟨fun b l hb _=>?_,hst.bS,hst.up,rfl,hst.size,fun b l hb=>?_,fun b hb=>⟨(hH.bS b hb).1,?_⟩⟩
   ·have hb:(if Gp b then none else σ.ow b)=some l:=hb
    split at hb
    ·cases hb
    ·rename_i hg
     have hlt:=h.own b l hb
     refine ⟨hst.aN b hlt (hW0 b hlt hg),?_⟩
     show (if _ then _ else if W b then none else σ.ow b)=_
     rw [ab fun hh=>hW0 b hlt hg hh.2,ab (hW0 b hlt hg),hb]
   ·have hb:(if σ1.ow b=some (.rowS (C.E.dp+1) n)∧W b then some (dL.rowS C.E.dp dd) else if W b then none else σ.ow b)=some l:=hb
    split at hb
    ·rename_i hh;exact hH.own b _ hh.1
    ·split at hb
     ·cases hb
     ·exact eB (h.own b l hb) hst.size
   ·show (if σ1.ow b=some (.rowS (C.E.dp+1) n)∧W b then some (dL.rowS C.E.dp dd) else if W b then none else σ.ow b)=none
    have h0:=(hH.bS b hb).2
    rw [ab (fun hh=>by rw [h0] at hh;cases hh.1)]
    split
    ·rfl
    ·rename_i hw
     have hlt:b<w.heap.size:=Nat.lt_of_not_le fun hle=>hw (.inl hle)
     have hg:¬Gp b:=fun hg=>hw (.inr hg)
     rw [←how0 b hg,←hst.ow b hlt hw]
     exact h0
  have hc2:=(ha.same hs2).aX (.s dd)
  refine hK v' w' σ2 (au.rh hdd ⟨hst.size,fun b hb hW=>hst.aN b hb fun hw=>hW (hWC b hw),hst.up,hst.bS,fun b hb=>(hst.dn b hb).imp id (hWC b),fun _ _=>rfl,fun b hb hW=>?_,hst.io⟩ hc2 ?_)
  ·have hw:¬W b:=fun hw=>hW (hWC b hw)
   show (if σ1.ow b=some (.rowS (C.E.dp+1) n)∧W b then some (dL.rowS C.E.dp dd) else if W b then none else σ.ow b)=σ.ow b
   rw [ab fun hh=>hw hh.2,ab hw]
  ·rcases hv' with h3 | ⟨g',cap',cs',hv2,hr⟩
   ·exact .inl h3
   ·have hw:W g':=hr.wr trivial
    refine .inr ⟨g',cap',cs',hv2,⟨?_,fun _=>hWC g' hw,hr.hh,hr.pos,hr.nc,hr.ecap,hr.max,hr.size,hr.pure,hr.one,fun j e m c he hc=>(hr.cell j e m c he hc).Dm (fun _ h=>h) (fun _ _=>rfl) (jX (hr.pure e (aP he)) c (aP hc)),hr.base⟩⟩
    show (if σ1.ow g'=some (.rowS (C.E.dp+1) n)∧W g' then some (dL.rowS C.E.dp dd) else if W g' then none else σ.ow g')=_
    rw [aa ⟨hr.ow,hw⟩]
theorem G6:∀ {xs:List ba}{x:ba}{ys:List Operand},eb ys (xs++[x])=true→∃ ys0 y,ys=ys0++[y]∧eb ys0 xs=true∧bP y x=true
 | [],x,ys,h=>by
  match ys,h with
  | [y],h=>exact ⟨[],y,rfl,rfl,by simpa [eb] using h⟩
  | [],h=>simp [eb] at h
  | _::_::_,h=>simp [eb] at h
 | z::xs,x,ys,h=>by
  match ys,h with
  | [],h=>simp [eb] at h
  | y::ys,h=>
   simp only [eA,eb,aB] at h
   obtain ⟨ys0,y',rfl,h1,h2⟩:=G6 h.2
   exact ⟨y::ys0,y',rfl,by simp [eb,h.1,h1],h2⟩
theorem abF{t:TypeId}{f:FuncId}{xs:List ba}{x:ba}(hR:mb C.P R)(h:au C st a w σ)(hl:bG C.P (.cm t f xs x) o.op=true)(he:execOp R Ω C.E st d (.cm t f xs x)=some r):ez C o d a w σ r.2 r.1:=by
 simp only [bG] at hl;split at hl
 ·rename_i c hop
  simp only [aB] at hl
  obtain ⟨h1,h2⟩:=hl
  split at h1
  ·rename_i f' hcal
   have hff:f=f':=by simpa using h1
   obtain ⟨ys0,y,hys,hlo,hly⟩:=G6 h2
   obtain ⟨h3,h4⟩:=h.BJ _ _ hlo
   simp only [execOp] at he
   obtain ⟨dd,hdd,he1⟩:=af.1 he
   clear he
   unfold Ip at he1
   split at he1
   ·rename_i hp
    simp only [aB,gu] at hp
    obtain ⟨⟨es,st1⟩,hq,he2⟩:=af.1 he1
    obtain ⟨⟨q,hp'⟩,hr,he3⟩:=af.1 he2
    clear he1 he2
    simp only at he3 hr
    cases q with
    | ret _=>cases he3
    | new _=>cases he3
    | qx _ _ _ _ _ _=>cases he3
    | row t' es'=>
     obtain rfl:=ad he3
     obtain ⟨hc1,hrow⟩:=h.consume hly hq
     have hpu:∀ z∈xs.map st.ev,z.pure=true:=fe hp.2
     have hcm:=hR.mov (C.E.dp+1) f (xs.map st.ev) t es hp' t' es' hr hpu
     have hrun:jL C.P f→(Go.execOp a.eval o).run C.P w= .ok (.enter f ((ys0.map a.eval).toArray.push (a.eval y))) w:=fun hb=>by
      have hev:a.eval (.func f')= .func (.func f') #[] #[]:=rfl
      have hcf:=gK hb (List.map a.eval c.args.toList).toArray w
      have ha:(List.map a.eval c.args.toList).toArray=c.args.map a.eval:=by apply mV;simp
      have ha2:(List.map a.eval c.args.toList).toArray=(ys0.map a.eval).toArray.push (a.eval y):=by rw [hys];simp
      rw [←ha2]
      rw [hff,ha] at hcf
      rw [hff,ha]
      unfold Go.execOp
      simp [hop,resolve,hcal,hev,Deferred.ofValue,invoke]
      exact hcf
     rcases hrow with ⟨hes,hev⟩ | ⟨L,g,cap,cs,hev,hRow,hIdle⟩
     ·exact JV (fun _=>False) h hc1 hdd h3 h4 hpu (fun _ hf=>hf.elim) (fun _ _ hf=>hf.elim) hcm (fun _ _=>.inl ⟨hes,hev⟩) hrun
     ·refine JV (fun b=>b=g) h hc1 hdd h3 h4 hpu (fun b hb=>by subst hb;exact ⟨hRow.wr trivial,L,hRow.ow,hIdle⟩) (fun b b' hb hb'=>hb.trans hb'.symm) hcm (fun ow' how=>?_) hrun
      exact .inr ⟨g,cap,cs,hev,⟨how g rfl,fun _=>.inr rfl,hRow.hh,hRow.pos,hRow.nc,hRow.ecap,hRow.max,hRow.size,hRow.pure,hRow.one,hRow.cell,hRow.base⟩⟩
   ·cases he1
  ·cases h1
 ·cases hl
theorem abG{t:TypeId}{f:FuncId}{xs:List ba}(hΩ:ix C.P Ω)(h:au C st a w σ)(hl:bG C.P (.cr t f xs) o.op=true)(he:execOp R Ω C.E st d (.cr t f xs)=some r):ez C o d a w σ r.2 r.1:=by
 simp only [bG] at hl;split at hl
 ·rename_i c hop
  simp only [aB] at hl
  obtain ⟨h1,h2⟩:=hl
  split at h1
  ·rename_i f' hcal
   have hff:f=f':=by simpa using h1
   obtain ⟨h3,h4⟩:=h.BJ _ _ h2
   simp only [execOp] at he
   obtain ⟨dd,hdd,he1⟩:=af.1 he
   clear he
   unfold Io at he1
   split at he1
   ·rename_i hp
    obtain ⟨x,hx,he2⟩:=af.1 he1
    clear he1
    split at he2
    ·split at he2
     ·rename_i t' htt
      subst htt
      obtain rfl:=ad he2
      obtain ⟨hb,hpos,hcall⟩:=hΩ.row f _ _ hx (fe hp)
      have hrun:(Go.execOp a.eval o).run C.P w= .ok (.enter f (c.args.toList.map a.eval).toArray) w:=by
       have hev:a.eval (.func f')= .func (.func f') #[] #[]:=rfl
       have hcf:=gK hb (List.map a.eval c.args.toList).toArray w
       have ha:(List.map a.eval c.args.toList).toArray=c.args.map a.eval:=by apply mV;simp
       rw [hff,ha] at hcf
       rw [hff,ha]
       unfold Go.execOp
       simp [hop,resolve,hcal,hev,Deferred.ofValue,invoke]
       exact hcf
      intro K Q hK
      unfold Oper.wp
      rw [hrun,Oper.upon_enter]
      refine (hcall w σ.I σ.κ _ (h.new _ (aT _)).2 (fun b hb=>(h.bS b hb).1) (by rw [qc];exact h3.symm) (fun i y hi=>?_)).mono ?_
      ·obtain ⟨n,hn⟩:=h4 i y hi
       have:=hn.Dh (dE _ (fe hp y (aP hi)))
       simpa [bA] using this
      ·rintro e w' ⟨v,rfl,hv,hsize,hold,hio⟩
       rcases hv with rfl | ⟨g,cap,cs,rfl,hg,hh,hcap,hcs⟩
       ·have hsame:iB C w σ w' σ none:=⟨fun b l hb _=>⟨hold b (h.own b l hb),hb⟩,fun b hb=>hold b (h.bS b hb).1,fun _ h=>h,rfl,hsize,fun b l hb=>eB (h.own b l hb) hsize,fun b hb=>⟨eB (h.bS b hb).1 hsize,(h.bS b hb).2⟩⟩
        exact hK _ w' σ (au.rh hdd ⟨hsize,fun b hb _=>hold b hb,fun _ h=>h,fun b hb=>hold b (h.bS b hb).1,fun _ h=>.inl h,fun _ _=>rfl,fun _ _ _=>rfl,hio⟩ ((h.same hsame).aX _) (.inl ⟨rfl,rfl⟩))
       ·have hgl:g<w'.heap.size:=by
         apply km
         intro hn
         rw [zo (by omega)] at hh
         cases hh
        have hne:∀ b,b<w.heap.size→b≠g:=fun b hb e=>by omega
        have hsame:iB C w σ w' (σ.add g (some (.rowS C.E.dp dd))) none:=by
         refine ⟨fun b l hb _=>⟨hold b (h.own b l hb),?_⟩,fun b hb=>hold b (h.bS b hb).1,fun _ h=>h,rfl,hsize,fun b l hb=>?_,fun b hb=>⟨eB (h.bS b hb).1 hsize,?_⟩⟩
         ·simp only [Sp.add,ab (hne b (h.own b l hb)),hb]
         ·simp only [Sp.add] at hb
          split at hb
          ·omega
          ·exact eB (h.own b l hb) hsize
         ·have hb':σ.I b:=hb
          simp only [Sp.add,ab (hne b (h.bS b hb').1)]
          exact (h.bS b hb').2
        refine hK _ w' (σ.add g (some (.rowS C.E.dp dd))) (au.rh hdd ⟨hsize,fun b hb _=>hold b hb,fun _ h=>h,fun b hb=>hold b (h.bS b hb).1,fun _ h=>.inl h,fun _ _=>rfl,fun b hb _=>ab (hne b hb),hio⟩ ((h.same hsame).aX _) (.inr ⟨g,cap,cs,rfl,?_⟩))
        exact ⟨by simp [Sp.add],fun _=>(h.new g hg).1,hh,hpos,(fun e he=>by cases he),b9 _,hcap,hcs,(fun e he=>by cases he),(fun e he=>by cases he),(fun j e m c he=>by simp at he),(h.new g hg).2⟩
     ·cases he2
    ·cases he2
   ·cases he1
  ·cases h1
 ·cases hl
theorem An{f:FuncId}{xs:List AV}{vs:List Value}(hR:mb C.P R)(hΩ:ix C.P Ω)(h:au C st a w σ)(hl:xs.length=vs.length)(hx:∀ (i:Nat)(x:AV),xs[i]? =some x→∃ n,SR C w σ st a n x (vs[i]?.getD undef))
  (he:dq R Ω C.E st f xs=some r) (hrun:jL C.P f→(Go.execOp a.eval o).run C.P w= .ok (.enter f vs.toArray) w):ez C o d a w σ r.2 r.1:=by
 unfold dq at he
 split at he
 ·exact BI hR hΩ h hl hx he hrun
 split at he
 ·rename_i hc
  simp only [aB,gu] at hc
  obtain ⟨⟨hro,hcp⟩,hdp⟩:=hc
  obtain ⟨⟨q,hp'⟩,hq,he2⟩:=af.1 he
  clear he
  cases q with
  | new cs=>cases he2
  | row _ _=>cases he2
  | qx _ _ _ _ _ _=>cases he2
  | ret x=>?_
  obtain rfl:=ad he2
  have hcp':∀ x∈xs,x.copy=true:=fun x hx=>bO.1 hcp x hx
  exact Rq hro h hl hx hcp' (fun d cs hb c hc=>nU (qw (p:=fun y=>AV.fJ C.E.dp y) _ hdp d cs hb) c hc) (hR.ret (C.E.dp+1) f xs _ x hp' hq hcp') hrun
 ·cases he
theorem abH{f:FuncId}{xs:List ba}(hR:mb C.P R)(hΩ:ix C.P Ω)(h:au C st a w σ)(hl:bG C.P (.c2 f xs) o.op=true)(he:execOp R Ω C.E st d (.c2 f xs)=some r) :
  ez C o d a w σ r.2 r.1:=by
 simp only [bG] at hl;split at hl
 ·rename_i c hop
  simp only [aB] at hl
  obtain ⟨h1,h2⟩:=hl
  split at h1
  ·rename_i f' hcal
   have hff:f=f':=by simpa using h1
   obtain ⟨h3,h4⟩:=h.BJ _ _ h2
   simp only [execOp] at he
   refine An hR hΩ h h3 h4 he fun hb=>?_
   have hev:a.eval (.func f')= .func (.func f') #[] #[]:=rfl
   have hcf:=gK hb (List.map a.eval c.args.toList).toArray w
   have ha:(List.map a.eval c.args.toList).toArray=c.args.map a.eval:=by apply mV;simp
   rw [hff,ha] at hcf
   rw [hff,ha]
   unfold Go.execOp
   simp [hop,resolve,hcal,hev,Deferred.ofValue,invoke]
   exact hcf
  ·cases h1
 ·cases hl
theorem abI{x:ba}{xs:List ba}(hR:mb C.P R)(hΩ:ix C.P Ω)(h:au C st a w σ)(hl:bG C.P (.d2 x xs) o.op=true)(he:execOp R Ω C.E st d (.d2 x xs)=some r) :
  ez C o d a w σ r.2 r.1:=by
 simp only [bG] at hl;split at hl
 ·rename_i c hop
  simp only [aB] at hl
  obtain ⟨h1,h2⟩:=hl
  split at h1
  ·rename_i y hcal
   obtain ⟨h3,h4⟩:=h.BJ _ _ h2
   simp only [execOp] at he
   split at he
   ·rename_i f caps hx
    have hv:=(hx▸h.eS h1 (by rw [hx];simp) (by rw [hx];rfl))
    split at he
    ·rename_i hg
     obtain ⟨vs,hvv,hcl,hcc⟩:=hv.Lc hg
     refine An (vs:=c.args.toList.map a.eval++vs.toList) hR hΩ h (by rw [cC,cC,h3,hcl];simp) (fun i z hi=>?_) he fun hb=>?_
     ·rw [kh] at hi ⊢
      rw [h3] at hi
      split
      ·rename_i hlt
       rw [aa hlt] at hi
       exact h4 i z hi
      ·rename_i hlt
       rw [ab hlt] at hi
       have:=hcc _ z hi
       exact ⟨0,ma (by simpa [bA] using this)⟩
     ·unfold Go.execOp
      have hcf:=gK hb (List.map a.eval c.args.toList++vs.toList).toArray w
      have ha:(List.map a.eval c.args.toList++vs.toList).toArray=c.args.map a.eval++vs:=by apply mV;simp
      rw [ha] at hcf
      rw [ha]
      simp [hop,resolve,hcal,hvv,Deferred.ofValue,invoke]
      exact hcf
    ·rename_i hg
     obtain ⟨vs,hvv,hcl,hcc⟩:=hv.abc hg
     refine An (vs:=vs.toList++c.args.toList.map a.eval) hR hΩ h (by rw [cC,cC,h3,hcl];simp) (fun i z hi=>?_) he fun hb=>?_
     ·rw [kh] at hi ⊢
      have hcl':caps.length=vs.toList.length:=by rw [hcl];simp
      rw [hcl'] at hi
      split
      ·rename_i hlt
       rw [aa hlt] at hi
       have:=hcc _ z hi
       exact ⟨0,ma (by simpa [bA] using this)⟩
      ·rename_i hlt
       rw [ab hlt] at hi
       exact h4 _ z hi
     ·unfold Go.execOp
      have hcf:=gK hb (vs.toList++List.map a.eval c.args.toList).toArray w
      have ha:(vs.toList++List.map a.eval c.args.toList).toArray=vs++c.args.map a.eval:=by apply mV;simp
      rw [ha] at hcf
      rw [ha]
      simp [hop,resolve,hcal,hvv,Deferred.ofValue,invoke]
      exact hcf
   ·cases he
  ·cases h1
 ·cases hl
theorem ri{t:TypeId}{l:List AV}(h:AV.vP t l=true):∀ x∈l,AV.pg t x=true:=by
 induction l with
 | nil=>intro x hx;cases hx
 | cons y l ih=>
  simp only [AV.vP,aB] at h
  intro x hx
  rcases cQ.1 hx with rfl | hx
  ·exact h.1
  ·exact ih h.2 x hx
theorem TI{t:TypeId}{x:AV}(h:AV.pg t x=true):∀ c∈x.cl,AV.pg t c=true:=by
 intro c hc
 cases x<;>simp only [AV.cl,gm] at hc<;>first | (subst hc;exact h) | skip
 exact ri (by simpa [AV.pg] using h) c hc
theorem VR.fresh{B' B:bI}{w:World}{I J:Nat→Prop}{κ:Key→Nat}{t:TypeId}(h0:t≠0)(htg:B'.tg t=false)(hn:B.n0≤B'.n0)(hJ:∀ b,I b→B'.n0≤b→(∃ cs,w.heap[b]? =some (.cells cs t (0,0)))→J b)
  {x:AV} {v:Value} (h : @VR B' w I κ x v) (hx:AV.pg t x=true) : @VR B w J κ x v:=by
 induction h with
 | u v=>exact .u v
 | sk=>exact .sk
 | b x=>exact .b x
 | i k n=>exact .i k n
 | s l=>exact .s l
 | n=>exact .n
 | z=>exact .z
 | nf=>exact .nf
 | ni=>exact .ni
 | lnil t A cap=>exact .lnil t A cap
 | l s es g o cap cs T fz sz hI0 hh0 ht hsz hnc hsize hp h1 hcap hmax hc ih=>
  cases es with
  | nil=>exact .lnil _ _ _
  | cons e0 es=>
   have hx':s=t∧AV.vP t (e0::es)=true:=by
    simpa [AV.pg] using hx
   obtain ⟨rfl,hx2⟩:=hx'
   have hg:B'.n0≤g:=by
    rcases lF g B'.n0 with hlt | hge
    ·have:=(ht h0).2 hlt
     rw [htg] at this;cases this
    ·exact hge
   obtain ⟨rfl,rfl⟩:=(ht h0).1 hg
   exact @VR.l B w J κ T (e0::es) g o cap cs T (0,0) sz (hJ g hI0 hg ⟨_,hh0⟩) hh0 (fun _=>⟨fun _=>⟨rfl,rfl⟩,fun h=>absurd (bU hn hg) (Nat.not_le_of_lt h)⟩) hsz hnc hsize hp h1 hcap hmax
    fun j e m c he hc'=>ih j e m c he hc' (TI (ri hx2 e (aP he)) c (aP hc'))
 | e x off g o cs T fz hI0 hh0 hp hsize h1 hc ih=>simp [AV.pg] at hx
 | f g caps vs hg hl hc ih=>exact .f g caps vs hg hl fun m c hc'=>ih m c hc' (ri (by simpa [AV.pg] using hx) c (aP hc'))
 | fm g caps vs hl hc ih=>exact .fm g caps vs hl fun m c hc'=>ih m c hc' (ri (by simpa [AV.pg] using hx) c (aP hc'))
 | a cs vs hl h1 hc ih=>exact .a cs vs hl h1 fun m c hc'=>ih m c hc' (ri (by simpa [AV.pg] using hx) c (aP hc'))
 | tp cs vs hl hc ih=>exact .tp cs vs hl fun m c hc'=>ih m c hc' (ri (by simpa [AV.pg] using hx) c (aP hc'))
 | ifc t x v h ih=>exact .ifc t x v (ih (by simpa [AV.pg] using hx))
 | p k off=>exact .p k off
 | sp k off n sz cap h1 h2=>exact .sp k off n sz cap h1 h2
theorem pt.wrap{y:AV}{g:Nat}{t:TypeId}{v:Value}{n:Nat}(h:pt C.W C.E.dp w σ g t y v):SR C w σ st a n (Un g t y) v:=by
 unfold Un
 split
 ·obtain ⟨_,h⟩:=h
  cases h;exact .i _ _
 ·obtain ⟨_,h⟩:=h
  cases h;exact .b _
 ·exact h
theorem Dq(hR':lM C.P R)(hΩ:ix C.P Ω)(ao:oG)(h:au C st a w σ)(hl:bG C.P ao o.op=true)(he:execOp R Ω C.E st d ao=some r):ez C o d a w σ r.2 r.1:=by
 have hR:=hR'.h
 cases ao with
 | mv x=>exact abd h hl he
 | as x=>exact abu h hl he
 | pk c x y=>exact abe h hl he
 | bx x=>exact abt h hl he
 | al zs=>exact abr h hl he
 | ld n x=>exact abl h hl he
 | st n x y=>exact abv h hl he
 | fa off x=>exact abj h hl he
 | fd n off x=>exact abk h hl he
 | ia sz arr x i=>exact abm h hl he
 | bo op bl x y=>exact abn h hl he
 | no x=>exact abf h hl he
 | bs t sz es=>exact abw h hl he
 | bd zs fs=>exact abq h hl he
 | ms t sz by_ x n=>exact abx h hl he
 | sl t sz x lo hi=>exact abp h hl he
 | ex x i=>exact abg h hl he
 | mf f caps=>exact abh h hl he
 | ca m f args=>exact abC hR hΩ h hl he
 | cf m x args=>exact abD hR hΩ h hl he
 | c2 f args=>exact abH hR hΩ h hl he
 | d2 x args=>exact abI hR hΩ h hl he
 | c3 f args=>obtain ⟨h1,h2⟩:=Oh hR h (fun _ _=>rfl) (fun _ _ h=>h) hl he;rw [h1];exact h2
 | d3 x args=>obtain ⟨h1,h2⟩:=Oi hR h (fun _ _=>rfl) (fun _ _ h=>h) hl he;rw [h1];exact h2
 | cr t f args=>exact abG hΩ h hl he
 | cm t f args x=>exact abF hR h hl he
 | ln str x=>exact abo h hl he
 | ap t sz by_ x y=>exact abz h hl he
 | nc x=>exact abi h hl he
end
end Go.Proofs.YtkkkkondjclcnaaGreat.A
