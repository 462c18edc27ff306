/- Calls of functions that change nothing; every operation. -/
import Derived.Test.YtkkkkondjclcnaaGreatAbsP
import Derived.RangeFuncOwn
set_option linter.all false
namespace Go.Proofs.YtkkkkondjclcnaaGreat.A
open Go
variable [bJ]
def jk(P:Program)(f:FuncId):Prop:=∃ fn,P.funcs[f]? =some fn∧fn.body.isNone=false∧(fn.name== "runtime.NumGoroutine")=false
def Aw(P:Program)(f:FuncId)(ys:List AV)(x:AV):Prop:=
 jk P f∧∀ (w:World)(I:Nat→Prop)(κ:Key→Nat)(cargs:Array Value),bJ.n0≤w.heap.size∧JC w I→(∀ b,I b→b<w.heap.size)→cargs.size=ys.length→(∀ (i:Nat)(y:AV),ys[i]? =some y→VR w I κ y (cargs.getD i undef))→
  Calls P f cargs w fun e w'=>∃ v I',e= .returned v∧VR w' I' κ x v∧w.heap.size≤w'.heap.size∧(∀ b,b<w.heap.size→w'.heap[b]? =w.heap[b]?)∧(∀ b,I b→I' b)∧(∀ b,I' b→I b∨w.heap.size≤b)∧(∀ b,I' b→b<w'.heap.size)∧w'.os=w.os∧w'.output=w.output
def u0(P:Program)(W:Nat→Prop)(dp:Nat):Cx:=⟨P,W,⟨dp,false⟩,0⟩
structure wH(P:Program)(W:Nat→Prop)(dp:Nat)(hp:HP)(w:World)(σ:Sp):Prop where
 bx:∀ k cs,hp k=some cs→k.dp<dp→∃ vs T,kg (u0 P W dp) w σ k cs vs T
 deep:∀ k cs,hp k=some cs→k.dp≠dp→k.dp<dp∧∀ c∈cs,c.deep k.dp=true
 own:∀ b l,σ.ow b=some l→b<w.heap.size
 bT:∀ b,σ.I b→b<w.heap.size∧σ.ow b=none
 lay:JC w σ.I
def Ax(P:Program)(dp:Nat)(f:FuncId)(ys:List AV)(hp:HP)(x:AV)(hp':HP):Prop:=
 x.pure=true∧jk P f∧∀ (W:Nat→Prop)(w:World)(σ:Sp)(cargs:Array Value),(∀ b,w.heap.size≤b→W b∧bJ.n0≤b)→wH P W dp hp w σ→cargs.size=ys.length→
  (∀ (i:Nat)(y:AV),ys[i]? =some y→VR w σ.I σ.κ y (cargs.getD i undef))→
  Calls P f cargs w fun e w'=>∃ v σ',e= .returned v∧VR w' σ'.I σ'.κ x v∧cM (u0 P W dp) w σ w' σ'∧wH P W dp hp' w' σ'
def IA(P:Program)(dp:Nat)(f:FuncId)(ys:List AV)(hp:HP)(cs:List AV)(hp':HP):Prop:=
 cs.all xy=true∧jk P f∧∀ (W:Nat→Prop)(w:World)(σ:Sp)(cargs:Array Value),(∀ b,w.heap.size≤b→W b∧bJ.n0≤b)→wH P W dp hp w σ→cargs.size=ys.length→
  (∀ (i:Nat)(y:AV),ys[i]? =some y→VR w σ.I σ.κ y (cargs.getD i undef))→
  Calls P f cargs w fun e w'=>∃ σ' kk vs T,e= .returned (.pointer (some ⟨σ'.κ kk,0,none⟩))∧kk.dp=dp∧kg (u0 P W dp) w' σ' kk cs vs T∧cM (u0 P W dp) w σ w' σ'∧wH P W dp hp' w' σ'
def VN(P:Program)(w:World)(dp:Nat):Cx:=⟨P,fun b=>w.heap.size≤b,⟨dp,true⟩,0⟩
structure HpR(P:Program)(dp:Nat)(hp:HP)(w:World)(σ:Sp):Prop where
 bx:∀ k cs,hp k=some cs→k.dp<dp→∃ vs T,kg (VN P w dp) w σ k cs vs T
 deep:∀ k cs,hp k=some cs→k.dp≠dp→k.dp<dp∧∀ c∈cs,c.deep k.dp=true
 own:∀ b l,σ.ow b=some l→b<w.heap.size
 bT:∀ b,σ.I b→b<w.heap.size∧σ.ow b=none
 lay:JC w σ.I
def IB(P:Program)(dp:Nat)(f:FuncId)(ys:List AV)(hp:HP)(x:AV):Prop:=
 x.pure=true∧jk P f∧∀ (w:World)(σ:Sp)(cargs:Array Value),bJ.n0≤w.heap.size→HpR P dp hp w σ→cargs.size=ys.length→
  (∀ (i:Nat)(y:AV),ys[i]? =some y→VR w σ.I σ.κ y (cargs.getD i undef))→
  Calls P f cargs w fun e w'=>∃ v I',e= .returned v∧VR w' I' σ.κ x v∧w.heap.size≤w'.heap.size∧(∀ b,b<w.heap.size→w'.heap[b]? =w.heap[b]?)∧(∀ b,σ.I b→I' b)∧(∀ b,I' b→σ.I b∨w.heap.size≤b)∧(∀ b,I' b→b<w'.heap.size)∧w'.os=w.os∧w'.output=w.output
def VO(P:Program)(f:FuncId)(ys:List AV)(t:TypeId):Prop:=
 jk P f∧0<P.cellsOf t∧∀ (w:World)(I:Nat→Prop)(κ:Key→Nat)(cargs:Array Value),bJ.n0≤w.heap.size→(∀ b,I b→b<w.heap.size)→cargs.size=ys.length→(∀ (i:Nat)(y:AV),ys[i]? =some y→VR w I κ y (cargs.getD i undef))→
  Calls P f cargs w fun e w'=>∃ v,e= .returned v∧(v= .slice none 0 0∨∃ g cap cs,v= .slice (some ⟨g,0,none⟩) 0 cap∧w.heap.size≤g∧w'.heap[g]? =some (.cells cs t (0,0))∧cap≤maxLen∧cs.size=cap*P.cellsOf t)∧
   w.heap.size≤w'.heap.size∧(∀ b,b<w.heap.size→w'.heap[b]? =w.heap[b]?)∧w'.os=w.os∧w'.output=w.output
def IC(P:Program)(dp:Nat)(f:FuncId)(ys:List AV)(t:TypeId)(es:List AV)(t':TypeId)(es':List AV):Prop:=
 jk P f∧∀ (W:Nat→Prop)(w:World)(σ:Sp)(cargs:Array Value)(v:Value),(∀ b,w.heap.size≤b→W b∧bJ.n0≤b)→wH P W dp (fun _=>none) w σ→cargs.size=ys.length→
  (∀ (i:Nat)(y:AV),ys[i]? =some y→VR w σ.I σ.κ y (cargs.getD i undef))→OwnAt P W w σ (.rowS dp ys.length) True t es v→
  Calls P f (cargs.push v) w fun e w'=>∃ v' σ' n,e= .returned v'∧OwnAt P W w' σ' (.rowS dp n) True t' es' v'∧cM (u0 P W dp) w σ w' σ'∧wH P W dp (fun _=>none) w' σ'
structure lj(P:Program)(R:Rec):Prop where
 ret:∀ dp f ys hp x hp',R ⟨dp,false⟩ f ys hp=some (.ret x,hp')→(∀ y∈ys,y.copy=true)→Ax P dp f ys hp x hp'
 new:∀ dp f ys hp cs hp',R ⟨dp,false⟩ f ys hp=some (.new cs,hp')→(∀ y∈ys,y.copy=true)→IA P dp f ys hp cs hp'
 ro:∀ dp f ys hp x hp',R ⟨dp,true⟩ f ys hp=some (.ret x,hp')→(∀ y∈ys,y.copy=true)→IB P dp f ys hp x
 mov:∀ dp f ys t es hp' t' es',R ⟨dp,false⟩ f (ys++[.o t es]) (fun _=>none)=some (.row t' es',hp')→(∀ y∈ys,y.pure=true)→IC P dp f ys t es t' es'
def Wp(P:Program)(f:FuncId)(y:AV):Prop:=
 jk P f∧∀ (w:World)(I:Nat→Prop)(κ:Key→Nat)(v:Value),(∀ b,I b→∃ cs T,w.heap[b]? =some (.cells cs T (0,0)))→VR w I κ y v→
  Calls P f #[v] w fun e w'=>(∃ r,e= .returned r)∧w.heap.size≤w'.heap.size∧(∀ b,b<w.heap.size→¬I b→w'.heap[b]? =w.heap[b]?)∧w'.os=w.os∧w'.output=w.output
def lX(P:Program)(R:Rec):Prop:=∀ B:bJ,@lj B P R
theorem lX.h{P:Program}{R:Rec}(h:lX P R):lj P R:=h _
def Via(P:Program)(f g:FuncId)(n:Int):Prop:=∀ dp ys hp cs hp',ys.length=1→(cs.length:Int)=n→Ax P dp g ys hp (.a cs) hp'→Ax P dp f ys hp (.tp [.a cs,.i .i64 0,.i .i64 0]) hp'
def ahB(P:Program)(f:FuncId)(t:TypeId):Prop:=
 jk P f∧∀ (w:World)(b off:Nat)(vs:Array Value)(T:TypeId)(g cap:Nat)(cs:Array Value)(l:List UInt8),w.heap[b]? =some (.cells vs T (0,0))→off+1<vs.size→vs.getD (off+1) undef= .slice (some ⟨g,0,none⟩) l.length cap→
  w.heap[g]? =some (.cells cs t (0,0))→l.length≤cap→cap≤maxLen→cs.size=cap→l≠[]→(∀ (j:Nat)(c:UInt8),l[j]? =some c→cs[j]? =some (.int .u8 c.toNat))→
  Calls P f #[.pointer (some ⟨b,off,none⟩)] w fun e w'=>e= .returned (.string ⟨l.toArray⟩)∧w'.heap.size=w.heap.size∧(∀ x,x≠g→w'.heap[x]? =w.heap[x]?)∧w'.os=w.os∧w'.output=w.output
def LQ(P:Program)(f:FuncId)(c:AV)(ns:List Int):Prop:=
 ∀ (w:World)(I:Nat→Prop)(κ:Key→Nat)(v:Value),bJ.n0≤w.heap.size→(∀ b,I b→b<w.heap.size)→VR w I κ (.f f [c]) v→
  ∃ gf lb,v= .func (.func gf) #[] lb∧(∀ args w,(callFunc gf args).run P w= .ok (.enter gf args) w)∧
   ∀ (l m:Nat)(J:(Nat→Prop)→List Int→World→Prop)(Jx:List Int→World→Prop)(T:Nat→Prop)(W:World),
    w.heap.size≤W.heap.size→(∀ b,I b→W.heap[b]? =w.heap[b]?)→
    (∀ T pre W W',J T pre W→RowKit.Below W.heap.size W W'→J (fun b=>T b∨(W.heap.size≤b∧b<W'.heap.size)) pre W')→
    (∀ T pre n rest W1 m,ns=pre++n::rest→J T pre W1→YieldAt Fence.wide m P l #[.int .i64 n] W1 fun e W2=>
     (e= .returned (.bool true)∧J T (pre++[n]) W2∧(∀ b,T b→W2.heap[b]? =W1.heap[b]?)∧(∀ b,I b→W2.heap[b]? =W1.heap[b]?)∧W1.heap.size≤W2.heap.size)∨
     (e= .returned (.bool false)∧Jx (pre++[n]) W2))→
    J T [] W→
    CallsIn Fence.wide m P gf (#[.func (.yield l) #[] #[]]++lb) W fun e W'=>(∃ v,e= .returned v)∧((∃ T',J T' ns W')∨(∃ pre n rest,ns=pre++n::rest∧Jx (pre++[n]) W'))
structure iA(P:Program)(Ω:du):Prop where
 via:∀ f (g:FuncId) n,Ω f [.u,.i .i64 g]=some (.i .i64 n)→Via P f g n
 spo:∀ f y,Ω f [y]=some .u→y.pure=true→Wp P f y
 ret:∀ f ys x,Ω f ys=some x→(∀ y∈ys,y.pure=true)→x.pure=true→Aw P f ys x
 row:∀ f ys t,Ω f ys=some (.o t [])→(∀ y∈ys,y.pure=true)→VO P f ys t
 str:∀ f (t:TypeId),Ω f [.u,.u,.i .i64 t]=some (.s [])→ahB P f t
 it:∀ f c es ns,Ω f [.u,c]=some (.l 0 es)→so es=some ns→LQ P f c ns
theorem lj.pure{P:Program}{R:Rec}(hR:lj P R){f:FuncId}{ys:List AV}{x:AV}{hp':HP}(he:R ⟨0,false⟩ f ys (fun _=>none)=some (.ret x,hp'))(hy:∀ y∈ys,y.pure=true):Aw P f ys x:=by
 obtain ⟨hpx,hb,hc⟩:=hR.ret 0 f ys _ x hp' he (fun y hm=>dG y (hy y hm))
 refine ⟨hb,fun w I κ cargs hn hI hs ha=>?_⟩
 refine (hc (fun b=>w.heap.size≤b) w ⟨κ,fun _=>none,I⟩ cargs (fun b hb=>⟨hb,bQ hn.1 hb⟩) ⟨fun k cs hk=>(by cases hk),fun k cs hk=>(by cases hk),fun b l hb=>(by cases hb),fun b hb=>⟨hI b hb,rfl⟩,hn.2⟩ hs ha).mono ?_
 rintro e w' ⟨v,σ',rfl,hv,hst,hH⟩
 exact ⟨v,σ'.I,rfl,hv.Aq (fun _ h=>h) (fun _ _=>rfl) hpx,hst.size,fun b hb=>hst.aP b hb (show ¬w.heap.size≤b by omega),hst.up,hst.dn,fun b hb=>(hH.bT b hb).1,hst.io⟩
theorem abW{ts:List TypeId}{x:AV}(h:x.off ts=true):∀ c∈x.cl,c.off ts=true:=by
 intro c hc
 cases x<;>simp only [AV.cl,fw] at hc<;>first | (subst hc;exact h) | skip
 exact uM (by simpa [AV.off] using h) c hc
theorem VR.aj6{w:World}{I B:Nat→Prop}{κ:Key→Nat}{ts:List TypeId}(hts:ts≠[])(hB:∀ b,B b→∃ cs T fz,w.heap[b]? =some (.cells cs T fz)∧T∈ts∧bJ.n0≤b){x:AV}{v:Value}(h:VR w I κ x v)(hx:x.off ts=true) :
  VR w (fun b=>I b∧¬B b) κ x v:=by
 induction h with
 | u v=>exact .u v
 | sk=>exact .sk
 | b x=>exact .b x
 | i k n=>exact .i k n
 | s l=>exact .s l
 | n=>exact .n
 | z=>exact .z
 | nf=>exact .nf
 | ni=>exact .ni
 | lnil t A cap=>exact .lnil t A cap
 | l t es g o cap cs T fz sz hI0 hh0 ht hsz hnc hsize hp h1 hcap hmax hc ih=>
  cases es with
  | nil=>exact .lnil _ _ _
  | cons e0 es=>
   have hx':(t≠0∧¬t∈ts)∧AV.k7 ts (e0::es)=true:=by
    simpa [AV.off,Bool.and_assoc,and_assoc] using hx
   refine .l t (e0::es) g o cap cs T fz sz ⟨hI0,fun hb=>?_⟩ hh0 ht hsz hnc hsize hp h1 hcap hmax fun j e m c he hc'=>ih j e m c he hc' (abW (uM hx'.2 e (aL he)) c (aL hc'))
   obtain ⟨cs',T',fz',h2,h3,h4⟩:=hB g hb
   rw [hh0] at h2
   simp only [ju,Obj.cells.injEq] at h2
   rw [←h2.2.1,((ht hx'.1.1).1 h4).1] at h3
   exact hx'.1.2 h3
 | e x off g o cs T fz hI0 hh0 hp hsize h1 hc ih=>
  simp only [AV.off,yW] at hx
  exact absurd hx hts
 | f g caps vs hg hl hc ih=>exact .f g caps vs hg hl fun m c hc'=>ih m c hc' (uM (by simpa [AV.off] using hx) c (aL hc'))
 | fm g caps vs hl hc ih=>exact .fm g caps vs hl fun m c hc'=>ih m c hc' (uM (by simpa [AV.off] using hx) c (aL hc'))
 | a cs vs hl h1 hc ih=>exact .a cs vs hl h1 fun m c hc'=>ih m c hc' (uM (by simpa [AV.off] using hx) c (aL hc'))
 | tp cs vs hl hc ih=>exact .tp cs vs hl fun m c hc'=>ih m c hc' (uM (by simpa [AV.off] using hx) c (aL hc'))
 | ifc t x v h ih=>exact .ifc t x v (ih (by simpa [AV.off] using hx))
 | p k off=>exact .p k off
 | sp k off n sz cap h1 h2=>exact .sp k off n sz cap h1 h2
section
variable {C:Cx}{st:St}{a:Act}{w:World}{σ:Sp}{o:Oper}{d:Option Nat}{R:Rec}{Ω:du}{r:AV×St}
structure ID(C:Cx)(w:World)(σ:Sp)(y:AV)(v:Value)(ts:List TypeId)(B:Nat→Prop):Prop where
 vr:VR w (fun b=>σ.I b∨B b) σ.κ y v
 pure:y.pure=true
 blk:∀ b,B b→(∃ l,σ.ow b=some l)∧∃ cs T fz,w.heap[b]? =some (.cells cs T fz)∧T∈ts∧bJ.n0≤b
theorem au.Rb(h:au C st a w σ){k:Key}{o n sz:Nat}{y:AV}{v:Value}{ts:List TypeId}(hx:VR w σ.I σ.κ (.sp k o n sz) v)(he:st.nQ C.E.dp k o n sz=some (y,ts)):(∃ B,ID C w σ y v ts B)∧y.one=true:=by
 unfold St.nQ at he
 obtain ⟨cs,hb,he1⟩:=ah.1 he
 split at he1
 ·rename_i hc
  obtain ⟨rfl,rfl⟩:=eJ (aa he1)
  simp only [aA,df] at hc
  obtain ⟨⟨⟨hk,hp⟩,hsz⟩,hle⟩:=hc
  obtain ⟨vs,T,hB⟩:=h.bx k cs hb
  have hT:=hB.kb.1 hk
  have hpl:=ft hp
  have hone:∀ c∈cs,c.one=true:=fun c hc=>(hB.one c hc).resolve_right fun e=>by have:=hpl c hc;rw [e] at this;cases this
  have hone':∀ c∈cs.drop o,c.one=true:=fun c hc=>hone c (fu hc)
  have hp':AV.bk (cs.drop o)=true:=jo fun c hc=>hpl c (fu hc)
  have hle':n*sz≤(cs.drop o).length:=by rw [gy];omega
  have hlen:=Bt sz n (cs.drop o)
  refine ⟨⟨fun b=>b=σ.κ k,?_,rfl,fun b hb=>by subst hb;exact ⟨⟨_,hB.ow⟩,vs,T,(0,0),hB.hh,by simp [hT],hB.kb.2⟩⟩,rfl⟩
  ·have hx':=hx
   cases hx' with
   | sp _ _ _ _ cap hc1 hc2=>
    have:=VR.l (w:=w) (I:=fun b=>σ.I b∨b=σ.κ k) (κ:=σ.κ) 0 (chunks sz n (cs.drop o)) (σ.κ k) o cap vs T (0,0) sz (.inr rfl) hB.hh (fun h=>absurd rfl h) hsz (fun e he=>?_) ?_ (fun e he=>?_) (fun e he c hc=>?_) (by omega) hc2 (fun j e m c he hc=>?_)
    ·rw [hlen] at this;exact this
    ·obtain ⟨j,hj⟩:=ec.1 he
     obtain ⟨h3,h4,_⟩:=lh sz hsz hone' hle' hj
     unfold AV.nc
     rw [h3,CE,gy]
     rw [da] at h4
     omega
    ·rw [hlen];have:=hB.size;omega
    ·obtain ⟨j,hj⟩:=ec.1 he
     exact (lh sz hsz hone' hle' hj).2.2 hp'
    ·obtain ⟨j,hj⟩:=ec.1 he
     obtain ⟨h3,_,_⟩:=lh sz hsz hone' hle' hj
     rw [h3] at hc
     exact hone' c (fu (eI hc))
    ·obtain ⟨h3,_,_⟩:=lh sz hsz hone' hle' he
     rw [h3,eV] at hc
     split at hc
     ·rw [gx,gx,←qa] at hc
      have hcm:=aL hc
      exact (LO (hpl c hcm) (hB.cell _ c hc)).Aq (fun _ h=>.inl h) (fun _ _=>rfl) (hpl c hcm)
     ·cases hc
 ·cases he1
theorem au.ahC(h:au C st a w σ){c y:AV}{v:Value}{ts:List TypeId}(hx:VR w σ.I σ.κ c v)(h1:c.one=true)(he:st.D3 C.E.dp c=some (y,ts)):(∃ B,ID C w σ y v ts B)∧y.one=true:=by
 unfold St.D3 at he
 split at he
 ·exact h.Rb hx he
 ·split at he
  ·rename_i hp
   obtain ⟨rfl,rfl⟩:=eJ (aa he)
   exact ⟨⟨fun _=>False,hx.mono (fun _ h=>.inl h) (fun _ _=>rfl) (fun _ _=>rfl),hp,fun _ h=>h.elim⟩,h1⟩
  ·cases he
theorem au.Rc(h:au C st a w σ):∀ (cs:List AV)(vs:List Value)(ys:List AV)(ts:List TypeId),cs.length=vs.length→(∀ (m:Nat)(c:AV),cs[m]? =some c→VR w σ.I σ.κ c (vs[m]?.getD undef))→(∀ c∈cs,c.one=true)→
  st.oW C.E.dp cs=some (ys,ts)→∃ B:Nat→Prop,ys.length=vs.length∧(∀ b,B b→(∃ l,σ.ow b=some l)∧∃ cs T fz,w.heap[b]? =some (.cells cs T fz)∧T∈ts∧bJ.n0≤b)∧(∀ y∈ys,y.pure=true∧y.one=true)∧
   ∀ (m:Nat)(y:AV),ys[m]? =some y→VR w (fun b=>σ.I b∨B b) σ.κ y (vs[m]?.getD undef)
 | [],vs,ys,ts,hl,_,_,he=>by
  obtain ⟨rfl,rfl⟩:=eJ (aa he)
  exact ⟨fun _=>False,hl,fun _ h=>h.elim,fun y hy=>absurd hy (List.not_mem_nil),fun i y hi=>(by simp at hi)⟩
 | c::cs,[],_,_,hl,_,_,_=>by simp at hl
 | c::cs,v::vs,ys,ts,hl,hx,h1,he=>by
  obtain ⟨⟨y,ts1⟩,e1,he1⟩:=ah.1 he
  obtain ⟨⟨ys',ts2⟩,e2,he2⟩:=ah.1 he1
  obtain ⟨rfl,rfl⟩:=eJ (aa he2)
  obtain ⟨⟨B1,hL⟩,hy1⟩:=h.ahC (by simpa using hx 0 c rfl) (h1 c (by simp)) e1
  obtain ⟨B2,hl2,hb2,hp2,hv2⟩:=au.Rc h cs vs ys' ts2 (by simpa using hl) (fun i x hi=>by simpa using hx (i+1) x (by simpa using hi)) (fun c hc=>h1 c (by simp [hc])) e2
  refine ⟨fun b=>B1 b∨B2 b,by simpa using hl2,fun b hb=>?_,fun z hz=>?_,fun i z hi=>?_⟩
  ·rcases hb with hb | hb
   ·obtain ⟨h3,cs,T,fz,h4,h5⟩:=hL.blk b hb
    exact ⟨h3,cs,T,fz,h4,gD _ h5.1,h5.2⟩
   ·obtain ⟨h3,cs,T,fz,h4,h5⟩:=hb2 b hb
    exact ⟨h3,cs,T,fz,h4,jv _ h5.1,h5.2⟩
  ·rcases cR.1 hz with rfl | hz
   ·exact ⟨hL.pure,hy1⟩
   ·exact hp2 z hz
  ·cases i with
   | zero=>
    obtain rfl:y=z:=by simpa using hi
    exact hL.vr.mono (fun b hb=>hb.elim .inl fun h=>.inr (.inl h)) (fun _ _=>rfl) (fun _ _=>rfl)
   | succ i=>exact (hv2 i z (by simpa using hi)).mono (fun b hb=>hb.elim .inl fun h=>.inr (.inr h)) (fun _ _=>rfl) (fun _ _=>rfl)
theorem au.xY(h:au C st a w σ){n:Nat}{x y:AV}{v:Value}{ts:List TypeId}(hx:SR C w σ st a n x v)(he:st.iD C.E.dp x=some (y,ts)):∃ B,ID C w σ y v ts B:=by
 have hrow:∀ (L:dz)(wp:Prop) t es lo len cap' v,OwnAt C.P C.W w σ L wp t es v→lo+len≤es.length→(∀ A n cap,v= .slice A n cap→cap'=cap)→
   ∃ B,ID C w σ (.l t ((es.drop lo).take len)) (match v with | .slice A _ cap=>.slice (if cap=lo then A else A.map (·.add (lo*C.P.cellsOf t))) len (cap - lo) | v=>v) [t] B:=by
  intro L wp t es lo len cap' v ho hle _
  rcases ho with ⟨rfl,rfl⟩ | ⟨g,cap,cs,rfl,hR⟩
  ·simp only [ig] at hle
   obtain rfl:lo=0:=by omega
   obtain rfl:len=0:=by omega
   exact ⟨fun _=>False,by simpa using VR.lnil _ _ _,rfl,fun _ h=>h.elim⟩
  ·by_cases hl:len=0
   ·subst hl
    exact ⟨fun _=>False,by simpa using VR.lnil _ _ _,by simp [AV.pure],fun _ h=>h.elim⟩
   ·have hec:=hR.ecap
    refine ⟨fun b=>b=g,?_,rfl,fun b hb=>⟨⟨_,hb▸hR.ow⟩,cs,t,_,hb▸hR.hh,by simp,hb▸hR.base⟩⟩
    have:=hR.bT (I:=fun b=>σ.I b∨b=g) (fun _ h=>.inl h) (.inr rfl) hle
    simp only [ad (show ¬cap=lo by omega),gv,add_lit,eU]
    exact this
 have hwhole:∀ (L:dz)(wp:Prop) t es v,OwnAt C.P C.W w σ L wp t es v→∃ B,ID C w σ (.l t es) v [t] B:=by
  intro L wp t es v ho
  rcases ho with ⟨rfl,rfl⟩ | ⟨g,cap,cs,rfl,hR⟩
  ·exact ⟨fun _=>False,.lnil _ _ _,rfl,fun _ h=>h.elim⟩
  ·exact ⟨fun b=>b=g,hR.TB (I:=fun b=>σ.I b∨b=g) (fun _ h=>.inl h) (.inr rfl),rfl,fun b hb=>⟨⟨_,hb▸hR.ow⟩,cs,t,_,hb▸hR.hh,by simp,hb▸hR.base⟩⟩
 have hplain:∀ x,SR C w σ st a n x v→x.pure=true→∃ B,ID C w σ x v [] B:=fun x hx hp=>
  ⟨fun _=>False,(hx.Bl (dG x hp)).mono (fun _ h=>.inl h) (fun _ _=>rfl) (fun _ _=>rfl),hp,fun _ h=>h.elim⟩
 cases x with
 | o t es=>
  obtain ⟨rfl,rfl⟩:=eJ (aa he)
  exact hwhole _ _ t es v hx
 | r pl=>
  obtain ⟨⟨t,es⟩,hr,he1⟩:=ah.1 he
  obtain ⟨rfl,rfl⟩:=eJ (aa he1)
  rw [hx (by rw [hr];rfl)]
  exact hwhole _ _ t es _ (h.row hr)
 | v pl lo len=>
  obtain ⟨⟨t,es⟩,hr,he1⟩:=ah.1 he
  simp only at he1
  split at he1
  ·rename_i hle
   obtain ⟨rfl,rfl⟩:=eJ (aa he1)
   obtain ⟨A,n',cap,hpv,hv⟩:=hx t es hr hle
   obtain ⟨B,hB⟩:=hrow _ _ t es lo len cap _ (h.row hr) hle (fun A' n2 cap2 e=>by rw [hpv] at e;simp at e;exact e.2.2)
   rw [hpv] at hB
   exact ⟨B,by rw [hv];exact hB⟩
  ·cases he1
 | w g t z=>
  obtain ⟨rfl,rfl⟩:=eJ (aa he)
  obtain ⟨hp,hz⟩:=hx
  refine ⟨_,hz.mono (fun _ h=>.inr h) (fun _ _=>rfl) (fun _ _=>rfl),hp,fun b hb=>⟨⟨_,hb.1⟩,?_⟩⟩
  obtain ⟨cs,e⟩:=hb.2.2.2
  exact ⟨cs,t,_,e,by simp,hb.2.2.1⟩
 | sp k o n sz=>exact (h.Rb hx he).1
 | a cs=>
  simp only [St.iD] at he
  split at he
  ·rename_i hp
   obtain ⟨rfl,rfl⟩:=eJ (aa he)
   exact hplain _ hx hp
  ·obtain ⟨⟨ys,ts'⟩,he1,he2⟩:=ah.1 he
   obtain ⟨rfl,rfl⟩:=eJ (aa he2)
   have hx':VR w σ.I σ.κ (.a cs) v:=hx
   cases hx' with
   | a _ vs hl h1 hc=>
    obtain ⟨B,g1,g2,g3,g4⟩:=h.Rc cs vs.toList ys ts' (by simpa using hl) (fun m c hm=>by simpa [bn] using hc m c hm) h1 he1
    exact ⟨B,.a _ _ (by simpa using g1) (fun c hc=>(g3 c hc).2) (fun m c hm=>by simpa [bn] using g4 m c hm),jo fun c hc=>(g3 c hc).1,g2⟩
 | _=>
  simp only [St.iD] at he
  split at he
  ·rename_i hp
   obtain ⟨rfl,rfl⟩:=eJ (aa he)
   exact hplain _ hx hp
  ·cases he
theorem au.Oa(h:au C st a w σ):∀ (xs:List AV)(vs:List Value)(ys:List AV)(ts:List TypeId),xs.length=vs.length→(∀ (i:Nat)(x:AV),xs[i]? =some x→∃ n,SR C w σ st a n x (vs[i]?.getD undef))→
  st.ew C.E.dp xs=some (ys,ts)→∃ B:Nat→Prop,ys.length=vs.length∧(∀ b,B b→(∃ l,σ.ow b=some l)∧∃ cs T fz,w.heap[b]? =some (.cells cs T fz)∧T∈ts∧bJ.n0≤b)∧(∀ y∈ys,y.pure=true)∧
   ∀ (i:Nat)(y:AV),ys[i]? =some y→VR w (fun b=>σ.I b∨B b) σ.κ y (vs[i]?.getD undef)
 | [],vs,ys,ts,hl,_,he=>by
  obtain ⟨rfl,rfl⟩:=eJ (aa he)
  exact ⟨fun _=>False,hl,fun _ h=>h.elim,fun y hy=>absurd hy (List.not_mem_nil),fun i y hi=>(by simp at hi)⟩
 | x::xs,[],_,_,hl,_,_=>by simp at hl
 | x::xs,v::vs,ys,ts,hl,hx,he=>by
  obtain ⟨⟨y,ts1⟩,h1,he1⟩:=ah.1 he
  obtain ⟨⟨ys',ts2⟩,h2,he2⟩:=ah.1 he1
  obtain ⟨rfl,rfl⟩:=eJ (aa he2)
  obtain ⟨n,hx0⟩:=hx 0 x rfl
  obtain ⟨B1,hL⟩:=h.xY hx0 h1
  obtain ⟨B2,hl2,hb2,hp2,hv2⟩:=au.Oa h xs vs ys' ts2 (by simpa using hl) (fun i x hi=>by simpa using hx (i+1) x (by simpa using hi)) h2
  refine ⟨fun b=>B1 b∨B2 b,by simpa using hl2,fun b hb=>?_,fun z hz=>?_,fun i z hi=>?_⟩
  ·rcases hb with hb | hb
   ·obtain ⟨h3,cs,T,fz,h4,h5⟩:=hL.blk b hb
    exact ⟨h3,cs,T,fz,h4,gD _ h5.1,h5.2⟩
   ·obtain ⟨h3,cs,T,fz,h4,h5⟩:=hb2 b hb
    exact ⟨h3,cs,T,fz,h4,jv _ h5.1,h5.2⟩
  ·rcases cR.1 hz with rfl | hz
   ·exact hL.pure
   ·exact hp2 z hz
  ·cases i with
   | zero=>
    obtain rfl:y=z:=by simpa using hi
    exact hL.vr.mono (fun b hb=>hb.elim .inl fun h=>.inr (.inl h)) (fun _ _=>rfl) (fun _ _=>rfl)
   | succ i=>exact (hv2 i z (by simpa using hi)).mono (fun b hb=>hb.elim .inl fun h=>.inr (.inr h)) (fun _ _=>rfl) (fun _ _=>rfl)
theorem fC{P:Program}{f:FuncId}(hf:jk P f)(args:Array Value)(w:World):(callFunc f args).run P w= .ok (.enter f args) w:=by
 obtain ⟨fn,h1,h2,h3⟩:=hf
 have h3':fn.name≠ "runtime.NumGoroutine" :=by simpa using h3
 have h2':fn.body≠none:=by intro e;rw [e] at h2;cases h2
 simp [callFunc,h1,h2',h3']
theorem LR{f:FuncId}{xs ys:List AV}{vs:List Value}{ts:List TypeId}{x:AV}(h:au C st a w σ)(hl:xs.length=vs.length)(hx:∀ (i:Nat)(x:AV),xs[i]? =some x→∃ n,SR C w σ st a n x (vs[i]?.getD undef))
  (hys:st.ew C.E.dp xs=some (ys,ts)) (hc:(∀ y∈ys,y.pure=true)→Aw C.P f ys x) (hp:x.pure=true) (ho:(ts.isEmpty||x.off ts)=true)
  (hrun:jk C.P f→(Go.execOp a.eval o).run C.P w= .ok (.enter f vs.toArray) w):eo C o d a w σ st x:=by
 obtain ⟨B,hyl,hB,hyp,hyv⟩:=h.Oa xs vs ys ts hl hx hys
 obtain ⟨hb,hcall⟩:=hc hyp
 intro K Q hK
 unfold Oper.wp
 rw [hrun hb,Oper.upon_enter]
 have hlt:∀ b,B b→b<w.heap.size:=fun b hb=>by
  obtain ⟨⟨l,hl⟩,_⟩:=hB b hb
  exact h.own b l hl
 refine (hcall w (fun b=>σ.I b∨B b) σ.κ vs.toArray ⟨(h.new _ (aS _)).2,h.lay.aP (fun _ h=>.inl h) fun _ _=>rfl⟩ (fun b hb=>hb.elim (fun h1=>(h.bT b h1).1) (hlt b)) (by simpa using hyl.symm) (fun i y hi=>?_)).mono ?_
 ·have:=hyv i y hi
  simpa [bn] using this
 ·rintro e w' ⟨v,I',rfl,hv,hsize,hold,hup,hdn,hlt',hio⟩
  refine hK v w' {σ with I:=fun b=>I' b∧¬B b} ?_
  have hin:∀ b,σ.I b→¬B b:=fun b hb hbb=>by
   obtain ⟨⟨l,hl⟩,_⟩:=hB b hbb
   have:=(h.bT b hb).2
   rw [hl] at this;cases this
  have hsame:iE C w σ w' {σ with I:=fun b=>I' b∧¬B b} none:=
   ⟨fun b l hb _=>⟨hold b (h.own b l hb),hb⟩,fun b hb=>hold b (h.bT b hb).1,fun b hb=>⟨hup b (.inl hb),hin b hb⟩,rfl,hsize,fun b l hb=>eb (h.own b l hb) hsize,fun b hb=>⟨hlt' b hb.1,by
    rcases hdn b hb.1 with h1 | h1
    ·rcases h1 with h1 | h1
     ·exact (h.bT b h1).2
     ·exact absurd h1 hb.2
    ·show σ.ow b=none
     cases hq:σ.ow b with
     | none=>rfl
     | some l=>have:=h.own b l hq;omega⟩⟩
  refine ⟨⟨hsize,fun b hb _=>hold b hb,hsame.up,hsame.bT,fun b hb=>?_,fun _ _=>rfl,fun _ _ _=>rfl,hio⟩,h.same hsame,fun _ _=>lg ?_,fun _ _ _ _ e=>by subst e;cases hp⟩
  ·rcases hdn b hb.1 with h1 | h1
   ·rcases h1 with h1 | h1
    ·exact .inl h1
    ·exact absurd h1 hb.2
   ·exact .inr (h.new b h1).1
  ·by_cases hts:ts=[]
   ·subst hts
    have hnoB:∀ b,¬B b:=fun b hb=>by
     obtain ⟨_,_,_,_,_,hm,_⟩:=hB b hb
     cases hm
    exact hv.mono (fun b hb=>⟨hb,hnoB b⟩) (fun _ _=>rfl) (fun _ _=>rfl)
   ·have hoff:x.off ts=true:=by
     rcases Bool.or_eq_true_iff.1 ho with h1 | h1
     ·exact absurd (yW.1 h1) hts
     ·exact h1
    exact hv.aj6 hts (fun b hb=>by
     obtain ⟨⟨l,hl⟩,cs,T,fz,h1,h2⟩:=hB b hb
     exact ⟨cs,T,fz,(hold b (h.own b l hl)).trans h1,h2⟩) hoff
theorem Bu{m:Nat}{f:FuncId}{xs:List AV}{vs:List Value}(hR:lj C.P R)(hΩ:iA C.P Ω)(h:au C st a w σ)(hl:xs.length=vs.length)(hx:∀ (i:Nat)(x:AV),xs[i]? =some x→∃ n,SR C w σ st a n x (vs[i]?.getD undef))
  (he:aU R Ω C.E st m f xs=some r) (hrun:jk C.P f→(Go.execOp a.eval o).run C.P w= .ok (.enter f vs.toArray) w):eo C o d a w σ r.2 r.1:=by
 unfold aU at he
 split at he
 ·obtain ⟨⟨ys,ts⟩,hys,he1⟩:=ah.1 he
  clear he
  obtain ⟨⟨q,hp'⟩,hq,he2⟩:=ah.1 he1
  clear he1
  cases q with
  | new cs=>cases he2
  | row _ _=>cases he2
  | pF _ _ _ _ _ _=>cases he2
  | ret x=>?_
  simp only at he2
  split at he2
  ·rename_i hc
   simp only [aA] at hc
   obtain rfl:=aa he2
   exact LR h hl hx hys (fun hyp=>hR.pure hq hyp) hc.1 hc.2 hrun
  ·cases he2
 ·obtain ⟨⟨ys,ts⟩,hys,he1⟩:=ah.1 he
  clear he
  obtain ⟨x,hq,he2⟩:=ah.1 he1
  clear he1
  split at he2
  ·rename_i hc
   simp only [aA] at hc
   obtain rfl:=aa he2
   exact LR h hl hx hys (fun hyp=>hΩ.ret f ys x hq hyp hc.1) hc.1 hc.2 hrun
  ·cases he2
 ·cases he
theorem au.zZ(h:au C st a w σ):∀ (ys:List Operand)(xs:List ba),dT ys xs=true→(xs.map st.ev).length=(ys.map a.eval).length∧
  ∀ (i:Nat)(x:AV),(xs.map st.ev)[i]? =some x→∃ n,SR C w σ st a n x ((ys.map a.eval)[i]?.getD undef)
 | [],[],_=>⟨rfl,fun i x hi=>by simp at hi⟩
 | y::ys,x::xs,hl=>by
  simp only [dT,aA] at hl
  obtain ⟨h1,h2⟩:=au.zZ h ys xs hl.2
  refine ⟨by simpa using h1,fun i z hi=>?_⟩
  cases i with
  | zero=>
   obtain rfl:st.ev x=z:=by simpa using hi
   cases x with
   | t n=>exact ⟨n,h.slot hl.1⟩
   | c z=>exact ⟨0,Fm (.inl (dG z (sY hl.1))) (by simpa using h.uG hl.1 (dG z (sY hl.1)))⟩
  | succ i=>simpa using h2 i z (by simpa using hi)
 | [],_::_,hl=>by simp [dT] at hl
 | _::_,[],hl=>by simp [dT] at hl
theorem abX{m:Nat}{f:FuncId}{xs:List ba}(hR:lj C.P R)(hΩ:iA C.P Ω)(h:au C st a w σ)(hl:bC C.P (.ca m f xs) o.op=true)(he:execOp R Ω C.E st d (.ca m f xs)=some r) :
  eo C o d a w σ r.2 r.1:=by
 simp only [bC] at hl;split at hl
 ·rename_i c hop
  simp only [aA] at hl
  obtain ⟨h1,h2⟩:=hl
  split at h1
  ·rename_i f' hcal
   have hff:f=f':=by simpa using h1
   obtain ⟨h3,h4⟩:=h.zZ _ _ h2
   simp only [execOp] at he
   refine Bu hR hΩ h h3 h4 he fun hb=>?_
   have hev:a.eval (.func f')= .func (.func f') #[] #[]:=rfl
   have hcf:=fC hb (List.map a.eval c.args.toList).toArray w
   have ha:(List.map a.eval c.args.toList).toArray=c.args.map a.eval:=by apply lS;simp
   rw [hff,ha] at hcf
   rw [hff,ha]
   unfold Go.execOp
   simp [hop,resolve,hcal,hev,Deferred.ofValue,invoke]
   exact hcf
  ·cases h1
 ·cases hl
theorem abY{m:Nat}{x:ba}{xs:List ba}(hR:lj C.P R)(hΩ:iA C.P Ω)(h:au C st a w σ)(hl:bC C.P (.cf m x xs) o.op=true)(he:execOp R Ω C.E st d (.cf m x xs)=some r) :
  eo C o d a w σ r.2 r.1:=by
 simp only [bC] at hl;split at hl
 ·rename_i c hop
  simp only [aA] at hl
  obtain ⟨h1,h2⟩:=hl
  split at h1
  ·rename_i y hcal
   obtain ⟨h3,h4⟩:=h.zZ _ _ h2
   simp only [execOp] at he
   split at he
   ·rename_i f caps hx
    have hv:=(hx▸h.eM h1 (by rw [hx];simp) (by rw [hx];rfl))
    split at he
    rotate_left
    ·cases he
    rename_i hg
    obtain ⟨vs,hvv,hcl,hcc⟩:=hv.K1 hg
    refine Bu (vs:=c.args.toList.map a.eval++vs.toList) hR hΩ h (by rw [cH,cH,h3,hcl];simp) (fun i z hi=>?_) he fun hb=>?_
    ·rw [kv] at hi ⊢
     rw [h3] at hi
     split
     ·rename_i hlt
      rw [ab hlt] at hi
      exact h4 i z hi
     ·rename_i hlt
      rw [ad hlt] at hi
      have:=hcc _ z hi
      exact ⟨0,lg (by simpa [bn] using this)⟩
    ·unfold Go.execOp
     have hcf:=fC hb (List.map a.eval c.args.toList++vs.toList).toArray w
     have ha:(List.map a.eval c.args.toList++vs.toList).toArray=c.args.map a.eval++vs:=by apply lS;simp
     rw [ha] at hcf
     rw [ha]
     simp [hop,resolve,hcal,hvv,Deferred.ofValue,invoke]
     exact hcf
   ·cases he
  ·cases h1
 ·cases hl
theorem JI(dp:Nat)(hp':HP)(d:Nat):ax (st.back dp hp').fr d=if lV (ax st.fr d)=true then .u else ax st.fr d:=by
 show ax (st.fr.map fun x=>(x.1,if lV x.2=true then .u else x.2)) d=_
 induction st.fr with
 | nil=>simp [ax,lV]
 | cons y fr ih=>
  simp only [bZ,ax]
  split
  ·rfl
  ·exact ih
theorem Bv{dp:Nat}{hp':HP} : ∀ {bx:List (Nat×List AV)}{d:Nat}{cs:List AV},aO (ib dp hp' bx) d=some cs→hp' ⟨dp,d⟩=some cs
 | [],d,cs,h=>by cases h
 | (d',cs')::r,d,cs,h=>by
  simp only [ib] at h
  split at h
  ·rename_i zs hz
   simp only [aO] at h
   split at h
   ·rename_i e
    subst e
    rw [hz,←h]
   ·exact Bv h
  ·exact Bv h
theorem xp{dp:Nat}{hp':HP}{d:Nat}{r:TypeId×List AV}(h:(st.back dp hp').rowAt dp (.s d)=some r):st.rowAt dp (.s d)=some r:=by
 simp only [St.rowAt,JI] at h ⊢
 by_cases hb:lV (ax st.fr d)=true
 ·rw [ab hb] at h;cases h
 ·rw [ad hb] at h;exact h
theorem fg.Fs{P:Program}{W W':Nat→Prop}{w:World}{σ σ':Sp}{L:dz}{wr wr':Prop}{t:TypeId}{es:List AV}{g cap:Nat}{cs:Array Value}(h:fg P W w σ L wr t es g cap cs)(how:σ'.ow g=some L)(hI:∀ b,σ.I b→σ'.I b)
  (hw:wr'→W' g):fg P W' w σ' L wr' t es g cap cs:=
 ⟨how,hw,h.hh,h.pos,h.nc,h.ecap,h.max,h.size,h.pure,h.one,fun j e m c he hc=>(h.cell j e m c he hc).Aq hI (fun _ _=>rfl) (jq (h.pure e (aL he)) c (aL hc)),h.base⟩
theorem kg.Fs{C C':Cx}{w:World}{σ σ':Sp}{k:Key}{cs:List AV}{vs:Array Value}{T:TypeId}(h:kg C w σ k cs vs T)(hP:C'.P=C.P)(hk:σ'.κ k=σ.κ k)(how:∀ b l,σ.ow b=some l→(l= .box k∨∃ off,l= .rowC k off)→σ'.ow b=some l)
  (hI:∀ b,σ.I b→σ'.I b) (hm:C.E.ro=false) (hW:∀ b l,σ.ow b=some l→(l= .box k∨∃ off,l= .rowC k off)→C.W b→C'.W b) (hd:∀ c∈cs,∀ k',c.cC k'=false→σ'.κ k'=σ.κ k') (hnw:∀ c∈cs,∀ g t x,c≠.w g t x):kg C' w σ' k cs vs T:=by
 have hmine:∀ off,(Pl.c k off).iJ C.E=true:=fun off=>by simp [Pl.iJ,hm]
 refine ⟨by rw [hk];exact h.hh,h.size,by rw [hk];exact how _ _ h.ow (.inl rfl),fun _=>by rw [hk];exact hW _ _ h.ow (.inl rfl) (h.wr (hmine 0)),h.one,fun off c hc=>?_,h.ty,by rw [hk];exact h.kb⟩
 have hcell:=h.cell off c hc
 have hd':=hd c (aL hc)
 have hnw':=hnw c (aL hc)
 cases c with
 | o t es=>
  rcases hcell with h1 | ⟨g,cap,cs',hv,hr⟩
  ·exact .inl h1
  ·refine .inr ⟨g,cap,cs',hv,?_⟩
   rw [hP]
   exact hr.Fs (how _ _ hr.ow (.inr ⟨off,rfl⟩)) hI fun _=>hW _ _ hr.ow (.inr ⟨off,rfl⟩) (hr.wr (hmine off))
 | w g t x=>exact absurd rfl (hnw' g t x)
 | bp t k' u=>exact ⟨hcell.1,by rw [hk];exact hcell.2⟩
 | _=>exact VR.mono hcell hI (fun _ _=>rfl) hd'
theorem u5{n:Nat}{c:AV}(h:c.deep n=true):∀ g t x,c≠.w g t x:=fun g t x e=>by subst e;cases h
theorem Wq{I:Nat→Prop}{κ:Key→Nat}{w:World}{n:Nat}{x:AV}{v:Value}(h:VR w I κ x v)(hd:x.deep n=true){k:Key}(hk:x.cC k=false):k.dp≤n:=by
 apply lT
 intro hn
 have:=JF (dp:=k.dp) (s:=k.d) (by omega) x h hd
 rw [this] at hk;cases hk
theorem kg.ahD{C:Cx}{w:World}{σ:Sp}{k:Key}{cs:List AV}{vs:Array Value}{T:TypeId}{n:Nat}(h:kg C w σ k cs vs T)(hd:∀ c∈cs,c.deep n=true):∀ c∈cs,∀ k',c.cC k'=false→k'.dp≤n:=by
 intro c hc k' hk'
 obtain ⟨off,ho⟩:=ec.1 hc
 have hcell:=h.cell off c ho
 have hdc:=hd c hc
 cases c with
 | o t es=>cases hk'
 | r _=>cases hcell
 | v _ _ _=>cases hcell
 | q _ _ _ _=>cases hcell
 | u=>cases hk'
 | w _ _ _=>cases hdc
 | bp t k2 u=>
  have h2:k2.dp≤n:=by simpa [AV.deep] using hdc
  have h3:k2=k':=by simpa [AV.cC] using hk'
  exact h3▸h2
 | _=>exact Wq hcell hdc hk'
def Wc(C:Cx)(σ:Sp):Nat→Prop:=fun b=>(C.W b∧σ.ow b≠some (.mark C.E.dp))∧∀ d,σ.ow b≠some (.rowS C.E.dp d)∧σ.ow b≠some (.grp C.E.dp d)
theorem au.TC(h:au C st a w σ)(hro:C.E.ro=false)(hdp:∀ d cs,aO st.bx d=some cs→∀ c∈cs,c.deep C.E.dp=true):wH C.P (Wc C σ) (C.E.dp+1) (fun k=>st.box C.E.dp k) w σ:=by
 refine ⟨fun k cs hk hkd=>?_,fun k cs hk hkd=>?_,h.own,h.bT,h.lay⟩
 ·obtain ⟨vs',T,hB⟩:=h.bx k cs hk
  refine ⟨vs',T,hB.Fs rfl rfl (fun _ _ h _=>h) (fun _ h=>h) hro (fun b l hl hor hW=>⟨⟨hW,fun e=>(by rw [hl] at e;rcases hor with rfl | ⟨_,rfl⟩<;>cases e)⟩,fun d=>⟨fun e=>(by rw [hl] at e;rcases hor with rfl | ⟨_,rfl⟩<;>cases e),fun e=>(by rw [hl] at e;rcases hor with rfl | ⟨_,rfl⟩<;>cases e)⟩⟩) (fun _ _ _ _=>rfl) fun c hc=>?_⟩
  by_cases hkk:k.dp=C.E.dp
  ·simp only [St.box,hkk,aq] at hk
   exact u5 (hdp _ _ hk c hc)
  ·simp only [St.box,ad hkk] at hk
   exact u5 ((h.hpd k cs hkk hk).2 c hc)
 ·by_cases hkk:k.dp=C.E.dp
  ·refine ⟨by omega,?_⟩
   simp only [St.box,hkk,aq] at hk
   rw [hkk]
   exact hdp _ _ hk
  ·simp only [St.box,ad hkk] at hk
   obtain ⟨h1,h2⟩:=h.hpd k cs hkk hk
   exact ⟨by omega,h2⟩
theorem au.called{w':World}{σ1:Sp}{hp':HP}(h:au C st a w σ)(hst:cM (u0 C.P (Wc C σ) (C.E.dp+1)) w σ w' σ1)(hH:wH C.P (Wc C σ) (C.E.dp+1) hp' w' σ1) :
  cM C w σ w' {σ1 with κ:=σ.κ}∧au C (st.back C.E.dp hp') a w' {σ1 with κ:=σ.κ}:=by
 have hk1:∀ k:Key,k.dp≤C.E.dp→σ1.κ k=σ.κ k:=fun k hk=>hst.kap k (show k.dp<C.E.dp+1 by omega)
 have hnW:∀ b,¬C.W b→¬((C.W b∧σ.ow b≠some (.mark C.E.dp))∧∀ d,σ.ow b≠some (.rowS C.E.dp d)∧σ.ow b≠some (.grp C.E.dp d)):=fun b hb hb'=>hb hb'.1.1
 have hrowS:∀ g d,σ.ow g=some (.rowS C.E.dp d)→w'.heap[g]? =w.heap[g]? ∧σ1.ow g=some (.rowS C.E.dp d):=fun g d hg=>
  have hn:¬((C.W g∧σ.ow g≠some (.mark C.E.dp))∧∀ d,σ.ow g≠some (.rowS C.E.dp d)∧σ.ow g≠some (.grp C.E.dp d)):=fun hh=>(hh.2 d).1 hg
  ⟨hst.aP g (h.own g _ hg) hn,(hst.ow g (h.own g _ hg) hn).trans hg⟩
 have hgrp:∀ g d,σ.ow g=some (.grp C.E.dp d)→w'.heap[g]? =w.heap[g]? ∧σ1.ow g=some (.grp C.E.dp d):=fun g d hg=>
  have hn:¬((C.W g∧σ.ow g≠some (.mark C.E.dp))∧∀ d,σ.ow g≠some (.rowS C.E.dp d)∧σ.ow g≠some (.grp C.E.dp d)):=fun hh=>(hh.2 d).2 hg
  ⟨hst.aP g (h.own g _ hg) hn,(hst.ow g (h.own g _ hg) hn).trans hg⟩
 refine ⟨⟨hst.size,fun b hb hW=>hst.aP b hb (hnW b hW),hst.up,hst.bT,fun b hb=>(hst.dn b hb).imp id fun h=>h.1.1,fun _ _=>rfl,fun b hb hW=>hst.ow b hb (hnW b hW),hst.io⟩,?_⟩
 have hmk:Marks C a.defers w' {σ1 with κ:=σ.κ}:=by
  obtain ⟨Ds,h0,h1,h2⟩:=h.defers
  refine ⟨Ds,h0,h1,fun D hD=>?_⟩
  ·obtain ⟨h2,h3,h4⟩:=h2 D hD
   have hn:¬((C.W D∧σ.ow D≠some (.mark C.E.dp))∧∀ d,σ.ow D≠some (.rowS C.E.dp d)∧σ.ow D≠some (.grp C.E.dp d)):=fun hh=>hh.1.2 h2
   exact ⟨(hst.ow D (h.own D _ h2) hn).trans h2,h3,(hst.aP D (h.own D _ h2) hn).trans h4⟩
 refine ⟨h.size,hmk,fun d=>?_,fun k cs hk=>?_,fun k cs hne hk=>?_,hH.own,hH.bT,fun b hb=>h.new b (bQ hst.size hb),hH.lay⟩
 ·rw [JI]
  split
  ·exact VR.u _
  ·rename_i hb
   have hx0:=h.fr d
   generalize ax st.fr d=y at hx0 hb
   show SR C w' {σ1 with κ:=σ.κ} _ a d y _
   cases y with
   | o t es=>exact OwnAt.aP (C:=C) hx0 (fun g hg=>hrowS g d hg) hst.up hst.bT
   | r pl=>
    cases pl with
    | c k off=>exact absurd rfl hb
    | s d'=>
     intro hs
     obtain ⟨r,hr⟩:=gq.1 hs
     exact hx0 (by rw [xp hr];rfl)
   | v pl lo len=>
    cases pl with
    | c k off=>exact absurd rfl hb
    | s d'=>
     intro t es ht hle
     exact hx0 t es (xp ht) hle
   | q pl i sz off=>
    cases pl with
    | c k off=>exact absurd rfl hb
    | s d'=>
     intro t es ht hle
     exact hx0 t es (xp ht) hle
   | w g t x=>exact pE.aP hx0 (fun b hb=>hgrp b g hb) fun _ h=>h
   | ag cs' rs=>exact wG.to hx0 (fun c _ v hv=>hv.mono hst.up hst.bT fun _ _=>rfl) (fun q _ hr=>by
     obtain ⟨r,hr⟩:=gq.1 hr
     exact ⟨by rw [xp hr];rfl,rfl⟩)
   | _=>exact VR.mono hx0 hst.up hst.bT fun _ _=>rfl
 ·have hkp:hp' k=some cs∧k.dp≤C.E.dp:=by
   by_cases hkk:k.dp=C.E.dp
   ·simp only [St.box,hkk,aq] at hk
    have:=Bv hk
    refine ⟨?_,by omega⟩
    rw [←hkk] at this
    exact this
   ·simp only [St.box,ad hkk,St.back] at hk
    split at hk
    ·exact ⟨hk,by omega⟩
    ·cases hk
  obtain ⟨vs',T,hB⟩:=hH.bx k cs hkp.1 (by omega)
  have hdeep:=(hH.deep k cs hkp.1 (by omega)).2
  exact ⟨vs',T,hB.Fs rfl (hk1 k hkp.2).symm (fun _ _ h _=>h) (fun _ h=>h) rfl (fun b l _ _ hW=>hW.1.1) (fun c hc k' hk'=>(hk1 k' (bQ (hB.ahD hdeep c hc k' hk') hkp.2)).symm) fun c hc=>u5 (hdeep c hc)⟩
 ·simp only [St.back] at hk
  split at hk
  ·rename_i hlt
   exact ⟨hlt,(hH.deep k cs hk (by omega)).2⟩
  ·cases hk
theorem Rd{f:FuncId}{xs:List AV}{vs:List Value}{x:AV}{hp':HP}(hro:C.E.ro=false)(h:au C st a w σ)(hl:xs.length=vs.length)(hx:∀ (i:Nat)(x:AV),xs[i]? =some x→∃ n,SR C w σ st a n x (vs[i]?.getD undef))
  (hcp:∀ x∈xs,x.copy=true) (hdp:∀ d cs,aO st.bx d=some cs→∀ c∈cs,c.deep C.E.dp=true) (hc:Ax C.P (C.E.dp+1) f xs (fun k=>st.box C.E.dp k) x hp')
  (hrun:jk C.P f→(Go.execOp a.eval o).run C.P w= .ok (.enter f vs.toArray) w):eo C o d a w σ (st.back C.E.dp hp') x:=by
 obtain ⟨hpx,hb,hcall⟩:=hc
 intro K Q hK
 unfold Oper.wp
 rw [hrun hb,Oper.upon_enter]
 refine (hcall (Wc C σ) w σ vs.toArray (fun b hb=>⟨⟨⟨(h.new b hb).1,fun e=>absurd (h.own b _ e) (lQ.2 hb)⟩,fun d=>⟨fun e=>?_,fun e=>?_⟩⟩,(h.new b hb).2⟩) (h.TC hro hdp) (by simpa using hl.symm) (fun i y hi=>?_)).mono ?_
 ·have:=h.own b _ e;omega
 ·have:=h.own b _ e;omega
 ·obtain ⟨n,hn⟩:=hx i y hi
  have:=hn.Bl (hcp y (aL hi))
  simpa [bn] using this
 ·rintro e w' ⟨v,σ1,rfl,hv,hst,hH⟩
  obtain ⟨h1,h2⟩:=h.called hst hH
  exact hK v w' {σ1 with κ:=σ.κ} ⟨h1,h2,fun _ _=>lg (hv.Aq (fun _ h=>h) (fun _ _=>rfl) hpx),fun _ _ _ _ e=>by subst e;cases hpx⟩
noncomputable def mM(W:Nat→Prop)(σ:Sp)(kk:Key)(k':Key):Nat→Option dz:=fun b=>open Classical in match σ.ow b with
 | some (.box k)=>if k=kk∧W b then some (.box k') else some (.box k)
 | some (.rowC k off)=>if k=kk∧W b then some (.rowC k' off) else some (.rowC k off)
 | x=>x
theorem No{W:Nat→Prop}{σ:Sp}{kk k':Key}{b:Nat}{l:dz}(h:σ.ow b=some l)(hd:l.dpt≠kk.dp):mM W σ kk k' b=some l:=by
 unfold mM
 rw [h]
 cases l with
 | box k=>simp only;rw [ad (fun e=>hd (by rw [←e.1];rfl))]
 | rowS dp d=>rfl
 | grp dp g=>rfl
 | mark dp=>rfl
 | rowC k off=>simp only;rw [ad (fun e=>hd (by rw [←e.1];rfl))]
theorem PA{W:Nat→Prop}{σ:Sp}{kk k':Key}{b:Nat}(h:¬W b):mM W σ kk k' b=σ.ow b:=by
 unfold mM
 cases hb:σ.ow b with
 | none=>rfl
 | some l=>cases l<;>simp [h]
theorem Np{W:Nat→Prop}{σ:Sp}{kk k':Key}{b:Nat}{l:dz}(h:mM W σ kk k' b=some l):∃ l',σ.ow b=some l':=by
 unfold mM at h
 cases hb:σ.ow b with
 | none=>rw [hb] at h;cases h
 | some l'=>exact ⟨l',rfl⟩
theorem Nq{W:Nat→Prop}{σ:Sp}{kk k':Key}{b:Nat}(h:σ.ow b=none):mM W σ kk k' b=none:=by
 unfold mM;rw [h]
theorem Re{f:FuncId}{xs:List AV}{vs:List Value}{cs:List AV}{hp':HP}{dd:Nat}(hro:C.E.ro=false)(h:au C st a w σ)(hl:xs.length=vs.length)(hx:∀ (i:Nat)(x:AV),xs[i]? =some x→∃ n,SR C w σ st a n x (vs[i]?.getD undef))
  (hcp:∀ x∈xs,x.copy=true) (hdp:∀ d cs,aO st.bx d=some cs→∀ c∈cs,c.deep C.E.dp=true) (hc:IA C.P (C.E.dp+1) f xs (fun k=>st.box C.E.dp k) cs hp') (hno:Gn C.E.dp (st.back C.E.dp hp') dd=true)
  (hrun:jk C.P f→(Go.execOp a.eval o).run C.P w= .ok (.enter f vs.toArray) w):eo C o d a w σ {(st.back C.E.dp hp') with bx:=(dd,cs)::(st.back C.E.dp hp').bx} (.p ⟨C.E.dp,dd⟩ 0):=by
 obtain ⟨hcs,hb,hcall⟩:=hc
 simp only [Gn,aA] at hno
 intro K Q hK
 unfold Oper.wp
 rw [hrun hb,Oper.upon_enter]
 refine (hcall (Wc C σ) w σ vs.toArray (fun b hb=>⟨⟨⟨(h.new b hb).1,fun e=>absurd (h.own b _ e) (lQ.2 hb)⟩,fun d=>⟨fun e=>?_,fun e=>?_⟩⟩,(h.new b hb).2⟩) (h.TC hro hdp) (by simpa using hl.symm) (fun i y hi=>?_)).mono ?_
 ·have:=h.own b _ e;omega
 ·have:=h.own b _ e;omega
 ·obtain ⟨n,hn⟩:=hx i y hi
  have:=hn.Bl (hcp y (aL hi))
  simpa [bn] using this
 ·rintro e w' ⟨σ1,kk,vs',T,rfl,hkk,hB,hst,hH⟩
  obtain ⟨h1,h2⟩:=h.called hst hH
  have hmine:∀ off,(Pl.c kk off).iJ (u0 C.P (Wc C σ) (C.E.dp+1)).E=true:=fun off=>by simp [Pl.iJ,u0]
  have hWg:Wc C σ (σ1.κ kk):=hB.wr (hmine 0)
  have hadopt:=h2.VM (d:=dd) (cs:=cs) (vs:=vs') (T:=T) (g:=σ1.κ kk) (ow':=mM (Wc C σ) σ1 kk ⟨C.E.dp,dd⟩)
   (fun b l hb hd=>No hb (by rw [hkk];omega)) (fun b l hb=>by obtain ⟨l',h3⟩:=Np hb;exact hH.own b l' h3) (fun b hb=>Nq (hH.bT b hb).2)
   hB.hh ⟨fun hq=>absurd hq (Nat.not_le.2 (by have:=hno.1.1;simp only [iK,aA,df] at this;exact this.2)),hB.kb.2⟩ hB.size (by unfold mM;rw [hB.ow];simp [hWg]) hWg.1.1 hB.one (fun off c hc=>by
    have hcell:=hB.cell off c hc
    have hnew:=bH.1 hcs c (aL hc)
    unfold CR at hcell
    split
    ·rcases hcell with h3 | ⟨g,cap,cs',hv,hr⟩
     ·exact .inl h3
     ·have hw:Wc C σ g:=hr.wr (hmine off)
      refine .inr ⟨g,cap,cs',hv,⟨?_,fun _=>hw.1.1,hr.hh,hr.pos,hr.nc,hr.ecap,hr.max,hr.size,hr.pure,hr.one,fun j e m c he hc=>(hr.cell j e m c he hc).Aq (fun _ h=>h) (fun _ _=>rfl) (jq (hr.pure e (aL he)) c (aL hc)),hr.base⟩⟩
      show mM (Wc C σ) σ1 kk ⟨C.E.dp,dd⟩ g=_
      unfold mM;rw [hr.ow];simp [hw]
    ·rename_i hne
     have hp:c.pure=true:=by
      cases c with
      | o t es=>exact absurd rfl (hne _ _)
      | _=>exact hnew
     refine ⟨hp,?_⟩
     split at hcell
     ·exact absurd rfl (hne _ _)
     ·cases hp
     ·cases hp
     ·exact hcell.Aq (fun _ h=>h) (fun _ _=>rfl) hp)
   (qB rfl _ hno.1.2) (fun d' cs' hb c hm=>nh (nx _ hno.2 d' cs' hb) c hm)
  refine hK _ w' ⟨fun k=>if k=⟨C.E.dp,dd⟩ then σ1.κ kk else σ.κ k,mM (Wc C σ) σ1 kk ⟨C.E.dp,dd⟩,σ1.I⟩ ⟨⟨h1.size,h1.aP,h1.up,h1.bT,h1.dn,fun k hk=>?_,fun b hb hW=>?_,h1.io⟩,hadopt,fun _ _=>lg (Px (by simp)),fun _ _ _ _ e=>by cases e⟩
  ·show (if k=⟨C.E.dp,dd⟩ then _ else _)=_
   rw [ad (fun e=>by subst e;exact Nat.lt_irrefl _ hk)]
  ·show mM _ _ _ _ b=_
   rw [PA (fun hh=>hW hh.1.1)]
   exact h1.ow b hb hW
theorem kg.ro{C:Cx}{w:World}{σ:Sp}{k:Key}{cs:List AV}{vs:Array Value}{T:TypeId}{dp:Nat}(h:kg C w σ k cs vs T)(hk:k.dp<dp)(hnw:∀ c∈cs,∀ g t x,c≠.w g t x):kg (VN C.P w dp) w σ k cs vs T:=by
 have hmine:∀ off,¬(Pl.c k off).iJ (VN C.P w dp).E=true:=fun off=>by
  intro hm
  have:k.dp=dp:=by simp [Pl.iJ,VN] at hm;exact nj hm
  omega
 refine ⟨h.hh,h.size,h.ow,fun hm=>absurd hm (hmine 0),h.one,fun off c hc=>?_,h.ty,h.kb⟩
 have hcell:=h.cell off c hc
 have hnw':=hnw c (aL hc)
 cases c with
 | o t es=>
  rcases hcell with h1 | ⟨g,cap,cs',hv,hr⟩
  ·exact .inl h1
  ·exact .inr ⟨g,cap,cs',hv,hr.Fs hr.ow (fun _ h=>h) fun hm=>absurd hm (hmine off)⟩
 | w g t x=>exact absurd rfl (hnw' g t x)
 | _=>exact hcell
theorem Rf{f:FuncId}{xs:List AV}{vs:List Value}{x:AV}{h0:HP}(h:au C st a w σ)(hl:xs.length=vs.length)(hx:∀ (i:Nat)(x:AV),xs[i]? =some x→∃ n,SR C w σ st a n x (vs[i]?.getD undef))
  (hcp:∀ x∈xs,x.copy=true) (hle:∀ k cs,h0 k=some cs→st.box C.E.dp k=some cs) (hdp:∀ k cs,h0 k=some cs→k.dp=C.E.dp→∀ c∈cs,c.deep C.E.dp=true) (hc:IB C.P (C.E.dp+1) f xs h0 x)
  (hrun:jk C.P f→(Go.execOp a.eval o).run C.P w= .ok (.enter f vs.toArray) w):eo C o d a w σ st x:=by
 obtain ⟨hpx,hb,hcall⟩:=hc
 have hk:∀ k cs,h0 k=some cs→k.dp<C.E.dp+1∧∀ c∈cs,c.deep k.dp=true:=by
  intro k cs hk
  by_cases hkk:k.dp=C.E.dp
  ·exact ⟨by omega,by rw [hkk];exact hdp k cs hk hkk⟩
  ·have:=hle k cs hk
   simp only [St.box,ad hkk] at this
   obtain ⟨h1,h2⟩:=h.hpd k cs hkk this
   exact ⟨by omega,h2⟩
 intro K Q hK
 unfold Oper.wp
 rw [hrun hb,Oper.upon_enter]
 refine (hcall w σ vs.toArray (h.new _ (aS _)).2 ⟨fun k cs hk' hkd=>?_,fun k cs hk' _=>hk k cs hk',h.own,h.bT,h.lay⟩ (by simpa using hl.symm) (fun i y hi=>?_)).mono ?_
 ·obtain ⟨vs',T,hB⟩:=h.bx k cs (hle k cs hk')
  exact ⟨vs',T,hB.ro hkd fun c hc=>u5 ((hk k cs hk').2 c hc)⟩
 ·obtain ⟨n,hn⟩:=hx i y hi
  have:=hn.Bl (hcp y (aL hi))
  simpa [bn] using this
 ·rintro e w' ⟨v,I',rfl,hv,hsize,hold,hup,hdn,hlt',hio⟩
  have hsame:iE C w σ w' {σ with I:=I'} none:=
   ⟨fun b l hb _=>⟨hold b (h.own b l hb),hb⟩,fun b hb=>hold b (h.bT b hb).1,hup,rfl,hsize,fun b l hb=>eb (h.own b l hb) hsize,fun b hb=>⟨hlt' b hb,by
    rcases hdn b hb with h1 | h1
    ·exact (h.bT b h1).2
    ·show σ.ow b=none
     cases hq:σ.ow b with
     | none=>rfl
     | some l=>have:=h.own b l hq;omega⟩⟩
  refine hK v w' {σ with I:=I'} ⟨⟨hsize,fun b hb _=>hold b hb,hup,fun b hb=>hold b (h.bT b hb).1,fun b hb=>(hdn b hb).imp id fun h1=>(h.new b h1).1,fun _ _=>rfl,fun _ _ _=>rfl,hio⟩,h.same hsame,fun _ _=>lg hv,fun _ _ _ _ e=>by subst e;cases hpx⟩
theorem EU{v:St}{f:FuncId}{xs:List AV}{vs:List Value}(hR:lj C.P R)(h:au C st a w σ)(hbx:∀ k cs,v.box C.E.dp k=some cs→st.box C.E.dp k=some cs)(hl:xs.length=vs.length)(hx:∀ (i:Nat)(x:AV),xs[i]? =some x→∃ n,SR C w σ st a n x (vs[i]?.getD undef))
  (he:jx R C.E v f xs=some r) (hrun:jk C.P f→(Go.execOp a.eval o).run C.P w= .ok (.enter f vs.toArray) w):r.2=v∧eo C o d a w σ st r.1:=by
 unfold jx at he
 split at he
 ·rename_i hc
  simp only [aA] at hc
  obtain ⟨⟨q,hp'⟩,hq,he2⟩:=ah.1 he
  clear he
  cases q with
  | new cs=>cases he2
  | row _ _=>cases he2
  | pF _ _ _ _ _ _=>cases he2
  | ret x=>?_
  simp only at he2
  split at he2
  ·rename_i hp
   obtain rfl:=aa he2
   have hcp':∀ x∈xs,x.copy=true:=fun x hx=>bH.1 hc.1 x hx
   refine ⟨rfl,Rf h hl hx hcp' hbx (fun k cs hk hkd c hcm=>?_) (hR.ro (C.E.dp+1) f xs _ x hp' hq hcp') hrun⟩
   simp only [St.box,hkd,aq] at hk
   exact mF (nx (p:=fun y=>AV.ee C.E.dp y) _ hc.2 _ cs hk) c hcm
  ·cases he2
 ·cases he
theorem Ob{v:St}{f:FuncId}{xs:List ba}(hR:lj C.P R)(h:au C st a w σ)(hev:∀ x,v.ev x≠.u→st.ev x=v.ev x)(hbx:∀ k cs,v.box C.E.dp k=some cs→st.box C.E.dp k=some cs)(hl:bC C.P (.c3 f xs) o.op=true)(he:execOp R Ω C.E v d (.c3 f xs)=some r) :
  r.2=v∧eo C o d a w σ st r.1:=by
 simp only [bC] at hl;split at hl
 ·rename_i c hop
  simp only [aA] at hl
  obtain ⟨h1,h2⟩:=hl
  split at h1
  ·rename_i f' hcal
   have hff:f=f':=by simpa using h1
   obtain ⟨h3,h4⟩:=h.zZ _ _ h2
   simp only [execOp] at he
   have hm:xs.map st.ev=xs.map v.ev:=by
    apply qi
    intro x hxm
    refine hev x fun e=>?_
    unfold jx at he
    split at he
    ·rename_i hc
     simp only [aA] at hc
     have:=bH.1 hc.1 _ (ox hxm)
     rw [e] at this;cases this
    ·cases he
   rw [hm] at h3 h4
   refine EU hR h hbx h3 h4 he fun hb=>?_
   have hev:a.eval (.func f')= .func (.func f') #[] #[]:=rfl
   have hcf:=fC hb (List.map a.eval c.args.toList).toArray w
   have ha:(List.map a.eval c.args.toList).toArray=c.args.map a.eval:=by apply lS;simp
   rw [hff,ha] at hcf
   rw [hff,ha]
   unfold Go.execOp
   simp [hop,resolve,hcal,hev,Deferred.ofValue,invoke]
   exact hcf
  ·cases h1
 ·cases hl
theorem JJ:∀ l:List AV,l.all AV.copy=true→AV.mE l=true
 | [],_=>rfl
 | z::zs,h=>by
  simp only [yQ,aA] at h
  simp only [AV.mE,aA]
  exact ⟨h.1,JJ zs h.2⟩
theorem Oc{v:St}{x:ba}{xs:List ba}(hR:lj C.P R)(h:au C st a w σ)(hev:∀ x,v.ev x≠.u→st.ev x=v.ev x)(hbx:∀ k cs,v.box C.E.dp k=some cs→st.box C.E.dp k=some cs)(hl:bC C.P (.d3 x xs) o.op=true)(he:execOp R Ω C.E v d (.d3 x xs)=some r) :
  r.2=v∧eo C o d a w σ st r.1:=by
 simp only [bC] at hl;split at hl
 ·rename_i c hop
  simp only [aA] at hl
  obtain ⟨h1,h2⟩:=hl
  split at h1
  ·rename_i y hcal
   obtain ⟨h3,h4⟩:=h.zZ _ _ h2
   simp only [execOp] at he
   split at he
   ·rename_i f caps hx
    split at he
    rotate_left
    ·cases he
    rename_i hg
    have hx':st.ev x= .f f caps:=by rw [hev x (by rw [hx];simp),hx]
    have hm:xs.map st.ev=xs.map v.ev:=by
     apply qi
     intro z hzm
     refine hev z fun e=>?_
     unfold jx at he
     split at he
     ·rename_i hc
      simp only [aA] at hc
      have:=bH.1 hc.1 _ (gD _ (ox hzm))
      rw [e] at this;cases this
     ·cases he
    rw [hm] at h3 h4
    have hcpf:AV.copy (.f f caps)=true:=by
     unfold jx at he
     split at he
     ·rename_i hc
      simp only [aA,List.all_append] at hc
      show AV.mE caps=true
      exact JJ caps hc.1.2
     ·cases he
    have hv:=(hx'▸h.eM h1 (by rw [hx'];simp) (by rw [hx'];exact (by cases caps<;>rfl)))
    obtain ⟨vs,hvv,hcl,hcc⟩:=hv.K1 hg
    refine EU (vs:=c.args.toList.map a.eval++vs.toList) hR h hbx (by rw [cH,cH,h3,hcl];simp) (fun i z hi=>?_) he fun hb=>?_
    ·rw [kv] at hi ⊢
     rw [h3] at hi
     split
     ·rename_i hlt
      rw [ab hlt] at hi
      exact h4 i z hi
     ·rename_i hlt
      rw [ad hlt] at hi
      have:=hcc _ z hi
      exact ⟨0,lg (by simpa [bn] using this)⟩
    ·unfold Go.execOp
     have hcf:=fC hb (List.map a.eval c.args.toList++vs.toList).toArray w
     have ha:(List.map a.eval c.args.toList++vs.toList).toArray=c.args.map a.eval++vs:=by apply lS;simp
     rw [ha] at hcf
     rw [ha]
     simp [hop,resolve,hcal,hvv,Deferred.ofValue,invoke]
     exact hcf
   ·cases he
  ·cases h1
 ·cases hl
theorem abZ{f:FuncId}{xs:List ba}(hR:lj C.P R)(h:au C st a w σ)(hl:bC C.P (.cn f xs) o.op=true)(he:execOp R Ω C.E st d (.cn f xs)=some r):eo C o d a w σ r.2 r.1:=by
 simp only [bC] at hl;split at hl
 ·rename_i c hop
  simp only [aA] at hl
  obtain ⟨h1,h2⟩:=hl
  split at h1
  ·rename_i f' hcal
   have hff:f=f':=by simpa using h1
   obtain ⟨h3,h4⟩:=h.zZ _ _ h2
   simp only [execOp] at he
   obtain ⟨dd,hdd,he1⟩:=ah.1 he
   clear he
   unfold Ae at he1
   split at he1
   ·rename_i hc
    simp only [aA,iI] at hc
    obtain ⟨⟨hro,hcp⟩,hdp⟩:=hc
    obtain ⟨⟨q,hp'⟩,hq,he2⟩:=ah.1 he1
    clear he1
    cases q with
    | ret x=>cases he2
    | row _ _=>cases he2
    | pF _ _ _ _ _ _=>cases he2
    | new cs=>?_
    simp only at he2
    split at he2
    ·rename_i hno
     obtain rfl:=aa he2
     have hcp':∀ x∈xs.map st.ev,x.copy=true:=fun x hx=>bH.1 hcp x hx
     refine Re hro h h3 h4 hcp' (fun d cs hb c hc=>mF (nx (p:=fun y=>AV.ee C.E.dp y) _ hdp d cs hb) c hc) (hR.new (C.E.dp+1) f _ _ cs hp' hq hcp') hno fun hb=>?_
     have hev:a.eval (.func f')= .func (.func f') #[] #[]:=rfl
     have hcf:=fC hb (List.map a.eval c.args.toList).toArray w
     have ha:(List.map a.eval c.args.toList).toArray=c.args.map a.eval:=by apply lS;simp
     rw [hff,ha] at hcf
     rw [hff,ha]
     unfold Go.execOp
     simp [hop,resolve,hcal,hev,Deferred.ofValue,invoke]
     exact hcf
    ·cases he2
   ·cases he1
  ·cases h1
 ·cases hl
open Classical in
theorem JK{st1:St}{f:FuncId}{ys:List AV}{vs:List Value}{v:Value}{t t':TypeId}{es es':List AV}{dd:Nat}(Gp:Nat→Prop)(h:au C st a w σ)(h1:au C st1 a w σ)(hdd:d=some dd)(hl:ys.length=vs.length)(hx:∀ (i:Nat)(x:AV),ys[i]? =some x→∃ n,SR C w σ st a n x (vs[i]?.getD undef))
  (hcp:∀ x∈ys,x.pure=true) (hG:∀ b,Gp b→C.W b∧∃ L,σ.ow b=some L∧Idle C st1 (some L)) (hG1:∀ b b',Gp b→Gp b'→b=b') (hc:IC C.P (C.E.dp+1) f ys t es t' es')
  (hv:∀ ow':Nat→Option dz,(∀ b,Gp b→ow' b=some (.rowS (C.E.dp+1) ys.length))→OwnAt C.P (fun b=>w.heap.size≤b∨Gp b) w {σ with ow:=ow'} (.rowS (C.E.dp+1) ys.length) True t es v)
  (hrun:jk C.P f→(Go.execOp a.eval o).run C.P w= .ok (.enter f (vs.toArray.push v)) w):eo C o d a w σ (st1.aZ (.s dd)) (.o t' es'):=by
 obtain ⟨hb,hcall⟩:=hc
 let W:Nat→Prop:=fun b=>w.heap.size≤b∨Gp b
 let σ0:Sp:={σ with ow:=fun b=>if Gp b then some (.rowS (C.E.dp+1) ys.length) else σ.ow b}
 let σa:Sp:={σ with ow:=fun b=>if Gp b then none else σ.ow b}
 have hGs:∀ b,Gp b→b<w.heap.size:=fun b hb=>by obtain ⟨_,L,hL,_⟩:=hG b hb;exact h.own b L hL
 have hGi:∀ b,Gp b→¬σ.I b:=fun b hb hi=>by obtain ⟨_,L,hL,_⟩:=hG b hb;rw [(h.bT b hi).2] at hL;cases hL
 have ha:au C st1 a w σa:=by
  by_cases hne:∃ b,Gp b
  ·obtain ⟨g,hg⟩:=hne
   obtain ⟨_,L,hL,hI⟩:=hG g hg
   refine h1.GS (L:=some L) ⟨fun b l hb hne=>⟨rfl,?_⟩,fun _ _=>rfl,fun _ h=>h,rfl,aS _,fun b l hb=>?_,fun b hb=>⟨(h.bT b hb).1,?_⟩⟩ hI
   ·show (if Gp b then none else σ.ow b)=some l
    rw [ad,hb]
    intro hgb
    rw [hG1 b g hgb hg,hL] at hb
    exact hne hb.symm
   ·have hb:(if Gp b then none else σ.ow b)=some l:=hb
    split at hb
    ·cases hb
    ·exact h.own b l hb
   ·show (if Gp b then none else σ.ow b)=none
    rw [ad (fun hg=>hGi b hg hb)]
    exact (h.bT b hb).2
  ·have he:σa=σ:=by
    have:σa.ow=σ.ow:=by
     funext b
     show (if Gp b then none else σ.ow b)=_
     rw [ad fun hg=>hne ⟨b,hg⟩]
    cases σ;simp only [σa] at this ⊢;rw [this]
   rw [he];exact h1
 intro K Q hK
 unfold Oper.wp
 rw [hrun hb,Oper.upon_enter]
 refine (hcall W w σ0 vs.toArray v (fun b hb=>⟨.inl hb,(h.new b hb).2⟩) ⟨fun k cs hk=>(by cases hk),fun k cs hk=>(by cases hk),fun b l hb=>?_,fun b hb=>⟨(h.bT b hb).1,?_⟩,h.lay⟩ (by simpa using hl.symm) (fun i y hi=>?_) (hv _ fun b hb=>ab hb)).mono ?_
 ·have hb:(if Gp b then some (dz.rowS (C.E.dp+1) ys.length) else σ.ow b)=some l:=hb
  split at hb
  ·rename_i hg;exact hGs b hg
  ·exact h.own b l hb
 ·show (if Gp b then some (dz.rowS (C.E.dp+1) ys.length) else σ.ow b)=none
  rw [ad (fun hg=>hGi b hg hb)]
  exact (h.bT b hb).2
 ·obtain ⟨n,hn⟩:=hx i y hi
  have:=hn.Bl (dG y (hcp y (aL hi)))
  simpa [bn] using this
 ·rintro e w' ⟨v',σ1,n,rfl,hv',hst,hH⟩
  have hW0:∀ b,b<w.heap.size→¬Gp b→¬W b:=fun b hb hg hw=>hw.elim (fun h=>absurd hb (lQ.2 h)) hg
  have hWC:∀ b,W b→C.W b:=fun b hw=>hw.elim (fun h1=>(h.new b h1).1) fun hg=>(hG b hg).1
  have how0:∀ b,¬Gp b→σ0.ow b=σ.ow b:=fun b hg=>ad hg
  let σ2:Sp:=⟨σ.κ,fun b=>if σ1.ow b=some (.rowS (C.E.dp+1) n)∧W b then some (.rowS C.E.dp dd) else if W b then none else σ.ow b,σ1.I⟩
  have hs2:iE C w σa w' σ2 none:=by
   refine ⟨fun b l hb _=>?_,hst.bT,hst.up,rfl,hst.size,fun b l hb=>?_,fun b hb=>⟨(hH.bT b hb).1,?_⟩⟩
   ·have hb:(if Gp b then none else σ.ow b)=some l:=hb
    split at hb
    ·cases hb
    ·rename_i hg
     have hlt:=h.own b l hb
     refine ⟨hst.aP b hlt (hW0 b hlt hg),?_⟩
     show (if _ then _ else if W b then none else σ.ow b)=_
     rw [ad fun hh=>hW0 b hlt hg hh.2,ad (hW0 b hlt hg),hb]
   ·have hb:(if σ1.ow b=some (.rowS (C.E.dp+1) n)∧W b then some (dz.rowS C.E.dp dd) else if W b then none else σ.ow b)=some l:=hb
    split at hb
    ·rename_i hh;exact hH.own b _ hh.1
    ·split at hb
     ·cases hb
     ·exact eb (h.own b l hb) hst.size
   ·show (if σ1.ow b=some (.rowS (C.E.dp+1) n)∧W b then some (dz.rowS C.E.dp dd) else if W b then none else σ.ow b)=none
    have h0:=(hH.bT b hb).2
    rw [ad (fun hh=>by rw [h0] at hh;cases hh.1)]
    split
    ·rfl
    ·rename_i hw
     have hlt:b<w.heap.size:=Nat.lt_of_not_le fun hle=>hw (.inl hle)
     have hg:¬Gp b:=fun hg=>hw (.inr hg)
     rw [←how0 b hg,←hst.ow b hlt hw]
     exact h0
  have hc2:=(ha.same hs2).aZ (.s dd)
  refine hK v' w' σ2 (au.rb hdd ⟨hst.size,fun b hb hW=>hst.aP b hb fun hw=>hW (hWC b hw),hst.up,hst.bT,fun b hb=>(hst.dn b hb).imp id (hWC b),fun _ _=>rfl,fun b hb hW=>?_,hst.io⟩ hc2 ?_)
  ·have hw:¬W b:=fun hw=>hW (hWC b hw)
   show (if σ1.ow b=some (.rowS (C.E.dp+1) n)∧W b then some (dz.rowS C.E.dp dd) else if W b then none else σ.ow b)=σ.ow b
   rw [ad fun hh=>hw hh.2,ad hw]
  ·rcases hv' with h3 | ⟨g',cap',cs',hv2,hr⟩
   ·exact .inl h3
   ·have hw:W g':=hr.wr trivial
    refine .inr ⟨g',cap',cs',hv2,⟨?_,fun _=>hWC g' hw,hr.hh,hr.pos,hr.nc,hr.ecap,hr.max,hr.size,hr.pure,hr.one,fun j e m c he hc=>(hr.cell j e m c he hc).Aq (fun _ h=>h) (fun _ _=>rfl) (jq (hr.pure e (aL he)) c (aL hc)),hr.base⟩⟩
    show (if σ1.ow g'=some (.rowS (C.E.dp+1) n)∧W g' then some (dz.rowS C.E.dp dd) else if W g' then none else σ.ow g')=_
    rw [ab ⟨hr.ow,hw⟩]
theorem GY:∀ {xs:List ba}{x:ba}{ys:List Operand},dT ys (xs++[x])=true→∃ ys0 y,ys=ys0++[y]∧dT ys0 xs=true∧bK y x=true
 | [],x,ys,h=>by
  match ys,h with
  | [y],h=>exact ⟨[],y,rfl,rfl,by simpa [dT] using h⟩
  | [],h=>simp [dT] at h
  | _::_::_,h=>simp [dT] at h
 | z::xs,x,ys,h=>by
  match ys,h with
  | [],h=>simp [dT] at h
  | y::ys,h=>
   simp only [eu,dT,aA] at h
   obtain ⟨ys0,y',rfl,h1,h2⟩:=GY h.2
   exact ⟨y::ys0,y',rfl,by simp [dT,h.1,h1],h2⟩
theorem ab0{t:TypeId}{f:FuncId}{xs:List ba}{x:ba}(hR:lj C.P R)(h:au C st a w σ)(hl:bC C.P (.cm t f xs x) o.op=true)(he:execOp R Ω C.E st d (.cm t f xs x)=some r):eo C o d a w σ r.2 r.1:=by
 simp only [bC] at hl;split at hl
 ·rename_i c hop
  simp only [aA] at hl
  obtain ⟨h1,h2⟩:=hl
  split at h1
  ·rename_i f' hcal
   have hff:f=f':=by simpa using h1
   obtain ⟨ys0,y,hys,hlo,hly⟩:=GY h2
   obtain ⟨h3,h4⟩:=h.zZ _ _ hlo
   simp only [execOp] at he
   obtain ⟨dd,hdd,he1⟩:=ah.1 he
   clear he
   unfold Ig at he1
   split at he1
   ·rename_i hp
    simp only [aA,iI] at hp
    obtain ⟨⟨es,st1⟩,hq,he2⟩:=ah.1 he1
    obtain ⟨⟨q,hp'⟩,hr,he3⟩:=ah.1 he2
    clear he1 he2
    simp only at he3 hr
    cases q with
    | ret _=>cases he3
    | new _=>cases he3
    | pF _ _ _ _ _ _=>cases he3
    | row t' es'=>
     obtain rfl:=aa he3
     obtain ⟨hc1,hrow⟩:=h.consume hly hq
     have hpu:∀ z∈xs.map st.ev,z.pure=true:=ft hp.2
     have hcm:=hR.mov (C.E.dp+1) f (xs.map st.ev) t es hp' t' es' hr hpu
     have hrun:jk C.P f→(Go.execOp a.eval o).run C.P w= .ok (.enter f ((ys0.map a.eval).toArray.push (a.eval y))) w:=fun hb=>by
      have hev:a.eval (.func f')= .func (.func f') #[] #[]:=rfl
      have hcf:=fC hb (List.map a.eval c.args.toList).toArray w
      have ha:(List.map a.eval c.args.toList).toArray=c.args.map a.eval:=by apply lS;simp
      have ha2:(List.map a.eval c.args.toList).toArray=(ys0.map a.eval).toArray.push (a.eval y):=by rw [hys];simp
      rw [←ha2]
      rw [hff,ha] at hcf
      rw [hff,ha]
      unfold Go.execOp
      simp [hop,resolve,hcal,hev,Deferred.ofValue,invoke]
      exact hcf
     rcases hrow with ⟨hes,hev⟩ | ⟨L,g,cap,cs,hev,hRow,hIdle⟩
     ·exact JK (fun _=>False) h hc1 hdd h3 h4 hpu (fun _ hf=>hf.elim) (fun _ _ hf=>hf.elim) hcm (fun _ _=>.inl ⟨hes,hev⟩) hrun
     ·refine JK (fun b=>b=g) h hc1 hdd h3 h4 hpu (fun b hb=>by subst hb;exact ⟨hRow.wr trivial,L,hRow.ow,hIdle⟩) (fun b b' hb hb'=>hb.trans hb'.symm) hcm (fun ow' how=>?_) hrun
      exact .inr ⟨g,cap,cs,hev,⟨how g rfl,fun _=>.inr rfl,hRow.hh,hRow.pos,hRow.nc,hRow.ecap,hRow.max,hRow.size,hRow.pure,hRow.one,hRow.cell,hRow.base⟩⟩
   ·cases he1
  ·cases h1
 ·cases hl
theorem ab1{t:TypeId}{f:FuncId}{xs:List ba}(hΩ:iA C.P Ω)(h:au C st a w σ)(hl:bC C.P (.cr t f xs) o.op=true)(he:execOp R Ω C.E st d (.cr t f xs)=some r):eo C o d a w σ r.2 r.1:=by
 simp only [bC] at hl;split at hl
 ·rename_i c hop
  simp only [aA] at hl
  obtain ⟨h1,h2⟩:=hl
  split at h1
  ·rename_i f' hcal
   have hff:f=f':=by simpa using h1
   obtain ⟨h3,h4⟩:=h.zZ _ _ h2
   simp only [execOp] at he
   obtain ⟨dd,hdd,he1⟩:=ah.1 he
   clear he
   unfold Ie at he1
   split at he1
   ·rename_i hp
    obtain ⟨x,hx,he2⟩:=ah.1 he1
    clear he1
    split at he2
    ·split at he2
     ·rename_i t' htt
      subst htt
      obtain rfl:=aa he2
      obtain ⟨hb,hpos,hcall⟩:=hΩ.row f _ _ hx (ft hp)
      have hrun:(Go.execOp a.eval o).run C.P w= .ok (.enter f (c.args.toList.map a.eval).toArray) w:=by
       have hev:a.eval (.func f')= .func (.func f') #[] #[]:=rfl
       have hcf:=fC hb (List.map a.eval c.args.toList).toArray w
       have ha:(List.map a.eval c.args.toList).toArray=c.args.map a.eval:=by apply lS;simp
       rw [hff,ha] at hcf
       rw [hff,ha]
       unfold Go.execOp
       simp [hop,resolve,hcal,hev,Deferred.ofValue,invoke]
       exact hcf
      intro K Q hK
      unfold Oper.wp
      rw [hrun,Oper.upon_enter]
      refine (hcall w σ.I σ.κ _ (h.new _ (aS _)).2 (fun b hb=>(h.bT b hb).1) (by rw [qf];exact h3.symm) (fun i y hi=>?_)).mono ?_
      ·obtain ⟨n,hn⟩:=h4 i y hi
       have:=hn.Bl (dG _ (ft hp y (aL hi)))
       simpa [bn] using this
      ·rintro e w' ⟨v,rfl,hv,hsize,hold,hio⟩
       rcases hv with rfl | ⟨g,cap,cs,rfl,hg,hh,hcap,hcs⟩
       ·have hsame:iE C w σ w' σ none:=⟨fun b l hb _=>⟨hold b (h.own b l hb),hb⟩,fun b hb=>hold b (h.bT b hb).1,fun _ h=>h,rfl,hsize,fun b l hb=>eb (h.own b l hb) hsize,fun b hb=>⟨eb (h.bT b hb).1 hsize,(h.bT b hb).2⟩⟩
        exact hK _ w' σ (au.rb hdd ⟨hsize,fun b hb _=>hold b hb,fun _ h=>h,fun b hb=>hold b (h.bT b hb).1,fun _ h=>.inl h,fun _ _=>rfl,fun _ _ _=>rfl,hio⟩ ((h.same hsame).aZ _) (.inl ⟨rfl,rfl⟩))
       ·have hgl:g<w'.heap.size:=by
         apply lT
         intro hn
         rw [yX (by omega)] at hh
         cases hh
        have hne:∀ b,b<w.heap.size→b≠g:=fun b hb e=>by omega
        have hsame:iE C w σ w' (σ.add g (some (.rowS C.E.dp dd))) none:=by
         refine ⟨fun b l hb _=>⟨hold b (h.own b l hb),?_⟩,fun b hb=>hold b (h.bT b hb).1,fun _ h=>h,rfl,hsize,fun b l hb=>?_,fun b hb=>⟨eb (h.bT b hb).1 hsize,?_⟩⟩
         ·simp only [Sp.add,ad (hne b (h.own b l hb)),hb]
         ·simp only [Sp.add] at hb
          split at hb
          ·omega
          ·exact eb (h.own b l hb) hsize
         ·have hb':σ.I b:=hb
          simp only [Sp.add,ad (hne b (h.bT b hb').1)]
          exact (h.bT b hb').2
        refine hK _ w' (σ.add g (some (.rowS C.E.dp dd))) (au.rb hdd ⟨hsize,fun b hb _=>hold b hb,fun _ h=>h,fun b hb=>hold b (h.bT b hb).1,fun _ h=>.inl h,fun _ _=>rfl,fun b hb _=>ad (hne b hb),hio⟩ ((h.same hsame).aZ _) (.inr ⟨g,cap,cs,rfl,?_⟩))
        exact ⟨by simp [Sp.add],fun _=>(h.new g hg).1,hh,hpos,(fun e he=>by cases he),ct _,hcap,hcs,(fun e he=>by cases he),(fun e he=>by cases he),(fun j e m c he=>by simp at he),(h.new g hg).2⟩
     ·cases he2
    ·cases he2
   ·cases he1
  ·cases h1
 ·cases hl
theorem z6{f:FuncId}{xs:List AV}{vs:List Value}(hR:lj C.P R)(hΩ:iA C.P Ω)(h:au C st a w σ)(hl:xs.length=vs.length)(hx:∀ (i:Nat)(x:AV),xs[i]? =some x→∃ n,SR C w σ st a n x (vs[i]?.getD undef))
  (he:dH R Ω C.E st f xs=some r) (hrun:jk C.P f→(Go.execOp a.eval o).run C.P w= .ok (.enter f vs.toArray) w):eo C o d a w σ r.2 r.1:=by
 unfold dH at he
 split at he
 ·exact Bu hR hΩ h hl hx he hrun
 split at he
 ·rename_i hc
  simp only [aA,iI] at hc
  obtain ⟨⟨hro,hcp⟩,hdp⟩:=hc
  obtain ⟨⟨q,hp'⟩,hq,he2⟩:=ah.1 he
  clear he
  cases q with
  | new cs=>cases he2
  | row _ _=>cases he2
  | pF _ _ _ _ _ _=>cases he2
  | ret x=>?_
  obtain rfl:=aa he2
  have hcp':∀ x∈xs,x.copy=true:=fun x hx=>bH.1 hcp x hx
  exact Rd hro h hl hx hcp' (fun d cs hb c hc=>mF (nx (p:=fun y=>AV.ee C.E.dp y) _ hdp d cs hb) c hc) (hR.ret (C.E.dp+1) f xs _ x hp' hq hcp') hrun
 ·cases he
theorem ab2{f:FuncId}{xs:List ba}(hR:lj C.P R)(hΩ:iA C.P Ω)(h:au C st a w σ)(hl:bC C.P (.c2 f xs) o.op=true)(he:execOp R Ω C.E st d (.c2 f xs)=some r) :
  eo C o d a w σ r.2 r.1:=by
 simp only [bC] at hl;split at hl
 ·rename_i c hop
  simp only [aA] at hl
  obtain ⟨h1,h2⟩:=hl
  split at h1
  ·rename_i f' hcal
   have hff:f=f':=by simpa using h1
   obtain ⟨h3,h4⟩:=h.zZ _ _ h2
   simp only [execOp] at he
   refine z6 hR hΩ h h3 h4 he fun hb=>?_
   have hev:a.eval (.func f')= .func (.func f') #[] #[]:=rfl
   have hcf:=fC hb (List.map a.eval c.args.toList).toArray w
   have ha:(List.map a.eval c.args.toList).toArray=c.args.map a.eval:=by apply lS;simp
   rw [hff,ha] at hcf
   rw [hff,ha]
   unfold Go.execOp
   simp [hop,resolve,hcal,hev,Deferred.ofValue,invoke]
   exact hcf
  ·cases h1
 ·cases hl
theorem ab3{x:ba}{xs:List ba}(hR:lj C.P R)(hΩ:iA C.P Ω)(h:au C st a w σ)(hl:bC C.P (.d2 x xs) o.op=true)(he:execOp R Ω C.E st d (.d2 x xs)=some r) :
  eo C o d a w σ r.2 r.1:=by
 simp only [bC] at hl;split at hl
 ·rename_i c hop
  simp only [aA] at hl
  obtain ⟨h1,h2⟩:=hl
  split at h1
  ·rename_i y hcal
   obtain ⟨h3,h4⟩:=h.zZ _ _ h2
   simp only [execOp] at he
   split at he
   ·rename_i f caps hx
    have hv:=(hx▸h.eM h1 (by rw [hx];simp) (by rw [hx];rfl))
    split at he
    ·rename_i hg
     obtain ⟨vs,hvv,hcl,hcc⟩:=hv.K1 hg
     refine z6 (vs:=c.args.toList.map a.eval++vs.toList) hR hΩ h (by rw [cH,cH,h3,hcl];simp) (fun i z hi=>?_) he fun hb=>?_
     ·rw [kv] at hi ⊢
      rw [h3] at hi
      split
      ·rename_i hlt
       rw [ab hlt] at hi
       exact h4 i z hi
      ·rename_i hlt
       rw [ad hlt] at hi
       have:=hcc _ z hi
       exact ⟨0,lg (by simpa [bn] using this)⟩
     ·unfold Go.execOp
      have hcf:=fC hb (List.map a.eval c.args.toList++vs.toList).toArray w
      have ha:(List.map a.eval c.args.toList++vs.toList).toArray=c.args.map a.eval++vs:=by apply lS;simp
      rw [ha] at hcf
      rw [ha]
      simp [hop,resolve,hcal,hvv,Deferred.ofValue,invoke]
      exact hcf
    ·rename_i hg
     obtain ⟨vs,hvv,hcl,hcc⟩:=hv.abx hg
     refine z6 (vs:=vs.toList++c.args.toList.map a.eval) hR hΩ h (by rw [cH,cH,h3,hcl];simp) (fun i z hi=>?_) he fun hb=>?_
     ·rw [kv] at hi ⊢
      have hcl':caps.length=vs.toList.length:=by rw [hcl];simp
      rw [hcl'] at hi
      split
      ·rename_i hlt
       rw [ab hlt] at hi
       have:=hcc _ z hi
       exact ⟨0,lg (by simpa [bn] using this)⟩
      ·rename_i hlt
       rw [ad hlt] at hi
       exact h4 _ z hi
     ·unfold Go.execOp
      have hcf:=fC hb (vs.toList++List.map a.eval c.args.toList).toArray w
      have ha:(vs.toList++List.map a.eval c.args.toList).toArray=vs++c.args.map a.eval:=by apply lS;simp
      rw [ha] at hcf
      rw [ha]
      simp [hop,resolve,hcal,hvv,Deferred.ofValue,invoke]
      exact hcf
   ·cases he
  ·cases h1
 ·cases hl
theorem rf{t:TypeId}{l:List AV}(h:AV.vR t l=true):∀ x∈l,AV.pz t x=true:=by
 induction l with
 | nil=>intro x hx;cases hx
 | cons y l ih=>
  simp only [AV.vR,aA] at h
  intro x hx
  rcases cR.1 hx with rfl | hx
  ·exact h.1
  ·exact ih h.2 x hx
theorem TD{t:TypeId}{x:AV}(h:AV.pz t x=true):∀ c∈x.cl,AV.pz t c=true:=by
 intro c hc
 cases x<;>simp only [AV.cl,fw] at hc<;>first | (subst hc;exact h) | skip
 exact rf (by simpa [AV.pz] using h) c hc
theorem VR.fresh{B' B:bJ}{w:World}{I J:Nat→Prop}{κ:Key→Nat}{t:TypeId}(h0:t≠0)(htg:B'.tg t=false)(hn:B.n0≤B'.n0)(hJ:∀ b,I b→B'.n0≤b→(∃ cs,w.heap[b]? =some (.cells cs t (0,0)))→J b)
  {x:AV} {v:Value} (h : @VR B' w I κ x v) (hx:AV.pz t x=true) : @VR B w J κ x v:=by
 induction h with
 | u v=>exact .u v
 | sk=>exact .sk
 | b x=>exact .b x
 | i k n=>exact .i k n
 | s l=>exact .s l
 | n=>exact .n
 | z=>exact .z
 | nf=>exact .nf
 | ni=>exact .ni
 | lnil t A cap=>exact .lnil t A cap
 | l s es g o cap cs T fz sz hI0 hh0 ht hsz hnc hsize hp h1 hcap hmax hc ih=>
  cases es with
  | nil=>exact .lnil _ _ _
  | cons e0 es=>
   have hx':s=t∧AV.vR t (e0::es)=true:=by
    simpa [AV.pz] using hx
   obtain ⟨rfl,hx2⟩:=hx'
   have hg:B'.n0≤g:=by
    rcases lP g B'.n0 with hlt | hge
    ·have:=(ht h0).2 hlt
     rw [htg] at this;cases this
    ·exact hge
   obtain ⟨rfl,rfl⟩:=(ht h0).1 hg
   exact @VR.l B w J κ T (e0::es) g o cap cs T (0,0) sz (hJ g hI0 hg ⟨_,hh0⟩) hh0 (fun _=>⟨fun _=>⟨rfl,rfl⟩,fun h=>absurd (bQ hn hg) (Nat.not_le_of_lt h)⟩) hsz hnc hsize hp h1 hcap hmax
    fun j e m c he hc'=>ih j e m c he hc' (TD (rf hx2 e (aL he)) c (aL hc'))
 | e x off g o cs T fz hI0 hh0 hp hsize h1 hc ih=>simp [AV.pz] at hx
 | f g caps vs hg hl hc ih=>exact .f g caps vs hg hl fun m c hc'=>ih m c hc' (rf (by simpa [AV.pz] using hx) c (aL hc'))
 | fm g caps vs hl hc ih=>exact .fm g caps vs hl fun m c hc'=>ih m c hc' (rf (by simpa [AV.pz] using hx) c (aL hc'))
 | a cs vs hl h1 hc ih=>exact .a cs vs hl h1 fun m c hc'=>ih m c hc' (rf (by simpa [AV.pz] using hx) c (aL hc'))
 | tp cs vs hl hc ih=>exact .tp cs vs hl fun m c hc'=>ih m c hc' (rf (by simpa [AV.pz] using hx) c (aL hc'))
 | ifc t x v h ih=>exact .ifc t x v (ih (by simpa [AV.pz] using hx))
 | p k off=>exact .p k off
 | sp k off n sz cap h1 h2=>exact .sp k off n sz cap h1 h2
theorem pE.wrap{y:AV}{g:Nat}{t:TypeId}{v:Value}{n:Nat}(h:pE C.W C.E.dp w σ g t y v):SR C w σ st a n (Um g t y) v:=by
 unfold Um
 split
 ·obtain ⟨_,h⟩:=h
  cases h;exact .i _ _
 ·obtain ⟨_,h⟩:=h
  cases h;exact .b _
 ·exact h
theorem Da(hR':lX C.P R)(hΩ:iA C.P Ω)(ao:oV)(h:au C st a w σ)(hl:bC C.P ao o.op=true)(he:execOp R Ω C.E st d ao=some r):eo C o d a w σ r.2 r.1:=by
 have hR:=hR'.h
 cases ao with
 | mv x=>exact aby h hl he
 | as x=>exact abP h hl he
 | pk c x y=>exact abz h hl he
 | bx x=>exact abO h hl he
 | al zs=>exact abN h hl he
 | ld n x=>exact abG h hl he
 | st n x y=>exact abQ h hl he
 | fa off x=>exact abE h hl he
 | fd n off x=>exact abF h hl he
 | ia sz arr x i=>exact abH h hl he
 | bo op bl x y=>exact abJ h hl he
 | no x=>exact abA h hl he
 | ae ks ng x y=>exact abI h hl he
 | bs t sz es=>exact abR h hl he
 | bd zs fs=>exact abM h hl he
 | ms t sz by_ x n=>exact abS h hl he
 | sl t sz x lo hi=>exact abL h hl he
 | ex x i=>exact abB h hl he
 | mf f caps=>exact abC h hl he
 | ca m f args=>exact abX hR hΩ h hl he
 | cf m x args=>exact abY hR hΩ h hl he
 | c2 f args=>exact ab2 hR hΩ h hl he
 | d2 x args=>exact ab3 hR hΩ h hl he
 | c3 f args=>obtain ⟨h1,h2⟩:=Ob hR h (fun _ _=>rfl) (fun _ _ h=>h) hl he;rw [h1];exact h2
 | d3 x args=>obtain ⟨h1,h2⟩:=Oc hR h (fun _ _=>rfl) (fun _ _ h=>h) hl he;rw [h1];exact h2
 | cn f args=>exact abZ hR h hl he
 | cr t f args=>exact ab1 hΩ h hl he
 | cm t f args x=>exact ab0 hR h hl he
 | ln str x=>exact abK h hl he
 | ap t sz by_ x y=>exact abU h hl he
 | nc x=>exact abD h hl he
end
end Go.Proofs.YtkkkkondjclcnaaGreat.A
