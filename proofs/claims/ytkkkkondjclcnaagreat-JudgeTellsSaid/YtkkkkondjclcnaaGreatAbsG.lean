/- Calls of functions that change nothing; every operation. -/
import Derived.Test.YtkkkkondjclcnaaGreatAbsP
import Derived.RangeFuncOwn
set_option linter.all false
namespace Go.Proofs.YtkkkkondjclcnaaGreat.A
open Go
variable [bM]
def jU(P:Program)(f:FuncId):Prop:=∃ fn,P.funcs[f]? =some fn∧fn.body.isNone=false∧(fn.name== "runtime.NumGoroutine")=false
def pa(P:Program)(f:FuncId)(ys:List AV)(x:AV):Prop:=
 jU P f∧∀ (w:World)(I:Nat→Prop)(κ:Key→Nat)(F:Array Value),bM.n0≤w.heap.size∧JI w I→(∀ b,I b→b<w.heap.size)→F.size=ys.length→(∀ (i:Nat)(y:AV),ys[i]? =some y→VR w I κ y (F.getD i undef))→
  Calls P f F w fun e w'=>∃ v I',e= .returned v∧VR w' I' κ x v∧w.heap.size≤w'.heap.size∧(∀ b,b<w.heap.size→w'.heap[b]? =w.heap[b]?)∧(∀ b,I b→I' b)∧(∀ b,I' b→I b∨w.heap.size≤b)∧(∀ b,I' b→b<w'.heap.size)∧w'.os=w.os∧w'.output=w.output
def wg(P:Program)(W:Nat→Prop)(dp:Nat):Cx:=⟨P,W,⟨dp,false⟩,0⟩
structure xn(P:Program)(W:Nat→Prop)(dp:Nat)(hp:HP)(w:World)(σ:Sp):Prop where
 bx:∀ k cs,hp k=some cs→k.dp<dp→∃ vs T,jS (wg P W dp) w σ k cs vs T
 deep:∀ k cs,hp k=some cs→k.dp≠dp→k.dp<dp∧∀ c∈cs,c.deep k.dp=true
 own:∀ b l,σ.ow b=some l→b<w.heap.size
 bP:∀ b,σ.I b→b<w.heap.size∧σ.ow b=none
 lay:JI w σ.I
def Aq(P:Program)(dp:Nat)(f:FuncId)(ys:List AV)(hp:HP)(x:AV)(hp':HP):Prop:=
 x.pure=true∧jU P f∧∀ (W:Nat→Prop)(w:World)(σ:Sp)(F:Array Value),(∀ b,w.heap.size≤b→W b∧bM.n0≤b)→xn P W dp hp w σ→F.size=ys.length→
  (∀ (i:Nat)(y:AV),ys[i]? =some y→VR w σ.I σ.κ y (F.getD i undef))→
  Calls P f F w fun e w'=>∃ v σ',e= .returned v∧VR w' σ'.I σ'.κ x v∧cZ (wg P W dp) w σ w' σ'∧xn P W dp hp' w' σ'
def Li(P:Program)(dp:Nat)(f:FuncId)(ys:List AV)(hp:HP)(cs:List AV)(hp':HP):Prop:=
 cs.all sW=true∧jU P f∧∀ (W:Nat→Prop)(w:World)(σ:Sp)(F:Array Value),(∀ b,w.heap.size≤b→W b∧bM.n0≤b)→xn P W dp hp w σ→F.size=ys.length→
  (∀ (i:Nat)(y:AV),ys[i]? =some y→VR w σ.I σ.κ y (F.getD i undef))→
  Calls P f F w fun e w'=>∃ σ' kk vs T,e= .returned (.pointer (some ⟨σ'.κ kk,0,none⟩))∧kk.dp=dp∧jS (wg P W dp) w' σ' kk cs vs T∧cZ (wg P W dp) w σ w' σ'∧xn P W dp hp' w' σ'
def YJ(P:Program)(w:World)(dp:Nat):Cx:=⟨P,fun b=>w.heap.size≤b,⟨dp,true⟩,0⟩
structure HpR(P:Program)(dp:Nat)(hp:HP)(w:World)(σ:Sp):Prop where
 bx:∀ k cs,hp k=some cs→k.dp<dp→∃ vs T,jS (YJ P w dp) w σ k cs vs T
 deep:∀ k cs,hp k=some cs→k.dp≠dp→k.dp<dp∧∀ c∈cs,c.deep k.dp=true
 own:∀ b l,σ.ow b=some l→b<w.heap.size
 bP:∀ b,σ.I b→b<w.heap.size∧σ.ow b=none
 lay:JI w σ.I
def Lj(P:Program)(dp:Nat)(f:FuncId)(ys:List AV)(hp:HP)(x:AV):Prop:=
 x.pure=true∧jU P f∧∀ (w:World)(σ:Sp)(F:Array Value),bM.n0≤w.heap.size→HpR P dp hp w σ→F.size=ys.length→
  (∀ (i:Nat)(y:AV),ys[i]? =some y→VR w σ.I σ.κ y (F.getD i undef))→
  Calls P f F w fun e w'=>∃ v I',e= .returned v∧VR w' I' σ.κ x v∧w.heap.size≤w'.heap.size∧(∀ b,b<w.heap.size→w'.heap[b]? =w.heap[b]?)∧(∀ b,σ.I b→I' b)∧(∀ b,I' b→σ.I b∨w.heap.size≤b)∧(∀ b,I' b→b<w'.heap.size)∧w'.os=w.os∧w'.output=w.output
def YK(P:Program)(f:FuncId)(ys:List AV)(t:TypeId):Prop:=
 jU P f∧0<P.cellsOf t∧∀ (w:World)(I:Nat→Prop)(κ:Key→Nat)(F:Array Value),bM.n0≤w.heap.size→(∀ b,I b→b<w.heap.size)→F.size=ys.length→(∀ (i:Nat)(y:AV),ys[i]? =some y→VR w I κ y (F.getD i undef))→
  Calls P f F w fun e w'=>∃ v,e= .returned v∧(v= .slice none 0 0∨∃ g cap cs,v= .slice (some ⟨g,0,none⟩) 0 cap∧w.heap.size≤g∧w'.heap[g]? =some (.cells cs t (0,0))∧cap≤maxLen∧cs.size=cap*P.cellsOf t)∧
   w.heap.size≤w'.heap.size∧(∀ b,b<w.heap.size→w'.heap[b]? =w.heap[b]?)∧w'.os=w.os∧w'.output=w.output
def Lk(P:Program)(dp:Nat)(f:FuncId)(ys:List AV)(t:TypeId)(es:List AV)(t':TypeId)(aQ:List AV):Prop:=
 jU P f∧∀ (W:Nat→Prop)(w:World)(σ:Sp)(F:Array Value)(v:Value),(∀ b,w.heap.size≤b→W b∧bM.n0≤b)→xn P W dp (fun _=>none) w σ→F.size=ys.length→
  (∀ (i:Nat)(y:AV),ys[i]? =some y→VR w σ.I σ.κ y (F.getD i undef))→OwnAt P W w σ (.rowS dp ys.length) True t es v→
  Calls P f (F.push v) w fun e w'=>∃ v' σ' n,e= .returned v'∧OwnAt P W w' σ' (.rowS dp n) True t' aQ v'∧cZ (wg P W dp) w σ w' σ'∧xn P W dp (fun _=>none) w' σ'
structure kC(P:Program)(R:Rec):Prop where
 ret:∀ dp f ys hp x hp',R ⟨dp,false⟩ f ys hp=some (.ret x,hp')→(∀ y∈ys,y.copy=true)→Aq P dp f ys hp x hp'
 new:∀ dp f ys hp cs hp',R ⟨dp,false⟩ f ys hp=some (.new cs,hp')→(∀ y∈ys,y.copy=true)→Li P dp f ys hp cs hp'
 ro:∀ dp f ys hp x hp',R ⟨dp,true⟩ f ys hp=some (.ret x,hp')→(∀ y∈ys,y.copy=true)→Lj P dp f ys hp x
 mov:∀ dp f ys t es hp' t' aQ,R ⟨dp,false⟩ f (ys++[.o t es]) (fun _=>none)=some (.row t' aQ,hp')→(∀ y∈ys,y.pure=true)→Lk P dp f ys t es t' aQ
def Zl(P:Program)(f:FuncId)(y:AV):Prop:=
 jU P f∧∀ (w:World)(I:Nat→Prop)(κ:Key→Nat)(v:Value),(∀ b,I b→∃ cs T,w.heap[b]? =some (.cells cs T (0,0)))→VR w I κ y v→
  Calls P f #[v] w fun e w'=>(∃ r,e= .returned r)∧w.heap.size≤w'.heap.size∧(∀ b,b<w.heap.size→¬I b→w'.heap[b]? =w.heap[b]?)∧w'.os=w.os∧w'.output=w.output
def m8(P:Program)(R:Rec):Prop:=∀ B:bM,@kC B P R
theorem m8.h{P:Program}{R:Rec}(h:m8 P R):kC P R:=h _
def Via(P:Program)(f g:FuncId)(n:Int):Prop:=∀ dp ys hp cs hp',ys.length=1→(cs.length:Int)=n→Aq P dp g ys hp (.a cs) hp'→Aq P dp f ys hp (.tp [.a cs,.i .i64 0,.i .i64 0]) hp'
def aki(P:Program)(f:FuncId)(t:TypeId):Prop:=
 jU P f∧∀ (w:World)(b off:Nat)(vs:Array Value)(T:TypeId)(g cap:Nat)(cs:Array Value)(l:List UInt8),w.heap[b]? =some (.cells vs T (0,0))→off+1<vs.size→vs.getD (off+1) undef= .slice (some ⟨g,0,none⟩) l.length cap→
  w.heap[g]? =some (.cells cs t (0,0))→l.length≤cap→cap≤maxLen→cs.size=cap→l≠[]→(∀ (j:Nat)(c:UInt8),l[j]? =some c→cs[j]? =some (.int .u8 c.toNat))→
  Calls P f #[.pointer (some ⟨b,off,none⟩)] w fun e w'=>e= .returned (.string ⟨l.toArray⟩)∧w'.heap.size=w.heap.size∧(∀ x,x≠g→w'.heap[x]? =w.heap[x]?)∧w'.os=w.os∧w'.output=w.output
def OR(P:Program)(f:FuncId)(c:AV)(ns:List Int):Prop:=
 ∀ (w:World)(I:Nat→Prop)(κ:Key→Nat)(v:Value),bM.n0≤w.heap.size→(∀ b,I b→b<w.heap.size)→VR w I κ (.f f [c]) v→
  ∃ gf lb,v= .func (.func gf) #[] lb∧(∀ args w,(callFunc gf args).run P w= .ok (.enter gf args) w)∧
   ∀ (l m:Nat)(J:(Nat→Prop)→List Int→World→Prop)(Jx:List Int→World→Prop)(T:Nat→Prop)(W:World),
    w.heap.size≤W.heap.size→(∀ b,I b→W.heap[b]? =w.heap[b]?)→
    (∀ T pre W W',J T pre W→RowKit.Below W.heap.size W W'→J (fun b=>T b∨(W.heap.size≤b∧b<W'.heap.size)) pre W')→
    (∀ T pre n rest W1 m,ns=pre++n::rest→J T pre W1→YieldAt Fence.wide m P l #[.int .i64 n] W1 fun e W2=>
     (e= .returned (.bool true)∧J T (pre++[n]) W2∧(∀ b,T b→W2.heap[b]? =W1.heap[b]?)∧(∀ b,I b→W2.heap[b]? =W1.heap[b]?)∧W1.heap.size≤W2.heap.size)∨
     (e= .returned (.bool false)∧Jx (pre++[n]) W2))→
    J T [] W→
    CallsIn Fence.wide m P gf (#[.func (.yield l) #[] #[]]++lb) W fun e W'=>(∃ v,e= .returned v)∧((∃ T',J T' ns W')∨(∃ pre n rest,ns=pre++n::rest∧Jx (pre++[n]) W'))
structure je(P:Program)(Ω:ef):Prop where
 via:∀ f (g:FuncId) n,Ω f [.u,.i .i64 g]=some (.i .i64 n)→Via P f g n
 spo:∀ f y,Ω f [y]=some .u→y.pure=true→Zl P f y
 ret:∀ f ys x,Ω f ys=some x→(∀ y∈ys,y.pure=true)→x.pure=true→pa P f ys x
 row:∀ f ys t,Ω f ys=some (.o t [])→(∀ y∈ys,y.pure=true)→YK P f ys t
 str:∀ f (t:TypeId),Ω f [.u,.u,.i .i64 t]=some (.s [])→aki P f t
 it:∀ f c es ns,Ω f [.u,c]=some (.l 0 es)→Az es=some ns→OR P f c ns
variable {P:Program}{f:FuncId}{ys:List AV}{x:AV}{hp':HP}
theorem kC.pure{R:Rec}(hR:kC P R)(he:R ⟨0,false⟩ f ys (fun _=>none)=some (.ret x,hp'))(hy:∀ y∈ys,y.pure=true):pa P f ys x:=by
 obtain ⟨aN,hb,hc⟩:=hR.ret 0 f ys _ x hp' he (fun y hm=>ed y (hy y hm))
 refine ⟨hb,fun w I κ F hn hI hs ha=>?_⟩
 refine (hc (fun b=>w.heap.size≤b) w ⟨κ,fun _=>none,I⟩ F ((by grind)) ⟨fun k cs hk=>(by cases hk),fun k cs hk=>(by cases hk),fun b l hb=>(by cases hb),fun b hb=>⟨hI b hb,rfl⟩,hn.2⟩ hs ha).mono ?_
 rintro e w' ⟨v,σ',rfl,hv,G,hH⟩
 exact ⟨v,σ'.I,rfl,hv.BX (fun _ h=>h) (fun _ _=>rfl) aN,G.size,fun b hb=>G.aG b hb (show ¬w.heap.size≤b by omega),G.up,G.dn,fun b hb=>(hH.bP b hb).1,G.io⟩
variable {ts:List TypeId}
theorem afB(h:x.off ts=true):∀ c∈x.cl,c.off ts=true:=by
 intro c hc
 cases x<;>simp only [AV.cl,jj] at hc<;>first | (subst hc;exact h) | skip
 grind [wW,AV.off]
variable {I:Nat→Prop}{κ:Key→Nat}{v:Value}
theorem VR.amI{w:World}{B:Nat→Prop}(bZ:ts≠[])(hB:∀ b,B b→∃ cs T fz,w.heap[b]? =some (.cells cs T fz)∧T∈ts∧bM.n0≤b)(h:VR w I κ x v)(hx:x.off ts=true):
  VR w (fun b=>I b∧¬B b) κ x v:=by
 induction h with
 | u v=>exact .u v
 | sk=>exact .sk
 | b x=>exact .b x
 | i k n=>exact .i k n
 | s l=>exact .s l
 | n=>exact .n
 | z=>exact .z
 | nf=>exact .nf
 | ni=>exact .ni
 | lnil t A cap=>exact .lnil t A cap
 | l t es g o cap cs T fz sz bm a8 ht aL bL H hp h1 aI aW hc ih=>
  cases es with
  | nil=>exact .lnil _ _ _
  | cons e0 es=>
   have aJ:(t≠0∧¬t∈ts)∧AV.lX ts (e0::es)=true:=by
    grind [AV.off]
   refine .l t (e0::es) g o cap cs T fz sz ⟨bm,fun hb=>?_⟩ a8 ht aL bL H hp h1 aI aW (by grind [afB,wW])
   grind
 | e x off g o cs T fz bm a8 hp H h1 hc ih=>
  grind [AV.off]
 | f g ac vs hg hl hc ih=>grind [f,wW,AV.off]
 | fm g ac vs hl hc ih=>grind [fm,wW,AV.off]
 | a cs vs hl h1 hc ih=>grind [a,wW,AV.off]
 | tp cs vs hl hc ih=>grind [tp,wW,AV.off]
 | ifc t x v h ih=>grind [ifc,AV.off]
 | p k off=>exact .p k off
 | sp k off n sz cap h1 h2=>grind [sp]
section
variable {C:Cx}{st:St}{a:Act}{w:World}{σ:Sp}{o:Oper}{d:Option Nat}{R:Rec}{Ω:ef}{r:AV×St}
structure Ll(C:Cx)(w:World)(σ:Sp)(y:AV)(v:Value)(ts:List TypeId)(B:Nat→Prop):Prop where
 vr:VR w (fun b=>σ.I b∨B b) σ.κ y v
 pure:y.pure=true
 blk:∀ b,B b→(∃ l,σ.ow b=some l)∧∃ cs T fz,w.heap[b]? =some (.cells cs T fz)∧T∈ts∧bM.n0≤b
theorem aq.UL(h:aq C st a w σ){k:Key}{o n sz:Nat}{y:AV}(hx:VR w σ.I σ.κ (.sp k o n sz) v)(he:st.oV C.E.dp k o n sz=some (y,ts)):(∃ B,Ll C w σ y v ts B)∧y.one=true:=by
 unfold St.oV at he
 obtain ⟨cs,hb,U⟩:=ah.1 he
 split at U
 ·rename_i hc
  obtain ⟨rfl,rfl⟩:=gN (af U)
  simp only [aC,eI] at hc
  obtain ⟨⟨⟨hk,hp⟩,aL⟩,hle⟩:=hc
  obtain ⟨vs,T,hB⟩:=h.bx k cs hb
  have hT:=hB.kb.1 hk
  have bF:=fB hp
  have ce:∀ c∈cs,c.one=true:=fun c hc=>(hB.one c hc).resolve_right fun e=>by have:=bF c hc;rw [e] at this;cases this
  have aw:∀ c∈cs.drop o,c.one=true:=by grind
  have hp':AV.aX (cs.drop o)=true:=by grind [kM]
  have aO:n*sz≤(cs.drop o).length:=by grind
  have hlen:=Eg sz n (cs.drop o)
  refine ⟨⟨fun b=>b=σ.κ k,?_,rfl,fun b hb=>by subst hb;exact ⟨⟨_,hB.ow⟩,vs,T,(0,0),hB.hh,by simp [hT],hB.kb.2⟩⟩,rfl⟩
  ·have aJ:=hx
   cases aJ with
   | sp _ _ _ _ cap bV bU=>
    have:=VR.l (w:=w) (I:=fun b=>σ.I b∨b=σ.κ k) (κ:=σ.κ) 0 (chunks sz n (cs.drop o)) (σ.κ k) o cap vs T (0,0) sz (.inr rfl) hB.hh (fun h=>absurd rfl h) aL (fun e he=>?_) ?_ (fun e he=>?_) (fun e he c hc=>?_) (by omega) bU (fun j e m c he hc=>?_)
    ·grind
    ·obtain ⟨j,hj⟩:=eZ.1 he
     obtain ⟨h3,h4,_⟩:=l8 sz aL aw aO hj
     grind [AV.nc]
    ·rw [hlen];have:=hB.size;omega
    ·obtain ⟨j,hj⟩:=eZ.1 he
     exact (l8 sz aL aw aO hj).2.2 hp'
    ·obtain ⟨j,hj⟩:=eZ.1 he
     obtain ⟨h3,_,_⟩:=l8 sz aL aw aO hj
     grind
    ·obtain ⟨h3,_,_⟩:=l8 sz aL aw aO he
     rw [h3,mS] at hc
     split at hc
     ·rw [mT,mT,←uV] at hc
      have a2:=bg hc
      exact (OP (bF c a2) (hB.cell _ c hc)).BX (fun _ h=>.inl h) (fun _ _=>rfl) (bF c a2)
     ·cases hc
 ·cases U
theorem aq.akj(h:aq C st a w σ){c y:AV}(hx:VR w σ.I σ.κ c v)(h1:c.one=true)(he:st.GW C.E.dp c=some (y,ts)):(∃ B,Ll C w σ y v ts B)∧y.one=true:=by
 unfold St.GW at he
 split at he
 ·exact h.UL hx he
 ·split at he
  ·rename_i hp
   obtain ⟨rfl,rfl⟩:=gN (af he)
   exact ⟨⟨fun _=>False,by grind,hp,fun _ h=>h.elim⟩,h1⟩
  ·cases he
theorem aq.UM(h:aq C st a w σ):∀ (cs:List AV)(vs:List Value)(ys:List AV)(ts:List TypeId),cs.length=vs.length→(∀ (m:Nat)(c:AV),cs[m]? =some c→VR w σ.I σ.κ c (vs[m]?.getD undef))→(∀ c∈cs,c.one=true)→
  st.qC C.E.dp cs=some (ys,ts)→∃ B:Nat→Prop,ys.length=vs.length∧(∀ b,B b→(∃ l,σ.ow b=some l)∧∃ cs T fz,w.heap[b]? =some (.cells cs T fz)∧T∈ts∧bM.n0≤b)∧(∀ y∈ys,y.pure=true∧y.one=true)∧
   ∀ (m:Nat)(y:AV),ys[m]? =some y→VR w (fun b=>σ.I b∨B b) σ.κ y (vs[m]?.getD undef)
 | [],vs,ys,ts,hl,_,_,he=>by
  obtain ⟨rfl,rfl⟩:=gN (af he)
  exact ⟨fun _=>False,hl,fun _ h=>h.elim,by grind,fun i y hi=>(by simp at hi)⟩
 | c::cs,[],_,_,hl,_,_,_=>by simp at hl
 | c::cs,v::vs,ys,ts,hl,hx,h1,he=>by
  obtain ⟨⟨y,ts1⟩,e1,U⟩:=ah.1 he
  obtain ⟨⟨ys',ts2⟩,e2,N⟩:=ah.1 U
  obtain ⟨rfl,rfl⟩:=gN (af N)
  obtain ⟨⟨B1,hL⟩,b7⟩:=h.akj (by simpa using hx 0 c rfl) (h1 c (by simp)) e1
  obtain ⟨B2,bN,ct,bH,ba⟩:=aq.UM h cs vs ys' ts2 (by simpa using hl) (fun i x hi=>by simpa using hx (i+1) x (by simpa using hi)) (fun c hc=>h1 c (by simp [hc])) e2
  refine ⟨fun b=>B1 b∨B2 b,by simpa using bN,fun b hb=>?_,fun z hz=>?_,fun i z hi=>?_⟩
  ·rcases hb with hb | hb
   ·obtain ⟨h3,cs,T,fz,h4,h5⟩:=hL.blk b hb
    grind
   grind
  ·rcases eX.1 hz with rfl | hz
   ·exact ⟨hL.pure,b7⟩
   ·exact bH z hz
  ·cases i with
   | zero=>
    obtain rfl:y=z:=by simpa using hi
    exact hL.vr.mono ((by grind)) (fun _ _=>rfl) (fun _ _=>rfl)
   | succ i=>exact (ba i z (by simpa using hi)).mono ((by grind)) (fun _ _=>rfl) (fun _ _=>rfl)
theorem aq.AQ(h:aq C st a w σ){n:Nat}{y:AV}(hx:SR C w σ st a n x v)(he:st.jl C.E.dp x=some (y,ts)):∃ B,Ll C w σ y v ts B:=by
 have aB:∀ (L:ez)(wp:Prop) t es lo len cap' v,OwnAt C.P C.W w σ L wp t es v→lo+len≤es.length→(∀ A n cap,v= .slice A n cap→cap'=cap)→
   ∃ B,Ll C w σ (.l t ((es.drop lo).take len)) (match v with | .slice A _ cap=>.slice (if cap=lo then A else A.map (·.add (lo*C.P.cellsOf t))) len (cap - lo) | v=>v) [t] B:=by
  intro L wp t es lo len cap' v ho hle _
  rcases ho with ⟨rfl,rfl⟩ | ⟨g,cap,cs,rfl,hR⟩
  ·simp only [jk] at hle
   obtain rfl:lo=0:=by omega
   obtain rfl:len=0:=by omega
   exact ⟨fun _=>False,by simpa using VR.lnil _ _ _,rfl,fun _ h=>h.elim⟩
  ·by_cases hl:len=0
   ·subst hl
    exact ⟨fun _=>False,by simpa using VR.lnil _ _ _,by simp [AV.pure],fun _ h=>h.elim⟩
   ·have cG:=hR.ecap
    refine ⟨fun b=>b=g,?_,rfl,fun b hb=>⟨⟨_,hb▸hR.ow⟩,cs,t,_,hb▸hR.hh,by simp,hb▸hR.base⟩⟩
    have:=hR.bP (I:=fun b=>σ.I b∨b=g) (fun _ h=>.inl h) (.inr rfl) hle
    grind [add_lit]
 have aA:∀ (L:ez)(wp:Prop) t es v,OwnAt C.P C.W w σ L wp t es v→∃ B,Ll C w σ (.l t es) v [t] B:=by
  intro L wp t es v ho
  rcases ho with ⟨rfl,rfl⟩ | ⟨g,cap,cs,rfl,hR⟩
  ·exact ⟨fun _=>False,.lnil _ _ _,rfl,fun _ h=>h.elim⟩
  ·exact ⟨fun b=>b=g,hR.Wv (I:=fun b=>σ.I b∨b=g) (fun _ h=>.inl h) (.inr rfl),rfl,fun b hb=>⟨⟨_,hb▸hR.ow⟩,cs,t,_,hb▸hR.hh,by simp,hb▸hR.base⟩⟩
 have aD:∀ x,SR C w σ st a n x v→x.pure=true→∃ B,Ll C w σ x v [] B:=fun x hx hp=>
  ⟨fun _=>False,(hx.CB (ed x hp)).mono (fun _ h=>.inl h) (fun _ _=>rfl) (fun _ _=>rfl),hp,fun _ h=>h.elim⟩
 cases x with
 | o t es=>
  obtain ⟨rfl,rfl⟩:=gN (af he)
  exact aA _ _ t es v hx
 | r pl=>
  obtain ⟨⟨t,es⟩,hr,U⟩:=ah.1 he
  obtain ⟨rfl,rfl⟩:=gN (af U)
  rw [hx (by rw [hr];rfl)]
  exact aA _ _ t es _ (h.row hr)
 | v pl lo len=>
  obtain ⟨⟨t,es⟩,hr,U⟩:=ah.1 he
  simp only at U
  split at U
  ·rename_i hle
   obtain ⟨rfl,rfl⟩:=gN (af U)
   obtain ⟨A,n',cap,cC,hv⟩:=hx t es hr hle
   obtain ⟨B,hB⟩:=aB _ _ t es lo len cap _ (h.row hr) hle ((by grind))
   grind
  ·cases U
 | w g t z=>
  obtain ⟨rfl,rfl⟩:=gN (af he)
  obtain ⟨hp,hz⟩:=hx
  refine ⟨_,hz.mono (fun _ h=>.inr h) (fun _ _=>rfl) (fun _ _=>rfl),hp,fun b hb=>⟨⟨_,hb.1⟩,?_⟩⟩
  obtain ⟨cs,e⟩:=hb.2.2.2
  exact ⟨cs,t,_,e,by simp,hb.2.2.1⟩
 | sp k o n sz=>exact (h.UL hx he).1
 | a cs=>
  simp only [St.jl] at he
  split at he
  ·rename_i hp
   obtain ⟨rfl,rfl⟩:=gN (af he)
   exact aD _ hx hp
  ·obtain ⟨⟨ys,ts'⟩,U,N⟩:=ah.1 he
   obtain ⟨rfl,rfl⟩:=gN (af N)
   have aJ:VR w σ.I σ.κ (.a cs) v:=hx
   cases aJ with
   | a _ vs hl h1 hc=>
    obtain ⟨B,g1,g2,g3,g4⟩:=h.UM cs vs.toList ys ts' (by simpa using hl) ((by grind [Array.getD_eq_getD_getElem?])) h1 U
    exact ⟨B,.a _ _ (by simpa using g1) (fun c hc=>(g3 c hc).2) ((by grind [Array.getD_eq_getD_getElem?])),kM fun c hc=>(g3 c hc).1,g2⟩
 | _=>
  simp only [St.jl] at he
  split at he
  ·rename_i hp
   obtain ⟨rfl,rfl⟩:=gN (af he)
   exact aD _ hx hp
  ·cases he
theorem aq.Rz(h:aq C st a w σ):∀ (xs:List AV)(vs:List Value)(ys:List AV)(ts:List TypeId),xs.length=vs.length→(∀ (i:Nat)(x:AV),xs[i]? =some x→∃ n,SR C w σ st a n x (vs[i]?.getD undef))→
  st.fk C.E.dp xs=some (ys,ts)→∃ B:Nat→Prop,ys.length=vs.length∧(∀ b,B b→(∃ l,σ.ow b=some l)∧∃ cs T fz,w.heap[b]? =some (.cells cs T fz)∧T∈ts∧bM.n0≤b)∧(∀ y∈ys,y.pure=true)∧
   ∀ (i:Nat)(y:AV),ys[i]? =some y→VR w (fun b=>σ.I b∨B b) σ.κ y (vs[i]?.getD undef)
 | [],vs,ys,ts,hl,_,he=>by
  obtain ⟨rfl,rfl⟩:=gN (af he)
  exact ⟨fun _=>False,hl,fun _ h=>h.elim,by grind,fun i y hi=>(by simp at hi)⟩
 | x::xs,[],_,_,hl,_,_=>by simp at hl
 | x::xs,v::vs,ys,ts,hl,hx,he=>by
  obtain ⟨⟨y,ts1⟩,h1,U⟩:=ah.1 he
  obtain ⟨⟨ys',ts2⟩,h2,N⟩:=ah.1 U
  obtain ⟨rfl,rfl⟩:=gN (af N)
  obtain ⟨n,av⟩:=hx 0 x rfl
  obtain ⟨B1,hL⟩:=h.AQ av h1
  obtain ⟨B2,bN,ct,bH,ba⟩:=aq.Rz h xs vs ys' ts2 (by simpa using hl) (fun i x hi=>by simpa using hx (i+1) x (by simpa using hi)) h2
  refine ⟨fun b=>B1 b∨B2 b,by simpa using bN,fun b hb=>?_,fun z hz=>?_,fun i z hi=>?_⟩
  ·rcases hb with hb | hb
   ·obtain ⟨h3,cs,T,fz,h4,h5⟩:=hL.blk b hb
    grind
   grind
  ·rcases eX.1 hz with rfl | hz
   ·exact hL.pure
   ·exact bH z hz
  ·cases i with
   | zero=>
    obtain rfl:y=z:=by simpa using hi
    exact hL.vr.mono ((by grind)) (fun _ _=>rfl) (fun _ _=>rfl)
   | succ i=>exact (ba i z (by simpa using hi)).mono ((by grind)) (fun _ _=>rfl) (fun _ _=>rfl)
theorem fO(hf:jU P f)(args:Array Value)(w:World):(callFunc f args).run P w= .ok (.enter f args) w:=by
 obtain ⟨fn,h1,h2,h3⟩:=hf
 have cK:fn.name≠ "runtime.NumGoroutine" :=by simpa using h3
 have cL:fn.body≠none:=by grind
 simp_all [callFunc]
theorem OS{xs:List AV}{vs:List Value}(h:aq C st a w σ)(hl:xs.length=vs.length)(hx:∀ (i:Nat)(x:AV),xs[i]? =some x→∃ n,SR C w σ st a n x (vs[i]?.getD undef))(aU:st.fk C.E.dp xs=some (ys,ts))(hc:(∀ y∈ys,y.pure=true)→pa C.P f ys x)(hp:x.pure=true)(ho:(ts.isEmpty||x.off ts)=true)(O:jU C.P f→(Go.execOp a.eval o).run C.P w= .ok (.enter f vs.toArray) w):eM C o d a w σ st x:=by
 obtain ⟨B,cz,hB,hyp,cy⟩:=h.Rz xs vs ys ts hl hx aU
 obtain ⟨hb,S⟩:=hc hyp
 intro K Q hK
 unfold Oper.wp
 rw [O hb,Oper.upon_enter]
 have aK:∀ b,B b→b<w.heap.size:=by grind
 refine (S w (fun b=>σ.I b∨B b) σ.κ vs.toArray ⟨(h.new _ (aV _)).2,h.lay.aG (fun _ h=>.inl h) fun _ _=>rfl⟩ (fun b hb=>hb.elim (fun h1=>(h.bP b h1).1) (aK b)) (by grind) (fun i y hi=>?_)).mono ?_
 ·simp_all
 ·rintro e w' ⟨v,I',rfl,hv,H,hold,bA,bj,aZ,a7⟩
  refine hK v w' {σ with I:=fun b=>I' b∧¬B b} ?_
  have cD:∀ b,σ.I b→¬B b:=fun b hb cq=>by
   obtain ⟨⟨l,hl⟩,_⟩:=hB b cq
   have:=(h.bP b hb).2
   grind
  have V:jo C w σ w' {σ with I:=fun b=>I' b∧¬B b} none:=
   ⟨fun b l hb _=>⟨hold b (h.own b l hb),hb⟩,fun b hb=>hold b (h.bP b hb).1,by grind,rfl,H,fun b l hb=>ea (h.own b l hb) H,fun b hb=>⟨aZ b hb.1,by
    rcases bj b hb.1 with h1 | h1
    ·rcases h1 with h1 | h1
     ·exact (h.bP b h1).2
     grind
    ·show σ.ow b=none
     cases hq:σ.ow b with
     | none=>rfl
     | some l=>have:=h.own b l hq;omega⟩⟩
  refine ⟨⟨H,fun b hb _=>hold b hb,V.up,V.bP,fun b hb=>?_,fun _ _=>rfl,fun _ _ _=>rfl,a7⟩,h.same V,fun _ _=>lE ?_,fun _ _ _ _ e=>by subst e;cases hp⟩
  ·rcases bj b hb.1 with h1 | h1
   ·grind
   ·exact .inr (h.new b h1).1
  ·by_cases bZ:ts=[]
   ·simp_all
   ·have bJ:x.off ts=true:=by
     grind
    exact hv.amI bZ ((by grind)) bJ
theorem Eh{m:Nat}{xs:List AV}{vs:List Value}(hR:kC C.P R)(hΩ:je C.P Ω)(h:aq C st a w σ)(hl:xs.length=vs.length)(hx:∀ (i:Nat)(x:AV),xs[i]? =some x→∃ n,SR C w σ st a n x (vs[i]?.getD undef))(he:aF R Ω C.E st m f xs=some r)(O:jU C.P f→(Go.execOp a.eval o).run C.P w= .ok (.enter f vs.toArray) w):eM C o d a w σ r.2 r.1:=by
 unfold aF at he
 split at he
 ·obtain ⟨⟨ys,ts⟩,aU,U⟩:=ah.1 he
  clear he
  obtain ⟨⟨q,hp'⟩,hq,N⟩:=ah.1 U
  clear U
  cases q with
  | new cs=>cases N
  | row _ _=>cases N
  | o0 _ _ _ _ _ _=>cases N
  | ret x=>?_
  simp only at N
  split at N
  ·rename_i hc
   simp only [aC] at hc
   obtain rfl:=af N
   exact OS h hl hx aU (fun hyp=>hR.pure hq hyp) hc.1 hc.2 O
  ·cases N
 ·obtain ⟨⟨ys,ts⟩,aU,U⟩:=ah.1 he
  clear he
  obtain ⟨x,hq,N⟩:=ah.1 U
  clear U
  split at N
  ·rename_i hc
   simp only [aC] at hc
   obtain rfl:=af N
   exact OS h hl hx aU (fun hyp=>hΩ.ret f ys x hq hyp hc.1) hc.1 hc.2 O
  ·cases N
 ·cases he
theorem aq.AU(h:aq C st a w σ):∀ (ys:List Operand)(xs:List aY),eG ys xs=true→(xs.map st.ev).length=(ys.map a.eval).length∧
  ∀ (i:Nat)(x:AV),(xs.map st.ev)[i]? =some x→∃ n,SR C w σ st a n x ((ys.map a.eval)[i]?.getD undef)
 | [],[],_=>by grind
 | y::ys,x::xs,hl=>by
  simp only [eG,aC] at hl
  obtain ⟨h1,h2⟩:=aq.AU h ys xs hl.2
  refine ⟨by simpa using h1,fun i z hi=>?_⟩
  cases i with
  | zero=>
   obtain rfl:st.ev x=z:=by simpa using hi
   cases x with
   | t n=>exact ⟨n,h.slot hl.1⟩
   | c z=>exact ⟨0,Iw (.inl (ed z (vd hl.1))) (by simpa using h.wQ hl.1 (ed z (vd hl.1)))⟩
  | succ i=>simpa using h2 i z (by simpa using hi)
 | [],_::_,hl=>by simp [eG] at hl
 | _::_,[],hl=>by simp [eG] at hl
theorem afC{m:Nat}{xs:List aY}(hR:kC C.P R)(hΩ:je C.P Ω)(h:aq C st a w σ)(hl:bG C.P (.ca m f xs) o.op=true)(he:execOp R Ω C.E st d (.ca m f xs)=some r):
  eM C o d a w σ r.2 r.1:=by
 simp only [bG] at hl;split at hl
 ·rename_i c ar
  simp only [aC] at hl
  obtain ⟨h1,h2⟩:=hl
  split at h1
  ·rename_i f' X
   have ak:f=f':=by simpa using h1
   obtain ⟨h3,h4⟩:=h.AU _ _ h2
   simp only [execOp] at he
   refine Eh hR hΩ h h3 h4 he fun hb=>?_
   have ad:a.eval (.func f')= .func (.func f') #[] #[]:=rfl
   have ai:=fO hb (List.map a.eval c.args.toList).toArray w
   have ha:(List.map a.eval c.args.toList).toArray=c.args.map a.eval:=by grind
   rw [ak,ha] at ai
   rw [ak,ha]
   unfold Go.execOp
   simp [ar,resolve,X,ad,Deferred.ofValue,invoke]
   exact ai
  ·cases h1
 ·cases hl
theorem afD{m:Nat}{x:aY}{xs:List aY}(hR:kC C.P R)(hΩ:je C.P Ω)(h:aq C st a w σ)(hl:bG C.P (.cf m x xs) o.op=true)(he:execOp R Ω C.E st d (.cf m x xs)=some r) :
  eM C o d a w σ r.2 r.1:=by
 simp only [bG] at hl;split at hl
 ·rename_i c ar
  simp only [aC] at hl
  obtain ⟨h1,h2⟩:=hl
  split at h1
  ·rename_i y X
   obtain ⟨h3,h4⟩:=h.AU _ _ h2
   simp only [execOp] at he
   split at he
   ·rename_i f ac hx
    have hv:=(hx▸h.fJ h1 (by rw [hx];simp) (by rw [hx];rfl))
    split at he
    rotate_left
    ·cases he
    rename_i hg
    obtain ⟨vs,bz,bv,bw⟩:=hv.NZ hg
    refine Eh (vs:=c.args.toList.map a.eval++vs.toList) hR hΩ h (by grind) (fun i z hi=>?_) he fun hb=>?_
    ·rw [pV] at hi ⊢
     rw [h3] at hi
     split
     ·grind
     simp_all [lE]
    simp_all [Go.execOp,fO,resolve,Deferred.ofValue,invoke]
   ·cases he
  ·cases h1
 ·cases hl
theorem BY(dp:Nat)(hp':HP)(d:Nat):au (st.back dp hp').fr d=if iZ (au st.fr d)=true then .u else au st.fr d:=by
 show au (st.fr.map fun x=>(x.1,if iZ x.2=true then .u else x.2)) d=_
 induction st.fr with
 | nil=>simp [au,iZ]
 | cons y fr ih=>
  grind [au]
theorem zU{dp:Nat}{hp':HP} : ∀ {bx:List (Nat×List AV)}{d:Nat}{cs:List AV},aE (bY dp hp' bx) d=some cs→hp' ⟨dp,d⟩=some cs
 | [],d,cs,h=>by cases h
 | (d',cs')::r,d,cs,h=>by
  simp only [bY] at h
  split at h
  ·rename_i zs hz
   simp only [aE] at h
   split at h
   ·grind
   ·exact zU h
  ·exact zU h
theorem zV{dp:Nat}{d:Nat}{r:TypeId×List AV}(h:(st.back dp hp').rowAt dp (.s d)=some r):st.rowAt dp (.s d)=some r:=by
 grind [St.rowAt,BY]
theorem gx.Ei{W W':Nat→Prop}{w:World}{σ σ':Sp}{L:ez}{wr wr':Prop}{t:TypeId}{es:List AV}{g cap:Nat}{cs:Array Value}(h:gx P W w σ L wr t es g cap cs)(a6:σ'.ow g=some L)(hI:∀ b,σ.I b→σ'.I b)(hw:wr'→W' g):gx P W' w σ' L wr' t es g cap cs:=
 ⟨a6,hw,h.hh,h.pos,h.nc,h.ecap,h.max,h.size,h.pure,h.one,fun j e m c he hc=>(h.cell j e m c he hc).BX hI (fun _ _=>rfl) (kO (h.pure e (bg he)) c (bg hc)),h.base⟩
theorem jS.Ei{C C':Cx}{w:World}{σ σ':Sp}{k:Key}{cs:List AV}{vs:Array Value}{T:TypeId}(h:jS C w σ k cs vs T)(hP:C'.P=C.P)(hk:σ'.κ k=σ.κ k)(a6:∀ b l,σ.ow b=some l→(l= .box k∨∃ off,l= .rowC k off)→σ'.ow b=some l)
  (hI:∀ b,σ.I b→σ'.I b) (hm:C.E.ro=false) (hW:∀ b l,σ.ow b=some l→(l= .box k∨∃ off,l= .rowC k off)→C.W b→C'.W b) (hd:∀ c∈cs,∀ k',c.cb k'=false→σ'.κ k'=σ.κ k') (bf:∀ c∈cs,∀ g t x,c≠.w g t x):jS C' w σ' k cs vs T:=by
 have Y:∀ off,(Pl.c k off).jM C.E=true:=fun off=>by simp [Pl.jM,hm]
 refine ⟨by rw [hk];exact h.hh,h.size,by rw [hk];exact a6 _ _ h.ow (.inl rfl),fun _=>by rw [hk];exact hW _ _ h.ow (.inl rfl) (h.wr (Y 0)),h.one,fun off c hc=>?_,h.ty,by rw [hk];exact h.kb⟩
 have M:=h.cell off c hc
 have bQ:=hd c (bg hc)
 have be:=bf c (bg hc)
 cases c with
 | o t es=>
  rcases M with h1 | ⟨g,cap,cs',hv,hr⟩
  ·exact .inl h1
  ·refine .inr ⟨g,cap,cs',hv,?_⟩
   rw [hP]
   exact hr.Ei (a6 _ _ hr.ow (.inr ⟨off,rfl⟩)) hI fun _=>hW _ _ hr.ow (.inr ⟨off,rfl⟩) (hr.wr (Y off))
 | w g t x=>grind
 | bp t k' u=>exact ⟨M.1,by rw [hk];exact M.2⟩
 | _=>exact VR.mono M hI (fun _ _=>rfl) bQ
theorem qa{n:Nat}{c:AV}(h:c.deep n=true):∀ g t x,c≠.w g t x:=fun g t x e=>by subst e;cases h
theorem Zm{w:World}{n:Nat}(h:VR w I κ x v)(hd:x.deep n=true){k:Key}(hk:x.cb k=false):k.dp≤n:=by
 apply BJ
 intro hn
 have:=My (dp:=k.dp) (s:=k.d) (by omega) x h hd
 rw [this] at hk;cases hk
theorem jS.YL{C:Cx}{w:World}{σ:Sp}{k:Key}{cs:List AV}{vs:Array Value}{T:TypeId}{n:Nat}(h:jS C w σ k cs vs T)(hd:∀ c∈cs,c.deep n=true):∀ c∈cs,∀ k',c.cb k'=false→k'.dp≤n:=by
 intro c hc k' ax
 obtain ⟨off,ho⟩:=eZ.1 hc
 have M:=h.cell off c ho
 have b2:=hd c hc
 cases c with
 | o t es=>cases ax
 | r _=>cases M
 | v _ _ _=>cases M
 | q _ _ _ _=>cases M
 | u=>cases ax
 | w _ _ _=>cases b2
 | bp t k2 u=>
  grind [AV.deep,AV.cb]
 | _=>exact Zm M b2 ax
def Wc(C:Cx)(σ:Sp):Nat→Prop:=fun b=>(C.W b∧σ.ow b≠some (.mark C.E.dp))∧∀ d,σ.ow b≠some (.rowS C.E.dp d)∧σ.ow b≠some (.grp C.E.dp d)
theorem aq.Ww(h:aq C st a w σ)(aM:C.E.ro=false)(aS:∀ d cs,aE st.bx d=some cs→∀ c∈cs,c.deep C.E.dp=true):xn C.P (Wc C σ) (C.E.dp+1) (fun k=>st.box C.E.dp k) w σ:=by
 refine ⟨fun k cs hk aj=>?_,fun k cs hk aj=>?_,h.own,h.bP,h.lay⟩
 ·obtain ⟨vs',T,hB⟩:=h.bx k cs hk
  refine ⟨vs',T,hB.Ei rfl rfl (fun _ _ h _=>h) (fun _ h=>h) aM (fun b l hl bn hW=>⟨by grind,by grind⟩) (fun _ _ _ _=>rfl) fun c hc=>?_⟩
  by_cases ay:k.dp=C.E.dp
  ·grind [St.box,qa]
  ·simp only [St.box,aa ay] at hk
   exact qa ((h.hpd k cs ay hk).2 c hc)
 ·by_cases ay:k.dp=C.E.dp
  ·grind [St.box]
  ·simp only [St.box,aa ay] at hk
   obtain ⟨h1,h2⟩:=h.hpd k cs ay hk
   grind
theorem aq.called{w':World}{σ1:Sp}(h:aq C st a w σ)(G:cZ (wg C.P (Wc C σ) (C.E.dp+1)) w σ w' σ1)(hH:xn C.P (Wc C σ) (C.E.dp+1) hp' w' σ1):
  cZ C w σ w' {σ1 with κ:=σ.κ}∧aq C (st.back C.E.dp hp') a w' {σ1 with κ:=σ.κ}:=by
 have bh:∀ k:Key,k.dp≤C.E.dp→σ1.κ k=σ.κ k:=fun k hk=>G.kap k (show k.dp<C.E.dp+1 by omega)
 have b1:∀ b,¬C.W b→¬((C.W b∧σ.ow b≠some (.mark C.E.dp))∧∀ d,σ.ow b≠some (.rowS C.E.dp d)∧σ.ow b≠some (.grp C.E.dp d)):=fun b hb a3=>hb a3.1.1
 have bb:∀ g d,σ.ow g=some (.rowS C.E.dp d)→w'.heap[g]? =w.heap[g]? ∧σ1.ow g=some (.rowS C.E.dp d):=fun g d hg=>
  have hn:¬((C.W g∧σ.ow g≠some (.mark C.E.dp))∧∀ d,σ.ow g≠some (.rowS C.E.dp d)∧σ.ow g≠some (.grp C.E.dp d)):=fun hh=>(hh.2 d).1 hg
  ⟨G.aG g (h.own g _ hg) hn,(G.ow g (h.own g _ hg) hn).trans hg⟩
 have bO:∀ g d,σ.ow g=some (.grp C.E.dp d)→w'.heap[g]? =w.heap[g]? ∧σ1.ow g=some (.grp C.E.dp d):=fun g d hg=>
  have hn:¬((C.W g∧σ.ow g≠some (.mark C.E.dp))∧∀ d,σ.ow g≠some (.rowS C.E.dp d)∧σ.ow g≠some (.grp C.E.dp d)):=fun hh=>(hh.2 d).2 hg
  ⟨G.aG g (h.own g _ hg) hn,(G.ow g (h.own g _ hg) hn).trans hg⟩
 refine ⟨⟨G.size,fun b hb hW=>G.aG b hb (b1 b hW),G.up,G.bP,fun b hb=>(G.dn b hb).imp id fun h=>h.1.1,fun _ _=>rfl,fun b hb hW=>G.ow b hb (b1 b hW),G.io⟩,?_⟩
 have cg:Marks C a.defers w' {σ1 with κ:=σ.κ}:=by
  obtain ⟨Ds,h0,h1,h2⟩:=h.defers
  refine ⟨Ds,h0,h1,fun D hD=>?_⟩
  ·obtain ⟨h2,h3,h4⟩:=h2 D hD
   have hn:¬((C.W D∧σ.ow D≠some (.mark C.E.dp))∧∀ d,σ.ow D≠some (.rowS C.E.dp d)∧σ.ow D≠some (.grp C.E.dp d)):=fun hh=>hh.1.2 h2
   exact ⟨(G.ow D (h.own D _ h2) hn).trans h2,h3,(G.aG D (h.own D _ h2) hn).trans h4⟩
 refine ⟨h.size,cg,fun d=>?_,fun k cs hk=>?_,fun k cs aR hk=>?_,hH.own,hH.bP,fun b hb=>h.new b (bS G.size hb),hH.lay⟩
 ·rw [BY]
  split
  ·exact VR.u _
  ·rename_i hb
   have av:=h.fr d
   generalize au st.fr d=y at av hb
   show SR C w' {σ1 with κ:=σ.κ} _ a d y _
   cases y with
   | o t es=>exact OwnAt.aG (C:=C) av (fun g hg=>bb g d hg) G.up G.bP
   | r pl=>
    cases pl with
    | c k off=>exact absurd rfl hb
    | s d'=>
     intro hs
     obtain ⟨r,hr⟩:=jJ.1 hs
     exact av (by rw [zV hr];rfl)
   | v pl lo len=>
    cases pl with
    | c k off=>exact absurd rfl hb
    | s d'=>
     intro t es ht hle
     exact av t es (zV ht) hle
   | q pl i sz off=>
    cases pl with
    | c k off=>exact absurd rfl hb
    | s d'=>
     intro t es ht hle
     exact av t es (zV ht) hle
   | w g t x=>exact rD.aG av (fun b hb=>bO b g hb) fun _ h=>h
   | ag cs' rs=>exact zi.to av (fun c _ v hv=>hv.mono G.up G.bP fun _ _=>rfl) ((by grind [Option.isSome_iff_exists,zV]))
   | _=>exact VR.mono av G.up G.bP fun _ _=>rfl
 ·have bt:hp' k=some cs∧k.dp≤C.E.dp:=by
   by_cases ay:k.dp=C.E.dp
   ·simp only [St.box,ay,az] at hk
    have:=zU hk
    refine ⟨?_,by omega⟩
    rw [←ay] at this
    exact this
   grind [St.box,St.back]
  obtain ⟨vs',T,hB⟩:=hH.bx k cs bt.1 (by omega)
  have am:=(hH.deep k cs bt.1 (by omega)).2
  exact ⟨vs',T,hB.Ei rfl (bh k bt.2).symm (fun _ _ h _=>h) (fun _ h=>h) rfl (fun b l _ _ hW=>hW.1.1) (fun c hc k' ax=>(bh k' (bS (hB.YL am c hc k' ax) bt.2)).symm) fun c hc=>qa (am c hc)⟩
 ·simp only [St.back] at hk
  split at hk
  ·rename_i aK
   exact ⟨aK,(hH.deep k cs hk (by omega)).2⟩
  ·cases hk
theorem UN{xs:List AV}{vs:List Value}(aM:C.E.ro=false)(h:aq C st a w σ)(hl:xs.length=vs.length)(hx:∀ (i:Nat)(x:AV),xs[i]? =some x→∃ n,SR C w σ st a n x (vs[i]?.getD undef))(aH:∀ x∈xs,x.copy=true)(aS:∀ d cs,aE st.bx d=some cs→∀ c∈cs,c.deep C.E.dp=true)(hc:Aq C.P (C.E.dp+1) f xs (fun k=>st.box C.E.dp k) x hp')(O:jU C.P f→(Go.execOp a.eval o).run C.P w= .ok (.enter f vs.toArray) w):eM C o d a w σ (st.back C.E.dp hp') x:=by
 obtain ⟨aN,hb,S⟩:=hc
 intro K Q hK
 unfold Oper.wp
 rw [O hb,Oper.upon_enter]
 refine (S (Wc C σ) w σ vs.toArray (fun b hb=>⟨⟨⟨(h.new b hb).1,fun e=>absurd (h.own b _ e) (oB.2 hb)⟩,fun d=>⟨fun e=>?_,fun e=>?_⟩⟩,(h.new b hb).2⟩) (h.Ww aM aS) (by grind) (fun i y hi=>?_)).mono ?_
 ·have:=h.own b _ e;omega
 ·have:=h.own b _ e;omega
 ·obtain ⟨n,hn⟩:=hx i y hi
  have:=hn.CB (aH y (bg hi))
  simp_all
 ·rintro e w' ⟨v,σ1,rfl,hv,G,hH⟩
  obtain ⟨h1,h2⟩:=h.called G hH
  exact hK v w' {σ1 with κ:=σ.κ} ⟨h1,h2,fun _ _=>lE (hv.BX (fun _ h=>h) (fun _ _=>rfl) aN),fun _ _ _ _ e=>by subst e;cases aN⟩
noncomputable def oa(W:Nat→Prop)(σ:Sp)(kk:Key)(k':Key):Nat→Option ez:=fun b=>open Classical in match σ.ow b with
 | some (.box k)=>if k=kk∧W b then some (.box k') else some (.box k)
 | some (.rowC k off)=>if k=kk∧W b then some (.rowC k' off) else some (.rowC k off)
 | x=>x
theorem QD{W:Nat→Prop}{σ:Sp}{kk k':Key}{b:Nat}{l:ez}(h:σ.ow b=some l)(hd:l.dpt≠kk.dp):oa W σ kk k' b=some l:=by
 unfold oa
 rw [h]
 cases l with
 | box k=>simp only;rw [aa (fun e=>hd (by rw [←e.1];rfl))]
 | rowS dp d=>rfl
 | grp dp g=>rfl
 | mark dp=>rfl
 | rowC k off=>simp only;rw [aa (fun e=>hd (by rw [←e.1];rfl))]
theorem S4{W:Nat→Prop}{σ:Sp}{kk k':Key}{b:Nat}(h:¬W b):oa W σ kk k' b=σ.ow b:=by
 grind [oa]
theorem QE{W:Nat→Prop}{σ:Sp}{kk k':Key}{b:Nat}{l:ez}(h:oa W σ kk k' b=some l):∃ l',σ.ow b=some l':=by
 grind [oa]
theorem QF{W:Nat→Prop}{σ:Sp}{kk k':Key}{b:Nat}(h:σ.ow b=none):oa W σ kk k' b=none:=by
 unfold oa;rw [h]
theorem UO{xs:List AV}{vs:List Value}{cs:List AV}{dd:Nat}(h:aq C st a w σ)(hl:xs.length=vs.length)(hx:∀ (i:Nat)(x:AV),xs[i]? =some x→∃ n,SR C w σ st a n x (vs[i]?.getD undef))(aH:∀ x∈xs,x.pure=true)(hc:Li C.P (C.E.dp+1) f xs (fun _=>none) cs hp')(b3:dd<1000000)(a1:∀ d',(au st.fr d').cb ⟨C.E.dp,dd⟩=true)(aP:∀ d' cs',aE st.bx d'=some cs'→∀ c∈cs',c.cb ⟨C.E.dp,dd⟩=true)(O:jU C.P f→(Go.execOp a.eval o).run C.P w= .ok (.enter f vs.toArray) w):eM C o d a w σ {st with bx:=(dd,cs)::st.bx} (.p ⟨C.E.dp,dd⟩ 0):=by
 obtain ⟨bu,hb,S⟩:=hc
 intro K Q hK
 unfold Oper.wp
 rw [O hb,Oper.upon_enter]
 refine (S (fun b=>w.heap.size≤b) w σ vs.toArray (fun b hb=>⟨hb,(h.new b hb).2⟩) ⟨fun k cs hk=>(by cases hk),fun k cs hk=>(by cases hk),h.own,h.bP,h.lay⟩ (by grind) (fun i y hi=>?_)).mono ?_
 ·obtain ⟨n,hn⟩:=hx i y hi
  have:=hn.CB ((by grind [ed]))
  simp_all
 ·rintro e w' ⟨σ1,kk,vs',T,rfl,ay,hB,G,hH⟩
  have hold:∀ b,b<w.heap.size→w'.heap[b]? =w.heap[b]? :=fun b hb=>G.aG b hb (Nat.not_le.2 hb)
  have V:jo C w σ w' {σ1 with κ:=σ.κ} none:=
   ⟨fun b l hb _=>⟨hold b (h.own b l hb),(G.ow b (h.own b l hb) (Nat.not_le.2 (h.own b l hb))).trans hb⟩,fun b hb=>hold b (h.bP b hb).1,G.up,rfl,G.size,hH.own,hH.bP⟩
  have h2:aq C st a w' {σ1 with κ:=σ.κ}:=h.same V
  have Y:∀ off,(Pl.c kk off).jM (wg C.P (fun b=>w.heap.size≤b) (C.E.dp+1)).E=true:=by grind [Pl.jM,wg]
  have b4:w.heap.size≤σ1.κ kk:=hB.wr (Y 0)
  have a4:=h2.YI (d:=dd) (cs:=cs) (vs:=vs') (T:=T) (g:=σ1.κ kk) (ow':=oa (fun b=>w.heap.size≤b) σ1 kk ⟨C.E.dp,dd⟩)
   ((by grind [QD])) (fun b l hb=>by obtain ⟨l',h3⟩:=QE hb;exact hH.own b l' h3) (fun b hb=>QF (hH.bP b hb).2)
   hB.hh ⟨by grind,hB.kb.2⟩ hB.size (by unfold oa;rw [hB.ow];simp [b4]) (h.new _ b4).1 hB.one (fun off c hc=>by
    have M:=hB.cell off c hc
    have bK:=cJ.1 bu c (bg hc)
    unfold CR at M
    split
    ·rcases M with h3 | ⟨g,cap,cs',hv,hr⟩
     ·exact .inl h3
     ·have hw:w.heap.size≤g:=hr.wr (Y off)
      refine .inr ⟨g,cap,cs',hv,⟨?_,fun _=>(h.new _ hw).1,hr.hh,hr.pos,hr.nc,hr.ecap,hr.max,hr.size,hr.pure,hr.one,fun j e m c he hc=>(hr.cell j e m c he hc).BX (fun _ h=>h) (fun _ _=>rfl) (kO (hr.pure e (bg he)) c (bg hc)),hr.base⟩⟩
      show oa _ σ1 kk ⟨C.E.dp,dd⟩ g=_
      unfold oa;rw [hr.ow];simp [hw]
    ·rename_i aR
     have hp:c.pure=true:=by
      cases c with
      | o t es=>grind
      | _=>exact bK
     refine ⟨hp,?_⟩
     split at M
     ·grind
     ·cases hp
     ·cases hp
     ·exact M.BX (fun _ h=>h) (fun _ _=>rfl) hp) a1 aP
  refine hK _ w' ⟨fun k=>if k=⟨C.E.dp,dd⟩ then σ1.κ kk else σ.κ k,oa (fun b=>w.heap.size≤b) σ1 kk ⟨C.E.dp,dd⟩,σ1.I⟩ ⟨⟨G.size,fun b hb _=>hold b hb,G.up,G.bP,fun b hb=>(G.dn b hb).imp id fun h3=>(h.new b h3).1,fun k hk=>?_,fun b hb hW=>?_,G.io⟩,a4,by grind [lE,S1],fun _ _ _ _ e=>by cases e⟩
  ·grind
  ·show oa _ _ _ _ b=_
   rw [S4 (Nat.not_le.2 hb)]
   exact G.ow b hb (Nat.not_le.2 hb)
theorem jS.ro{C:Cx}{w:World}{σ:Sp}{k:Key}{cs:List AV}{vs:Array Value}{T:TypeId}{dp:Nat}(h:jS C w σ k cs vs T)(hk:k.dp<dp)(bf:∀ c∈cs,∀ g t x,c≠.w g t x):jS (YJ C.P w dp) w σ k cs vs T:=by
 have Y:∀ off,¬(Pl.c k off).jM (YJ C.P w dp).E=true:=by grind [Pl.jM,YJ]
 refine ⟨h.hh,h.size,h.ow,fun hm=>absurd hm (Y 0),h.one,fun off c hc=>?_,h.ty,h.kb⟩
 have M:=h.cell off c hc
 have be:=bf c (bg hc)
 cases c with
 | o t es=>
  rcases M with h1 | ⟨g,cap,cs',hv,hr⟩
  ·exact .inl h1
  ·exact .inr ⟨g,cap,cs',hv,hr.Ei hr.ow (fun _ h=>h) fun hm=>absurd hm (Y off)⟩
 | w g t x=>grind
 | _=>exact M
theorem UP{xs:List AV}{vs:List Value}{h0:HP}(h:aq C st a w σ)(hl:xs.length=vs.length)(hx:∀ (i:Nat)(x:AV),xs[i]? =some x→∃ n,SR C w σ st a n x (vs[i]?.getD undef))(aH:∀ x∈xs,x.copy=true)(hle:∀ k cs,h0 k=some cs→st.box C.E.dp k=some cs)(aS:∀ k cs,h0 k=some cs→k.dp=C.E.dp→∀ c∈cs,c.deep C.E.dp=true)(hc:Lj C.P (C.E.dp+1) f xs h0 x)(O:jU C.P f→(Go.execOp a.eval o).run C.P w= .ok (.enter f vs.toArray) w):eM C o d a w σ st x:=by
 obtain ⟨aN,hb,S⟩:=hc
 have hk:∀ k cs,h0 k=some cs→k.dp<C.E.dp+1∧∀ c∈cs,c.deep k.dp=true:=by
  intro k cs hk
  by_cases ay:k.dp=C.E.dp
  ·grind
  ·have:=hle k cs hk
   simp only [St.box,aa ay] at this
   obtain ⟨h1,h2⟩:=h.hpd k cs ay this
   grind
 intro K Q hK
 unfold Oper.wp
 rw [O hb,Oper.upon_enter]
 refine (S w σ vs.toArray (h.new _ (aV _)).2 ⟨fun k cs ax aj=>?_,fun k cs ax _=>hk k cs ax,h.own,h.bP,h.lay⟩ (by grind) (fun i y hi=>?_)).mono ?_
 ·obtain ⟨vs',T,hB⟩:=h.bx k cs (hle k cs ax)
  exact ⟨vs',T,hB.ro aj (by grind [qa])⟩
 ·obtain ⟨n,hn⟩:=hx i y hi
  have:=hn.CB (aH y (bg hi))
  simp_all
 ·rintro e w' ⟨v,I',rfl,hv,H,hold,bA,bj,aZ,a7⟩
  have V:jo C w σ w' {σ with I:=I'} none:=
   ⟨fun b l hb _=>⟨hold b (h.own b l hb),hb⟩,fun b hb=>hold b (h.bP b hb).1,bA,rfl,H,fun b l hb=>ea (h.own b l hb) H,fun b hb=>⟨aZ b hb,by
    rcases bj b hb with h1 | h1
    ·exact (h.bP b h1).2
    ·show σ.ow b=none
     cases hq:σ.ow b with
     | none=>rfl
     | some l=>have:=h.own b l hq;omega⟩⟩
  refine hK v w' {σ with I:=I'} ⟨⟨H,fun b hb _=>hold b hb,bA,fun b hb=>hold b (h.bP b hb).1,fun b hb=>(bj b hb).imp id fun h1=>(h.new b h1).1,fun _ _=>rfl,fun _ _ _=>rfl,a7⟩,h.same V,fun _ _=>lE hv,fun _ _ _ _ e=>by subst e;cases aN⟩
theorem HV{v:St}{xs:List AV}{vs:List Value}(hR:kC C.P R)(h:aq C st a w σ)(aP:∀ k cs,v.box C.E.dp k=some cs→st.box C.E.dp k=some cs)(hl:xs.length=vs.length)(hx:∀ (i:Nat)(x:AV),xs[i]? =some x→∃ n,SR C w σ st a n x (vs[i]?.getD undef))(he:iU R C.E v f xs=some r)(O:jU C.P f→(Go.execOp a.eval o).run C.P w= .ok (.enter f vs.toArray) w):r.2=v∧eM C o d a w σ st r.1:=by
 unfold iU at he
 split at he
 ·rename_i hc
  simp only [aC] at hc
  obtain ⟨⟨q,hp'⟩,hq,N⟩:=ah.1 he
  clear he
  cases q with
  | new cs=>cases N
  | row _ _=>cases N
  | o0 _ _ _ _ _ _=>cases N
  | ret x=>?_
  simp only at N
  split at N
  ·rename_i hp
   obtain rfl:=af N
   have an:∀ x∈xs,x.copy=true:=by grind
   refine ⟨rfl,UP h hl hx an aP (fun k cs hk aj c a2=>?_) (hR.ro (C.E.dp+1) f xs _ x hp' hq an) O⟩
   simp only [St.box,aj,az] at hk
   exact nX (p9 (p:=fun y=>AV.dt C.E.dp y) _ hc.2 _ cs hk) c a2
  ·cases N
 ·cases he
theorem RA{v:St}{xs:List aY}(hR:kC C.P R)(h:aq C st a w σ)(ad:∀ x,v.ev x≠.u→st.ev x=v.ev x)(aP:∀ k cs,v.box C.E.dp k=some cs→st.box C.E.dp k=some cs)(hl:bG C.P (.c3 f xs) o.op=true)(he:execOp R Ω C.E v d (.c3 f xs)=some r):
  r.2=v∧eM C o d a w σ st r.1:=by
 simp only [bG] at hl;split at hl
 ·rename_i c ar
  simp only [aC] at hl
  obtain ⟨h1,h2⟩:=hl
  split at h1
  ·rename_i f' X
   have ak:f=f':=by simpa using h1
   obtain ⟨h3,h4⟩:=h.AU _ _ h2
   simp only [execOp] at he
   have hm:xs.map st.ev=xs.map v.ev:=by
    apply rU
    intro x b8
    refine ad x fun e=>?_
    unfold iU at he
    split at he
    ·rename_i hc
     simp only [aC] at hc
     have:=cJ.1 hc.1 _ (yp b8)
     rw [e] at this;cases this
    ·cases he
   rw [hm] at h3 h4
   refine HV hR h aP h3 h4 he fun hb=>?_
   have ad:a.eval (.func f')= .func (.func f') #[] #[]:=rfl
   have ai:=fO hb (List.map a.eval c.args.toList).toArray w
   have ha:(List.map a.eval c.args.toList).toArray=c.args.map a.eval:=by grind
   rw [ak,ha] at ai
   rw [ak,ha]
   unfold Go.execOp
   simp [ar,resolve,X,ad,Deferred.ofValue,invoke]
   exact ai
  ·cases h1
 ·cases hl
theorem MB:∀ l:List AV,l.all AV.copy=true→AV.nW l=true
 | [],_=>rfl
 | z::zs,h=>by
  simp only [vu,aC] at h
  simp only [AV.nW,aC]
  exact ⟨h.1,MB zs h.2⟩
theorem RB{v:St}{x:aY}{xs:List aY}(hR:kC C.P R)(h:aq C st a w σ)(ad:∀ x,v.ev x≠.u→st.ev x=v.ev x)(aP:∀ k cs,v.box C.E.dp k=some cs→st.box C.E.dp k=some cs)(hl:bG C.P (.d3 x xs) o.op=true)(he:execOp R Ω C.E v d (.d3 x xs)=some r) :
  r.2=v∧eM C o d a w σ st r.1:=by
 simp only [bG] at hl;split at hl
 ·rename_i c ar
  simp only [aC] at hl
  obtain ⟨h1,h2⟩:=hl
  split at h1
  ·rename_i y X
   obtain ⟨h3,h4⟩:=h.AU _ _ h2
   simp only [execOp] at he
   split at he
   ·rename_i f ac hx
    split at he
    rotate_left
    ·cases he
    rename_i hg
    have aJ:st.ev x= .f f ac:=by grind
    have hm:xs.map st.ev=xs.map v.ev:=by
     apply rU
     intro z b6
     refine ad z fun e=>?_
     unfold iU at he
     split at he
     ·rename_i hc
      simp only [aC] at hc
      have:=cJ.1 hc.1 _ (pW _ (yp b6))
      rw [e] at this;cases this
     ·cases he
    rw [hm] at h3 h4
    have cp:AV.copy (.f f ac)=true:=by
     unfold iU at he
     split at he
     ·rename_i hc
      simp only [aC,List.all_append] at hc
      show AV.nW ac=true
      grind [MB]
     ·cases he
    have hv:=(aJ▸h.fJ h1 (by rw [aJ];simp) (by rw [aJ];exact (by cases ac<;>rfl)))
    obtain ⟨vs,bz,bv,bw⟩:=hv.NZ hg
    refine HV (vs:=c.args.toList.map a.eval++vs.toList) hR h aP (by grind) (fun i z hi=>?_) he fun hb=>?_
    ·rw [pV] at hi ⊢
     rw [h3] at hi
     split
     ·grind
     simp_all [lE]
    simp_all [Go.execOp,fO,resolve,Deferred.ofValue,invoke]
   ·cases he
  ·cases h1
 ·cases hl
theorem RC{xs:List aY}{cs:List AV}{dd:Nat}(hR:kC C.P R)(h:aq C st a w σ)(hl:bG C.P (.ck f xs) o.op=true)(hp:AV.aX (xs.map st.ev)=true)(hq:R ⟨C.E.dp+1,false⟩ f (xs.map st.ev) (fun _=>none)=some (.new cs,hp'))(b3:dd<1000000)(a1:∀ d',(au st.fr d').cb ⟨C.E.dp,dd⟩=true)(aP:∀ d' cs',aE st.bx d'=some cs'→∀ c∈cs',c.cb ⟨C.E.dp,dd⟩=true):
  eM C o d a w σ {st with bx:=(dd,cs)::st.bx} (.p ⟨C.E.dp,dd⟩ 0):=by
 simp only [bG] at hl;split at hl
 ·rename_i c ar
  simp only [aC] at hl
  obtain ⟨h1,h2⟩:=hl
  split at h1
  ·rename_i f' X
   have ak:f=f':=by simpa using h1
   obtain ⟨h3,h4⟩:=h.AU _ _ h2
   have aH:∀ x∈xs.map st.ev,x.pure=true:=fB hp
   refine UO h h3 h4 aH (hR.new (C.E.dp+1) f _ _ cs hp' hq (by grind [ed])) b3 a1 aP fun hb=>?_
   have ad:a.eval (.func f')= .func (.func f') #[] #[]:=rfl
   have ai:=fO hb (List.map a.eval c.args.toList).toArray w
   have ha:(List.map a.eval c.args.toList).toArray=c.args.map a.eval:=by grind
   rw [ak,ha] at ai
   rw [ak,ha]
   unfold Go.execOp
   simp [ar,resolve,X,ad,Deferred.ofValue,invoke]
   exact ai
  ·cases h1
 ·cases hl
theorem afE{xs:List aY}(hR:kC C.P R)(h:aq C st a w σ)(hl:bG C.P (.ck f xs) o.op=true)(he:execOp R Ω C.E st d (.ck f xs)=some r):eM C o d a w σ r.2 r.1:=by
 simp only [execOp] at he
 obtain ⟨dd,aT,U⟩:=ah.1 he
 unfold Am at U
 split at U
 ·rename_i hp
  obtain ⟨⟨q,hp'⟩,hq,N⟩:=ah.1 U
  cases q with
  | ret x=>cases N
  | row _ _=>cases N
  | o0 _ _ _ _ _ _=>cases N
  | new cs=>?_
  simp only at N
  split at N
  ·rename_i bq
   obtain rfl:=af N
   simp only [NG,ft,aC,eI] at bq
   exact RC hR h hl hp hq bq.2.1.1.2 (p8 rfl _ bq.2.1.2) (fun d' cs' hb c hm=>mP (p9 _ bq.2.2 d' cs' hb) c hm)
  ·cases N
 ·cases U
open Classical in
theorem MC{st1:St}{vs:List Value}{t t':TypeId}{es aQ:List AV}{dd:Nat}(Gp:Nat→Prop)(h:aq C st a w σ)(h1:aq C st1 a w σ)(aT:d=some dd)(hl:ys.length=vs.length)(hx:∀ (i:Nat)(x:AV),ys[i]? =some x→∃ n,SR C w σ st a n x (vs[i]?.getD undef))(aH:∀ x∈ys,x.pure=true)(hG:∀ b,Gp b→C.W b∧∃ L,σ.ow b=some L∧Idle C st1 (some L))(cI:∀ b b',Gp b→Gp b'→b=b')(hc:Lk C.P (C.E.dp+1) f ys t es t' aQ)(hv:∀ ow':Nat→Option ez,(∀ b,Gp b→ow' b=some (.rowS (C.E.dp+1) ys.length))→OwnAt C.P (fun b=>w.heap.size≤b∨Gp b) w {σ with ow:=ow'} (.rowS (C.E.dp+1) ys.length) True t es v)(O:jU C.P f→(Go.execOp a.eval o).run C.P w= .ok (.enter f (vs.toArray.push v)) w):eM C o d a w σ (st1.bc (.s dd)) (.o t' aQ):=by
 obtain ⟨hb,S⟩:=hc
 let W:Nat→Prop:=fun b=>w.heap.size≤b∨Gp b
 let σ0:Sp:={σ with ow:=fun b=>if Gp b then some (.rowS (C.E.dp+1) ys.length) else σ.ow b}
 let σa:Sp:={σ with ow:=fun b=>if Gp b then none else σ.ow b}
 have cH:∀ b,Gp b→b<w.heap.size:=fun b hb=>by obtain ⟨_,L,hL,_⟩:=hG b hb;exact h.own b L hL
 have b5:∀ b,Gp b→¬σ.I b:=fun b hb hi=>by obtain ⟨_,L,hL,_⟩:=hG b hb;rw [(h.bP b hi).2] at hL;cases hL
 have ha:aq C st1 a w σa:=by
  by_cases aR:∃ b,Gp b
  ·obtain ⟨g,hg⟩:=aR
   obtain ⟨_,L,hL,hI⟩:=hG g hg
   refine h1.JK (L:=some L) ⟨fun b l hb aR=>⟨rfl,?_⟩,fun _ _=>rfl,fun _ h=>h,rfl,aV _,fun b l hb=>?_,fun b hb=>⟨(h.bP b hb).1,?_⟩⟩ hI
   ·grind
   ·have hb:(if Gp b then none else σ.ow b)=some l:=hb
    split at hb
    ·cases hb
    ·exact h.own b l hb
   ·show (if Gp b then none else σ.ow b)=none
    rw [aa (fun hg=>b5 b hg hb)]
    exact (h.bP b hb).2
  ·have he:σa=σ:=by
    have:σa.ow=σ.ow:=by
     grind
    cases σ;grind
   rw [he];exact h1
 intro K Q hK
 unfold Oper.wp
 rw [O hb,Oper.upon_enter]
 refine (S W w σ0 vs.toArray v (fun b hb=>⟨.inl hb,(h.new b hb).2⟩) ⟨fun k cs hk=>(by cases hk),fun k cs hk=>(by cases hk),fun b l hb=>?_,fun b hb=>⟨(h.bP b hb).1,?_⟩,h.lay⟩ (by grind) (fun i y hi=>?_) (hv _ fun b hb=>ab hb)).mono ?_
 ·have hb:(if Gp b then some (ez.rowS (C.E.dp+1) ys.length) else σ.ow b)=some l:=hb
  split at hb
  ·grind
  ·exact h.own b l hb
 ·show (if Gp b then some (ez.rowS (C.E.dp+1) ys.length) else σ.ow b)=none
  rw [aa (fun hg=>b5 b hg hb)]
  exact (h.bP b hb).2
 ·obtain ⟨n,hn⟩:=hx i y hi
  have:=hn.CB ((by grind [ed]))
  simpa [dK] using this
 ·rintro e w' ⟨v',σ1,n,rfl,b9,G,hH⟩
  have cv:∀ b,b<w.heap.size→¬Gp b→¬W b:=by grind
  have bX:∀ b,W b→C.W b:=fun b hw=>hw.elim (fun h1=>(h.new b h1).1) fun hg=>(hG b hg).1
  have bI:∀ b,¬Gp b→σ0.ow b=σ.ow b:=fun b hg=>aa hg
  let σ2:Sp:=⟨σ.κ,fun b=>if σ1.ow b=some (.rowS (C.E.dp+1) n)∧W b then some (.rowS C.E.dp dd) else if W b then none else σ.ow b,σ1.I⟩
  have cd:jo C w σa w' σ2 none:=by
   refine ⟨fun b l hb _=>?_,G.bP,G.up,rfl,G.size,fun b l hb=>?_,fun b hb=>⟨(hH.bP b hb).1,?_⟩⟩
   ·have hb:(if Gp b then none else σ.ow b)=some l:=hb
    split at hb
    ·cases hb
    ·rename_i hg
     have aK:=h.own b l hb
     refine ⟨G.aG b aK (cv b aK hg),?_⟩
     grind
   ·have hb:(if σ1.ow b=some (.rowS (C.E.dp+1) n)∧W b then some (ez.rowS C.E.dp dd) else if W b then none else σ.ow b)=some l:=hb
    split at hb
    ·rename_i hh;exact hH.own b _ hh.1
    ·split at hb
     ·cases hb
     ·exact ea (h.own b l hb) G.size
   ·show (if σ1.ow b=some (.rowS (C.E.dp+1) n)∧W b then some (ez.rowS C.E.dp dd) else if W b then none else σ.ow b)=none
    have h0:=(hH.bP b hb).2
    rw [aa ((by grind))]
    split
    ·rfl
    ·rename_i hw
     have aK:b<w.heap.size:=by grind
     have hg:¬Gp b:=fun hg=>hw (.inr hg)
     rw [←bI b hg,←G.ow b aK hw]
     exact h0
  have bU:=(ha.same cd).bc (.s dd)
  refine hK v' w' σ2 (aq.tc aT ⟨G.size,fun b hb hW=>G.aG b hb fun hw=>hW (bX b hw),G.up,G.bP,fun b hb=>(G.dn b hb).imp id (bX b),fun _ _=>rfl,fun b hb hW=>?_,G.io⟩ bU ?_)
  ·grind
  ·rcases b9 with h3 | ⟨g',cap',cs',ba,hr⟩
   ·exact .inl h3
   ·have hw:W g':=hr.wr trivial
    refine .inr ⟨g',cap',cs',ba,⟨?_,fun _=>bX g' hw,hr.hh,hr.pos,hr.nc,hr.ecap,hr.max,hr.size,hr.pure,hr.one,fun j e m c he hc=>(hr.cell j e m c he hc).BX (fun _ h=>h) (fun _ _=>rfl) (kO (hr.pure e (bg he)) c (bg hc)),hr.base⟩⟩
    show (if σ1.ow g'=some (.rowS (C.E.dp+1) n)∧W g' then some (ez.rowS C.E.dp dd) else if W g' then none else σ.ow g')=_
    rw [ab ⟨hr.ow,hw⟩]
theorem JO:∀ {xs:List aY}{x:aY}{ys:List Operand},eG ys (xs++[x])=true→∃ ys0 y,ys=ys0++[y]∧eG ys0 xs=true∧bR y x=true
 | [],x,ys,h=>by
  match ys,h with
  | [y],h=>grind [eG]
  | [],h=>simp [eG] at h
  | _::_::_,h=>simp [eG] at h
 | z::xs,x,ys,h=>by
  match ys,h with
  | [],h=>simp [eG] at h
  | y::ys,h=>
   simp only [eJ,eG,aC] at h
   obtain ⟨ys0,y',rfl,h1,h2⟩:=JO h.2
   grind [eG]
theorem afF{t:TypeId}{xs:List aY}{x:aY}(hR:kC C.P R)(h:aq C st a w σ)(hl:bG C.P (.cm t f xs x) o.op=true)(he:execOp R Ω C.E st d (.cm t f xs x)=some r):eM C o d a w σ r.2 r.1:=by
 simp only [bG] at hl;split at hl
 ·rename_i c ar
  simp only [aC] at hl
  obtain ⟨h1,h2⟩:=hl
  split at h1
  ·rename_i f' X
   have ak:f=f':=by simpa using h1
   obtain ⟨ys0,y,aU,cn,cj⟩:=JO h2
   obtain ⟨h3,h4⟩:=h.AU _ _ cn
   simp only [execOp] at he
   obtain ⟨dd,aT,U⟩:=ah.1 he
   clear he
   unfold KZ at U
   split at U
   ·rename_i hp
    simp only [aC,gO] at hp
    obtain ⟨⟨es,st1⟩,hq,N⟩:=ah.1 U
    obtain ⟨⟨q,hp'⟩,hr,bi⟩:=ah.1 N
    clear U N
    simp only at bi hr
    cases q with
    | ret _=>cases bi
    | new _=>cases bi
    | o0 _ _ _ _ _ _=>cases bi
    | row t' aQ=>
     obtain rfl:=af bi
     obtain ⟨bV,aB⟩:=h.consume cj hq
     have bD:∀ z∈xs.map st.ev,z.pure=true:=fB hp.2
     have a2:=hR.mov (C.E.dp+1) f (xs.map st.ev) t es hp' t' aQ hr bD
     have O:jU C.P f→(Go.execOp a.eval o).run C.P w= .ok (.enter f ((ys0.map a.eval).toArray.push (a.eval y))) w:=fun hb=>by
      have ad:a.eval (.func f')= .func (.func f') #[] #[]:=rfl
      have ai:=fO hb (List.map a.eval c.args.toList).toArray w
      have ha:(List.map a.eval c.args.toList).toArray=c.args.map a.eval:=by grind
      have cu:(List.map a.eval c.args.toList).toArray=(ys0.map a.eval).toArray.push (a.eval y):=by rw [aU];simp
      rw [←cu]
      rw [ak,ha] at ai
      rw [ak,ha]
      unfold Go.execOp
      simp [ar,resolve,X,ad,Deferred.ofValue,invoke]
      exact ai
     rcases aB with ⟨co,ad⟩ | ⟨L,g,cap,cs,ad,Z,bk⟩
     ·exact MC (fun _=>False) h bV aT h3 h4 bD (fun _ hf=>hf.elim) (fun _ _ hf=>hf.elim) a2 (fun _ _=>.inl ⟨co,ad⟩) O
     ·refine MC (fun b=>b=g) h bV aT h3 h4 bD (fun b hb=>by subst hb;exact ⟨Z.wr trivial,L,Z.ow,bk⟩) ((by grind)) a2 (fun ow' a6=>?_) O
      exact .inr ⟨g,cap,cs,ad,⟨a6 g rfl,fun _=>.inr rfl,Z.hh,Z.pos,Z.nc,Z.ecap,Z.max,Z.size,Z.pure,Z.one,Z.cell,Z.base⟩⟩
   ·cases U
  ·cases h1
 ·cases hl
theorem afG{t:TypeId}{xs:List aY}(hΩ:je C.P Ω)(h:aq C st a w σ)(hl:bG C.P (.cr t f xs) o.op=true)(he:execOp R Ω C.E st d (.cr t f xs)=some r):eM C o d a w σ r.2 r.1:=by
 simp only [bG] at hl;split at hl
 ·rename_i c ar
  simp only [aC] at hl
  obtain ⟨h1,h2⟩:=hl
  split at h1
  ·rename_i f' X
   have ak:f=f':=by simpa using h1
   obtain ⟨h3,h4⟩:=h.AU _ _ h2
   simp only [execOp] at he
   obtain ⟨dd,aT,U⟩:=ah.1 he
   clear he
   unfold KY at U
   split at U
   ·rename_i hp
    obtain ⟨x,hx,N⟩:=ah.1 U
    clear U
    split at N
    ·split at N
     ·rename_i t' cc
      subst cc
      obtain rfl:=af N
      obtain ⟨hb,bE,S⟩:=hΩ.row f _ _ hx (fB hp)
      have O:(Go.execOp a.eval o).run C.P w= .ok (.enter f (c.args.toList.map a.eval).toArray) w:=by
       have ad:a.eval (.func f')= .func (.func f') #[] #[]:=rfl
       have ai:=fO hb (List.map a.eval c.args.toList).toArray w
       have ha:(List.map a.eval c.args.toList).toArray=c.args.map a.eval:=by grind
       rw [ak,ha] at ai
       rw [ak,ha]
       unfold Go.execOp
       simp [ar,resolve,X,ad,Deferred.ofValue,invoke]
       exact ai
      intro K Q hK
      unfold Oper.wp
      rw [O,Oper.upon_enter]
      refine (S w σ.I σ.κ _ (h.new _ (aV _)).2 (fun b hb=>(h.bP b hb).1) (by grind) (fun i y hi=>?_)).mono ?_
      ·obtain ⟨n,hn⟩:=h4 i y hi
       have:=hn.CB ((by grind [ed,fB]))
       simp_all
      ·rintro e w' ⟨v,rfl,hv,H,hold,a7⟩
       rcases hv with rfl | ⟨g,cap,cs,rfl,hg,hh,aI,bu⟩
       ·have V:jo C w σ w' σ none:=⟨fun b l hb _=>⟨hold b (h.own b l hb),hb⟩,fun b hb=>hold b (h.bP b hb).1,fun _ h=>h,rfl,H,fun b l hb=>ea (h.own b l hb) H,fun b hb=>⟨ea (h.bP b hb).1 H,(h.bP b hb).2⟩⟩
        exact hK _ w' σ (aq.tc aT ⟨H,fun b hb _=>hold b hb,fun _ h=>h,fun b hb=>hold b (h.bP b hb).1,fun _ h=>.inl h,fun _ _=>rfl,fun _ _ _=>rfl,a7⟩ ((h.same V).bc _) (.inl ⟨rfl,rfl⟩))
       ·have cE:g<w'.heap.size:=by
         grind
        have aR:∀ b,b<w.heap.size→b≠g:=fun b hb e=>by omega
        have V:jo C w σ w' (σ.add g (some (.rowS C.E.dp dd))) none:=by
         refine ⟨fun b l hb _=>⟨hold b (h.own b l hb),?_⟩,fun b hb=>hold b (h.bP b hb).1,fun _ h=>h,rfl,H,fun b l hb=>?_,fun b hb=>⟨ea (h.bP b hb).1 H,?_⟩⟩
         ·simp only [Sp.add,aa (aR b (h.own b l hb)),hb]
         ·simp only [Sp.add] at hb
          split at hb
          ·omega
          ·exact ea (h.own b l hb) H
         ·have a3:σ.I b:=hb
          simp only [Sp.add,aa (aR b (h.bP b a3).1)]
          exact (h.bP b a3).2
        refine hK _ w' (σ.add g (some (.rowS C.E.dp dd))) (aq.tc aT ⟨H,fun b hb _=>hold b hb,fun _ h=>h,fun b hb=>hold b (h.bP b hb).1,fun _ h=>.inl h,fun _ _=>rfl,fun b hb _=>aa (aR b hb),a7⟩ ((h.same V).bc _) (.inr ⟨g,cap,cs,rfl,?_⟩))
        exact ⟨by simp [Sp.add],fun _=>(h.new g hg).1,hh,bE,(fun e he=>by cases he),dc _,aI,bu,(fun e he=>by cases he),(fun e he=>by cases he),(fun j e m c he=>by simp at he),(h.new g hg).2⟩
     ·cases N
    ·cases N
   ·cases U
  ·cases h1
 ·cases hl
theorem CF{xs:List AV}{vs:List Value}(hR:kC C.P R)(hΩ:je C.P Ω)(h:aq C st a w σ)(hl:xs.length=vs.length)(hx:∀ (i:Nat)(x:AV),xs[i]? =some x→∃ n,SR C w σ st a n x (vs[i]?.getD undef))(he:bC R Ω C.E st f xs=some r)(O:jU C.P f→(Go.execOp a.eval o).run C.P w= .ok (.enter f vs.toArray) w):eM C o d a w σ r.2 r.1:=by
 unfold bC at he
 split at he
 ·grind [Eh]
 split at he
 ·rename_i hc
  simp only [aC,gO] at hc
  obtain ⟨⟨aM,aH⟩,aS⟩:=hc
  obtain ⟨⟨q,hp'⟩,hq,N⟩:=ah.1 he
  clear he
  cases q with
  | new cs=>cases N
  | row _ _=>cases N
  | o0 _ _ _ _ _ _=>cases N
  | ret x=>?_
  obtain rfl:=af N
  have an:∀ x∈xs,x.copy=true:=by grind
  exact UN aM h hl hx an (fun d cs hb c hc=>nX (p9 (p:=fun y=>AV.dt C.E.dp y) _ aS d cs hb) c hc) (hR.ret (C.E.dp+1) f xs _ x hp' hq an) O
 ·cases he
theorem afH{xs:List aY}(hR:kC C.P R)(hΩ:je C.P Ω)(h:aq C st a w σ)(hl:bG C.P (.c2 f xs) o.op=true)(he:execOp R Ω C.E st d (.c2 f xs)=some r):
  eM C o d a w σ r.2 r.1:=by
 simp only [bG] at hl;split at hl
 ·rename_i c ar
  simp only [aC] at hl
  obtain ⟨h1,h2⟩:=hl
  split at h1
  ·rename_i f' X
   have ak:f=f':=by simpa using h1
   obtain ⟨h3,h4⟩:=h.AU _ _ h2
   simp only [execOp] at he
   refine CF hR hΩ h h3 h4 he fun hb=>?_
   have ad:a.eval (.func f')= .func (.func f') #[] #[]:=rfl
   have ai:=fO hb (List.map a.eval c.args.toList).toArray w
   have ha:(List.map a.eval c.args.toList).toArray=c.args.map a.eval:=by grind
   rw [ak,ha] at ai
   rw [ak,ha]
   unfold Go.execOp
   simp [ar,resolve,X,ad,Deferred.ofValue,invoke]
   exact ai
  ·cases h1
 ·cases hl
theorem afI{x:aY}{xs:List aY}(hR:kC C.P R)(hΩ:je C.P Ω)(h:aq C st a w σ)(hl:bG C.P (.d2 x xs) o.op=true)(he:execOp R Ω C.E st d (.d2 x xs)=some r) :
  eM C o d a w σ r.2 r.1:=by
 simp only [bG] at hl;split at hl
 ·rename_i c ar
  simp only [aC] at hl
  obtain ⟨h1,h2⟩:=hl
  split at h1
  ·rename_i y X
   obtain ⟨h3,h4⟩:=h.AU _ _ h2
   simp only [execOp] at he
   split at he
   ·rename_i f ac hx
    have hv:=(hx▸h.fJ h1 (by rw [hx];simp) (by rw [hx];rfl))
    split at he
    ·rename_i hg
     obtain ⟨vs,bz,bv,bw⟩:=hv.NZ hg
     refine CF (vs:=c.args.toList.map a.eval++vs.toList) hR hΩ h (by grind) (fun i z hi=>?_) he fun hb=>?_
     ·rw [pV] at hi ⊢
      rw [h3] at hi
      split
      ·grind
      simp_all [lE]
     simp_all [Go.execOp,fO,resolve,Deferred.ofValue,invoke]
    ·rename_i hg
     obtain ⟨vs,bz,bv,bw⟩:=hv.afd hg
     refine CF (vs:=vs.toList++c.args.toList.map a.eval) hR hΩ h (by grind) (fun i z hi=>?_) he fun hb=>?_
     ·rw [pV] at hi ⊢
      have bT:ac.length=vs.toList.length:=by rw [bv];simp
      rw [bT] at hi
      split
      ·rename_i aK
       rw [ab aK] at hi
       have:=bw _ z hi
       simp_all [lE]
      grind
     simp_all [Go.execOp,fO,resolve,Deferred.ofValue,invoke]
   ·cases he
  ·cases h1
 ·cases hl
theorem td{t:TypeId}{l:List AV}(h:AV.yx t l=true):∀ x∈l,AV.rp t x=true:=by
 induction l with
 | nil=>grind
 | cons y l ih=>
  grind [AV.yx]
theorem Wx{t:TypeId}(h:AV.rp t x=true):∀ c∈x.cl,AV.rp t c=true:=by
 intro c hc
 cases x<;>simp only [AV.cl,jj] at hc<;>first | (subst hc;exact h) | skip
 grind [td,AV.rp]
theorem VR.fresh{B' B:bM}{w:World}{J:Nat→Prop}{t:TypeId}(h0:t≠0)(cB:B'.tg t=false)(hn:B.n0≤B'.n0)(hJ:∀ b,I b→B'.n0≤b→(∃ cs,w.heap[b]? =some (.cells cs t (0,0)))→J b)(h : @VR B' w I κ x v)(hx:AV.rp t x=true): @VR B w J κ x v:=by
 induction h with
 | u v=>exact .u v
 | sk=>exact .sk
 | b x=>exact .b x
 | i k n=>exact .i k n
 | s l=>exact .s l
 | n=>exact .n
 | z=>exact .z
 | nf=>exact .nf
 | ni=>exact .ni
 | lnil t A cap=>exact .lnil t A cap
 | l s es g o cap cs T fz sz bm a8 ht aL bL H hp h1 aI aW hc ih=>
  cases es with
  | nil=>exact .lnil _ _ _
  | cons e0 es=>
   have aJ:s=t∧AV.yx t (e0::es)=true:=by
    simpa [AV.rp] using hx
   obtain ⟨rfl,cA⟩:=aJ
   have hg:B'.n0≤g:=by
    grind
   obtain ⟨rfl,rfl⟩:=(ht h0).1 hg
   exact @VR.l B w J κ T (e0::es) g o cap cs T (0,0) sz (hJ g bm hg ⟨_,a8⟩) a8 ((by grind)) aL bL H hp h1 aI aW
    (by grind [Wx,td])
 | e x off g o cs T fz bm a8 hp H h1 hc ih=>simp [AV.rp] at hx
 | f g ac vs hg hl hc ih=>grind [f,td,AV.rp]
 | fm g ac vs hl hc ih=>grind [fm,td,AV.rp]
 | a cs vs hl h1 hc ih=>grind [a,td,AV.rp]
 | tp cs vs hl hc ih=>grind [tp,td,AV.rp]
 | ifc t x v h ih=>grind [ifc,AV.rp]
 | p k off=>exact .p k off
 | sp k off n sz cap h1 h2=>grind [sp]
theorem rD.wrap{y:AV}{g:Nat}{t:TypeId}{n:Nat}(h:rD C.W C.E.dp w σ g t y v):SR C w σ st a n (Xp g t y) v:=by
 unfold Xp
 split
 ·obtain ⟨_,h⟩:=h
  cases h;exact .i _ _
 ·obtain ⟨_,h⟩:=h
  cases h;exact .b _
 ·exact h
theorem yJ{bx:List (Nat×List AV)}{g:Nat→List AV→Bool} : uA bx g=true↔∀ d cs,aE bx d=some cs→g d cs=true:=by
 unfold uA
 rw [cJ]
 have ci:∀ (l:List (Nat×List AV)) d cs,aE l d=some cs→∃ y∈l,y.1=d:=by
  intro l d cs h
  induction l with
  | nil=>cases h
  | cons y l ih=>
   grind [aE]
 have b0:∀ (l:List (Nat×List AV)) y,y∈l→∃ cs,aE l y.1=some cs:=by
  intro l y hy
  induction l with
  | nil=>cases hy
  | cons z l ih=>
   obtain ⟨k,c⟩:=z
   simp only [aE]
   split
   ·grind
   grind
 grind
theorem jS.still{C:Cx}{w w':World}{σ σ':Sp}{k:Key}{cs:List AV}{vs:Array Value}{T:TypeId}(h:jS C w σ k cs vs T)(hk:σ'.κ k=σ.κ k)(hb:∀ b l,σ.ow b=some l→(l= .box k∨∃ off,l= .rowC k off)→w'.heap[b]? =w.heap[b]? ∧σ'.ow b=some l)
  (hI:∀ b,σ.I b→σ'.I b) (hh:∀ b,σ.I b→w'.heap[b]? =w.heap[b]?) (hd:∀ c∈cs,∀ k',c.cb k'=false→σ'.κ k'=σ.κ k') (bf:∀ c∈cs,∀ g t x,c≠.w g t x):jS C w' σ' k cs vs T:=by
 have h1:=hb _ _ h.ow (.inl rfl)
 refine ⟨by rw [hk,h1.1];exact h.hh,h.size,by grind,fun hm=>by rw [hk];exact h.wr hm,h.one,fun off c hc=>?_,h.ty,by rw [hk];exact h.kb⟩
 have M:=h.cell off c hc
 have bQ:=hd c (bg hc)
 have be:=bf c (bg hc)
 cases c with
 | o t es=>exact OwnAt.aG M ((by grind)) hI hh
 | w g t x=>grind
 | bp t k' u=>exact ⟨M.1,by rw [hk];exact M.2⟩
 | _=>exact VR.mono M hI hh bQ
def Wh(C:Cx)(σ:Sp)(hid:Key→Bool):Nat→Prop:=fun b=>Wc C σ b∧∀ k,hid k=true→σ.ow b≠some (.box k)∧∀ off,σ.ow b≠some (.rowC k off)
theorem UQ{xs:List AV}{vs:List Value}{hid:Key→Bool}(aM:C.E.ro=false)(h:aq C st a w σ)(hl:xs.length=vs.length)(hx:∀ (i:Nat)(x:AV),xs[i]? =some x→∃ n,SR C w σ st a n x (vs[i]?.getD undef))(aH:∀ x∈xs,x.copy=true)(a1:(st.fr.all fun y=>!jN hid y.2)=true)(aS:∀ d cs,aE st.bx d=some cs→∀ c∈cs,c.deep C.E.dp=true)(hc:Aq C.P (C.E.dp+1) f xs (fun k=>if hid k=true then none else st.box C.E.dp k) x hp')(O:jU C.P f→(Go.execOp a.eval o).run C.P w= .ok (.enter f vs.toArray) w):eM C o d a w σ (st.cF C.E.dp (fun k=>if hid k=true then st.box C.E.dp k else hp' k)) x:=by
 obtain ⟨aN,hb,S⟩:=hc
 have a5:=h.Ww aM aS
 intro K Q hK
 unfold Oper.wp
 rw [O hb,Oper.upon_enter]
 refine (S (Wh C σ hid) w σ vs.toArray (fun b hb=>⟨⟨⟨⟨(h.new b hb).1,fun e=>absurd (h.own b _ e) (oB.2 hb)⟩,fun d=>⟨fun e=>?_,fun e=>?_⟩⟩,fun k _=>⟨fun e=>?_,fun off e=>?_⟩⟩,(h.new b hb).2⟩) ⟨fun k cs hk aj=>?_,fun k cs hk aj=>?_,h.own,h.bP,h.lay⟩ (by grind) (fun i y hi=>?_)).mono ?_
 ·have:=h.own b _ e;omega
 ·have:=h.own b _ e;omega
 ·have:=h.own b _ e;omega
 ·have:=h.own b _ e;omega
 ·split at hk
  ·cases hk
  ·rename_i hn
   obtain ⟨vs',T,hB⟩:=a5.bx k cs hk aj
   refine ⟨vs',T,hB.Ei rfl rfl (fun _ _ h _=>h) (fun _ h=>h) rfl (fun b l hl bn hW=>⟨hW,fun k' ax=>⟨fun e=>?_,fun off e=>?_⟩⟩) (fun _ _ _ _=>rfl) fun c hc=>qa ((a5.deep k cs hk (by omega)).2 c hc)⟩
   ·rw [hl] at e
    rcases bn with rfl | ⟨_,rfl⟩
    ·injection e with e;injection e with e;subst e;exact hn ax
    ·cases e
   grind
 ·split at hk
  ·cases hk
  ·exact a5.deep k cs hk aj
 ·obtain ⟨n,hn⟩:=hx i y hi
  have:=hn.CB (aH y (bg hi))
  simp_all
 ·rintro e w' ⟨v,σ1,rfl,hv,G,hH⟩
  have hW:∀ b,Wh C σ hid b→Wc C σ b:=fun b hb=>hb.1
  have bB:cZ (wg C.P (Wc C σ) (C.E.dp+1)) w σ w' σ1:=
   ⟨G.size,fun b hb hn=>G.aG b hb fun hh=>hn (hW b hh),G.up,G.bP,fun b hb=>(G.dn b hb).imp id (hW b),G.kap,fun b hb hn=>G.ow b hb fun hh=>hn (hW b hh),G.io⟩
  have bh:∀ k:Key,k.dp<C.E.dp+1→σ1.κ k=σ.κ k:=fun k hk=>G.kap k hk
  have cx:xn C.P (Wc C σ) (C.E.dp+1) (fun k=>if hid k=true then st.box C.E.dp k else hp' k) w' σ1:=by
   refine ⟨fun k cs hk aj=>?_,fun k cs hk aj=>?_,hH.own,hH.bP,hH.lay⟩
   ·split at hk
    ·rename_i hh
     obtain ⟨vs',T,hB⟩:=a5.bx k cs hk aj
     have am:=(a5.deep k cs hk (by omega)).2
     refine ⟨vs',T,hB.still (bh k aj) (fun b l hl bn=>?_) G.up G.bP (fun c hc k' ax=>bh k' ?_) fun c hc=>qa (am c hc)⟩
     ·have hn:¬Wh C σ hid b:=fun hw=>by
       rcases bn with rfl | ⟨off,rfl⟩
       ·exact (hw.2 k hh).1 hl
       ·exact (hw.2 k hh).2 off hl
      exact ⟨G.aG b (h.own b l hl) hn,(G.ow b (h.own b l hl) hn).trans hl⟩
     ·have:=hB.YL am c hc k' ax;omega
    ·obtain ⟨vs',T,hB⟩:=hH.bx k cs hk aj
     exact ⟨vs',T,hB.Ei rfl rfl (fun _ _ h _=>h) (fun _ h=>h) rfl (fun b l _ _ hw=>hW b hw) (fun _ _ _ _=>rfl) fun c hc=>qa ((hH.deep k cs hk (by omega)).2 c hc)⟩
   ·split at hk
    ·exact a5.deep k cs hk aj
    ·exact hH.deep k cs hk aj
  obtain ⟨h1,h2⟩:=h.called bB cx
  have h3:aq C (st.cF C.E.dp (fun k=>if hid k=true then st.box C.E.dp k else hp' k)) a w' {σ1 with κ:=σ.κ}:=by
   refine ⟨h2.size,h2.defers,fun d=>?_,h2.bx,h2.hpd,h2.own,h2.bP,h2.new,h2.lay⟩
   have aB:∀ pl,(st.cF C.E.dp (fun k=>if hid k=true then st.box C.E.dp k else hp' k)).rowAt C.E.dp pl=(st.back C.E.dp (fun k=>if hid k=true then st.box C.E.dp k else hp' k)).rowAt C.E.dp pl:=by
    intro pl
    cases pl with
    | c k off=>rfl
    | s d'=>
     simp only [St.rowAt,BY]
     show (match au st.fr d' with | .o t es=>some (t,es) | _=>none)=_
     generalize au st.fr d'=y
     cases y with
     | r pl=>cases pl<;>rfl
     | v pl lo len=>cases pl<;>rfl
     | q pl i sz off=>cases pl<;>rfl
     | _=>rfl
   have br:jN hid (au st.fr d)=false:=by
    have:=p8 (p:=fun y=>!jN hid y) rfl _ a1 d
    simpa using this
   show SR C w' _ _ a d (au st.fr d) _
   by_cases a9:iZ (au st.fr d)=true
   ·have av:=h.fr d
    have a0:∀ k off,hid k=true→∀ r,(st.cF C.E.dp (fun k=>if hid k=true then st.box C.E.dp k else hp' k)).rowAt C.E.dp (.c k off)=some r→st.rowAt C.E.dp (.c k off)=some r∧gm w' {σ1 with κ:=σ.κ} a (.c k off)=gm w σ a (.c k off):=by
     intro k off hk r hr
     have bW:∀ cs,(st.cF C.E.dp (fun k=>if hid k=true then st.box C.E.dp k else hp' k)).box C.E.dp k=some cs→st.box C.E.dp k=some cs:=by
      intro cs bu
      obtain ⟨kd,ke⟩:=k
      by_cases aj:kd=C.E.dp
      ·grind [St.box,St.cF,zU]
      ·have h4:(if kd<C.E.dp then (if hid ⟨kd,ke⟩=true then st.box C.E.dp ⟨kd,ke⟩ else hp' ⟨kd,ke⟩) else none)=some cs:=by
        have h5:(st.cF C.E.dp (fun k=>if hid k=true then st.box C.E.dp k else hp' k)).box C.E.dp ⟨kd,ke⟩=(if kd<C.E.dp then (if hid ⟨kd,ke⟩=true then st.box C.E.dp ⟨kd,ke⟩ else hp' ⟨kd,ke⟩) else none):=by
         show (if kd=C.E.dp then _ else _)=_
         rw [aa aj]
         rfl
        grind
       grind
     simp only [St.rowAt] at hr ⊢
     cases hb:(st.cF C.E.dp (fun k=>if hid k=true then st.box C.E.dp k else hp' k)).box C.E.dp k with
     | none=>simp [hb] at hr
     | some cs=>
      have a3:=bW cs hb
      rw [hb] at hr
      rw [a3]
      refine ⟨hr,?_⟩
      obtain ⟨vs',T,hB⟩:=h.bx k cs a3
      have hn:¬Wh C σ hid (σ.κ k):=fun hw=>(hw.2 k hk).1 hB.ow
      simp only [gm]
      rw [G.aG _ (h.own _ _ hB.ow) hn]
    generalize au st.fr d=y at av a9 br
    cases y with
    | r pl=>
     cases pl with
     | s d'=>cases a9
     | c k off=>
      have hk:hid k=true:=by simpa [jN] using br
      intro hs
      obtain ⟨r,hr⟩:=jJ.1 hs
      obtain ⟨h4,h5⟩:=a0 k off hk r hr
      rw [h5]
      exact av (by rw [h4];rfl)
    | v pl lo len=>
     cases pl with
     | s d'=>cases a9
     | c k off=>
      have hk:hid k=true:=by simpa [jN] using br
      intro t es ht hle
      obtain ⟨h4,h5⟩:=a0 k off hk _ ht
      rw [h5]
      exact av t es h4 hle
    | q pl i sz off'=>
     cases pl with
     | s d'=>cases a9
     | c k off=>
      have hk:hid k=true:=by simpa [jN] using br
      intro t es ht hle
      obtain ⟨h4,h5⟩:=a0 k off hk _ ht
      rw [h5]
      exact av t es h4 hle
    | _=>cases a9
   ·have h4:=h2.fr d
    rw [BY,aa a9] at h4
    exact h4.FX fun pl _ _=>⟨aB pl,rfl⟩
  exact hK v w' {σ1 with κ:=σ.κ} ⟨h1,h3,fun _ _=>lE (hv.BX (fun _ h=>h) (fun _ _=>rfl) aN),fun _ _ _ _ e=>by subst e;cases aN⟩
theorem afJ{xs:List aY}{sl dl ow:List Nat}(hR:kC C.P R)(h:aq C st a w σ)(hl:bG C.P (.ch f xs sl dl ow) o.op=true)(he:execOp R Ω C.E st d (.ch f xs sl dl ow)=some r):eM C o d a w σ r.2 r.1:=by
 simp only [bG] at hl;split at hl
 ·rename_i c ar
  simp only [aC] at hl
  obtain ⟨h1,h2⟩:=hl
  split at h1
  ·rename_i f' X
   obtain rfl:f=f':=by simpa using h1
   obtain ⟨h3,h4⟩:=h.AU _ _ h2
   simp only [execOp,nI] at he
   split at he
   ·rename_i hc
    simp only [aC,gO] at hc
    obtain ⟨⟨⟨⟨⟨aM,aH⟩,aS⟩,a1⟩,_⟩,_⟩:=hc
    obtain ⟨⟨q,hp'⟩,hq,N⟩:=ah.1 he
    clear he
    cases q with
    | new cs=>cases N
    | row _ _=>cases N
    | o0 _ _ _ _ _ _=>cases N
    | ret x=>?_
    simp only at N
    split at N
    case isFalse=>cases N
    obtain rfl:=af N
    have an:∀ x∈List.map st.ev xs,x.copy=true:=by grind
    refine UQ (hid:=jF C.E.dp st sl dl ow) aM h h3 h4 an a1 ((by grind [nX,yJ])) (hR.ret _ f _ _ _ hp' hq an) fun hb=>?_
    have ad:a.eval (.func f)= .func (.func f) #[] #[]:=rfl
    have ai:=fO hb (List.map a.eval c.args.toList).toArray w
    have ha:(List.map a.eval c.args.toList).toArray=c.args.map a.eval:=by grind
    rw [ha] at ai
    rw [ha]
    unfold Go.execOp
    simp [ar,resolve,X,ad,Deferred.ofValue,invoke]
    exact ai
   ·cases he
  ·cases h1
 ·cases hl
theorem afK{n:Option Nat}{x y:aY}{lv:Bool}(h:aq C st a w σ)(hl:bG C.P (.lk n x y lv) o.op=true)(he:execOp R Ω C.E st d (.lk n x y lv)=some r):eM C o d a w σ r.2 r.1:=by
 refine UI (R:=R) (Ω:=Ω) (n:=n) (x:=x) h hl ?_
 grind [execOp]
theorem F5(cw:m8 C.P R)(hΩ:je C.P Ω)(ao:nY)(h:aq C st a w σ)(hl:bG C.P ao o.op=true)(he:execOp R Ω C.E st d ao=some r):eM C o d a w σ r.2 r.1:=by
 have hR:=cw.h
 cases ao with
 | mv x=>exact afe h hl he
 | as x=>exact afu h hl he
 | pk c x y=>exact aff h hl he
 | bx x=>exact aft h hl he
 | al zs=>exact afs h hl he
 | ld n x=>exact UI h hl he
 | st n x y=>exact afv h hl he
 | fa off x=>exact afk h hl he
 | fd n off x=>exact afl h hl he
 | ia sz arr x i=>exact afm h hl he
 | bo op bl x y=>exact afo h hl he
 | no x=>exact afg h hl he
 | ae ks ng x y=>exact afn h hl he
 | bs t sz es=>exact afw h hl he
 | bd zs fs=>exact afr h hl he
 | ms t sz by_ x n=>exact afx h hl he
 | sl t sz x lo hi=>exact afq h hl he
 | ex x i=>exact afh h hl he
 | mf f ac=>exact afi h hl he
 | ca m f args=>grind [afC]
 | cf m x args=>grind [afD]
 | c2 f args=>grind [afH]
 | d2 x args=>grind [afI]
 | c3 f args=>obtain ⟨h1,h2⟩:=RA hR h (fun _ _=>rfl) (fun _ _ h=>h) hl he;rw [h1];exact h2
 | d3 x args=>obtain ⟨h1,h2⟩:=RB hR h (fun _ _=>rfl) (fun _ _ h=>h) hl he;rw [h1];exact h2
 | ck f args=>exact afE hR h hl he
 | cr t f args=>exact afG hΩ h hl he
 | cm t f args x=>exact afF hR h hl he
 | ln str x=>exact afp h hl he
 | ap t sz by_ x y=>exact afz h hl he
 | nc x=>exact afj h hl he
 | ch f args sl dl ow=>exact afJ hR h hl he
 | lk n x y lv=>exact afK h hl he
end
end Go.Proofs.YtkkkkondjclcnaaGreat.A
