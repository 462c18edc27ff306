/- Calls of functions that change nothing; every operation. -/
import Derived.Test.YtlmphbbhaeampaaGreatAbsP
import Derived.RangeFuncOwn
set_option linter.all false
namespace Go.Proofs.YtlmphbbhaeampaaGreat.A
open Go
variable [cN]
def nj(P:Program)(f:FuncId):Prop:=∃ fn,P.funcs[f]? =some fn∧fn.body.isNone=false∧(fn.name== "runtime.NumGoroutine")=false
def Gt(P:Program)(f:FuncId)(ys:List AV)(x:AV):Prop:=
 nj P f∧∀ (w:World)(I:Nat→Prop)(κ:Key→Nat)(G:Array Value),cN.n0≤w.heap.size∧Ny w I→(∀ b,I b→b<w.heap.size)→G.size=ys.length→(∀ (i:Nat)(y:AV),ys[i]? =some y→VR w I κ y (G.getD i undef))→
  Calls P f G w fun e w'=>∃ v I',e= .returned v∧VR w' I' κ x v∧w.heap.size≤w'.heap.size∧(∀ b,b<w.heap.size→w'.heap[b]? =w.heap[b]?)∧(∀ b,I b→I' b)∧(∀ b,I' b→I b∨w.heap.size≤b)∧(∀ b,I' b→b<w'.heap.size)∧w'.os=w.os∧w'.output=w.output
def A1(P:Program)(W:Nat→Prop)(dp:Nat):Cx:=⟨P,W,⟨dp,false⟩,0⟩
structure EC(P:Program)(W:Nat→Prop)(dp:Nat)(hp:HP)(w:World)(σ:Sp):Prop where
 bx:∀ k cs,hp k=some cs→k.dp<dp→∃ vs T,lE (A1 P W dp) w σ k cs vs T
 deep:∀ k cs,hp k=some cs→k.dp≠dp→k.dp<dp∧∀ c∈cs,c.deep k.dp=true
 own:∀ b l,σ.ow b=some l→b<w.heap.size
 da:∀ b,σ.I b→b<w.heap.size∧σ.ow b=none
 lay:Ny w σ.I
def DC(P:Program)(dp:Nat)(f:FuncId)(ys:List AV)(hp:HP)(x:AV)(O:HP):Prop:=
 x.pure=true∧nj P f∧∀ (W:Nat→Prop)(w:World)(σ:Sp)(G:Array Value),(∀ b,w.heap.size≤b→W b∧cN.n0≤b)→EC P W dp hp w σ→G.size=ys.length→
  (∀ (i:Nat)(y:AV),ys[i]? =some y→VR w σ.I σ.κ y (G.getD i undef))→
  Calls P f G w fun e w'=>∃ v σ',e= .returned v∧VR w' σ'.I σ'.κ x v∧dJ (A1 P W dp) w σ w' σ'∧EC P W dp O w' σ'
def L6(P:Program)(dp:Nat)(f:FuncId)(ys:List AV)(hp:HP)(cs:List AV)(O:HP):Prop:=
 cs.all vu=true∧nj P f∧∀ (W:Nat→Prop)(w:World)(σ:Sp)(G:Array Value),(∀ b,w.heap.size≤b→W b∧cN.n0≤b)→EC P W dp hp w σ→G.size=ys.length→
  (∀ (i:Nat)(y:AV),ys[i]? =some y→VR w σ.I σ.κ y (G.getD i undef))→
  Calls P f G w fun e w'=>∃ σ' kk vs T,e= .returned (.pointer (some ⟨σ'.κ kk,0,none⟩))∧kk.dp=dp∧lE (A1 P W dp) w' σ' kk cs vs T∧dJ (A1 P W dp) w σ w' σ'∧EC P W dp O w' σ'
def Y5(P:Program)(w:World)(dp:Nat):Cx:=⟨P,fun b=>w.heap.size≤b,⟨dp,true⟩,0⟩
structure HpR(P:Program)(dp:Nat)(hp:HP)(w:World)(σ:Sp):Prop where
 bx:∀ k cs,hp k=some cs→k.dp<dp→∃ vs T,lE (Y5 P w dp) w σ k cs vs T
 deep:∀ k cs,hp k=some cs→k.dp≠dp→k.dp<dp∧∀ c∈cs,c.deep k.dp=true
 own:∀ b l,σ.ow b=some l→b<w.heap.size
 da:∀ b,σ.I b→b<w.heap.size∧σ.ow b=none
 lay:Ny w σ.I
def L7(P:Program)(dp:Nat)(f:FuncId)(ys:List AV)(hp:HP)(x:AV):Prop:=
 x.pure=true∧nj P f∧∀ (w:World)(σ:Sp)(G:Array Value),cN.n0≤w.heap.size→HpR P dp hp w σ→G.size=ys.length→
  (∀ (i:Nat)(y:AV),ys[i]? =some y→VR w σ.I σ.κ y (G.getD i undef))→
  Calls P f G w fun e w'=>∃ v I',e= .returned v∧VR w' I' σ.κ x v∧w.heap.size≤w'.heap.size∧(∀ b,b<w.heap.size→w'.heap[b]? =w.heap[b]?)∧(∀ b,σ.I b→I' b)∧(∀ b,I' b→σ.I b∨w.heap.size≤b)∧(∀ b,I' b→b<w'.heap.size)∧w'.os=w.os∧w'.output=w.output
def Y6(P:Program)(f:FuncId)(ys:List AV)(t:TypeId):Prop:=
 nj P f∧0<P.cellsOf t∧∀ (w:World)(I:Nat→Prop)(κ:Key→Nat)(G:Array Value),cN.n0≤w.heap.size→(∀ b,I b→b<w.heap.size)→G.size=ys.length→(∀ (i:Nat)(y:AV),ys[i]? =some y→VR w I κ y (G.getD i undef))→
  Calls P f G w fun e w'=>∃ v,e= .returned v∧(v= .slice none 0 0∨∃ g cap cs,v= .slice (some ⟨g,0,none⟩) 0 cap∧w.heap.size≤g∧w'.heap[g]? =some (.cells cs t (0,0))∧cap≤maxLen∧cs.size=cap*P.cellsOf t)∧
   w.heap.size≤w'.heap.size∧(∀ b,b<w.heap.size→w'.heap[b]? =w.heap[b]?)∧w'.os=w.os∧w'.output=w.output
structure nJ(P:Program)(R:Rec):Prop where
 ret:∀ dp f ys hp x O,R ⟨dp,false⟩ f ys hp=some (.ret x,O)→(∀ y∈ys,y.copy=true)→DC P dp f ys hp x O
 new:∀ dp f ys hp cs O,R ⟨dp,false⟩ f ys hp=some (.new cs,O)→(∀ y∈ys,y.copy=true)→L6 P dp f ys hp cs O
 ro:∀ dp f ys hp x O,R ⟨dp,true⟩ f ys hp=some (.ret x,O)→(∀ y∈ys,y.copy=true)→L7 P dp f ys hp x
def ZN(P:Program)(f:FuncId)(y:AV):Prop:=
 nj P f∧∀ (w:World)(I:Nat→Prop)(κ:Key→Nat)(v:Value),(∀ b,I b→∃ cs T,w.heap[b]? =some (.cells cs T (0,0)))→VR w I κ y v→
  Calls P f #[v] w fun e w'=>(∃ r,e= .returned r)∧w.heap.size≤w'.heap.size∧(∀ b,b<w.heap.size→¬I b→w'.heap[b]? =w.heap[b]?)∧w'.os=w.os∧w'.output=w.output
def nm(P:Program)(R:Rec):Prop:=∀ B:cN,@nJ B P R
theorem nm.h{P:Program}{R:Rec}(h:nm P R):nJ P R:=h _
def Via(P:Program)(f g:FuncId)(n:Int):Prop:=∀ dp ys hp cs O,ys.length=1→(cs.length:Int)=n→DC P dp g ys hp (.a cs) O→DC P dp f ys hp (.tp [.a cs,.i .i64 0,.i .i64 0]) O
def amd(P:Program)(f:FuncId)(t:TypeId):Prop:=
 nj P f∧∀ (w:World)(b off:Nat)(vs:Array Value)(T:TypeId)(g cap:Nat)(cs:Array Value)(l:List UInt8),w.heap[b]? =some (.cells vs T (0,0))→off+1<vs.size→vs.getD (off+1) undef= .slice (some ⟨g,0,none⟩) l.length cap→
  w.heap[g]? =some (.cells cs t (0,0))→l.length≤cap→cap≤maxLen→cs.size=cap→l≠[]→(∀ (j:Nat)(c:UInt8),l[j]? =some c→cs[j]? =some (.int .u8 c.toNat))→
  Calls P f #[.pointer (some ⟨b,off,none⟩)] w fun e w'=>e= .returned (.string ⟨l.toArray⟩)∧w'.heap.size=w.heap.size∧(∀ x,x≠g→w'.heap[x]? =w.heap[x]?)∧w'.os=w.os∧w'.output=w.output
def Pg(P:Program)(f:FuncId)(c:AV)(ns:List Int):Prop:=
 ∀ (w:World)(I:Nat→Prop)(κ:Key→Nat)(v:Value),cN.n0≤w.heap.size→(∀ b,I b→b<w.heap.size)→VR w I κ (.f f [c]) v→
  ∃ gf lb,v= .func (.func gf) #[] lb∧(∀ args w,(callFunc gf args).run P w= .ok (.enter gf args) w)∧
   ∀ (l m:Nat)(J:(Nat→Prop)→List Int→World→Prop)(Jx:List Int→World→Prop)(T:Nat→Prop)(W:World),
    w.heap.size≤W.heap.size→(∀ b,I b→W.heap[b]? =w.heap[b]?)→
    (∀ T pre W W',J T pre W→RowKit.Below W.heap.size W W'→J (fun b=>T b∨(W.heap.size≤b∧b<W'.heap.size)) pre W')→
    (∀ T pre n rest W1 m,ns=pre++n::rest→J T pre W1→YieldAt Fence.wide m P l #[.int .i64 n] W1 fun e W2=>
     (e= .returned (.bool true)∧J T (pre++[n]) W2∧(∀ b,T b→W2.heap[b]? =W1.heap[b]?)∧(∀ b,I b→W2.heap[b]? =W1.heap[b]?)∧W1.heap.size≤W2.heap.size)∨
     (e= .returned (.bool false)∧Jx (pre++[n]) W2))→
    J T [] W→
    CallsIn Fence.wide m P gf (#[.func (.yield l) #[] #[]]++lb) W fun e W'=>(∃ v,e= .returned v)∧((∃ T',J T' ns W')∨(∃ pre n rest,ns=pre++n::rest∧Jx (pre++[n]) W'))
structure jw(P:Program)(Ω:ej):Prop where
 via:∀ f (g:FuncId) n,Ω f [.u,.i .i64 g]=some (.i .i64 n)→Via P f g n
 spo:∀ f y,Ω f [y]=some .u→y.pure=true→ZN P f y
 ret:∀ f ys x,Ω f ys=some x→(∀ y∈ys,y.pure=true)→x.pure=true→Gt P f ys x
 row:∀ f ys t,Ω f ys=some (.o t [])→(∀ y∈ys,y.pure=true)→Y6 P f ys t
 str:∀ f (t:TypeId),Ω f [.u,.u,.i .i64 t]=some (.s [])→amd P f t
 it:∀ f c es ns,Ω f [.u,c]=some (.l 0 es)→AQ es=some ns→Pg P f c ns
variable {P:Program}{f:FuncId}{ys:List AV}{x:AV}{O:HP}
theorem nJ.pure{R:Rec}(hR:nJ P R)(he:R ⟨0,false⟩ f ys (fun _=>none)=some (.ret x,O))(hy:∀ y∈ys,y.pure=true):Gt P f ys x:=by
 obtain ⟨aJ,hb,hc⟩:=hR.ret 0 f ys _ x O he (fun y hm=>er y (hy y hm))
 refine ⟨hb,fun w I κ G hn hI hs ha=>?_⟩
 refine (hc (fun b=>w.heap.size≤b) w ⟨κ,fun _=>none,I⟩ G ((by grind)) ⟨fun k cs hk=>(by cases hk),fun k cs hk=>(by cases hk),fun b l hb=>(by cases hb),fun b hb=>⟨hI b hb,rfl⟩,hn.2⟩ hs ha).mono ?_
 rintro e w' ⟨v,σ',rfl,hv,N,hH⟩
 exact ⟨v,σ'.I,rfl,hv.Gq (fun _ h=>h) (fun _ _=>rfl) aJ,N.size,fun b hb=>N.cn b hb (show ¬w.heap.size≤b by omega),N.up,N.dn,fun b hb=>(hH.da b hb).1,N.io⟩
variable {ts:List TypeId}
theorem ahq(h:x.off ts=true):∀ c∈x.cl,c.off ts=true:=by
 intro c hc
 cases x<;>simp only [AV.cl,oM] at hc<;>first | (subst hc;exact h) | skip
 grind [xd,AV.off]
variable {I:Nat→Prop}{κ:Key→Nat}{v:Value}
theorem VR.apc{w:World}{B:Nat→Prop}(br:ts≠[])(hB:∀ b,B b→∃ cs T fz,w.heap[b]? =some (.cells cs T fz)∧T∈ts∧cN.n0≤b)(h:VR w I κ x v)(hx:x.off ts=true):
  VR w (fun b=>I b∧¬B b) κ x v:=by
 induction h with
 | u v=>exact .u v
 | sk=>exact .sk
 | b x=>exact .b x
 | i k n=>exact .i k n
 | s l=>exact .s l
 | n=>exact .n
 | z=>exact .z
 | nf=>exact .nf
 | ni=>exact .ni
 | lnil t A cap=>exact .lnil t A cap
 | l t es g o cap cs T fz sz aV aL ht ax bc F hp h1 av aB hc ih=>
  cases es with
  | nil=>exact .lnil _ _ _
  | cons e0 es=>
   have aI:(t≠0∧¬t∈ts)∧AV.tZ ts (e0::es)=true:=by
    grind [AV.off]
   refine .l t (e0::es) g o cap cs T fz sz ⟨aV,fun hb=>?_⟩ aL ht ax bc F hp h1 av aB (by grind [ahq,xd])
   grind
 | e x off g o cs T fz aV aL hp F h1 hc ih=>
  grind [AV.off]
 | f g aa vs hg hl hc ih=>grind [f,xd,AV.off]
 | fm g aa vs hl hc ih=>grind [fm,xd,AV.off]
 | a cs vs hl h1 hc ih=>grind [a,xd,AV.off]
 | tp cs vs hl hc ih=>grind [tp,xd,AV.off]
 | ifc t x v h ih=>grind [ifc,AV.off]
 | p k off=>exact .p k off
 | sp k off n sz cap h1 h2=>grind [sp]
section
variable {C:Cx}{st:St}{a:Act}{w:World}{σ:Sp}{o:Oper}{d:Option Nat}{R:Rec}{Ω:ej}{r:AV×St}
structure L8(C:Cx)(w:World)(σ:Sp)(y:AV)(v:Value)(ts:List TypeId)(B:Nat→Prop):Prop where
 vr:VR w (fun b=>σ.I b∨B b) σ.κ y v
 pure:y.pure=true
 blk:∀ b,B b→(∃ l,σ.ow b=some l)∧∃ cs T fz,w.heap[b]? =some (.cells cs T fz)∧T∈ts∧cN.n0≤b
theorem aE.Vu(h:aE C st a w σ){k:Key}{o n sz:Nat}{y:AV}(hx:VR w σ.I σ.κ (.sp k o n sz) v)(he:st.um C.E.dp k o n sz=some (y,ts)):(∃ B,L8 C w σ y v ts B)∧y.one=true:=by
 unfold St.um at he
 obtain ⟨cs,hb,V⟩:=au.1 he
 split at V
 ·rename_i hc
  obtain ⟨rfl,rfl⟩:=iB (aq V)
  simp only [aY,eS] at hc
  obtain ⟨⟨⟨hk,hp⟩,ax⟩,hle⟩:=hc
  obtain ⟨vs,T,hB⟩:=h.bx k cs hb
  have hT:=hB.kb.1 hk
  have a6:=jm hp
  have bD:∀ c∈cs,c.one=true:=fun c hc=>(hB.one c hc).resolve_right fun e=>by have:=a6 c hc;rw [e] at this;cases this
  have ab:∀ c∈cs.drop o,c.one=true:=by grind
  have O:AV.cG (cs.drop o)=true:=by grind [lU]
  have ay:n*sz≤(cs.drop o).length:=by grind
  have hlen:=Ko sz n (cs.drop o)
  refine ⟨⟨fun b=>b=σ.κ k,?_,rfl,fun b hb=>by subst hb;exact ⟨⟨_,hB.ow⟩,vs,T,(0,0),hB.hh,by simp [hT],hB.kb.2⟩⟩,rfl⟩
  ·have aI:=hx
   cases aI with
   | sp _ _ _ _ cap bV bI=>
    have:=VR.l (w:=w) (I:=fun b=>σ.I b∨b=σ.κ k) (κ:=σ.κ) 0 (chunks sz n (cs.drop o)) (σ.κ k) o cap vs T (0,0) sz (.inr rfl) hB.hh (fun h=>absurd rfl h) ax (fun e he=>?_) ?_ (fun e he=>?_) (fun e he c hc=>?_) (by omega) bI (fun j e m c he hc=>?_)
    ·grind
    ·obtain ⟨j,hj⟩:=fP.1 he
     obtain ⟨h3,h4,_⟩:=vW sz ax ab ay hj
     grind [AV.nc]
    ·rw [hlen];have:=hB.size;omega
    ·obtain ⟨j,hj⟩:=fP.1 he
     exact (vW sz ax ab ay hj).2.2 O
    ·obtain ⟨j,hj⟩:=fP.1 he
     obtain ⟨h3,_,_⟩:=vW sz ax ab ay hj
     grind
    ·obtain ⟨h3,_,_⟩:=vW sz ax ab ay he
     rw [h3,xk] at hc
     split at hc
     ·rw [xm,xm,←AM] at hc
      have a0:=cm hc
      exact (Vt (a6 c a0) (hB.cell _ c hc)).Gq (fun _ h=>.inl h) (fun _ _=>rfl) (a6 c a0)
     ·cases hc
 ·cases V
theorem aE.ame(h:aE C st a w σ){c y:AV}(hx:VR w σ.I σ.κ c v)(h1:c.one=true)(he:st.J7 C.E.dp c=some (y,ts)):(∃ B,L8 C w σ y v ts B)∧y.one=true:=by
 unfold St.J7 at he
 split at he
 ·exact h.Vu hx he
 ·split at he
  ·rename_i hp
   obtain ⟨rfl,rfl⟩:=iB (aq he)
   exact ⟨⟨fun _=>False,by grind,hp,fun _ h=>h.elim⟩,h1⟩
  ·cases he
theorem aE.Vv(h:aE C st a w σ):∀ (cs:List AV)(vs:List Value)(ys:List AV)(ts:List TypeId),cs.length=vs.length→(∀ (m:Nat)(c:AV),cs[m]? =some c→VR w σ.I σ.κ c (vs[m]?.getD undef))→(∀ c∈cs,c.one=true)→
  st.vP C.E.dp cs=some (ys,ts)→∃ B:Nat→Prop,ys.length=vs.length∧(∀ b,B b→(∃ l,σ.ow b=some l)∧∃ cs T fz,w.heap[b]? =some (.cells cs T fz)∧T∈ts∧cN.n0≤b)∧(∀ y∈ys,y.pure=true∧y.one=true)∧
   ∀ (m:Nat)(y:AV),ys[m]? =some y→VR w (fun b=>σ.I b∨B b) σ.κ y (vs[m]?.getD undef)
 | [],vs,ys,ts,hl,_,_,he=>by
  obtain ⟨rfl,rfl⟩:=iB (aq he)
  exact ⟨fun _=>False,hl,fun _ h=>h.elim,by grind,fun i y hi=>(by simp at hi)⟩
 | c::cs,[],_,_,hl,_,_,_=>by simp at hl
 | c::cs,v::vs,ys,ts,hl,hx,h1,he=>by
  obtain ⟨⟨y,ts1⟩,e1,V⟩:=au.1 he
  obtain ⟨⟨ys',ts2⟩,e2,M⟩:=au.1 V
  obtain ⟨rfl,rfl⟩:=iB (aq M)
  obtain ⟨⟨B1,hL⟩,bA⟩:=h.ame (by simpa using hx 0 c rfl) (h1 c (by simp)) e1
  obtain ⟨B2,be,bK,a7,a2⟩:=aE.Vv h cs vs ys' ts2 (by simpa using hl) (fun i x hi=>by simpa using hx (i+1) x (by simpa using hi)) (fun c hc=>h1 c (by simp [hc])) e2
  refine ⟨fun b=>B1 b∨B2 b,by simpa using be,fun b hb=>?_,fun z hz=>?_,fun i z hi=>?_⟩
  ·rcases hb with hb | hb
   ·obtain ⟨h3,cs,T,fz,h4,h5⟩:=hL.blk b hb
    grind
   grind
  ·rcases eA.1 hz with rfl | hz
   ·exact ⟨hL.pure,bA⟩
   ·exact a7 z hz
  ·cases i with
   | zero=>
    obtain rfl:y=z:=by simpa using hi
    exact hL.vr.mono ((by grind)) (fun _ _=>rfl) (fun _ _=>rfl)
   | succ i=>exact (a2 i z (by simpa using hi)).mono ((by grind)) (fun _ _=>rfl) (fun _ _=>rfl)
theorem aE.AY(h:aE C st a w σ){n:Nat}{y:AV}(hx:SR C w σ st a n x v)(he:st.m8 C.E.dp x=some (y,ts)):∃ B,L8 C w σ y v ts B:=by
 have a4:∀ (L:e8)(wp:Prop) t es lo len cap' v,OwnAt C.P C.W w σ L wp t es v→lo+len≤es.length→(∀ A n cap,v= .slice A n cap→cap'=cap)→
   ∃ B,L8 C w σ (.l t ((es.drop lo).take len)) (match v with | .slice A _ cap=>.slice (if cap=lo then A else A.map (·.add (lo*C.P.cellsOf t))) len (cap - lo) | v=>v) [t] B:=by
  intro L wp t es lo len cap' v ho hle _
  rcases ho with ⟨rfl,rfl⟩ | ⟨g,cap,cs,rfl,hR⟩
  ·simp only [uY] at hle
   obtain rfl:lo=0:=by omega
   obtain rfl:len=0:=by omega
   exact ⟨fun _=>False,by simpa using VR.lnil _ _ _,rfl,fun _ h=>h.elim⟩
  ·by_cases hl:len=0
   ·subst hl
    exact ⟨fun _=>False,by simpa using VR.lnil _ _ _,by simp [AV.pure],fun _ h=>h.elim⟩
   ·have bU:=hR.ecap
    refine ⟨fun b=>b=g,?_,rfl,fun b hb=>⟨⟨_,hb▸hR.ow⟩,cs,t,_,hb▸hR.hh,by simp,hb▸hR.base⟩⟩
    have:=hR.da (I:=fun b=>σ.I b∨b=g) (fun _ h=>.inl h) (.inr rfl) hle
    grind [add_lit]
 have aj:∀ (L:e8)(wp:Prop) t es v,OwnAt C.P C.W w σ L wp t es v→∃ B,L8 C w σ (.l t es) v [t] B:=by
  intro L wp t es v ho
  rcases ho with ⟨rfl,rfl⟩ | ⟨g,cap,cs,rfl,hR⟩
  ·exact ⟨fun _=>False,.lnil _ _ _,rfl,fun _ h=>h.elim⟩
  ·exact ⟨fun b=>b=g,hR.W3 (I:=fun b=>σ.I b∨b=g) (fun _ h=>.inl h) (.inr rfl),rfl,fun b hb=>⟨⟨_,hb▸hR.ow⟩,cs,t,_,hb▸hR.hh,by simp,hb▸hR.base⟩⟩
 have ak:∀ x,SR C w σ st a n x v→x.pure=true→∃ B,L8 C w σ x v [] B:=fun x hx hp=>
  ⟨fun _=>False,(hx.Gk (er x hp)).mono (fun _ h=>.inl h) (fun _ _=>rfl) (fun _ _=>rfl),hp,fun _ h=>h.elim⟩
 cases x with
 | o t es=>
  obtain ⟨rfl,rfl⟩:=iB (aq he)
  exact aj _ _ t es v hx
 | r pl=>
  obtain ⟨⟨t,es⟩,hr,V⟩:=au.1 he
  obtain ⟨rfl,rfl⟩:=iB (aq V)
  rw [hx (by rw [hr];rfl)]
  exact aj _ _ t es _ (h.row hr)
 | v pl lo len=>
  obtain ⟨⟨t,es⟩,hr,V⟩:=au.1 he
  simp only at V
  split at V
  ·rename_i hle
   obtain ⟨rfl,rfl⟩:=iB (aq V)
   obtain ⟨A,n',cap,bQ,hv⟩:=hx t es hr hle
   obtain ⟨B,hB⟩:=a4 _ _ t es lo len cap _ (h.row hr) hle ((by grind))
   grind
  ·cases V
 | w g t z=>
  obtain ⟨rfl,rfl⟩:=iB (aq he)
  obtain ⟨hp,hz⟩:=hx
  refine ⟨_,hz.mono (fun _ h=>.inr h) (fun _ _=>rfl) (fun _ _=>rfl),hp,fun b hb=>⟨⟨_,hb.1⟩,?_⟩⟩
  obtain ⟨cs,e⟩:=hb.2.2.2
  exact ⟨cs,t,_,e,by simp,hb.2.2.1⟩
 | sp k o n sz=>exact (h.Vu hx he).1
 | a cs=>
  simp only [St.m8] at he
  split at he
  ·rename_i hp
   obtain ⟨rfl,rfl⟩:=iB (aq he)
   exact ak _ hx hp
  ·obtain ⟨⟨ys,ts'⟩,V,M⟩:=au.1 he
   obtain ⟨rfl,rfl⟩:=iB (aq M)
   have aI:VR w σ.I σ.κ (.a cs) v:=hx
   cases aI with
   | a _ vs hl h1 hc=>
    obtain ⟨B,g1,g2,g3,g4⟩:=h.Vv cs vs.toList ys ts' (by simpa using hl) ((by grind [Array.getD_eq_getD_getElem?])) h1 V
    exact ⟨B,.a _ _ (by simpa using g1) (fun c hc=>(g3 c hc).2) ((by grind [Array.getD_eq_getD_getElem?])),lU fun c hc=>(g3 c hc).1,g2⟩
 | _=>
  simp only [St.m8] at he
  split at he
  ·rename_i hp
   obtain ⟨rfl,rfl⟩:=iB (aq he)
   exact ak _ hx hp
  ·cases he
theorem aE.Sa(h:aE C st a w σ):∀ (xs:List AV)(vs:List Value)(ys:List AV)(ts:List TypeId),xs.length=vs.length→(∀ (i:Nat)(x:AV),xs[i]? =some x→∃ n,SR C w σ st a n x (vs[i]?.getD undef))→
  st.fK C.E.dp xs=some (ys,ts)→∃ B:Nat→Prop,ys.length=vs.length∧(∀ b,B b→(∃ l,σ.ow b=some l)∧∃ cs T fz,w.heap[b]? =some (.cells cs T fz)∧T∈ts∧cN.n0≤b)∧(∀ y∈ys,y.pure=true)∧
   ∀ (i:Nat)(y:AV),ys[i]? =some y→VR w (fun b=>σ.I b∨B b) σ.κ y (vs[i]?.getD undef)
 | [],vs,ys,ts,hl,_,he=>by
  obtain ⟨rfl,rfl⟩:=iB (aq he)
  exact ⟨fun _=>False,hl,fun _ h=>h.elim,by grind,fun i y hi=>(by simp at hi)⟩
 | x::xs,[],_,_,hl,_,_=>by simp at hl
 | x::xs,v::vs,ys,ts,hl,hx,he=>by
  obtain ⟨⟨y,ts1⟩,h1,V⟩:=au.1 he
  obtain ⟨⟨ys',ts2⟩,h2,M⟩:=au.1 V
  obtain ⟨rfl,rfl⟩:=iB (aq M)
  obtain ⟨n,aw⟩:=hx 0 x rfl
  obtain ⟨B1,hL⟩:=h.AY aw h1
  obtain ⟨B2,be,bK,a7,a2⟩:=aE.Sa h xs vs ys' ts2 (by simpa using hl) (fun i x hi=>by simpa using hx (i+1) x (by simpa using hi)) h2
  refine ⟨fun b=>B1 b∨B2 b,by simpa using be,fun b hb=>?_,fun z hz=>?_,fun i z hi=>?_⟩
  ·rcases hb with hb | hb
   ·obtain ⟨h3,cs,T,fz,h4,h5⟩:=hL.blk b hb
    grind
   grind
  ·rcases eA.1 hz with rfl | hz
   ·exact hL.pure
   ·exact a7 z hz
  ·cases i with
   | zero=>
    obtain rfl:y=z:=by simpa using hi
    exact hL.vr.mono ((by grind)) (fun _ _=>rfl) (fun _ _=>rfl)
   | succ i=>exact (a2 i z (by simpa using hi)).mono ((by grind)) (fun _ _=>rfl) (fun _ _=>rfl)
theorem jO(hf:nj P f)(args:Array Value)(w:World):(callFunc f args).run P w= .ok (.enter f args) w:=by
 obtain ⟨fn,h1,h2,h3⟩:=hf
 have bW:fn.name≠ "runtime.NumGoroutine" :=by simpa using h3
 have bX:fn.body≠none:=by grind
 simp_all [callFunc]
theorem Ph{xs:List AV}{vs:List Value}(h:aE C st a w σ)(hl:xs.length=vs.length)(hx:∀ (i:Nat)(x:AV),xs[i]? =some x→∃ n,SR C w σ st a n x (vs[i]?.getD undef))(aM:st.fK C.E.dp xs=some (ys,ts))(hc:(∀ y∈ys,y.pure=true)→Gt C.P f ys x)(hp:x.pure=true)(ho:(ts.isEmpty||x.off ts)=true)(U:nj C.P f→(Go.execOp a.eval o).run C.P w= .ok (.enter f vs.toArray) w):e9 C o d a w σ st x:=by
 obtain ⟨B,bN,hB,hyp,bM⟩:=h.Sa xs vs ys ts hl hx aM
 obtain ⟨hb,X⟩:=hc hyp
 intro K Q hK
 unfold Oper.wp
 rw [U hb,Oper.upon_enter]
 have aR:∀ b,B b→b<w.heap.size:=by grind
 refine (X w (fun b=>σ.I b∨B b) σ.κ vs.toArray ⟨(h.new _ (bG _)).2,h.lay.cn (fun _ h=>.inl h) fun _ _=>rfl⟩ (fun b hb=>hb.elim (fun h1=>(h.da b h1).1) (aR b)) (by grind) (fun i y hi=>?_)).mono ?_
 ·simp_all
 ·rintro e w' ⟨v,I',rfl,hv,F,hold,a3,aU,aC,aK⟩
  refine hK v w' {σ with I:=fun b=>I' b∧¬B b} ?_
  have bS:∀ b,σ.I b→¬B b:=fun b hb bJ=>by
   obtain ⟨⟨l,hl⟩,_⟩:=hB b bJ
   have:=(h.da b hb).2
   grind
  have S:jB C w σ w' {σ with I:=fun b=>I' b∧¬B b} none:=
   ⟨fun b l hb _=>⟨hold b (h.own b l hb),hb⟩,fun b hb=>hold b (h.da b hb).1,by grind,rfl,F,fun b l hb=>fO (h.own b l hb) F,fun b hb=>⟨aC b hb.1,by
    rcases aU b hb.1 with h1 | h1
    ·rcases h1 with h1 | h1
     ·exact (h.da b h1).2
     grind
    ·show σ.ow b=none
     cases hq:σ.ow b with
     | none=>rfl
     | some l=>have:=h.own b l hq;omega⟩⟩
  refine ⟨⟨F,fun b hb _=>hold b hb,S.up,S.da,fun b hb=>?_,fun _ _=>rfl,fun _ _ _=>rfl,aK⟩,h.same S,fun _ _=>o0 ?_,fun _ _ _ _ e=>by subst e;cases hp⟩
  ·rcases aU b hb.1 with h1 | h1
   ·grind
   ·exact .inr (h.new b h1).1
  ·by_cases br:ts=[]
   ·simp_all
   ·have a8:x.off ts=true:=by
     grind
    exact hv.apc br ((by grind)) a8
theorem ED{m:Nat}{xs:List AV}{vs:List Value}(hR:nJ C.P R)(hΩ:jw C.P Ω)(h:aE C st a w σ)(hl:xs.length=vs.length)(hx:∀ (i:Nat)(x:AV),xs[i]? =some x→∃ n,SR C w σ st a n x (vs[i]?.getD undef))(he:cK R Ω C.E st m f xs=some r)(U:nj C.P f→(Go.execOp a.eval o).run C.P w= .ok (.enter f vs.toArray) w):e9 C o d a w σ r.2 r.1:=by
 unfold cK at he
 split at he
 ·obtain ⟨⟨ys,ts⟩,aM,V⟩:=au.1 he
  clear he
  obtain ⟨⟨q,O⟩,hq,M⟩:=au.1 V
  clear V
  cases q with
  | new cs=>cases M
  | row _ _=>cases M
  | Kp _ _ _ _ _ _=>cases M
  | ret x=>?_
  simp only at M
  split at M
  ·rename_i hc
   simp only [aY] at hc
   obtain rfl:=aq M
   exact Ph h hl hx aM (fun hyp=>hR.pure hq hyp) hc.1 hc.2 U
  ·cases M
 ·obtain ⟨⟨ys,ts⟩,aM,V⟩:=au.1 he
  clear he
  obtain ⟨x,hq,M⟩:=au.1 V
  clear V
  split at M
  ·rename_i hc
   simp only [aY] at hc
   obtain rfl:=aq M
   exact Ph h hl hx aM (fun hyp=>hΩ.ret f ys x hq hyp hc.1) hc.1 hc.2 U
  ·cases M
 ·cases he
theorem aE.Gu(h:aE C st a w σ):∀ (ys:List Operand)(xs:List bY),iZ ys xs=true→(xs.map st.ev).length=(ys.map a.eval).length∧
  ∀ (i:Nat)(x:AV),(xs.map st.ev)[i]? =some x→∃ n,SR C w σ st a n x ((ys.map a.eval)[i]?.getD undef)
 | [],[],_=>by grind
 | y::ys,x::xs,hl=>by
  simp only [iZ,aY] at hl
  obtain ⟨h1,h2⟩:=aE.Gu h ys xs hl.2
  refine ⟨by simpa using h1,fun i z hi=>?_⟩
  cases i with
  | zero=>
   obtain rfl:st.ev x=z:=by simpa using hi
   cases x with
   | t n=>exact ⟨n,h.slot hl.1⟩
   | c z=>exact ⟨0,I0 (.inl (er z (si hl.1))) (by simpa using h.vA hl.1 (er z (si hl.1)))⟩
  | succ i=>simpa using h2 i z (by simpa using hi)
 | [],_::_,hl=>by simp [iZ] at hl
 | _::_,[],hl=>by simp [iZ] at hl
theorem ahr{m:Nat}{xs:List bY}(hR:nJ C.P R)(hΩ:jw C.P Ω)(h:aE C st a w σ)(hl:cE C.P (.ca m f xs) o.op=true)(he:execOp R Ω C.E st d (.ca m f xs)=some r):
  e9 C o d a w σ r.2 r.1:=by
 simp only [cE] at hl;split at hl
 ·rename_i c am
  simp only [aY] at hl
  obtain ⟨h1,h2⟩:=hl
  split at h1
  ·rename_i f' Z
   have ac:f=f':=by simpa using h1
   obtain ⟨h3,h4⟩:=h.Gu _ _ h2
   simp only [execOp] at he
   refine ED hR hΩ h h3 h4 he fun hb=>?_
   have an:a.eval (.func f')= .func (.func f') #[] #[]:=rfl
   have ad:=jO hb (List.map a.eval c.args.toList).toArray w
   have ha:(List.map a.eval c.args.toList).toArray=c.args.map a.eval:=by grind
   rw [ac,ha] at ad
   rw [ac,ha]
   unfold Go.execOp
   simp [am,resolve,Z,an,Deferred.ofValue,invoke]
   exact ad
  ·cases h1
 ·cases hl
theorem ahs{m:Nat}{x:bY}{xs:List bY}(hR:nJ C.P R)(hΩ:jw C.P Ω)(h:aE C st a w σ)(hl:cE C.P (.cf m x xs) o.op=true)(he:execOp R Ω C.E st d (.cf m x xs)=some r) :
  e9 C o d a w σ r.2 r.1:=by
 simp only [cE] at hl;split at hl
 ·rename_i c am
  simp only [aY] at hl
  obtain ⟨h1,h2⟩:=hl
  split at h1
  ·rename_i y Z
   obtain ⟨h3,h4⟩:=h.Gu _ _ h2
   simp only [execOp] at he
   split at he
   ·rename_i f aa hx
    have hv:=(hx▸h.fS h1 (by rw [hx];simp) (by rw [hx];rfl))
    split at he
    rotate_left
    ·cases he
    rename_i hg
    obtain ⟨vs,bq,bm,bn⟩:=hv.Ti hg
    refine ED (vs:=c.args.toList.map a.eval++vs.toList) hR hΩ h (by grind) (fun i z hi=>?_) he fun hb=>?_
    ·rw [rZ] at hi ⊢
     rw [h3] at hi
     split
     ·grind
     simp_all [o0]
    simp_all [Go.execOp,jO,resolve,Deferred.ofValue,invoke]
   ·cases he
  ·cases h1
 ·cases hl
theorem NG(dp:Nat)(O:HP)(d:Nat):aQ (st.back dp O).fr d=if pa (aQ st.fr d)=true then .u else aQ st.fr d:=by
 show aQ (st.fr.map fun x=>(x.1,if pa x.2=true then .u else x.2)) d=_
 induction st.fr with
 | nil=>simp [aQ,pa]
 | cons y fr ih=>
  grind [aQ]
theorem EE{dp:Nat}{O:HP} : ∀ {bx:List (Nat×List AV)}{d:Nat}{cs:List AV},bH (qb dp O bx) d=some cs→O ⟨dp,d⟩=some cs
 | [],d,cs,h=>by cases h
 | (d',cs')::r,d,cs,h=>by
  simp only [qb] at h
  split at h
  ·rename_i zs hz
   simp only [bH] at h
   split at h
   ·grind
   ·exact EE h
  ·exact EE h
theorem Am{dp:Nat}{d:Nat}{r:TypeId×List AV}(h:(st.back dp O).rowAt dp (.s d)=some r):st.rowAt dp (.s d)=some r:=by
 grind [St.rowAt,NG]
theorem fY.I4{W W':Nat→Prop}{w:World}{σ σ':Sp}{L:e8}{wr wr':Prop}{t:TypeId}{es:List AV}{g cap:Nat}{cs:Array Value}(h:fY P W w σ L wr t es g cap cs)(aW:σ'.ow g=some L)(hI:∀ b,σ.I b→σ'.I b)(hw:wr'→W' g):fY P W' w σ' L wr' t es g cap cs:=
 ⟨aW,hw,h.hh,h.pos,h.nc,h.ecap,h.max,h.size,h.pure,h.one,fun j e m c he hc=>(h.cell j e m c he hc).Gq hI (fun _ _=>rfl) (lA (h.pure e (cm he)) c (cm hc)),h.base⟩
theorem lE.I4{C C':Cx}{w:World}{σ σ':Sp}{k:Key}{cs:List AV}{vs:Array Value}{T:TypeId}(h:lE C w σ k cs vs T)(hP:C'.P=C.P)(hk:σ'.κ k=σ.κ k)(aW:∀ b l,σ.ow b=some l→(l= .box k∨∃ off,l= .rowC k off)→σ'.ow b=some l)
  (hI:∀ b,σ.I b→σ'.I b) (hm:C.E.ro=false) (hW:∀ b l,σ.ow b=some l→(l= .box k∨∃ off,l= .rowC k off)→C.W b→C'.W b) (hd:∀ c∈cs,∀ k',c.dD k'=false→σ'.κ k'=σ.κ k') (ba:∀ c∈cs,∀ g t x,c≠.w g t x):lE C' w σ' k cs vs T:=by
 have Y:∀ off,(Pl.c k off).kq C.E=true:=fun off=>by simp [Pl.kq,hm]
 refine ⟨by rw [hk];exact h.hh,h.size,by rw [hk];exact aW _ _ h.ow (.inl rfl),fun _=>by rw [hk];exact hW _ _ h.ow (.inl rfl) (h.wr (Y 0)),h.one,fun off c hc=>?_,h.ty,by rw [hk];exact h.kb⟩
 have H:=h.cell off c hc
 have bF:=hd c (cm hc)
 have a9:=ba c (cm hc)
 cases c with
 | o t es=>
  rcases H with h1 | ⟨g,cap,cs',hv,hr⟩
  ·exact .inl h1
  ·refine .inr ⟨g,cap,cs',hv,?_⟩
   rw [hP]
   exact hr.I4 (aW _ _ hr.ow (.inr ⟨off,rfl⟩)) hI fun _=>hW _ _ hr.ow (.inr ⟨off,rfl⟩) (hr.wr (Y off))
 | w g t x=>grind
 | bp t k' u=>exact ⟨H.1,by rw [hk];exact H.2⟩
 | _=>exact VR.mono H hI (fun _ _=>rfl) bF
theorem xP{n:Nat}{c:AV}(h:c.deep n=true):∀ g t x,c≠.w g t x:=fun g t x e=>by subst e;cases h
theorem ZO{w:World}{n:Nat}(h:VR w I κ x v)(hd:x.deep n=true){k:Key}(hk:x.dD k=false):k.dp≤n:=by
 apply Classical.byContradiction
 intro hn
 have:=NC (dp:=k.dp) (s:=k.d) (by omega) x h hd
 rw [this] at hk;cases hk
theorem lE.amf{C:Cx}{w:World}{σ:Sp}{k:Key}{cs:List AV}{vs:Array Value}{T:TypeId}{n:Nat}(h:lE C w σ k cs vs T)(hd:∀ c∈cs,c.deep n=true):∀ c∈cs,∀ k',c.dD k'=false→k'.dp≤n:=by
 intro c hc k' az
 obtain ⟨off,ho⟩:=fP.1 hc
 have H:=h.cell off c ho
 have bv:=hd c hc
 cases c with
 | o t es=>cases az
 | r _=>cases H
 | v _ _ _=>cases H
 | q _ _ _ _=>cases H
 | u=>cases az
 | w _ _ _=>cases bv
 | bp t k2 u=>
  grind [AV.deep,AV.dD]
 | _=>exact ZO H bv az
def Wc(C:Cx)(σ:Sp):Nat→Prop:=fun b=>(C.W b∧σ.ow b≠some (.mark C.E.dp))∧∀ d,σ.ow b≠some (.rowS C.E.dp d)∧σ.ow b≠some (.grp C.E.dp d)
theorem aE.aht(h:aE C st a w σ)(aO:C.E.ro=false)(aT:∀ d cs,bH st.bx d=some cs→∀ c∈cs,c.deep C.E.dp=true):EC C.P (Wc C σ) (C.E.dp+1) (fun k=>st.box C.E.dp k) w σ:=by
 refine ⟨fun k cs hk aS=>?_,fun k cs hk aS=>?_,h.own,h.da,h.lay⟩
 ·obtain ⟨vs',T,hB⟩:=h.bx k cs hk
  refine ⟨vs',T,hB.I4 rfl rfl (fun _ _ h _=>h) (fun _ h=>h) aO (fun b l hl bR hW=>⟨by grind,by grind⟩) (fun _ _ _ _=>rfl) fun c hc=>?_⟩
  by_cases ai:k.dp=C.E.dp
  ·grind [St.box,xP]
  ·simp only [St.box,ah ai] at hk
   exact xP ((h.hpd k cs ai hk).2 c hc)
 ·by_cases ai:k.dp=C.E.dp
  ·grind [St.box]
  ·simp only [St.box,ah ai] at hk
   obtain ⟨h1,h2⟩:=h.hpd k cs ai hk
   grind
theorem aE.called{w':World}{σ1:Sp}(h:aE C st a w σ)(N:dJ (A1 C.P (Wc C σ) (C.E.dp+1)) w σ w' σ1)(hH:EC C.P (Wc C σ) (C.E.dp+1) O w' σ1):
  dJ C w σ w' {σ1 with κ:=σ.κ}∧aE C (st.back C.E.dp O) a w' {σ1 with κ:=σ.κ}:=by
 have bu:∀ k:Key,k.dp≤C.E.dp→σ1.κ k=σ.κ k:=fun k hk=>N.kap k (show k.dp<C.E.dp+1 by omega)
 have bt:∀ b,¬C.W b→¬((C.W b∧σ.ow b≠some (.mark C.E.dp))∧∀ d,σ.ow b≠some (.rowS C.E.dp d)∧σ.ow b≠some (.grp C.E.dp d)):=fun b hb a1=>hb a1.1.1
 have aN:∀ g d,σ.ow g=some (.rowS C.E.dp d)→w'.heap[g]? =w.heap[g]? ∧σ1.ow g=some (.rowS C.E.dp d):=fun g d hg=>
  have hn:¬((C.W g∧σ.ow g≠some (.mark C.E.dp))∧∀ d,σ.ow g≠some (.rowS C.E.dp d)∧σ.ow g≠some (.grp C.E.dp d)):=fun hh=>(hh.2 d).1 hg
  ⟨N.cn g (h.own g _ hg) hn,(N.ow g (h.own g _ hg) hn).trans hg⟩
 have bf:∀ g d,σ.ow g=some (.grp C.E.dp d)→w'.heap[g]? =w.heap[g]? ∧σ1.ow g=some (.grp C.E.dp d):=fun g d hg=>
  have hn:¬((C.W g∧σ.ow g≠some (.mark C.E.dp))∧∀ d,σ.ow g≠some (.rowS C.E.dp d)∧σ.ow g≠some (.grp C.E.dp d)):=fun hh=>(hh.2 d).2 hg
  ⟨N.cn g (h.own g _ hg) hn,(N.ow g (h.own g _ hg) hn).trans hg⟩
 refine ⟨⟨N.size,fun b hb hW=>N.cn b hb (bt b hW),N.up,N.da,fun b hb=>(N.dn b hb).imp id fun h=>h.1.1,fun _ _=>rfl,fun b hb hW=>N.ow b hb (bt b hW),N.io⟩,?_⟩
 have bE:Marks C a.defers w' {σ1 with κ:=σ.κ}:=by
  obtain ⟨Ds,h0,h1,h2⟩:=h.defers
  refine ⟨Ds,h0,h1,fun D hD=>?_⟩
  ·obtain ⟨h2,h3,h4⟩:=h2 D hD
   have hn:¬((C.W D∧σ.ow D≠some (.mark C.E.dp))∧∀ d,σ.ow D≠some (.rowS C.E.dp d)∧σ.ow D≠some (.grp C.E.dp d)):=fun hh=>hh.1.2 h2
   exact ⟨(N.ow D (h.own D _ h2) hn).trans h2,h3,(N.cn D (h.own D _ h2) hn).trans h4⟩
 refine ⟨h.size,bE,fun d=>?_,fun k cs hk=>?_,fun k cs aP hk=>?_,hH.own,hH.da,fun b hb=>h.new b (eC N.size hb),hH.lay⟩
 ·rw [NG]
  split
  ·exact VR.u _
  ·rename_i hb
   have aw:=h.fr d
   generalize aQ st.fr d=y at aw hb
   show SR C w' {σ1 with κ:=σ.κ} _ a d y _
   cases y with
   | o t es=>exact OwnAt.cn (C:=C) aw (fun g hg=>aN g d hg) N.up N.da
   | r pl=>
    cases pl with
    | c k off=>exact absurd rfl hb
    | s d'=>
     intro hs
     obtain ⟨r,hr⟩:=jK.1 hs
     exact aw (by rw [Am hr];rfl)
   | v pl lo len=>
    cases pl with
    | c k off=>exact absurd rfl hb
    | s d'=>
     intro t es ht hle
     exact aw t es (Am ht) hle
   | q pl i sz off=>
    cases pl with
    | c k off=>exact absurd rfl hb
    | s d'=>
     intro t es ht hle
     exact aw t es (Am ht) hle
   | w g t x=>exact ry.cn aw (fun b hb=>bf b g hb) fun _ h=>h
   | ag cs' rs=>exact zC.to aw (fun c _ v hv=>hv.mono N.up N.da fun _ _=>rfl) ((by grind [Option.isSome_iff_exists,Am]))
   | _=>exact VR.mono aw N.up N.da fun _ _=>rfl
 ·have aZ:O k=some cs∧k.dp≤C.E.dp:=by
   by_cases ai:k.dp=C.E.dp
   ·simp only [St.box,ai,aH] at hk
    have:=EE hk
    refine ⟨?_,by omega⟩
    rw [←ai] at this
    exact this
   grind [St.box,St.back]
  obtain ⟨vs',T,hB⟩:=hH.bx k cs aZ.1 (by omega)
  have aA:=(hH.deep k cs aZ.1 (by omega)).2
  exact ⟨vs',T,hB.I4 rfl (bu k aZ.2).symm (fun _ _ h _=>h) (fun _ h=>h) rfl (fun b l _ _ hW=>hW.1.1) (fun c hc k' az=>(bu k' (eC (hB.amf aA c hc k' az) aZ.2)).symm) fun c hc=>xP (aA c hc)⟩
 ·simp only [St.back] at hk
  split at hk
  ·rename_i aR
   exact ⟨aR,(hH.deep k cs hk (by omega)).2⟩
  ·cases hk
theorem Vw{xs:List AV}{vs:List Value}(aO:C.E.ro=false)(h:aE C st a w σ)(hl:xs.length=vs.length)(hx:∀ (i:Nat)(x:AV),xs[i]? =some x→∃ n,SR C w σ st a n x (vs[i]?.getD undef))(aD:∀ x∈xs,x.copy=true)(aT:∀ d cs,bH st.bx d=some cs→∀ c∈cs,c.deep C.E.dp=true)(hc:DC C.P (C.E.dp+1) f xs (fun k=>st.box C.E.dp k) x O)(U:nj C.P f→(Go.execOp a.eval o).run C.P w= .ok (.enter f vs.toArray) w):e9 C o d a w σ (st.back C.E.dp O) x:=by
 obtain ⟨aJ,hb,X⟩:=hc
 intro K Q hK
 unfold Oper.wp
 rw [U hb,Oper.upon_enter]
 refine (X (Wc C σ) w σ vs.toArray (fun b hb=>⟨⟨⟨(h.new b hb).1,fun e=>absurd (h.own b _ e) (rX.2 hb)⟩,fun d=>⟨fun e=>?_,fun e=>?_⟩⟩,(h.new b hb).2⟩) (h.aht aO aT) (by grind) (fun i y hi=>?_)).mono ?_
 ·have:=h.own b _ e;omega
 ·have:=h.own b _ e;omega
 ·obtain ⟨n,hn⟩:=hx i y hi
  have:=hn.Gk (aD y (cm hi))
  simp_all
 ·rintro e w' ⟨v,σ1,rfl,hv,N,hH⟩
  obtain ⟨h1,h2⟩:=h.called N hH
  exact hK v w' {σ1 with κ:=σ.κ} ⟨h1,h2,fun _ _=>o0 (hv.Gq (fun _ h=>h) (fun _ _=>rfl) aJ),fun _ _ _ _ e=>by subst e;cases aJ⟩
noncomputable def oh(W:Nat→Prop)(σ:Sp)(kk:Key)(k':Key):Nat→Option e8:=fun b=>open Classical in match σ.ow b with
 | some (.box k)=>if k=kk∧W b then some (.box k') else some (.box k)
 | some (.rowC k off)=>if k=kk∧W b then some (.rowC k' off) else some (.rowC k off)
 | x=>x
theorem Rj{W:Nat→Prop}{σ:Sp}{kk k':Key}{b:Nat}{l:e8}(h:σ.ow b=some l)(hd:l.dpt≠kk.dp):oh W σ kk k' b=some l:=by
 unfold oh
 rw [h]
 cases l with
 | box k=>simp only;rw [ah (fun e=>hd (by rw [←e.1];rfl))]
 | rowS dp d=>rfl
 | grp dp g=>rfl
 | mark dp=>rfl
 | rowC k off=>simp only;rw [ah (fun e=>hd (by rw [←e.1];rfl))]
theorem Tl{W:Nat→Prop}{σ:Sp}{kk k':Key}{b:Nat}(h:¬W b):oh W σ kk k' b=σ.ow b:=by
 grind [oh]
theorem Rk{W:Nat→Prop}{σ:Sp}{kk k':Key}{b:Nat}{l:e8}(h:oh W σ kk k' b=some l):∃ l',σ.ow b=some l':=by
 grind [oh]
theorem Rl{W:Nat→Prop}{σ:Sp}{kk k':Key}{b:Nat}(h:σ.ow b=none):oh W σ kk k' b=none:=by
 unfold oh;rw [h]
theorem Vx{xs:List AV}{vs:List Value}{cs:List AV}{dd:Nat}(h:aE C st a w σ)(hl:xs.length=vs.length)(hx:∀ (i:Nat)(x:AV),xs[i]? =some x→∃ n,SR C w σ st a n x (vs[i]?.getD undef))(aD:∀ x∈xs,x.pure=true)(hc:L6 C.P (C.E.dp+1) f xs (fun _=>none) cs O)(bw:dd<1000000)(bh:∀ d',(aQ st.fr d').dD ⟨C.E.dp,dd⟩=true)(aF:∀ d' cs',bH st.bx d'=some cs'→∀ c∈cs',c.dD ⟨C.E.dp,dd⟩=true)(U:nj C.P f→(Go.execOp a.eval o).run C.P w= .ok (.enter f vs.toArray) w):e9 C o d a w σ {st with bx:=(dd,cs)::st.bx} (.p ⟨C.E.dp,dd⟩ 0):=by
 obtain ⟨bj,hb,X⟩:=hc
 intro K Q hK
 unfold Oper.wp
 rw [U hb,Oper.upon_enter]
 refine (X (fun b=>w.heap.size≤b) w σ vs.toArray (fun b hb=>⟨hb,(h.new b hb).2⟩) ⟨fun k cs hk=>(by cases hk),fun k cs hk=>(by cases hk),h.own,h.da,h.lay⟩ (by grind) (fun i y hi=>?_)).mono ?_
 ·obtain ⟨n,hn⟩:=hx i y hi
  have:=hn.Gk ((by grind [er]))
  simp_all
 ·rintro e w' ⟨σ1,kk,vs',T,rfl,ai,hB,N,hH⟩
  have hold:∀ b,b<w.heap.size→w'.heap[b]? =w.heap[b]? :=fun b hb=>N.cn b hb (Nat.not_le.2 hb)
  have S:jB C w σ w' {σ1 with κ:=σ.κ} none:=
   ⟨fun b l hb _=>⟨hold b (h.own b l hb),(N.ow b (h.own b l hb) (Nat.not_le.2 (h.own b l hb))).trans hb⟩,fun b hb=>hold b (h.da b hb).1,N.up,rfl,N.size,hH.own,hH.da⟩
  have h2:aE C st a w' {σ1 with κ:=σ.κ}:=h.same S
  have Y:∀ off,(Pl.c kk off).kq (A1 C.P (fun b=>w.heap.size≤b) (C.E.dp+1)).E=true:=by grind [Pl.kq,A1]
  have bz:w.heap.size≤σ1.κ kk:=hB.wr (Y 0)
  have aG:=h2.Y4 (d:=dd) (cs:=cs) (vs:=vs') (T:=T) (g:=σ1.κ kk) (ow':=oh (fun b=>w.heap.size≤b) σ1 kk ⟨C.E.dp,dd⟩)
   ((by grind [Rj])) (fun b l hb=>by obtain ⟨l',h3⟩:=Rk hb;exact hH.own b l' h3) (fun b hb=>Rl (hH.da b hb).2)
   hB.hh ⟨by grind,hB.kb.2⟩ hB.size (by unfold oh;rw [hB.ow];simp [bz]) (h.new _ bz).1 hB.one (fun off c hc=>by
    have H:=hB.cell off c hc
    have bb:=dz.1 bj c (cm hc)
    unfold CR at H
    split
    ·rcases H with h3 | ⟨g,cap,cs',hv,hr⟩
     ·exact .inl h3
     ·have hw:w.heap.size≤g:=hr.wr (Y off)
      refine .inr ⟨g,cap,cs',hv,⟨?_,fun _=>(h.new _ hw).1,hr.hh,hr.pos,hr.nc,hr.ecap,hr.max,hr.size,hr.pure,hr.one,fun j e m c he hc=>(hr.cell j e m c he hc).Gq (fun _ h=>h) (fun _ _=>rfl) (lA (hr.pure e (cm he)) c (cm hc)),hr.base⟩⟩
      show oh _ σ1 kk ⟨C.E.dp,dd⟩ g=_
      unfold oh;rw [hr.ow];simp [hw]
    ·rename_i aP
     have hp:c.pure=true:=by
      cases c with
      | o t es=>grind
      | _=>exact bb
     refine ⟨hp,?_⟩
     split at H
     ·grind
     ·cases hp
     ·cases hp
     ·exact H.Gq (fun _ h=>h) (fun _ _=>rfl) hp) bh aF
  refine hK _ w' ⟨fun k=>if k=⟨C.E.dp,dd⟩ then σ1.κ kk else σ.κ k,oh (fun b=>w.heap.size≤b) σ1 kk ⟨C.E.dp,dd⟩,σ1.I⟩ ⟨⟨N.size,fun b hb _=>hold b hb,N.up,N.da,fun b hb=>(N.dn b hb).imp id fun h3=>(h.new b h3).1,fun k hk=>?_,fun b hb hW=>?_,N.io⟩,aG,by grind [o0,OQ],fun _ _ _ _ e=>by cases e⟩
  ·grind
  ·show oh _ _ _ _ b=_
   rw [Tl (Nat.not_le.2 hb)]
   exact N.ow b hb (Nat.not_le.2 hb)
theorem lE.ro{C:Cx}{w:World}{σ:Sp}{k:Key}{cs:List AV}{vs:Array Value}{T:TypeId}{dp:Nat}(h:lE C w σ k cs vs T)(hk:k.dp<dp)(ba:∀ c∈cs,∀ g t x,c≠.w g t x):lE (Y5 C.P w dp) w σ k cs vs T:=by
 have Y:∀ off,¬(Pl.c k off).kq (Y5 C.P w dp).E=true:=by grind [Pl.kq,Y5]
 refine ⟨h.hh,h.size,h.ow,fun hm=>absurd hm (Y 0),h.one,fun off c hc=>?_,h.ty,h.kb⟩
 have H:=h.cell off c hc
 have a9:=ba c (cm hc)
 cases c with
 | o t es=>
  rcases H with h1 | ⟨g,cap,cs',hv,hr⟩
  ·exact .inl h1
  ·exact .inr ⟨g,cap,cs',hv,hr.I4 hr.ow (fun _ h=>h) fun hm=>absurd hm (Y off)⟩
 | w g t x=>grind
 | _=>exact H
theorem Vy{xs:List AV}{vs:List Value}{h0:HP}(h:aE C st a w σ)(hl:xs.length=vs.length)(hx:∀ (i:Nat)(x:AV),xs[i]? =some x→∃ n,SR C w σ st a n x (vs[i]?.getD undef))(aD:∀ x∈xs,x.copy=true)(hle:∀ k cs,h0 k=some cs→st.box C.E.dp k=some cs)(aT:∀ k cs,h0 k=some cs→k.dp=C.E.dp→∀ c∈cs,c.deep C.E.dp=true)(hc:L7 C.P (C.E.dp+1) f xs h0 x)(U:nj C.P f→(Go.execOp a.eval o).run C.P w= .ok (.enter f vs.toArray) w):e9 C o d a w σ st x:=by
 obtain ⟨aJ,hb,X⟩:=hc
 have hk:∀ k cs,h0 k=some cs→k.dp<C.E.dp+1∧∀ c∈cs,c.deep k.dp=true:=by
  intro k cs hk
  by_cases ai:k.dp=C.E.dp
  ·grind
  ·have:=hle k cs hk
   simp only [St.box,ah ai] at this
   obtain ⟨h1,h2⟩:=h.hpd k cs ai this
   grind
 intro K Q hK
 unfold Oper.wp
 rw [U hb,Oper.upon_enter]
 refine (X w σ vs.toArray (h.new _ (bG _)).2 ⟨fun k cs az aS=>?_,fun k cs az _=>hk k cs az,h.own,h.da,h.lay⟩ (by grind) (fun i y hi=>?_)).mono ?_
 ·obtain ⟨vs',T,hB⟩:=h.bx k cs (hle k cs az)
  exact ⟨vs',T,hB.ro aS (by grind [xP])⟩
 ·obtain ⟨n,hn⟩:=hx i y hi
  have:=hn.Gk (aD y (cm hi))
  simp_all
 ·rintro e w' ⟨v,I',rfl,hv,F,hold,a3,aU,aC,aK⟩
  have S:jB C w σ w' {σ with I:=I'} none:=
   ⟨fun b l hb _=>⟨hold b (h.own b l hb),hb⟩,fun b hb=>hold b (h.da b hb).1,a3,rfl,F,fun b l hb=>fO (h.own b l hb) F,fun b hb=>⟨aC b hb,by
    rcases aU b hb with h1 | h1
    ·exact (h.da b h1).2
    ·show σ.ow b=none
     cases hq:σ.ow b with
     | none=>rfl
     | some l=>have:=h.own b l hq;omega⟩⟩
  refine hK v w' {σ with I:=I'} ⟨⟨F,fun b hb _=>hold b hb,a3,fun b hb=>hold b (h.da b hb).1,fun b hb=>(aU b hb).imp id fun h1=>(h.new b h1).1,fun _ _=>rfl,fun _ _ _=>rfl,aK⟩,h.same S,fun _ _=>o0 hv,fun _ _ _ _ e=>by subst e;cases aJ⟩
theorem Rm{v:St}{xs:List AV}{vs:List Value}(hR:nJ C.P R)(h:aE C st a w σ)(aF:∀ k cs,v.box C.E.dp k=some cs→st.box C.E.dp k=some cs)(hl:xs.length=vs.length)(hx:∀ (i:Nat)(x:AV),xs[i]? =some x→∃ n,SR C w σ st a n x (vs[i]?.getD undef))(he:pb R C.E v f xs=some r)(U:nj C.P f→(Go.execOp a.eval o).run C.P w= .ok (.enter f vs.toArray) w):r.2=v∧e9 C o d a w σ st r.1:=by
 unfold pb at he
 split at he
 ·rename_i hc
  simp only [aY] at hc
  obtain ⟨⟨q,O⟩,hq,M⟩:=au.1 he
  clear he
  cases q with
  | new cs=>cases M
  | row _ _=>cases M
  | Kp _ _ _ _ _ _=>cases M
  | ret x=>?_
  simp only at M
  split at M
  ·rename_i hp
   obtain rfl:=aq M
   have ar:∀ x∈xs,x.copy=true:=by grind
   refine ⟨rfl,Vy h hl hx ar aF (fun k cs hk aS c a0=>?_) (hR.ro (C.E.dp+1) f xs _ x O hq ar) U⟩
   simp only [St.box,aS,aH] at hk
   exact pS (oR (p:=fun y=>AV.jJ C.E.dp y) _ hc.2 _ cs hk) c a0
  ·cases M
 ·cases he
theorem Sb{v:St}{xs:List bY}(hR:nJ C.P R)(h:aE C st a w σ)(an:∀ x,v.ev x≠.u→st.ev x=v.ev x)(aF:∀ k cs,v.box C.E.dp k=some cs→st.box C.E.dp k=some cs)(hl:cE C.P (.c3 f xs) o.op=true)(he:execOp R Ω C.E v d (.c3 f xs)=some r):
  r.2=v∧e9 C o d a w σ st r.1:=by
 simp only [cE] at hl;split at hl
 ·rename_i c am
  simp only [aY] at hl
  obtain ⟨h1,h2⟩:=hl
  split at h1
  ·rename_i f' Z
   have ac:f=f':=by simpa using h1
   obtain ⟨h3,h4⟩:=h.Gu _ _ h2
   simp only [execOp] at he
   have hm:xs.map st.ev=xs.map v.ev:=by
    apply xe
    intro x bB
    refine an x fun e=>?_
    unfold pb at he
    split at he
    ·rename_i hc
     simp only [aY] at hc
     have:=dz.1 hc.1 _ (B4 bB)
     rw [e] at this;cases this
    ·cases he
   rw [hm] at h3 h4
   refine Rm hR h aF h3 h4 he fun hb=>?_
   have an:a.eval (.func f')= .func (.func f') #[] #[]:=rfl
   have ad:=jO hb (List.map a.eval c.args.toList).toArray w
   have ha:(List.map a.eval c.args.toList).toArray=c.args.map a.eval:=by grind
   rw [ac,ha] at ad
   rw [ac,ha]
   unfold Go.execOp
   simp [am,resolve,Z,an,Deferred.ofValue,invoke]
   exact ad
  ·cases h1
 ·cases hl
theorem Sc{xs:List bY}{cs:List AV}{dd:Nat}(hR:nJ C.P R)(h:aE C st a w σ)(hl:cE C.P (.ck f xs) o.op=true)(hp:AV.cG (xs.map st.ev)=true)(hq:R ⟨C.E.dp+1,false⟩ f (xs.map st.ev) (fun _=>none)=some (.new cs,O))(bw:dd<1000000)(bh:∀ d',(aQ st.fr d').dD ⟨C.E.dp,dd⟩=true)(aF:∀ d' cs',bH st.bx d'=some cs'→∀ c∈cs',c.dD ⟨C.E.dp,dd⟩=true):
  e9 C o d a w σ {st with bx:=(dd,cs)::st.bx} (.p ⟨C.E.dp,dd⟩ 0):=by
 simp only [cE] at hl;split at hl
 ·rename_i c am
  simp only [aY] at hl
  obtain ⟨h1,h2⟩:=hl
  split at h1
  ·rename_i f' Z
   have ac:f=f':=by simpa using h1
   obtain ⟨h3,h4⟩:=h.Gu _ _ h2
   have aD:∀ x∈xs.map st.ev,x.pure=true:=jm hp
   refine Vx h h3 h4 aD (hR.new (C.E.dp+1) f _ _ cs O hq (by grind [er])) bw bh aF fun hb=>?_
   have an:a.eval (.func f')= .func (.func f') #[] #[]:=rfl
   have ad:=jO hb (List.map a.eval c.args.toList).toArray w
   have ha:(List.map a.eval c.args.toList).toArray=c.args.map a.eval:=by grind
   rw [ac,ha] at ad
   rw [ac,ha]
   unfold Go.execOp
   simp [am,resolve,Z,an,Deferred.ofValue,invoke]
   exact ad
  ·cases h1
 ·cases hl
theorem ahu{xs:List bY}(hR:nJ C.P R)(h:aE C st a w σ)(hl:cE C.P (.ck f xs) o.op=true)(he:execOp R Ω C.E st d (.ck f xs)=some r):e9 C o d a w σ r.2 r.1:=by
 simp only [execOp] at he
 obtain ⟨dd,bi,V⟩:=au.1 he
 unfold Dx at V
 split at V
 ·rename_i hp
  obtain ⟨⟨q,O⟩,hq,M⟩:=au.1 V
  cases q with
  | ret x=>cases M
  | row _ _=>cases M
  | Kp _ _ _ _ _ _=>cases M
  | new cs=>?_
  simp only at M
  split at M
  ·rename_i aX
   obtain rfl:=aq M
   simp only [Ep,mq,aY,eS] at aX
   exact Sc hR h hl hp hq aX.2.1.1.2 (nh rfl _ aX.2.1.2) (fun d' cs' hb c hm=>lV (oR _ aX.2.2 d' cs' hb) c hm)
  ·cases M
 ·cases V
open Classical in
theorem ahv{t:TypeId}{xs:List bY}(hΩ:jw C.P Ω)(h:aE C st a w σ)(hl:cE C.P (.cr t f xs) o.op=true)(he:execOp R Ω C.E st d (.cr t f xs)=some r):e9 C o d a w σ r.2 r.1:=by
 simp only [cE] at hl;split at hl
 ·rename_i c am
  simp only [aY] at hl
  obtain ⟨h1,h2⟩:=hl
  split at h1
  ·rename_i f' Z
   have ac:f=f':=by simpa using h1
   obtain ⟨h3,h4⟩:=h.Gu _ _ h2
   simp only [execOp] at he
   obtain ⟨dd,bi,V⟩:=au.1 he
   clear he
   unfold LU at V
   split at V
   ·rename_i hp
    obtain ⟨x,hx,M⟩:=au.1 V
    clear V
    split at M
    ·split at M
     ·rename_i t' bC
      subst bC
      obtain rfl:=aq M
      obtain ⟨hb,a5,X⟩:=hΩ.row f _ _ hx (jm hp)
      have U:(Go.execOp a.eval o).run C.P w= .ok (.enter f (c.args.toList.map a.eval).toArray) w:=by
       have an:a.eval (.func f')= .func (.func f') #[] #[]:=rfl
       have ad:=jO hb (List.map a.eval c.args.toList).toArray w
       have ha:(List.map a.eval c.args.toList).toArray=c.args.map a.eval:=by grind
       rw [ac,ha] at ad
       rw [ac,ha]
       unfold Go.execOp
       simp [am,resolve,Z,an,Deferred.ofValue,invoke]
       exact ad
      intro K Q hK
      unfold Oper.wp
      rw [U,Oper.upon_enter]
      refine (X w σ.I σ.κ _ (h.new _ (bG _)).2 (fun b hb=>(h.da b hb).1) (by grind) (fun i y hi=>?_)).mono ?_
      ·obtain ⟨n,hn⟩:=h4 i y hi
       have:=hn.Gk ((by grind [er,jm]))
       simp_all
      ·rintro e w' ⟨v,rfl,hv,F,hold,aK⟩
       rcases hv with rfl | ⟨g,cap,cs,rfl,hg,hh,av,bj⟩
       ·have S:jB C w σ w' σ none:=⟨fun b l hb _=>⟨hold b (h.own b l hb),hb⟩,fun b hb=>hold b (h.da b hb).1,fun _ h=>h,rfl,F,fun b l hb=>fO (h.own b l hb) F,fun b hb=>⟨fO (h.da b hb).1 F,(h.da b hb).2⟩⟩
        exact hK _ w' σ (aE.vB bi ⟨F,fun b hb _=>hold b hb,fun _ h=>h,fun b hb=>hold b (h.da b hb).1,fun _ h=>.inl h,fun _ _=>rfl,fun _ _ _=>rfl,aK⟩ ((h.same S).ct _) (.inl ⟨rfl,rfl⟩))
       ·have bT:g<w'.heap.size:=by
         grind
        have aP:∀ b,b<w.heap.size→b≠g:=fun b hb e=>by omega
        have S:jB C w σ w' (σ.add g (some (.rowS C.E.dp dd))) none:=by
         refine ⟨fun b l hb _=>⟨hold b (h.own b l hb),?_⟩,fun b hb=>hold b (h.da b hb).1,fun _ h=>h,rfl,F,fun b l hb=>?_,fun b hb=>⟨fO (h.da b hb).1 F,?_⟩⟩
         ·simp only [Sp.add,ah (aP b (h.own b l hb)),hb]
         ·simp only [Sp.add] at hb
          split at hb
          ·omega
          ·exact fO (h.own b l hb) F
         ·have a1:σ.I b:=hb
          simp only [Sp.add,ah (aP b (h.da b a1).1)]
          exact (h.da b a1).2
        refine hK _ w' (σ.add g (some (.rowS C.E.dp dd))) (aE.vB bi ⟨F,fun b hb _=>hold b hb,fun _ h=>h,fun b hb=>hold b (h.da b hb).1,fun _ h=>.inl h,fun _ _=>rfl,fun b hb _=>ah (aP b hb),aK⟩ ((h.same S).ct _) (.inr ⟨g,cap,cs,rfl,?_⟩))
        exact ⟨by simp [Sp.add],fun _=>(h.new g hg).1,hh,a5,(fun e he=>by cases he),du _,av,bj,(fun e he=>by cases he),(fun e he=>by cases he),(fun j e m c he=>by simp at he),(h.new g hg).2⟩
     ·cases M
    ·cases M
   ·cases V
  ·cases h1
 ·cases hl
theorem C8{xs:List AV}{vs:List Value}(hR:nJ C.P R)(hΩ:jw C.P Ω)(h:aE C st a w σ)(hl:xs.length=vs.length)(hx:∀ (i:Nat)(x:AV),xs[i]? =some x→∃ n,SR C w σ st a n x (vs[i]?.getD undef))(he:jo R Ω C.E st f xs=some r)(U:nj C.P f→(Go.execOp a.eval o).run C.P w= .ok (.enter f vs.toArray) w):e9 C o d a w σ r.2 r.1:=by
 unfold jo at he
 split at he
 ·grind [ED]
 split at he
 ·rename_i hc
  simp only [aY,qa] at hc
  obtain ⟨⟨aO,aD⟩,aT⟩:=hc
  obtain ⟨⟨q,O⟩,hq,M⟩:=au.1 he
  clear he
  cases q with
  | new cs=>cases M
  | row _ _=>cases M
  | Kp _ _ _ _ _ _=>cases M
  | ret x=>?_
  obtain rfl:=aq M
  have ar:∀ x∈xs,x.copy=true:=by grind
  exact Vw aO h hl hx ar (fun d cs hb c hc=>pS (oR (p:=fun y=>AV.jJ C.E.dp y) _ aT d cs hb) c hc) (hR.ret (C.E.dp+1) f xs _ x O hq ar) U
 ·cases he
theorem ahw{xs:List bY}(hR:nJ C.P R)(hΩ:jw C.P Ω)(h:aE C st a w σ)(hl:cE C.P (.c2 f xs) o.op=true)(he:execOp R Ω C.E st d (.c2 f xs)=some r):
  e9 C o d a w σ r.2 r.1:=by
 simp only [cE] at hl;split at hl
 ·rename_i c am
  simp only [aY] at hl
  obtain ⟨h1,h2⟩:=hl
  split at h1
  ·rename_i f' Z
   have ac:f=f':=by simpa using h1
   obtain ⟨h3,h4⟩:=h.Gu _ _ h2
   simp only [execOp] at he
   refine C8 hR hΩ h h3 h4 he fun hb=>?_
   have an:a.eval (.func f')= .func (.func f') #[] #[]:=rfl
   have ad:=jO hb (List.map a.eval c.args.toList).toArray w
   have ha:(List.map a.eval c.args.toList).toArray=c.args.map a.eval:=by grind
   rw [ac,ha] at ad
   rw [ac,ha]
   unfold Go.execOp
   simp [am,resolve,Z,an,Deferred.ofValue,invoke]
   exact ad
  ·cases h1
 ·cases hl
theorem ahx{x:bY}{xs:List bY}(hR:nJ C.P R)(hΩ:jw C.P Ω)(h:aE C st a w σ)(hl:cE C.P (.d2 x xs) o.op=true)(he:execOp R Ω C.E st d (.d2 x xs)=some r) :
  e9 C o d a w σ r.2 r.1:=by
 simp only [cE] at hl;split at hl
 ·rename_i c am
  simp only [aY] at hl
  obtain ⟨h1,h2⟩:=hl
  split at h1
  ·rename_i y Z
   obtain ⟨h3,h4⟩:=h.Gu _ _ h2
   simp only [execOp] at he
   split at he
   ·rename_i f aa hx
    have hv:=(hx▸h.fS h1 (by rw [hx];simp) (by rw [hx];rfl))
    split at he
    ·rename_i hg
     obtain ⟨vs,bq,bm,bn⟩:=hv.Ti hg
     refine C8 (vs:=c.args.toList.map a.eval++vs.toList) hR hΩ h (by grind) (fun i z hi=>?_) he fun hb=>?_
     ·rw [rZ] at hi ⊢
      rw [h3] at hi
      split
      ·grind
      simp_all [o0]
     simp_all [Go.execOp,jO,resolve,Deferred.ofValue,invoke]
    ·rename_i hg
     obtain ⟨vs,bq,bm,bn⟩:=hv.ag0 hg
     refine C8 (vs:=vs.toList++c.args.toList.map a.eval) hR hΩ h (by grind) (fun i z hi=>?_) he fun hb=>?_
     ·rw [rZ] at hi ⊢
      have bk:aa.length=vs.toList.length:=by rw [bm];simp
      rw [bk] at hi
      split
      ·rename_i aR
       rw [af aR] at hi
       have:=bn _ z hi
       simp_all [o0]
      grind
     simp_all [Go.execOp,jO,resolve,Deferred.ofValue,invoke]
   ·cases he
  ·cases h1
 ·cases hl
theorem s5{t:TypeId}{l:List AV}(h:AV.y0 t l=true):∀ x∈l,AV.rq t x=true:=by
 induction l with
 | nil=>grind
 | cons y l ih=>
  grind [AV.y0]
theorem W5{t:TypeId}(h:AV.rq t x=true):∀ c∈x.cl,AV.rq t c=true:=by
 intro c hc
 cases x<;>simp only [AV.cl,oM] at hc<;>first | (subst hc;exact h) | skip
 grind [s5,AV.rq]
theorem VR.fresh{B' B:cN}{w:World}{J:Nat→Prop}{t:TypeId}(h0:t≠0)(bP:B'.tg t=false)(hn:B.n0≤B'.n0)(hJ:∀ b,I b→B'.n0≤b→(∃ cs,w.heap[b]? =some (.cells cs t (0,0)))→J b)(h : @VR B' w I κ x v)(hx:AV.rq t x=true): @VR B w J κ x v:=by
 induction h with
 | u v=>exact .u v
 | sk=>exact .sk
 | b x=>exact .b x
 | i k n=>exact .i k n
 | s l=>exact .s l
 | n=>exact .n
 | z=>exact .z
 | nf=>exact .nf
 | ni=>exact .ni
 | lnil t A cap=>exact .lnil t A cap
 | l s es g o cap cs T fz sz aV aL ht ax bc F hp h1 av aB hc ih=>
  cases es with
  | nil=>exact .lnil _ _ _
  | cons e0 es=>
   have aI:s=t∧AV.y0 t (e0::es)=true:=by
    simpa [AV.rq] using hx
   obtain ⟨rfl,bO⟩:=aI
   have hg:B'.n0≤g:=by
    grind
   obtain ⟨rfl,rfl⟩:=(ht h0).1 hg
   exact @VR.l B w J κ T (e0::es) g o cap cs T (0,0) sz (hJ g aV hg ⟨_,aL⟩) aL ((by grind)) ax bc F hp h1 av aB
    (by grind [W5,s5])
 | e x off g o cs T fz aV aL hp F h1 hc ih=>simp [AV.rq] at hx
 | f g aa vs hg hl hc ih=>grind [f,s5,AV.rq]
 | fm g aa vs hl hc ih=>grind [fm,s5,AV.rq]
 | a cs vs hl h1 hc ih=>grind [a,s5,AV.rq]
 | tp cs vs hl hc ih=>grind [tp,s5,AV.rq]
 | ifc t x v h ih=>grind [ifc,AV.rq]
 | p k off=>exact .p k off
 | sp k off n sz cap h1 h2=>grind [sp]
theorem ry.wrap{y:AV}{g:Nat}{t:TypeId}{n:Nat}(h:ry C.W C.E.dp w σ g t y v):SR C w σ st a n (X3 g t y) v:=by
 unfold X3
 split
 ·obtain ⟨_,h⟩:=h
  cases h;exact .i _ _
 ·obtain ⟨_,h⟩:=h
  cases h;exact .b _
 ·exact h
theorem Gv(bL:nm C.P R)(hΩ:jw C.P Ω)(ao:qI)(h:aE C st a w σ)(hl:cE C.P ao o.op=true)(he:execOp R Ω C.E st d ao=some r):e9 C o d a w σ r.2 r.1:=by
 have hR:=bL.h
 cases ao with
 | mv x=>exact ag1 h hl he
 | as x=>exact ahj h hl he
 | pk c x y=>exact ag2 h hl he
 | bx x=>exact ahi h hl he
 | al zs=>exact ahh h hl he
 | ld n x=>exact ag9 h hl he
 | st n x y=>exact ahk h hl he
 | fa off x=>exact ag8 h hl he
 | ia sz arr x i=>exact aha h hl he
 | bo op bl x y=>exact ahc h hl he
 | no x=>exact ag3 h hl he
 | cv k x=>exact ag4 h hl he
 | ae ks ng x y=>exact ahb h hl he
 | bs t sz es=>exact ahl h hl he
 | bd zs fs=>exact ahf h hl he
 | ms t sz by_ x n=>exact ahm h hl he
 | sl t sz x lo hi=>exact ahe h hl he
 | ex x i=>exact ag5 h hl he
 | mf f aa=>exact ag6 h hl he
 | ca m f args=>grind [ahr]
 | cf m x args=>grind [ahs]
 | c2 f args=>grind [ahw]
 | d2 x args=>grind [ahx]
 | c3 f args=>obtain ⟨h1,h2⟩:=Sb hR h (fun _ _=>rfl) (fun _ _ h=>h) hl he;rw [h1];exact h2
 | ck f args=>exact ahu hR h hl he
 | bg zs fs=>exact ahg h hl he
 | bxg x=>exact ZM h hl he
 | cr t f args=>exact ahv hΩ h hl he
 | ln str x=>exact ahd h hl he
 | ap t sz by_ x y=>exact aho h hl he
 | nc x=>exact ag7 h hl he
end
end Go.Proofs.YtlmphbbhaeampaaGreat.A
