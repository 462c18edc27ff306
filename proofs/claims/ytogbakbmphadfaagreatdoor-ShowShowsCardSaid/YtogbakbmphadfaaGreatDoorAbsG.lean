/- Calls of functions that change nothing; every operation. -/
import Derived.Test.YtogbakbmphadfaaGreatDoorAbsP
set_option linter.unusedSectionVars false
set_option linter.unusedVariables false
set_option linter.unusedSimpArgs false
set_option linter.constructorNameAsVariable false
namespace Go.Proofs.YtogbakbmphadfaaGreatDoor.A
open Go
variable [bJ]
def dL(P:Program)(f:FuncId):Prop:=∃ fn,P.funcs[f]? =some fn∧fn.body.isNone=false∧(fn.name== "runtime.NumGoroutine")=false
def rm(P:Program)(f:FuncId)(ys:List AV)(x:AV):Prop:=
 dL P f∧∀ (w:World)(I:Nat→Prop)(κ:Key→Nat)(cargs:Array Value),bJ.n0≤w.heap.size∧xK w I→(∀ b,I b→b<w.heap.size)→cargs.size=ys.length→(∀ (i:Nat)(y:AV),ys[i]? =some y→VR w I κ y (cargs.getD i undef))→
  Calls P f cargs w fun e w'=>∃ v I',e= .returned v∧VR w' I' κ x v∧w.heap.size≤w'.heap.size∧(∀ b,b<w.heap.size→w'.heap[b]? =w.heap[b]?)∧(∀ b,I b→I' b)∧(∀ b,I' b→I b∨w.heap.size≤b)∧(∀ b,I' b→b<w'.heap.size)∧w'.os=w.os∧w'.output=w.output
def tv(P:Program)(W:Nat→Prop)(dp:Nat):Cx:=⟨P,W,⟨dp,false⟩,0⟩
structure wj(P:Program)(W:Nat→Prop)(dp:Nat)(hp:HP)(w:World)(σ:Sp):Prop where
 bx:∀ k cs,hp k=some cs→k.dp<dp→∃ vs T,gO (tv P W dp) w σ k cs vs T
 deep:∀ k cs,hp k=some cs→k.dp≠dp→k.dp<dp∧∀ c∈cs,c.deep k.dp=true
 own:∀ b l,σ.ow b=some l→b<w.heap.size
 bG:∀ b,σ.I b→b<w.heap.size∧σ.ow b=none
 lay:xK w σ.I
def sB(P:Program)(dp:Nat)(f:FuncId)(ys:List AV)(hp:HP)(x:AV)(hp':HP):Prop:=
 x.pure=true∧dL P f∧∀ (W:Nat→Prop)(w:World)(σ:Sp)(cargs:Array Value),(∀ b,w.heap.size≤b→W b∧bJ.n0≤b)→wj P W dp hp w σ→cargs.size=ys.length→
  (∀ (i:Nat)(y:AV),ys[i]? =some y→VR w σ.I σ.κ y (cargs.getD i undef))→
  Calls P f cargs w fun e w'=>∃ v σ',e= .returned v∧VR w' σ'.I σ'.κ x v∧dA (tv P W dp) w σ w' σ'∧wj P W dp hp' w' σ'
def Da(P:Program)(dp:Nat)(f:FuncId)(ys:List AV)(hp:HP)(cs:List AV)(hp':HP):Prop:=
 cs.all su=true∧dL P f∧∀ (W:Nat→Prop)(w:World)(σ:Sp)(cargs:Array Value),(∀ b,w.heap.size≤b→W b∧bJ.n0≤b)→wj P W dp hp w σ→cargs.size=ys.length→
  (∀ (i:Nat)(y:AV),ys[i]? =some y→VR w σ.I σ.κ y (cargs.getD i undef))→
  Calls P f cargs w fun e w'=>∃ σ' kk vs T,e= .returned (.pointer (some ⟨σ'.κ kk,0,none⟩))∧kk.dp=dp∧gO (tv P W dp) w' σ' kk cs vs T∧dA (tv P W dp) w σ w' σ'∧wj P W dp hp' w' σ'
def ME(P:Program)(w:World)(dp:Nat):Cx:=⟨P,fun b=>w.heap.size≤b,⟨dp,true⟩,0⟩
structure HpR(P:Program)(dp:Nat)(hp:HP)(w:World)(σ:Sp):Prop where
 bx:∀ k cs,hp k=some cs→k.dp<dp→∃ vs T,gO (ME P w dp) w σ k cs vs T
 deep:∀ k cs,hp k=some cs→k.dp≠dp→k.dp<dp∧∀ c∈cs,c.deep k.dp=true
 own:∀ b l,σ.ow b=some l→b<w.heap.size
 bG:∀ b,σ.I b→b<w.heap.size∧σ.ow b=none
 lay:xK w σ.I
def Db(P:Program)(dp:Nat)(f:FuncId)(ys:List AV)(hp:HP)(x:AV):Prop:=
 x.pure=true∧dL P f∧∀ (w:World)(σ:Sp)(cargs:Array Value),bJ.n0≤w.heap.size→HpR P dp hp w σ→cargs.size=ys.length→
  (∀ (i:Nat)(y:AV),ys[i]? =some y→VR w σ.I σ.κ y (cargs.getD i undef))→
  Calls P f cargs w fun e w'=>∃ v I',e= .returned v∧VR w' I' σ.κ x v∧w.heap.size≤w'.heap.size∧(∀ b,b<w.heap.size→w'.heap[b]? =w.heap[b]?)∧(∀ b,σ.I b→I' b)∧(∀ b,I' b→σ.I b∨w.heap.size≤b)∧(∀ b,I' b→b<w'.heap.size)∧w'.os=w.os∧w'.output=w.output
def W0(P:Program)(f:FuncId)(ys:List AV)(t:TypeId):Prop:=
 dL P f∧0<P.cellsOf t∧∀ (w:World)(I:Nat→Prop)(κ:Key→Nat)(cargs:Array Value),bJ.n0≤w.heap.size→(∀ b,I b→b<w.heap.size)→cargs.size=ys.length→(∀ (i:Nat)(y:AV),ys[i]? =some y→VR w I κ y (cargs.getD i undef))→
  Calls P f cargs w fun e w'=>∃ v,e= .returned v∧(v= .slice none 0 0∨∃ g cap cs,v= .slice (some ⟨g,0,none⟩) 0 cap∧w.heap.size≤g∧w'.heap[g]? =some (.cells cs t (0,0))∧cap≤maxLen∧cs.size=cap*P.cellsOf t)∧
   w.heap.size≤w'.heap.size∧(∀ b,b<w.heap.size→w'.heap[b]? =w.heap[b]?)∧w'.os=w.os∧w'.output=w.output
structure fV(P:Program)(R:Rec):Prop where
 ret:∀ dp f ys hp x hp',R ⟨dp,false⟩ f ys hp=some (.ret x,hp')→(∀ y∈ys,y.copy=true)→sB P dp f ys hp x hp'
 new:∀ dp f ys hp cs hp',R ⟨dp,false⟩ f ys hp=some (.new cs,hp')→(∀ y∈ys,y.copy=true)→Da P dp f ys hp cs hp'
 ro:∀ dp f ys hp x hp',R ⟨dp,true⟩ f ys hp=some (.ret x,hp')→(∀ y∈ys,y.copy=true)→Db P dp f ys hp x
def Ni(P:Program)(f:FuncId)(y:AV):Prop:=
 dL P f∧∀ (w:World)(I:Nat→Prop)(κ:Key→Nat)(v:Value),(∀ b,I b→∃ cs T,w.heap[b]? =some (.cells cs T (0,0)))→VR w I κ y v→
  Calls P f #[v] w fun e w'=>(∃ r,e= .returned r)∧w.heap.size≤w'.heap.size∧(∀ b,b<w.heap.size→¬I b→w'.heap[b]? =w.heap[b]?)∧w'.os=w.os∧w'.output=w.output
def kB(P:Program)(R:Rec):Prop:=∀ B:bJ,@fV B P R
theorem kB.h{P:Program}{R:Rec}(h:kB P R):fV P R:=h _
def Via(P:Program)(f g:FuncId)(n:Int):Prop:=∀ dp ys hp cs hp',ys.length=1→(cs.length:Int)=n→sB P dp g ys hp (.a cs) hp'→sB P dp f ys hp (.tp [.a cs,.i .i64 0,.i .i64 0]) hp'
def MF(P:Program)(f:FuncId)(t:TypeId):Prop:=
 dL P f∧∀ (w:World)(b off:Nat)(vs:Array Value)(T:TypeId)(g cap:Nat)(cs:Array Value)(l:List UInt8),w.heap[b]? =some (.cells vs T (0,0))→off+1<vs.size→vs.getD (off+1) undef= .slice (some ⟨g,0,none⟩) l.length cap→
  w.heap[g]? =some (.cells cs t (0,0))→l.length≤cap→cap≤maxLen→cs.size=cap→l≠[]→(∀ (j:Nat)(c:UInt8),l[j]? =some c→cs[j]? =some (.int .u8 c.toNat))→
  Calls P f #[.pointer (some ⟨b,off,none⟩)] w fun e w'=>e= .returned (.string ⟨l.toArray⟩)∧w'.heap.size=w.heap.size∧(∀ x,x≠g→w'.heap[x]? =w.heap[x]?)∧w'.os=w.os∧w'.output=w.output
structure fe(P:Program)(Ω:cI):Prop where
 via:∀ f (g:FuncId) n,Ω f [.u,.i .i64 g]=some (.i .i64 n)→Via P f g n
 spo:∀ f y,Ω f [y]=some .u→y.pure=true→Ni P f y
 ret:∀ f ys x,Ω f ys=some x→(∀ y∈ys,y.pure=true)→x.pure=true→rm P f ys x
 row:∀ f ys t,Ω f ys=some (.o t [])→(∀ y∈ys,y.pure=true)→W0 P f ys t
 str:∀ f (t:TypeId),Ω f [.u,.u,.i .i64 t]=some (.s [])→MF P f t
theorem fV.pure{P:Program}{R:Rec}(hR:fV P R){f:FuncId}{ys:List AV}{x:AV}{hp':HP}(he:R ⟨0,false⟩ f ys (fun _=>none)=some (.ret x,hp'))(hy:∀ y∈ys,y.pure=true):rm P f ys x:=by
 obtain ⟨hpx,hb,hc⟩:=hR.ret 0 f ys _ x hp' he (fun y hm=>cT y (hy y hm))
 refine ⟨hb,fun w I κ cargs hn hI hs ha=>?_⟩
 refine (hc (fun b=>w.heap.size≤b) w ⟨κ,fun _=>none,I⟩ cargs (fun b hb=>⟨hb,Nat.le_trans hn.1 hb⟩) ⟨fun k cs hk=>(by cases hk),fun k cs hk=>(by cases hk),fun b l hb=>(by cases hb),fun b hb=>⟨hI b hb,rfl⟩,hn.2⟩ hs ha).mono ?_
 rintro e w' ⟨v,σ',rfl,hv,hst,hH⟩
 exact ⟨v,σ'.I,rfl,hv.xS (fun _ h=>h) (fun _ _=>rfl) hpx,hst.size,fun b hb=>hst.bw b hb (show ¬w.heap.size≤b by omega),hst.up,hst.dn,fun b hb=>(hH.bG b hb).1,hst.io⟩
theorem Gk{ts:List TypeId}{x:AV}(h:x.off ts=true):∀ c∈x.cl,c.off ts=true:=by
 intro c hc
 cases x<;>simp only [AV.cl,List.mem_singleton] at hc<;>first | (subst hc;exact h) | skip
 exact jZ (by simpa [AV.off] using h) c hc
theorem VR.ZG{w:World}{I B:Nat→Prop}{κ:Key→Nat}{ts:List TypeId}(hts:ts≠[])(hB:∀ b,B b→∃ cs T fz,w.heap[b]? =some (.cells cs T fz)∧T∈ts∧bJ.n0≤b){x:AV}{v:Value}(h:VR w I κ x v)(hx:x.off ts=true) :
  VR w (fun b=>I b∧¬B b) κ x v:=by
 induction h with
 | u v=>exact .u v
 | sk=>exact .sk
 | b x=>exact .b x
 | i k n=>exact .i k n
 | s l=>exact .s l
 | n=>exact .n
 | z=>exact .z
 | nf=>exact .nf
 | ni=>exact .ni
 | lnil t A cap=>exact .lnil t A cap
 | l t es g o cap cs T fz sz hI0 hh0 ht hsz hnc hsize hp h1 hcap hmax hc ih=>
  cases es with
  | nil=>exact .lnil _ _ _
  | cons e0 es=>
   have hx':(t≠0∧¬t∈ts)∧AV.sE ts (e0::es)=true:=by
    simpa [AV.off,Bool.and_assoc,and_assoc] using hx
   refine .l t (e0::es) g o cap cs T fz sz ⟨hI0,fun hb=>?_⟩ hh0 ht hsz hnc hsize hp h1 hcap hmax fun j e m c he hc'=>ih j e m c he hc' (Gk (jZ hx'.2 e (List.mem_of_getElem? he)) c (List.mem_of_getElem? hc'))
   obtain ⟨cs',T',fz',h2,h3,h4⟩:=hB g hb
   rw [hh0] at h2
   simp only [Option.some.injEq,Obj.cells.injEq] at h2
   rw [←h2.2.1,((ht hx'.1.1).1 h4).1] at h3
   exact hx'.1.2 h3
 | e x off g o cs T fz hI0 hh0 hp hsize h1 hc ih=>
  simp only [AV.off,List.isEmpty_iff] at hx
  exact absurd hx hts
 | f g caps vs hl hc ih=>exact .f g caps vs hl fun m c hc'=>ih m c hc' (jZ (by simpa [AV.off] using hx) c (List.mem_of_getElem? hc'))
 | a cs vs hl h1 hc ih=>exact .a cs vs hl h1 fun m c hc'=>ih m c hc' (jZ (by simpa [AV.off] using hx) c (List.mem_of_getElem? hc'))
 | tp cs vs hl hc ih=>exact .tp cs vs hl fun m c hc'=>ih m c hc' (jZ (by simpa [AV.off] using hx) c (List.mem_of_getElem? hc'))
 | ifc t x v h ih=>exact .ifc t x v (ih (by simpa [AV.off] using hx))
 | p k off=>exact .p k off
section
variable {C:Cx}{st:St}{a:Act}{w:World}{σ:Sp}{o:Oper}{d:Option Nat}{R:Rec}{Ω:cI}{r:AV×St}
structure II(C:Cx)(w:World)(σ:Sp)(y:AV)(v:Value)(ts:List TypeId)(B:Nat→Prop):Prop where
 vr:VR w (fun b=>σ.I b∨B b) σ.κ y v
 pure:y.pure=true
 blk:∀ b,B b→(∃ l,σ.ow b=some l)∧∃ cs T fz,w.heap[b]? =some (.cells cs T fz)∧T∈ts∧bJ.n0≤b
theorem ah.tn(h:ah C st a w σ){n:Nat}{x y:AV}{v:Value}{ts:List TypeId}(hx:SR C w σ st a n x v)(he:st.lA C.E.dp x=some (y,ts)):∃ B,II C w σ y v ts B:=by
 have hrow:∀ (L:dz)(wp:Prop) t es lo len cap' v,OwnAt C.P C.W w σ L wp t es v→lo+len≤es.length→(∀ A n cap,v= .slice A n cap→cap'=cap)→
   ∃ B,II C w σ (.l t ((es.drop lo).take len)) (match v with | .slice A _ cap=>.slice (if cap=lo then A else A.map (·.add (lo*C.P.cellsOf t))) len (cap - lo) | v=>v) [t] B:=by
  intro L wp t es lo len cap' v ho hle _
  rcases ho with ⟨rfl,rfl⟩ | ⟨g,cap,cs,rfl,hR⟩
  ·simp only [List.length_nil] at hle
   obtain rfl:lo=0:=by omega
   obtain rfl:len=0:=by omega
   exact ⟨fun _=>False,by simpa using VR.lnil _ _ _,rfl,fun _ h=>h.elim⟩
  ·by_cases hl:len=0
   ·subst hl
    exact ⟨fun _=>False,by simpa using VR.lnil _ _ _,by simp [AV.pure],fun _ h=>h.elim⟩
   ·have hec:=hR.ecap
    refine ⟨fun b=>b=g,?_,rfl,fun b hb=>⟨⟨_,hb▸hR.ow⟩,cs,t,_,hb▸hR.hh,by simp,hb▸hR.base⟩⟩
    have:=hR.bG (I:=fun b=>σ.I b∨b=g) (fun _ h=>.inl h) (.inr rfl) hle
    simp only [if_neg (show ¬cap=lo by omega),Option.map_some,add_lit,Nat.zero_add]
    exact this
 have hwhole:∀ (L:dz)(wp:Prop) t es v,OwnAt C.P C.W w σ L wp t es v→∃ B,II C w σ (.l t es) v [t] B:=by
  intro L wp t es v ho
  rcases ho with ⟨rfl,rfl⟩ | ⟨g,cap,cs,rfl,hR⟩
  ·exact ⟨fun _=>False,.lnil _ _ _,rfl,fun _ h=>h.elim⟩
  ·exact ⟨fun b=>b=g,hR.La (I:=fun b=>σ.I b∨b=g) (fun _ h=>.inl h) (.inr rfl),rfl,fun b hb=>⟨⟨_,hb▸hR.ow⟩,cs,t,_,hb▸hR.hh,by simp,hb▸hR.base⟩⟩
 have hplain:∀ x,SR C w σ st a n x v→x.pure=true→∃ B,II C w σ x v [] B:=fun x hx hp=>
  ⟨fun _=>False,(hx.xL (cT x hp)).mono (fun _ h=>.inl h) (fun _ _=>rfl) (fun _ _=>rfl),hp,fun _ h=>h.elim⟩
 cases x with
 | o t es=>
  obtain ⟨rfl,rfl⟩:=Prod.mk.inj (Option.some.inj he)
  exact hwhole _ _ t es v hx
 | r pl=>
  obtain ⟨⟨t,es⟩,hr,he1⟩:=Option.bind_eq_some_iff.1 he
  obtain ⟨rfl,rfl⟩:=Prod.mk.inj (Option.some.inj he1)
  rw [hx (by rw [hr];rfl)]
  exact hwhole _ _ t es _ (h.row hr)
 | v pl lo len=>
  obtain ⟨⟨t,es⟩,hr,he1⟩:=Option.bind_eq_some_iff.1 he
  simp only at he1
  split at he1
  ·rename_i hle
   obtain ⟨rfl,rfl⟩:=Prod.mk.inj (Option.some.inj he1)
   obtain ⟨A,n',cap,hpv,hv⟩:=hx t es hr hle
   obtain ⟨B,hB⟩:=hrow _ _ t es lo len cap _ (h.row hr) hle (fun A' n2 cap2 e=>by rw [hpv] at e;simp at e;exact e.2.2)
   rw [hpv] at hB
   exact ⟨B,by rw [hv];exact hB⟩
  ·cases he1
 | w g t z=>
  obtain ⟨rfl,rfl⟩:=Prod.mk.inj (Option.some.inj he)
  obtain ⟨hp,hz⟩:=hx
  refine ⟨_,hz.mono (fun _ h=>.inr h) (fun _ _=>rfl) (fun _ _=>rfl),hp,fun b hb=>⟨⟨_,hb.1⟩,?_⟩⟩
  obtain ⟨cs,e⟩:=hb.2.2.2
  exact ⟨cs,t,_,e,by simp,hb.2.2.1⟩
 | _=>
  simp only [St.lA] at he
  split at he
  ·rename_i hp
   obtain ⟨rfl,rfl⟩:=Prod.mk.inj (Option.some.inj he)
   exact hplain _ hx hp
  ·cases he
theorem ah.HH(h:ah C st a w σ):∀ (xs:List AV)(vs:List Value)(ys:List AV)(ts:List TypeId),xs.length=vs.length→(∀ (i:Nat)(x:AV),xs[i]? =some x→∃ n,SR C w σ st a n x (vs[i]?.getD undef))→
  st.dY C.E.dp xs=some (ys,ts)→∃ B:Nat→Prop,ys.length=vs.length∧(∀ b,B b→(∃ l,σ.ow b=some l)∧∃ cs T fz,w.heap[b]? =some (.cells cs T fz)∧T∈ts∧bJ.n0≤b)∧(∀ y∈ys,y.pure=true)∧
   ∀ (i:Nat)(y:AV),ys[i]? =some y→VR w (fun b=>σ.I b∨B b) σ.κ y (vs[i]?.getD undef)
 | [],vs,ys,ts,hl,_,he=>by
  obtain ⟨rfl,rfl⟩:=Prod.mk.inj (Option.some.inj he)
  exact ⟨fun _=>False,hl,fun _ h=>h.elim,fun y hy=>absurd hy (List.not_mem_nil),fun i y hi=>(by simp at hi)⟩
 | x::xs,[],_,_,hl,_,_=>by simp at hl
 | x::xs,v::vs,ys,ts,hl,hx,he=>by
  obtain ⟨⟨y,ts1⟩,h1,he1⟩:=Option.bind_eq_some_iff.1 he
  obtain ⟨⟨ys',ts2⟩,h2,he2⟩:=Option.bind_eq_some_iff.1 he1
  obtain ⟨rfl,rfl⟩:=Prod.mk.inj (Option.some.inj he2)
  obtain ⟨n,hx0⟩:=hx 0 x rfl
  obtain ⟨B1,hL⟩:=h.tn hx0 h1
  obtain ⟨B2,hl2,hb2,hp2,hv2⟩:=ah.HH h xs vs ys' ts2 (by simpa using hl) (fun i x hi=>by simpa using hx (i+1) x (by simpa using hi)) h2
  refine ⟨fun b=>B1 b∨B2 b,by simpa using hl2,fun b hb=>?_,fun z hz=>?_,fun i z hi=>?_⟩
  ·rcases hb with hb | hb
   ·obtain ⟨h3,cs,T,fz,h4,h5⟩:=hL.blk b hb
    exact ⟨h3,cs,T,fz,h4,List.mem_append_left _ h5.1,h5.2⟩
   ·obtain ⟨h3,cs,T,fz,h4,h5⟩:=hb2 b hb
    exact ⟨h3,cs,T,fz,h4,List.mem_append_right _ h5.1,h5.2⟩
  ·rcases List.mem_cons.1 hz with rfl | hz
   ·exact hL.pure
   ·exact hp2 z hz
  ·cases i with
   | zero=>
    obtain rfl:y=z:=by simpa using hi
    exact hL.vr.mono (fun b hb=>hb.elim .inl fun h=>.inr (.inl h)) (fun _ _=>rfl) (fun _ _=>rfl)
   | succ i=>exact (hv2 i z (by simpa using hi)).mono (fun b hb=>hb.elim .inl fun h=>.inr (.inr h)) (fun _ _=>rfl) (fun _ _=>rfl)
theorem dm{P:Program}{f:FuncId}(hf:dL P f)(args:Array Value)(w:World):(callFunc f args).run P w= .ok (.enter f args) w:=by
 obtain ⟨fn,h1,h2,h3⟩:=hf
 have h3':fn.name≠ "runtime.NumGoroutine" :=by simpa using h3
 have h2':fn.body≠none:=by intro e;rw [e] at h2;cases h2
 simp [callFunc,h1,h2',h3']
theorem Gl{f:FuncId}{xs ys:List AV}{vs:List Value}{ts:List TypeId}{x:AV}(h:ah C st a w σ)(hl:xs.length=vs.length)(hx:∀ (i:Nat)(x:AV),xs[i]? =some x→∃ n,SR C w σ st a n x (vs[i]?.getD undef))
  (hys:st.dY C.E.dp xs=some (ys,ts)) (hc:(∀ y∈ys,y.pure=true)→rm C.P f ys x) (hp:x.pure=true) (ho:(ts.isEmpty||x.off ts)=true)
  (hrun:dL C.P f→(Go.execOp a.eval o).run C.P w= .ok (.enter f vs.toArray) w):b6 C o d a w σ st x:=by
 obtain ⟨B,hyl,hB,hyp,hyv⟩:=h.HH xs vs ys ts hl hx hys
 obtain ⟨hb,hcall⟩:=hc hyp
 intro K Q hK
 unfold Oper.wp
 rw [hrun hb,Oper.upon_enter]
 have hlt:∀ b,B b→b<w.heap.size:=fun b hb=>by
  obtain ⟨⟨l,hl⟩,_⟩:=hB b hb
  exact h.own b l hl
 refine (hcall w (fun b=>σ.I b∨B b) σ.κ vs.toArray ⟨(h.new _ (Nat.le_refl _)).2,h.lay.bw (fun _ h=>.inl h) fun _ _=>rfl⟩ (fun b hb=>hb.elim (fun h1=>(h.bG b h1).1) (hlt b)) (by simpa using hyl.symm) (fun i y hi=>?_)).mono ?_
 ·have:=hyv i y hi
  simpa [Array.getD_eq_getD_getElem?] using this
 ·rintro e w' ⟨v,I',rfl,hv,hsize,hold,hup,hdn,hlt',hio⟩
  refine hK v w' {σ with I:=fun b=>I' b∧¬B b} ?_
  have hin:∀ b,σ.I b→¬B b:=fun b hb hbb=>by
   obtain ⟨⟨l,hl⟩,_⟩:=hB b hbb
   have:=(h.bG b hb).2
   rw [hl] at this;cases this
  have hsame:eS C w σ w' {σ with I:=fun b=>I' b∧¬B b} none:=
   ⟨fun b l hb _=>⟨hold b (h.own b l hb),hb⟩,fun b hb=>hold b (h.bG b hb).1,fun b hb=>⟨hup b (.inl hb),hin b hb⟩,rfl,hsize,fun b l hb=>Nat.lt_of_lt_of_le (h.own b l hb) hsize,fun b hb=>⟨hlt' b hb.1,by
    rcases hdn b hb.1 with h1 | h1
    ·rcases h1 with h1 | h1
     ·exact (h.bG b h1).2
     ·exact absurd h1 hb.2
    ·show σ.ow b=none
     cases hq:σ.ow b with
     | none=>rfl
     | some l=>have:=h.own b l hq;omega⟩⟩
  refine ⟨⟨hsize,fun b hb _=>hold b hb,hsame.up,hsame.bG,fun b hb=>?_,fun _ _=>rfl,fun _ _ _=>rfl,hio⟩,h.same hsame,fun _ _=>gP ?_,fun _ _ _ _ e=>by subst e;cases hp⟩
  ·rcases hdn b hb.1 with h1 | h1
   ·rcases h1 with h1 | h1
    ·exact .inl h1
    ·exact absurd h1 hb.2
   ·exact .inr (h.new b h1).1
  ·by_cases hts:ts=[]
   ·subst hts
    have hnoB:∀ b,¬B b:=fun b hb=>by
     obtain ⟨_,_,_,_,_,hm,_⟩:=hB b hb
     cases hm
    exact hv.mono (fun b hb=>⟨hb,hnoB b⟩) (fun _ _=>rfl) (fun _ _=>rfl)
   ·have hoff:x.off ts=true:=by
     rcases Bool.or_eq_true_iff.1 ho with h1 | h1
     ·exact absurd (List.isEmpty_iff.1 h1) hts
     ·exact h1
    exact hv.ZG hts (fun b hb=>by
     obtain ⟨⟨l,hl⟩,cs,T,fz,h1,h2⟩:=hB b hb
     exact ⟨cs,T,fz,(hold b (h.own b l hl)).trans h1,h2⟩) hoff
theorem wk{m:Nat}{f:FuncId}{xs:List AV}{vs:List Value}(hR:fV C.P R)(hΩ:fe C.P Ω)(h:ah C st a w σ)(hl:xs.length=vs.length)(hx:∀ (i:Nat)(x:AV),xs[i]? =some x→∃ n,SR C w σ st a n x (vs[i]?.getD undef))
  (he:fx R Ω C.E st m f xs=some r) (hrun:dL C.P f→(Go.execOp a.eval o).run C.P w= .ok (.enter f vs.toArray) w):b6 C o d a w σ r.2 r.1:=by
 unfold fx at he
 split at he
 ·obtain ⟨⟨ys,ts⟩,hys,he1⟩:=Option.bind_eq_some_iff.1 he
  clear he
  obtain ⟨⟨q,hp'⟩,hq,he2⟩:=Option.bind_eq_some_iff.1 he1
  clear he1
  cases q with
  | new cs=>cases he2
  | ret x=>?_
  simp only at he2
  split at he2
  ·rename_i hc
   simp only [Bool.and_eq_true] at hc
   obtain rfl:=Option.some.inj he2
   exact Gl h hl hx hys (fun hyp=>hR.pure hq hyp) hc.1 hc.2 hrun
  ·cases he2
 ·obtain ⟨⟨ys,ts⟩,hys,he1⟩:=Option.bind_eq_some_iff.1 he
  clear he
  obtain ⟨x,hq,he2⟩:=Option.bind_eq_some_iff.1 he1
  clear he1
  split at he2
  ·rename_i hc
   simp only [Bool.and_eq_true] at hc
   obtain rfl:=Option.some.inj he2
   exact Gl h hl hx hys (fun hyp=>hΩ.ret f ys x hq hyp hc.1) hc.1 hc.2 hrun
  ·cases he2
 ·cases he
theorem ah.rL(h:ah C st a w σ):∀ (ys:List Operand)(xs:List aP),cF ys xs=true→(xs.map st.ev).length=(ys.map a.eval).length∧
  ∀ (i:Nat)(x:AV),(xs.map st.ev)[i]? =some x→∃ n,SR C w σ st a n x ((ys.map a.eval)[i]?.getD undef)
 | [],[],_=>⟨rfl,fun i x hi=>by simp at hi⟩
 | y::ys,x::xs,hl=>by
  simp only [cF,Bool.and_eq_true] at hl
  obtain ⟨h1,h2⟩:=ah.rL h ys xs hl.2
  refine ⟨by simpa using h1,fun i z hi=>?_⟩
  cases i with
  | zero=>
   obtain rfl:st.ev x=z:=by simpa using hi
   cases x with
   | t n=>exact ⟨n,h.slot hl.1⟩
   | c z=>exact ⟨0,Ga (.inl (cT z (ji hl.1))) (by simpa using h.pn hl.1 (cT z (ji hl.1)))⟩
  | succ i=>simpa using h2 i z (by simpa using hi)
 | [],_::_,hl=>by simp [cF] at hl
 | _::_,[],hl=>by simp [cF] at hl
theorem Q5{m:Nat}{f:FuncId}{xs:List aP}(hR:fV C.P R)(hΩ:fe C.P Ω)(h:ah C st a w σ)(hl:aI C.P (.ca m f xs) o.op=true)(he:execOp R Ω C.E st d (.ca m f xs)=some r) :
  b6 C o d a w σ r.2 r.1:=by
 simp only [aI] at hl;split at hl
 ·rename_i c hop
  simp only [Bool.and_eq_true] at hl
  obtain ⟨h1,h2⟩:=hl
  split at h1
  ·rename_i f' hcal
   have hff:f=f':=by simpa using h1
   obtain ⟨h3,h4⟩:=h.rL _ _ h2
   simp only [execOp] at he
   refine wk hR hΩ h h3 h4 he fun hb=>?_
   have hev:a.eval (.func f')= .func (.func f') #[] #[]:=rfl
   have hcf:=dm hb (List.map a.eval c.args.toList).toArray w
   have ha:(List.map a.eval c.args.toList).toArray=c.args.map a.eval:=by apply Array.ext';simp
   rw [hff,ha] at hcf
   rw [hff,ha]
   unfold Go.execOp
   simp [hop,resolve,hcal,hev,Deferred.ofValue,invoke]
   exact hcf
  ·cases h1
 ·cases hl
theorem Q6{m:Nat}{x:aP}{xs:List aP}(hR:fV C.P R)(hΩ:fe C.P Ω)(h:ah C st a w σ)(hl:aI C.P (.cf m x xs) o.op=true)(he:execOp R Ω C.E st d (.cf m x xs)=some r) :
  b6 C o d a w σ r.2 r.1:=by
 simp only [aI] at hl;split at hl
 ·rename_i c hop
  simp only [Bool.and_eq_true] at hl
  obtain ⟨h1,h2⟩:=hl
  split at h1
  ·rename_i y hcal
   obtain ⟨h3,h4⟩:=h.rL _ _ h2
   simp only [execOp] at he
   split at he
   ·rename_i f caps hx
    have hv:=(hx▸h.cB h1 (by rw [hx];simp) (by rw [hx];rfl))
    obtain ⟨vs,hvv,hcl,hcc⟩:=hv.EE
    refine wk (vs:=c.args.toList.map a.eval++vs.toList) hR hΩ h (by rw [List.length_append,List.length_append,h3,hcl];simp) (fun i z hi=>?_) he fun hb=>?_
    ·rw [List.getElem?_append] at hi ⊢
     rw [h3] at hi
     split
     ·rename_i hlt
      rw [if_pos hlt] at hi
      exact h4 i z hi
     ·rename_i hlt
      rw [if_neg hlt] at hi
      have:=hcc _ z hi
      exact ⟨0,gP (by simpa [Array.getD_eq_getD_getElem?] using this)⟩
    ·unfold Go.execOp
     have hcf:=dm hb (List.map a.eval c.args.toList++vs.toList).toArray w
     have ha:(List.map a.eval c.args.toList++vs.toList).toArray=c.args.map a.eval++vs:=by apply Array.ext';simp
     rw [ha] at hcf
     rw [ha]
     simp [hop,resolve,hcal,hvv,Deferred.ofValue,invoke]
     exact hcf
   ·cases he
  ·cases h1
 ·cases hl
theorem uh(dp:Nat)(hp':HP)(d:Nat):an (st.back dp hp').fr d=if sF (an st.fr d)=true then .u else an st.fr d:=by
 show an (st.fr.map fun x=>(x.1,if sF x.2=true then .u else x.2)) d=_
 induction st.fr with
 | nil=>simp [an,sF]
 | cons y fr ih=>
  simp only [List.map_cons,an]
  split
  ·rfl
  ·exact ih
theorem sn{dp:Nat}{hp':HP} : ∀ {bx:List (Nat×List AV)}{d:Nat}{cs:List AV},az (kJ dp hp' bx) d=some cs→hp' ⟨dp,d⟩=some cs
 | [],d,cs,h=>by cases h
 | (d',cs')::r,d,cs,h=>by
  simp only [kJ] at h
  split at h
  ·rename_i zs hz
   simp only [az] at h
   split at h
   ·rename_i e
    subst e
    rw [hz,←h]
   ·exact sn h
  ·exact sn h
theorem wm{dp:Nat}{hp':HP}{d:Nat}{r:TypeId×List AV}(h:(st.back dp hp').rowAt dp (.s d)=some r):st.rowAt dp (.s d)=some r:=by
 simp only [St.rowAt,uh] at h ⊢
 by_cases hb:sF (an st.fr d)=true
 ·rw [if_pos hb] at h;cases h
 ·rw [if_neg hb] at h;exact h
theorem eg.xT{P:Program}{W W':Nat→Prop}{w:World}{σ σ':Sp}{L:dz}{wr wr':Prop}{t:TypeId}{es:List AV}{g cap:Nat}{cs:Array Value}(h:eg P W w σ L wr t es g cap cs)(how:σ'.ow g=some L)(hI:∀ b,σ.I b→σ'.I b)
  (hw:wr'→W' g):eg P W' w σ' L wr' t es g cap cs:=
 ⟨how,hw,h.hh,h.pos,h.nc,h.ecap,h.max,h.size,h.pure,h.one,fun j e m c he hc=>(h.cell j e m c he hc).xS hI (fun _ _=>rfl) (iC (h.pure e (List.mem_of_getElem? he)) c (List.mem_of_getElem? hc)),h.base⟩
theorem gO.xT{C C':Cx}{w:World}{σ σ':Sp}{k:Key}{cs:List AV}{vs:Array Value}{T:TypeId}(h:gO C w σ k cs vs T)(hP:C'.P=C.P)(hk:σ'.κ k=σ.κ k)(how:∀ b l,σ.ow b=some l→(l= .box k∨∃ off,l= .rowC k off)→σ'.ow b=some l)
  (hI:∀ b,σ.I b→σ'.I b) (hm:C.E.ro=false) (hW:∀ b l,σ.ow b=some l→(l= .box k∨∃ off,l= .rowC k off)→C.W b→C'.W b) (hd:∀ c∈cs,∀ k',c.bn k'=false→σ'.κ k'=σ.κ k') (hnw:∀ c∈cs,∀ g t x,c≠.w g t x):gO C' w σ' k cs vs T:=by
 have hmine:∀ off,(Pl.c k off).fq C.E=true:=fun off=>by simp [Pl.fq,hm]
 refine ⟨by rw [hk];exact h.hh,h.size,by rw [hk];exact how _ _ h.ow (.inl rfl),fun _=>by rw [hk];exact hW _ _ h.ow (.inl rfl) (h.wr (hmine 0)),h.one,fun off c hc=>?_,h.ty⟩
 have hcell:=h.cell off c hc
 have hd':=hd c (List.mem_of_getElem? hc)
 have hnw':=hnw c (List.mem_of_getElem? hc)
 cases c with
 | o t es=>
  rcases hcell with h1 | ⟨g,cap,cs',hv,hr⟩
  ·exact .inl h1
  ·refine .inr ⟨g,cap,cs',hv,?_⟩
   rw [hP]
   exact hr.xT (how _ _ hr.ow (.inr ⟨off,rfl⟩)) hI fun _=>hW _ _ hr.ow (.inr ⟨off,rfl⟩) (hr.wr (hmine off))
 | w g t x=>exact absurd rfl (hnw' g t x)
 | bp t k' u=>exact ⟨hcell.1,by rw [hk];exact hcell.2⟩
 | _=>exact VR.mono hcell hI (fun _ _=>rfl) hd'
theorem mq{n:Nat}{c:AV}(h:c.deep n=true):∀ g t x,c≠.w g t x:=fun g t x e=>by subst e;cases h
theorem Nj{I:Nat→Prop}{κ:Key→Nat}{w:World}{n:Nat}{x:AV}{v:Value}(h:VR w I κ x v)(hd:x.deep n=true){k:Key}(hk:x.bn k=false):k.dp≤n:=by
 apply Classical.byContradiction
 intro hn
 have:=DD (dp:=k.dp) (s:=k.d) (by omega) x h hd
 rw [this] at hk;cases hk
theorem gO.MG{C:Cx}{w:World}{σ:Sp}{k:Key}{cs:List AV}{vs:Array Value}{T:TypeId}{n:Nat}(h:gO C w σ k cs vs T)(hd:∀ c∈cs,c.deep n=true):∀ c∈cs,∀ k',c.bn k'=false→k'.dp≤n:=by
 intro c hc k' hk'
 obtain ⟨off,ho⟩:=List.mem_iff_getElem?.1 hc
 have hcell:=h.cell off c ho
 have hdc:=hd c hc
 cases c with
 | o t es=>cases hk'
 | r _=>cases hcell
 | v _ _ _=>cases hcell
 | q _ _ _ _=>cases hcell
 | u=>cases hk'
 | w _ _ _=>cases hdc
 | bp t k2 u=>
  have h2:k2.dp≤n:=by simpa [AV.deep] using hdc
  have h3:k2=k':=by simpa [AV.bn] using hk'
  exact h3▸h2
 | _=>exact Nj hcell hdc hk'
def Wc(C:Cx)(σ:Sp):Nat→Prop:=fun b=>C.W b∧∀ d,σ.ow b≠some (.rowS C.E.dp d)∧σ.ow b≠some (.grp C.E.dp d)
theorem ah.Lc(h:ah C st a w σ)(hro:C.E.ro=false)(hdp:∀ d cs,az st.bx d=some cs→∀ c∈cs,c.deep C.E.dp=true):wj C.P (Wc C σ) (C.E.dp+1) (fun k=>st.box C.E.dp k) w σ:=by
 refine ⟨fun k cs hk hkd=>?_,fun k cs hk hkd=>?_,h.own,h.bG,h.lay⟩
 ·obtain ⟨vs',T,hB⟩:=h.bx k cs hk
  refine ⟨vs',T,hB.xT rfl rfl (fun _ _ h _=>h) (fun _ h=>h) hro (fun b l hl hor hW=>⟨hW,fun d=>⟨fun e=>(by rw [hl] at e;rcases hor with rfl | ⟨_,rfl⟩<;>cases e),fun e=>(by rw [hl] at e;rcases hor with rfl | ⟨_,rfl⟩<;>cases e)⟩⟩) (fun _ _ _ _=>rfl) fun c hc=>?_⟩
  by_cases hkk:k.dp=C.E.dp
  ·simp only [St.box,hkk,if_true] at hk
   exact mq (hdp _ _ hk c hc)
  ·simp only [St.box,if_neg hkk] at hk
   exact mq ((h.hpd k cs hkk hk).2 c hc)
 ·by_cases hkk:k.dp=C.E.dp
  ·refine ⟨by omega,?_⟩
   simp only [St.box,hkk,if_true] at hk
   rw [hkk]
   exact hdp _ _ hk
  ·simp only [St.box,if_neg hkk] at hk
   obtain ⟨h1,h2⟩:=h.hpd k cs hkk hk
   exact ⟨by omega,h2⟩
theorem ah.called{w':World}{σ1:Sp}{hp':HP}(h:ah C st a w σ)(hst:dA (tv C.P (Wc C σ) (C.E.dp+1)) w σ w' σ1)(hH:wj C.P (Wc C σ) (C.E.dp+1) hp' w' σ1) :
  dA C w σ w' {σ1 with κ:=σ.κ}∧ah C (st.back C.E.dp hp') a w' {σ1 with κ:=σ.κ}:=by
 have hk1:∀ k:Key,k.dp≤C.E.dp→σ1.κ k=σ.κ k:=fun k hk=>hst.kap k (show k.dp<C.E.dp+1 by omega)
 have hnW:∀ b,¬C.W b→¬(C.W b∧∀ d,σ.ow b≠some (.rowS C.E.dp d)∧σ.ow b≠some (.grp C.E.dp d)):=fun b hb hb'=>hb hb'.1
 have hrowS:∀ g d,σ.ow g=some (.rowS C.E.dp d)→w'.heap[g]? =w.heap[g]? ∧σ1.ow g=some (.rowS C.E.dp d):=fun g d hg=>
  have hn:¬(C.W g∧∀ d,σ.ow g≠some (.rowS C.E.dp d)∧σ.ow g≠some (.grp C.E.dp d)):=fun hh=>(hh.2 d).1 hg
  ⟨hst.bw g (h.own g _ hg) hn,(hst.ow g (h.own g _ hg) hn).trans hg⟩
 have hgrp:∀ g d,σ.ow g=some (.grp C.E.dp d)→w'.heap[g]? =w.heap[g]? ∧σ1.ow g=some (.grp C.E.dp d):=fun g d hg=>
  have hn:¬(C.W g∧∀ d,σ.ow g≠some (.rowS C.E.dp d)∧σ.ow g≠some (.grp C.E.dp d)):=fun hh=>(hh.2 d).2 hg
  ⟨hst.bw g (h.own g _ hg) hn,(hst.ow g (h.own g _ hg) hn).trans hg⟩
 refine ⟨⟨hst.size,fun b hb hW=>hst.bw b hb (hnW b hW),hst.up,hst.bG,fun b hb=>(hst.dn b hb).imp id fun h=>h.1,fun _ _=>rfl,fun b hb hW=>hst.ow b hb (hnW b hW),hst.io⟩,?_⟩
 refine ⟨h.size,h.defers,fun d=>?_,fun k cs hk=>?_,fun k cs hne hk=>?_,hH.own,hH.bG,fun b hb=>h.new b (Nat.le_trans hst.size hb),hH.lay⟩
 ·rw [uh]
  split
  ·exact VR.u _
  ·rename_i hb
   have hx0:=h.fr d
   generalize an st.fr d=y at hx0 hb
   show SR C w' {σ1 with κ:=σ.κ} _ a d y _
   cases y with
   | o t es=>exact OwnAt.bw (C:=C) hx0 (fun g hg=>hrowS g d hg) hst.up hst.bG
   | r pl=>
    cases pl with
    | c k off=>exact absurd rfl hb
    | s d'=>
     intro hs
     obtain ⟨r,hr⟩:=Option.isSome_iff_exists.1 hs
     exact hx0 (by rw [wm hr];rfl)
   | v pl lo len=>
    cases pl with
    | c k off=>exact absurd rfl hb
    | s d'=>
     intro t es ht hle
     exact hx0 t es (wm ht) hle
   | q pl i sz off=>
    cases pl with
    | c k off=>exact absurd rfl hb
    | s d'=>
     intro t es ht hle
     exact hx0 t es (wm ht) hle
   | w g t x=>exact mm.bw hx0 (fun b hb=>hgrp b g hb) fun _ h=>h
   | _=>exact VR.mono hx0 hst.up hst.bG fun _ _=>rfl
 ·have hkp:hp' k=some cs∧k.dp≤C.E.dp:=by
   by_cases hkk:k.dp=C.E.dp
   ·simp only [St.box,hkk,if_true] at hk
    have:=sn hk
    refine ⟨?_,by omega⟩
    rw [←hkk] at this
    exact this
   ·simp only [St.box,if_neg hkk,St.back] at hk
    split at hk
    ·exact ⟨hk,by omega⟩
    ·cases hk
  obtain ⟨vs',T,hB⟩:=hH.bx k cs hkp.1 (by omega)
  have hdeep:=(hH.deep k cs hkp.1 (by omega)).2
  exact ⟨vs',T,hB.xT rfl (hk1 k hkp.2).symm (fun _ _ h _=>h) (fun _ h=>h) rfl (fun b l _ _ hW=>hW.1) (fun c hc k' hk'=>(hk1 k' (Nat.le_trans (hB.MG hdeep c hc k' hk') hkp.2)).symm) fun c hc=>mq (hdeep c hc)⟩
 ·simp only [St.back] at hk
  split at hk
  ·rename_i hlt
   exact ⟨hlt,(hH.deep k cs hk (by omega)).2⟩
  ·cases hk
theorem DG{f:FuncId}{xs:List AV}{vs:List Value}{x:AV}{hp':HP}(hro:C.E.ro=false)(h:ah C st a w σ)(hl:xs.length=vs.length)(hx:∀ (i:Nat)(x:AV),xs[i]? =some x→∃ n,SR C w σ st a n x (vs[i]?.getD undef))
  (hcp:∀ x∈xs,x.copy=true) (hdp:∀ d cs,az st.bx d=some cs→∀ c∈cs,c.deep C.E.dp=true) (hc:sB C.P (C.E.dp+1) f xs (fun k=>st.box C.E.dp k) x hp')
  (hrun:dL C.P f→(Go.execOp a.eval o).run C.P w= .ok (.enter f vs.toArray) w):b6 C o d a w σ (st.back C.E.dp hp') x:=by
 obtain ⟨hpx,hb,hcall⟩:=hc
 intro K Q hK
 unfold Oper.wp
 rw [hrun hb,Oper.upon_enter]
 refine (hcall (Wc C σ) w σ vs.toArray (fun b hb=>⟨⟨(h.new b hb).1,fun d=>⟨fun e=>?_,fun e=>?_⟩⟩,(h.new b hb).2⟩) (h.Lc hro hdp) (by simpa using hl.symm) (fun i y hi=>?_)).mono ?_
 ·have:=h.own b _ e;omega
 ·have:=h.own b _ e;omega
 ·obtain ⟨n,hn⟩:=hx i y hi
  have:=hn.xL (hcp y (List.mem_of_getElem? hi))
  simpa [Array.getD_eq_getD_getElem?] using this
 ·rintro e w' ⟨v,σ1,rfl,hv,hst,hH⟩
  obtain ⟨h1,h2⟩:=h.called hst hH
  exact hK v w' {σ1 with κ:=σ.κ} ⟨h1,h2,fun _ _=>gP (hv.xS (fun _ h=>h) (fun _ _=>rfl) hpx),fun _ _ _ _ e=>by subst e;cases hpx⟩
def dz.YY:dz→Nat
 | .box k=>k.dp
 | .rowS dp _=>dp
 | .rowC k _=>k.dp
 | .grp dp _=>dp
theorem ah.W1{d:Nat}{cs:List AV}{vs:Array Value}{T:TypeId}{g:Nat}{ow':Nat→Option dz}(h:ah C st a w σ)(how:∀ b l,σ.ow b=some l→l.YY≤C.E.dp→ow' b=some l)(hown:∀ b l,ow' b=some l→b<w.heap.size)(himm:∀ b,σ.I b→ow' b=none)
  (hh:w.heap[g]? =some (.cells vs T (0,0))) (hsz:vs.size=cs.length) (hg:ow' g=some (.box ⟨C.E.dp,d⟩)) (hW:C.W g) (h1:∀ c∈cs,c.one=true∨c= .u)
  (hcell:∀ (off:Nat)(c:AV),cs[off]? =some c→match c with
   | .o t es=>OwnAt C.P C.W w ⟨σ.κ,ow',σ.I⟩ (.rowC ⟨C.E.dp,d⟩ off) True t es (vs.getD off undef)
   | c=>c.pure=true∧VR w σ.I σ.κ c (vs.getD off undef))
  (hfr:∀ d',(an st.fr d').bn ⟨C.E.dp,d⟩=true) (hbx:∀ d' cs',az st.bx d'=some cs'→∀ c∈cs',c.bn ⟨C.E.dp,d⟩=true) :
  ah C {st with bx:=(d,cs)::st.bx} a w ⟨fun k=>if k=⟨C.E.dp,d⟩ then g else σ.κ k,ow',σ.I⟩:=by
 have hhp:=yz h d
 have hkap:∀ k,k≠⟨C.E.dp,d⟩→(if k=⟨C.E.dp,d⟩ then g else σ.κ k)=σ.κ k:=fun k hk=>if_neg hk
 have hnk:∀ (x:AV),x.bn ⟨C.E.dp,d⟩=true→∀ k,x.bn k=false→k≠⟨C.E.dp,d⟩:=by
  intro x hx k hk e
  subst e
  rw [hx] at hk;cases hk
 have hrow:∀ pl r,({st with bx:=(d,cs)::st.bx} : St).rowAt C.E.dp pl=some r→(∀ off,pl≠.c ⟨C.E.dp,d⟩ off)→st.rowAt C.E.dp pl=some r:=by
  intro pl r hr hne
  cases pl with
  | s d'=>exact hr
  | c k off=>
   simp only [St.rowAt,St.box] at hr ⊢
   by_cases hk:k.dp=C.E.dp
   ·have hkd:d≠k.d:=fun e=>hne off (by cases k;simp at hk e;subst hk;subst e;rfl)
    simp only [hk,if_true,az,if_neg hkd] at hr ⊢
    exact hr
   ·simp only [if_neg hk] at hr ⊢
    exact hr
 refine ⟨h.size,h.defers,fun d'=>?_,fun k cs' hk=>?_,h.hpd,hown,fun b hb=>⟨(h.bG b hb).1,himm b hb⟩,h.new,h.lay⟩
 ·have hx:=h.fr d'
  have hn:=hfr d'
  have hpv:∀ pl,(∀ off,pl≠.c ⟨C.E.dp,d⟩ off)→du w ⟨fun k=>if k=⟨C.E.dp,d⟩ then g else σ.κ k,ow',σ.I⟩ a pl=du w σ a pl:=by
   intro pl hne
   cases pl with
   | s d''=>rfl
   | c k off=>
    have:k≠⟨C.E.dp,d⟩:=fun e=>hne off (by rw [e])
    simp only [du,if_neg this]
  generalize an st.fr d'=x at hx hn ⊢
  show SR _ _ _ _ _ _ x _
  cases x with
  | o t es=>exact OwnAt.bw (C:=C) hx (fun g hg=>⟨rfl,how _ _ hg (Nat.le_refl _)⟩) (fun _ h=>h) (fun _ _=>rfl)
  | r pl=>
   have hne:∀ off,pl≠.c ⟨C.E.dp,d⟩ off:=fun off e=>by subst e;simp [AV.bn] at hn
   intro hsm
   obtain ⟨r,hr⟩:=Option.isSome_iff_exists.1 hsm
   rw [hpv pl hne]
   exact hx (by rw [hrow pl r hr hne];rfl)
  | v pl lo len=>
   have hne:∀ off,pl≠.c ⟨C.E.dp,d⟩ off:=fun off e=>by subst e;simp [AV.bn] at hn
   intro t es ht hll
   rw [hpv pl hne]
   exact hx t es (hrow pl _ ht hne) hll
  | q pl i sz off=>
   have hne:∀ off,pl≠.c ⟨C.E.dp,d⟩ off:=fun off e=>by subst e;simp [AV.bn] at hn
   intro t es ht hll
   rw [hpv pl hne]
   exact hx t es (hrow pl _ ht hne) hll
  | w g t x=>exact mm.bw hx (fun b hb=>⟨rfl,how _ _ hb (Nat.le_refl _)⟩) fun _ h=>h
  | _=>exact VR.mono hx (fun _ h=>h) (fun _ _=>rfl) fun k hk=>hkap k (hnk _ hn k hk)
 ·by_cases hK:k=⟨C.E.dp,d⟩
  ·subst hK
   simp only [St.box,if_true,az] at hk
   obtain rfl:=Option.some.inj hk
   refine ⟨vs,T,by simp only [if_true];exact hh,hsz,by simp only [if_true];exact hg,fun _=>by simp only [if_true];exact hW,h1,fun off c hc=>?_,fun t _ _ ht=>by obtain ⟨m,hm⟩:=List.mem_iff_getElem?.1 ht;cases (hcell m _ hm).1⟩
   have hv:=hcell off c hc
   by_cases ho:∃ t es,c= .o t es
   ·obtain ⟨t,es,rfl⟩:=ho
    rcases hv with hv | ⟨g',cap,cs',hv,hr⟩
    ·exact .inl hv
    ·exact .inr ⟨g',cap,cs',hv,⟨hr.ow,fun _=>hr.wr trivial,hr.hh,hr.pos,hr.nc,hr.ecap,hr.max,hr.size,hr.pure,hr.one,fun j e m c he hc=>(hr.cell j e m c he hc).xS (fun _ h=>h) (fun _ _=>rfl) (iC (hr.pure e (List.mem_of_getElem? he)) c (List.mem_of_getElem? hc)),hr.base⟩⟩
   ·split at hv
    ·exact absurd ⟨_,_,rfl⟩ ho
    ·exact JK (hv.2.xS (fun _ h=>h) (fun _ _=>rfl) hv.1)
  ·have hk':st.box C.E.dp k=some cs':=by
    simp only [St.box] at hk ⊢
    by_cases hkd:k.dp=C.E.dp
    ·have hne:d≠k.d:=fun e=>hK (by cases k;simp at hkd e;subst hkd;subst e;rfl)
     simpa only [hkd,if_true,az,if_neg hne] using hk
    ·simpa only [if_neg hkd] using hk
   obtain ⟨vs',T',hB⟩:=h.bx k cs' hk'
   have hkdp:k.dp≤C.E.dp:=by
    by_cases hkd:k.dp=C.E.dp
    ·omega
    ·simp only [St.box,if_neg hkd] at hk'
     exact Nat.le_of_lt (h.hpd k cs' hkd hk').1
   have hmem:∀ c∈cs',c.bn ⟨C.E.dp,d⟩=true:=by
    by_cases hkd:k.dp=C.E.dp
    ·simp only [St.box,hkd,if_true] at hk'
     exact hbx _ _ hk'
    ·simp only [St.box,if_neg hkd] at hk'
     exact hhp k cs' hkd hk'
   refine ⟨vs',T',by simp only [if_neg hK];exact hB.hh,hB.size,by simp only [if_neg hK];exact how _ _ hB.ow hkdp,fun hw=>by simp only [if_neg hK];exact hB.wr hw,hB.one,fun off c hc=>?_,hB.ty⟩
   exact CR.bw (C:=C) (hB.cell off c hc) (fun g hg=>⟨rfl,how _ _ hg hkdp⟩) (fun _ h=>h) (fun _ _=>rfl) (fun k hk=>hkap k (hnk c (hmem c (List.mem_of_getElem? hc)) k hk)) fun b g hg=>⟨rfl,how _ _ hg (Nat.le_refl _)⟩
noncomputable def jV(W:Nat→Prop)(σ:Sp)(kk:Key)(k':Key):Nat→Option dz:=fun b=>open Classical in match σ.ow b with
 | some (.box k)=>if k=kk∧W b then some (.box k') else some (.box k)
 | some (.rowC k off)=>if k=kk∧W b then some (.rowC k' off) else some (.rowC k off)
 | x=>x
theorem Hf{W:Nat→Prop}{σ:Sp}{kk k':Key}{b:Nat}{l:dz}(h:σ.ow b=some l)(hd:l.YY≠kk.dp):jV W σ kk k' b=some l:=by
 unfold jV
 rw [h]
 cases l with
 | box k=>simp only;rw [if_neg (fun e=>hd (by rw [←e.1];rfl))]
 | rowS dp d=>rfl
 | grp dp g=>rfl
 | rowC k off=>simp only;rw [if_neg (fun e=>hd (by rw [←e.1];rfl))]
theorem IJ{W:Nat→Prop}{σ:Sp}{kk k':Key}{b:Nat}(h:¬W b):jV W σ kk k' b=σ.ow b:=by
 unfold jV
 cases hb:σ.ow b with
 | none=>rfl
 | some l=>cases l<;>simp [h]
theorem Hg{W:Nat→Prop}{σ:Sp}{kk k':Key}{b:Nat}{l:dz}(h:jV W σ kk k' b=some l):∃ l',σ.ow b=some l':=by
 unfold jV at h
 cases hb:σ.ow b with
 | none=>rw [hb] at h;cases h
 | some l'=>exact ⟨l',rfl⟩
theorem Hh{W:Nat→Prop}{σ:Sp}{kk k':Key}{b:Nat}(h:σ.ow b=none):jV W σ kk k' b=none:=by
 unfold jV;rw [h]
theorem JR{f:FuncId}{xs:List AV}{vs:List Value}{cs:List AV}{hp':HP}{dd:Nat}(hro:C.E.ro=false)(h:ah C st a w σ)(hl:xs.length=vs.length)(hx:∀ (i:Nat)(x:AV),xs[i]? =some x→∃ n,SR C w σ st a n x (vs[i]?.getD undef))
  (hcp:∀ x∈xs,x.copy=true) (hdp:∀ d cs,az st.bx d=some cs→∀ c∈cs,c.deep C.E.dp=true) (hc:Da C.P (C.E.dp+1) f xs (fun k=>st.box C.E.dp k) cs hp') (hno:z8 C.E.dp (st.back C.E.dp hp') dd=true)
  (hrun:dL C.P f→(Go.execOp a.eval o).run C.P w= .ok (.enter f vs.toArray) w):b6 C o d a w σ {(st.back C.E.dp hp') with bx:=(dd,cs)::(st.back C.E.dp hp').bx} (.p ⟨C.E.dp,dd⟩ 0):=by
 obtain ⟨hcs,hb,hcall⟩:=hc
 simp only [z8,Bool.and_eq_true] at hno
 intro K Q hK
 unfold Oper.wp
 rw [hrun hb,Oper.upon_enter]
 refine (hcall (Wc C σ) w σ vs.toArray (fun b hb=>⟨⟨(h.new b hb).1,fun d=>⟨fun e=>?_,fun e=>?_⟩⟩,(h.new b hb).2⟩) (h.Lc hro hdp) (by simpa using hl.symm) (fun i y hi=>?_)).mono ?_
 ·have:=h.own b _ e;omega
 ·have:=h.own b _ e;omega
 ·obtain ⟨n,hn⟩:=hx i y hi
  have:=hn.xL (hcp y (List.mem_of_getElem? hi))
  simpa [Array.getD_eq_getD_getElem?] using this
 ·rintro e w' ⟨σ1,kk,vs',T,rfl,hkk,hB,hst,hH⟩
  obtain ⟨h1,h2⟩:=h.called hst hH
  have hmine:∀ off,(Pl.c kk off).fq (tv C.P (Wc C σ) (C.E.dp+1)).E=true:=fun off=>by simp [Pl.fq,tv]
  have hWg:Wc C σ (σ1.κ kk):=hB.wr (hmine 0)
  have hadopt:=h2.W1 (d:=dd) (cs:=cs) (vs:=vs') (T:=T) (g:=σ1.κ kk) (ow':=jV (Wc C σ) σ1 kk ⟨C.E.dp,dd⟩)
   (fun b l hb hd=>Hf hb (by rw [hkk];omega)) (fun b l hb=>by obtain ⟨l',h3⟩:=Hg hb;exact hH.own b l' h3) (fun b hb=>Hh (hH.bG b hb).2)
   hB.hh hB.size (by unfold jV;rw [hB.ow];simp [hWg]) hWg.1 hB.one (fun off c hc=>by
    have hcell:=hB.cell off c hc
    have hnew:=List.all_eq_true.1 hcs c (List.mem_of_getElem? hc)
    unfold CR at hcell
    split
    ·rcases hcell with h3 | ⟨g,cap,cs',hv,hr⟩
     ·exact .inl h3
     ·have hw:Wc C σ g:=hr.wr (hmine off)
      refine .inr ⟨g,cap,cs',hv,⟨?_,fun _=>hw.1,hr.hh,hr.pos,hr.nc,hr.ecap,hr.max,hr.size,hr.pure,hr.one,fun j e m c he hc=>(hr.cell j e m c he hc).xS (fun _ h=>h) (fun _ _=>rfl) (iC (hr.pure e (List.mem_of_getElem? he)) c (List.mem_of_getElem? hc)),hr.base⟩⟩
      show jV (Wc C σ) σ1 kk ⟨C.E.dp,dd⟩ g=_
      unfold jV;rw [hr.ow];simp [hw]
    ·rename_i hne
     have hp:c.pure=true:=by
      cases c with
      | o t es=>exact absurd rfl (hne _ _)
      | _=>exact hnew
     refine ⟨hp,?_⟩
     split at hcell
     ·exact absurd rfl (hne _ _)
     ·cases hp
     ·cases hp
     ·exact hcell.xS (fun _ h=>h) (fun _ _=>rfl) hp)
   (jj rfl _ hno.1.2) (fun d' cs' hb c hm=>jY (ka _ hno.2 d' cs' hb) c hm)
  refine hK _ w' ⟨fun k=>if k=⟨C.E.dp,dd⟩ then σ1.κ kk else σ.κ k,jV (Wc C σ) σ1 kk ⟨C.E.dp,dd⟩,σ1.I⟩ ⟨⟨h1.size,h1.bw,h1.up,h1.bG,h1.dn,fun k hk=>?_,fun b hb hW=>?_,h1.io⟩,hadopt,fun _ _=>gP (EH (by simp)),fun _ _ _ _ e=>by cases e⟩
  ·show (if k=⟨C.E.dp,dd⟩ then _ else _)=_
   rw [if_neg (fun e=>by subst e;exact Nat.lt_irrefl _ hk)]
  ·show jV _ _ _ _ b=_
   rw [IJ (fun hh=>hW hh.1)]
   exact h1.ow b hb hW
theorem gO.ro{C:Cx}{w:World}{σ:Sp}{k:Key}{cs:List AV}{vs:Array Value}{T:TypeId}{dp:Nat}(h:gO C w σ k cs vs T)(hk:k.dp<dp)(hnw:∀ c∈cs,∀ g t x,c≠.w g t x):gO (ME C.P w dp) w σ k cs vs T:=by
 have hmine:∀ off,¬(Pl.c k off).fq (ME C.P w dp).E=true:=fun off=>by
  intro hm
  have:k.dp=dp:=by simp [Pl.fq,ME] at hm;exact of_decide_eq_true hm
  omega
 refine ⟨h.hh,h.size,h.ow,fun hm=>absurd hm (hmine 0),h.one,fun off c hc=>?_,h.ty⟩
 have hcell:=h.cell off c hc
 have hnw':=hnw c (List.mem_of_getElem? hc)
 cases c with
 | o t es=>
  rcases hcell with h1 | ⟨g,cap,cs',hv,hr⟩
  ·exact .inl h1
  ·exact .inr ⟨g,cap,cs',hv,hr.xT hr.ow (fun _ h=>h) fun hm=>absurd hm (hmine off)⟩
 | w g t x=>exact absurd rfl (hnw' g t x)
 | _=>exact hcell
theorem JS{f:FuncId}{xs:List AV}{vs:List Value}{x:AV}{h0:HP}(h:ah C st a w σ)(hl:xs.length=vs.length)(hx:∀ (i:Nat)(x:AV),xs[i]? =some x→∃ n,SR C w σ st a n x (vs[i]?.getD undef))
  (hcp:∀ x∈xs,x.copy=true) (hle:∀ k cs,h0 k=some cs→st.box C.E.dp k=some cs) (hdp:∀ k cs,h0 k=some cs→k.dp=C.E.dp→∀ c∈cs,c.deep C.E.dp=true) (hc:Db C.P (C.E.dp+1) f xs h0 x)
  (hrun:dL C.P f→(Go.execOp a.eval o).run C.P w= .ok (.enter f vs.toArray) w):b6 C o d a w σ st x:=by
 obtain ⟨hpx,hb,hcall⟩:=hc
 have hk:∀ k cs,h0 k=some cs→k.dp<C.E.dp+1∧∀ c∈cs,c.deep k.dp=true:=by
  intro k cs hk
  by_cases hkk:k.dp=C.E.dp
  ·exact ⟨by omega,by rw [hkk];exact hdp k cs hk hkk⟩
  ·have:=hle k cs hk
   simp only [St.box,if_neg hkk] at this
   obtain ⟨h1,h2⟩:=h.hpd k cs hkk this
   exact ⟨by omega,h2⟩
 intro K Q hK
 unfold Oper.wp
 rw [hrun hb,Oper.upon_enter]
 refine (hcall w σ vs.toArray (h.new _ (Nat.le_refl _)).2 ⟨fun k cs hk' hkd=>?_,fun k cs hk' _=>hk k cs hk',h.own,h.bG,h.lay⟩ (by simpa using hl.symm) (fun i y hi=>?_)).mono ?_
 ·obtain ⟨vs',T,hB⟩:=h.bx k cs (hle k cs hk')
  exact ⟨vs',T,hB.ro hkd fun c hc=>mq ((hk k cs hk').2 c hc)⟩
 ·obtain ⟨n,hn⟩:=hx i y hi
  have:=hn.xL (hcp y (List.mem_of_getElem? hi))
  simpa [Array.getD_eq_getD_getElem?] using this
 ·rintro e w' ⟨v,I',rfl,hv,hsize,hold,hup,hdn,hlt',hio⟩
  have hsame:eS C w σ w' {σ with I:=I'} none:=
   ⟨fun b l hb _=>⟨hold b (h.own b l hb),hb⟩,fun b hb=>hold b (h.bG b hb).1,hup,rfl,hsize,fun b l hb=>Nat.lt_of_lt_of_le (h.own b l hb) hsize,fun b hb=>⟨hlt' b hb,by
    rcases hdn b hb with h1 | h1
    ·exact (h.bG b h1).2
    ·show σ.ow b=none
     cases hq:σ.ow b with
     | none=>rfl
     | some l=>have:=h.own b l hq;omega⟩⟩
  refine hK v w' {σ with I:=I'} ⟨⟨hsize,fun b hb _=>hold b hb,hup,fun b hb=>hold b (h.bG b hb).1,fun b hb=>(hdn b hb).imp id fun h1=>(h.new b h1).1,fun _ _=>rfl,fun _ _ _=>rfl,hio⟩,h.same hsame,fun _ _=>gP hv,fun _ _ _ _ e=>by subst e;cases hpx⟩
theorem y0{v:St}{f:FuncId}{xs:List AV}{vs:List Value}(hR:fV C.P R)(h:ah C st a w σ)(hbx:∀ k cs,v.box C.E.dp k=some cs→st.box C.E.dp k=some cs)(hl:xs.length=vs.length)(hx:∀ (i:Nat)(x:AV),xs[i]? =some x→∃ n,SR C w σ st a n x (vs[i]?.getD undef))
  (he:kh R C.E v f xs=some r) (hrun:dL C.P f→(Go.execOp a.eval o).run C.P w= .ok (.enter f vs.toArray) w):r.2=v∧b6 C o d a w σ st r.1:=by
 unfold kh at he
 split at he
 ·rename_i hc
  simp only [Bool.and_eq_true] at hc
  obtain ⟨⟨q,hp'⟩,hq,he2⟩:=Option.bind_eq_some_iff.1 he
  clear he
  cases q with
  | new cs=>cases he2
  | ret x=>?_
  simp only at he2
  split at he2
  ·rename_i hp
   obtain rfl:=Option.some.inj he2
   have hcp':∀ x∈xs,x.copy=true:=fun x hx=>List.all_eq_true.1 hc.1 x hx
   refine ⟨rfl,JS h hl hx hcp' hbx (fun k cs hk hkd c hcm=>?_) (hR.ro (C.E.dp+1) f xs _ x hp' hq hcp') hrun⟩
   simp only [St.box,hkd,if_true] at hk
   exact jE (ka (p:=fun y=>AV.dB C.E.dp y) _ hc.2 _ cs hk) c hcm
  ·cases he2
 ·cases he
theorem HI{v:St}{f:FuncId}{xs:List aP}(hR:fV C.P R)(h:ah C st a w σ)(hev:∀ x,v.ev x≠.u→st.ev x=v.ev x)(hbx:∀ k cs,v.box C.E.dp k=some cs→st.box C.E.dp k=some cs)(hl:aI C.P (.c3 f xs) o.op=true)(he:execOp R Ω C.E v d (.c3 f xs)=some r) :
  r.2=v∧b6 C o d a w σ st r.1:=by
 simp only [aI] at hl;split at hl
 ·rename_i c hop
  simp only [Bool.and_eq_true] at hl
  obtain ⟨h1,h2⟩:=hl
  split at h1
  ·rename_i f' hcal
   have hff:f=f':=by simpa using h1
   obtain ⟨h3,h4⟩:=h.rL _ _ h2
   simp only [execOp] at he
   have hm:xs.map st.ev=xs.map v.ev:=by
    apply List.map_congr_left
    intro x hxm
    refine hev x fun e=>?_
    unfold kh at he
    split at he
    ·rename_i hc
     simp only [Bool.and_eq_true] at hc
     have:=List.all_eq_true.1 hc.1 _ (List.mem_map_of_mem hxm)
     rw [e] at this;cases this
    ·cases he
   rw [hm] at h3 h4
   refine y0 hR h hbx h3 h4 he fun hb=>?_
   have hev:a.eval (.func f')= .func (.func f') #[] #[]:=rfl
   have hcf:=dm hb (List.map a.eval c.args.toList).toArray w
   have ha:(List.map a.eval c.args.toList).toArray=c.args.map a.eval:=by apply Array.ext';simp
   rw [hff,ha] at hcf
   rw [hff,ha]
   unfold Go.execOp
   simp [hop,resolve,hcal,hev,Deferred.ofValue,invoke]
   exact hcf
  ·cases h1
 ·cases hl
theorem DH:∀ l:List AV,l.all AV.copy=true→AV.lI l=true
 | [],_=>rfl
 | z::zs,h=>by
  simp only [List.all_cons,Bool.and_eq_true] at h
  simp only [AV.lI,Bool.and_eq_true]
  exact ⟨h.1,DH zs h.2⟩
theorem HJ{v:St}{x:aP}{xs:List aP}(hR:fV C.P R)(h:ah C st a w σ)(hev:∀ x,v.ev x≠.u→st.ev x=v.ev x)(hbx:∀ k cs,v.box C.E.dp k=some cs→st.box C.E.dp k=some cs)(hl:aI C.P (.d3 x xs) o.op=true)(he:execOp R Ω C.E v d (.d3 x xs)=some r) :
  r.2=v∧b6 C o d a w σ st r.1:=by
 simp only [aI] at hl;split at hl
 ·rename_i c hop
  simp only [Bool.and_eq_true] at hl
  obtain ⟨h1,h2⟩:=hl
  split at h1
  ·rename_i y hcal
   obtain ⟨h3,h4⟩:=h.rL _ _ h2
   simp only [execOp] at he
   split at he
   ·rename_i f caps hx
    have hx':st.ev x= .f f caps:=by rw [hev x (by rw [hx];simp),hx]
    have hm:xs.map st.ev=xs.map v.ev:=by
     apply List.map_congr_left
     intro z hzm
     refine hev z fun e=>?_
     unfold kh at he
     split at he
     ·rename_i hc
      simp only [Bool.and_eq_true] at hc
      have:=List.all_eq_true.1 hc.1 _ (List.mem_append_left _ (List.mem_map_of_mem hzm))
      rw [e] at this;cases this
     ·cases he
    rw [hm] at h3 h4
    have hcpf:AV.copy (.f f caps)=true:=by
     unfold kh at he
     split at he
     ·rename_i hc
      simp only [Bool.and_eq_true,List.all_append] at hc
      show AV.lI caps=true
      exact DH caps hc.1.2
     ·cases he
    have hv:=(hx'▸h.cB h1 (by rw [hx'];simp) (by rw [hx'];exact (by cases caps<;>rfl)))
    obtain ⟨vs,hvv,hcl,hcc⟩:=hv.EE
    refine y0 (vs:=c.args.toList.map a.eval++vs.toList) hR h hbx (by rw [List.length_append,List.length_append,h3,hcl];simp) (fun i z hi=>?_) he fun hb=>?_
    ·rw [List.getElem?_append] at hi ⊢
     rw [h3] at hi
     split
     ·rename_i hlt
      rw [if_pos hlt] at hi
      exact h4 i z hi
     ·rename_i hlt
      rw [if_neg hlt] at hi
      have:=hcc _ z hi
      exact ⟨0,gP (by simpa [Array.getD_eq_getD_getElem?] using this)⟩
    ·unfold Go.execOp
     have hcf:=dm hb (List.map a.eval c.args.toList++vs.toList).toArray w
     have ha:(List.map a.eval c.args.toList++vs.toList).toArray=c.args.map a.eval++vs:=by apply Array.ext';simp
     rw [ha] at hcf
     rw [ha]
     simp [hop,resolve,hcal,hvv,Deferred.ofValue,invoke]
     exact hcf
   ·cases he
  ·cases h1
 ·cases hl
theorem Q7{f:FuncId}{xs:List aP}(hR:fV C.P R)(h:ah C st a w σ)(hl:aI C.P (.cn f xs) o.op=true)(he:execOp R Ω C.E st d (.cn f xs)=some r):b6 C o d a w σ r.2 r.1:=by
 simp only [aI] at hl;split at hl
 ·rename_i c hop
  simp only [Bool.and_eq_true] at hl
  obtain ⟨h1,h2⟩:=hl
  split at h1
  ·rename_i f' hcal
   have hff:f=f':=by simpa using h1
   obtain ⟨h3,h4⟩:=h.rL _ _ h2
   simp only [execOp] at he
   obtain ⟨dd,hdd,he1⟩:=Option.bind_eq_some_iff.1 he
   clear he
   unfold uZ at he1
   split at he1
   ·rename_i hc
    simp only [Bool.and_eq_true,Bool.not_eq_true'] at hc
    obtain ⟨⟨hro,hcp⟩,hdp⟩:=hc
    obtain ⟨⟨q,hp'⟩,hq,he2⟩:=Option.bind_eq_some_iff.1 he1
    clear he1
    cases q with
    | ret x=>cases he2
    | new cs=>?_
    simp only at he2
    split at he2
    ·rename_i hno
     obtain rfl:=Option.some.inj he2
     have hcp':∀ x∈xs.map st.ev,x.copy=true:=fun x hx=>List.all_eq_true.1 hcp x hx
     refine JR hro h h3 h4 hcp' (fun d cs hb c hc=>jE (ka (p:=fun y=>AV.dB C.E.dp y) _ hdp d cs hb) c hc) (hR.new (C.E.dp+1) f _ _ cs hp' hq hcp') hno fun hb=>?_
     have hev:a.eval (.func f')= .func (.func f') #[] #[]:=rfl
     have hcf:=dm hb (List.map a.eval c.args.toList).toArray w
     have ha:(List.map a.eval c.args.toList).toArray=c.args.map a.eval:=by apply Array.ext';simp
     rw [hff,ha] at hcf
     rw [hff,ha]
     unfold Go.execOp
     simp [hop,resolve,hcal,hev,Deferred.ofValue,invoke]
     exact hcf
    ·cases he2
   ·cases he1
  ·cases h1
 ·cases hl
theorem Q8{t:TypeId}{f:FuncId}{xs:List aP}(hΩ:fe C.P Ω)(h:ah C st a w σ)(hl:aI C.P (.cr t f xs) o.op=true)(he:execOp R Ω C.E st d (.cr t f xs)=some r):b6 C o d a w σ r.2 r.1:=by
 simp only [aI] at hl;split at hl
 ·rename_i c hop
  simp only [Bool.and_eq_true] at hl
  obtain ⟨h1,h2⟩:=hl
  split at h1
  ·rename_i f' hcal
   have hff:f=f':=by simpa using h1
   obtain ⟨h3,h4⟩:=h.rL _ _ h2
   simp only [execOp] at he
   obtain ⟨dd,hdd,he1⟩:=Option.bind_eq_some_iff.1 he
   clear he
   unfold Bq at he1
   split at he1
   ·rename_i hp
    obtain ⟨x,hx,he2⟩:=Option.bind_eq_some_iff.1 he1
    clear he1
    split at he2
    ·split at he2
     ·rename_i t' htt
      subst htt
      obtain rfl:=Option.some.inj he2
      obtain ⟨hb,hpos,hcall⟩:=hΩ.row f _ _ hx (iq hp)
      have hrun:(Go.execOp a.eval o).run C.P w= .ok (.enter f (c.args.toList.map a.eval).toArray) w:=by
       have hev:a.eval (.func f')= .func (.func f') #[] #[]:=rfl
       have hcf:=dm hb (List.map a.eval c.args.toList).toArray w
       have ha:(List.map a.eval c.args.toList).toArray=c.args.map a.eval:=by apply Array.ext';simp
       rw [hff,ha] at hcf
       rw [hff,ha]
       unfold Go.execOp
       simp [hop,resolve,hcal,hev,Deferred.ofValue,invoke]
       exact hcf
      intro K Q hK
      unfold Oper.wp
      rw [hrun,Oper.upon_enter]
      refine (hcall w σ.I σ.κ _ (h.new _ (Nat.le_refl _)).2 (fun b hb=>(h.bG b hb).1) (by rw [List.size_toArray];exact h3.symm) (fun i y hi=>?_)).mono ?_
      ·obtain ⟨n,hn⟩:=h4 i y hi
       have:=hn.xL (cT _ (iq hp y (List.mem_of_getElem? hi)))
       simpa [Array.getD_eq_getD_getElem?] using this
      ·rintro e w' ⟨v,rfl,hv,hsize,hold,hio⟩
       rcases hv with rfl | ⟨g,cap,cs,rfl,hg,hh,hcap,hcs⟩
       ·have hsame:eS C w σ w' σ none:=⟨fun b l hb _=>⟨hold b (h.own b l hb),hb⟩,fun b hb=>hold b (h.bG b hb).1,fun _ h=>h,rfl,hsize,fun b l hb=>Nat.lt_of_lt_of_le (h.own b l hb) hsize,fun b hb=>⟨Nat.lt_of_lt_of_le (h.bG b hb).1 hsize,(h.bG b hb).2⟩⟩
        exact hK _ w' σ (ah.kA hdd ⟨hsize,fun b hb _=>hold b hb,fun _ h=>h,fun b hb=>hold b (h.bG b hb).1,fun _ h=>.inl h,fun _ _=>rfl,fun _ _ _=>rfl,hio⟩ ((h.same hsame).aT _) (.inl ⟨rfl,rfl⟩))
       ·have hgl:g<w'.heap.size:=by
         apply Classical.byContradiction
         intro hn
         rw [Array.getElem?_eq_none (by omega)] at hh
         cases hh
        have hne:∀ b,b<w.heap.size→b≠g:=fun b hb e=>by omega
        have hsame:eS C w σ w' (σ.add g (some (.rowS C.E.dp dd))) none:=by
         refine ⟨fun b l hb _=>⟨hold b (h.own b l hb),?_⟩,fun b hb=>hold b (h.bG b hb).1,fun _ h=>h,rfl,hsize,fun b l hb=>?_,fun b hb=>⟨Nat.lt_of_lt_of_le (h.bG b hb).1 hsize,?_⟩⟩
         ·simp only [Sp.add,if_neg (hne b (h.own b l hb)),hb]
         ·simp only [Sp.add] at hb
          split at hb
          ·omega
          ·exact Nat.lt_of_lt_of_le (h.own b l hb) hsize
         ·have hb':σ.I b:=hb
          simp only [Sp.add,if_neg (hne b (h.bG b hb').1)]
          exact (h.bG b hb').2
        refine hK _ w' (σ.add g (some (.rowS C.E.dp dd))) (ah.kA hdd ⟨hsize,fun b hb _=>hold b hb,fun _ h=>h,fun b hb=>hold b (h.bG b hb).1,fun _ h=>.inl h,fun _ _=>rfl,fun b hb _=>if_neg (hne b hb),hio⟩ ((h.same hsame).aT _) (.inr ⟨g,cap,cs,rfl,?_⟩))
        exact ⟨by simp [Sp.add],fun _=>(h.new g hg).1,hh,hpos,(fun e he=>by cases he),Nat.zero_le _,hcap,hcs,(fun e he=>by cases he),(fun e he=>by cases he),(fun j e m c he=>by simp at he),(h.new g hg).2⟩
     ·cases he2
    ·cases he2
   ·cases he1
  ·cases h1
 ·cases hl
theorem za{f:FuncId}{xs:List AV}{vs:List Value}(hR:fV C.P R)(hΩ:fe C.P Ω)(h:ah C st a w σ)(hl:xs.length=vs.length)(hx:∀ (i:Nat)(x:AV),xs[i]? =some x→∃ n,SR C w σ st a n x (vs[i]?.getD undef))
  (he:kg R Ω C.E st f xs=some r) (hrun:dL C.P f→(Go.execOp a.eval o).run C.P w= .ok (.enter f vs.toArray) w):b6 C o d a w σ r.2 r.1:=by
 unfold kg at he
 split at he
 ·exact wk hR hΩ h hl hx he hrun
 split at he
 ·rename_i hc
  simp only [Bool.and_eq_true,Bool.not_eq_true'] at hc
  obtain ⟨⟨hro,hcp⟩,hdp⟩:=hc
  obtain ⟨⟨q,hp'⟩,hq,he2⟩:=Option.bind_eq_some_iff.1 he
  clear he
  cases q with
  | new cs=>cases he2
  | ret x=>?_
  obtain rfl:=Option.some.inj he2
  have hcp':∀ x∈xs,x.copy=true:=fun x hx=>List.all_eq_true.1 hcp x hx
  exact DG hro h hl hx hcp' (fun d cs hb c hc=>jE (ka (p:=fun y=>AV.dB C.E.dp y) _ hdp d cs hb) c hc) (hR.ret (C.E.dp+1) f xs _ x hp' hq hcp') hrun
 ·cases he
theorem Q9{f:FuncId}{xs:List aP}(hR:fV C.P R)(hΩ:fe C.P Ω)(h:ah C st a w σ)(hl:aI C.P (.c2 f xs) o.op=true)(he:execOp R Ω C.E st d (.c2 f xs)=some r) :
  b6 C o d a w σ r.2 r.1:=by
 simp only [aI] at hl;split at hl
 ·rename_i c hop
  simp only [Bool.and_eq_true] at hl
  obtain ⟨h1,h2⟩:=hl
  split at h1
  ·rename_i f' hcal
   have hff:f=f':=by simpa using h1
   obtain ⟨h3,h4⟩:=h.rL _ _ h2
   simp only [execOp] at he
   refine za hR hΩ h h3 h4 he fun hb=>?_
   have hev:a.eval (.func f')= .func (.func f') #[] #[]:=rfl
   have hcf:=dm hb (List.map a.eval c.args.toList).toArray w
   have ha:(List.map a.eval c.args.toList).toArray=c.args.map a.eval:=by apply Array.ext';simp
   rw [hff,ha] at hcf
   rw [hff,ha]
   unfold Go.execOp
   simp [hop,resolve,hcal,hev,Deferred.ofValue,invoke]
   exact hcf
  ·cases h1
 ·cases hl
theorem Ra{x:aP}{xs:List aP}(hR:fV C.P R)(hΩ:fe C.P Ω)(h:ah C st a w σ)(hl:aI C.P (.d2 x xs) o.op=true)(he:execOp R Ω C.E st d (.d2 x xs)=some r) :
  b6 C o d a w σ r.2 r.1:=by
 simp only [aI] at hl;split at hl
 ·rename_i c hop
  simp only [Bool.and_eq_true] at hl
  obtain ⟨h1,h2⟩:=hl
  split at h1
  ·rename_i y hcal
   obtain ⟨h3,h4⟩:=h.rL _ _ h2
   simp only [execOp] at he
   split at he
   ·rename_i f caps hx
    have hv:=(hx▸h.cB h1 (by rw [hx];simp) (by rw [hx];rfl))
    obtain ⟨vs,hvv,hcl,hcc⟩:=hv.EE
    refine za (vs:=c.args.toList.map a.eval++vs.toList) hR hΩ h (by rw [List.length_append,List.length_append,h3,hcl];simp) (fun i z hi=>?_) he fun hb=>?_
    ·rw [List.getElem?_append] at hi ⊢
     rw [h3] at hi
     split
     ·rename_i hlt
      rw [if_pos hlt] at hi
      exact h4 i z hi
     ·rename_i hlt
      rw [if_neg hlt] at hi
      have:=hcc _ z hi
      exact ⟨0,gP (by simpa [Array.getD_eq_getD_getElem?] using this)⟩
    ·unfold Go.execOp
     have hcf:=dm hb (List.map a.eval c.args.toList++vs.toList).toArray w
     have ha:(List.map a.eval c.args.toList++vs.toList).toArray=c.args.map a.eval++vs:=by apply Array.ext';simp
     rw [ha] at hcf
     rw [ha]
     simp [hop,resolve,hcal,hvv,Deferred.ofValue,invoke]
     exact hcf
   ·cases he
  ·cases h1
 ·cases hl
theorem VR.other{B B':bJ}{w:World}{I:Nat→Prop}{κ:Key→Nat}{t:TypeId}(hI:∀ b,I b→b<B'.n0)(htg:∀ s,s≠t→B'.tg s=true){x:AV}{v:Value}(h : @VR B w I κ x v)(hx:x.off [t]=true) : @VR B' w I κ x v:=by
 induction h with
 | u v=>exact .u v
 | sk=>exact .sk
 | b x=>exact .b x
 | i k n=>exact .i k n
 | s l=>exact .s l
 | n=>exact .n
 | z=>exact .z
 | nf=>exact .nf
 | ni=>exact .ni
 | lnil t A cap=>exact .lnil t A cap
 | l s es g o cap cs T fz sz hI0 hh0 ht hsz hnc hsize hp h1 hcap hmax hc ih=>
  cases es with
  | nil=>exact .lnil _ _ _
  | cons e0 es=>
   have hx':(s≠0∧s≠t)∧AV.sE [t] (e0::es)=true:=by
    simpa [AV.off,Bool.and_assoc,and_assoc] using hx
   exact @VR.l B' w I κ s (e0::es) g o cap cs T fz sz hI0 hh0 (fun _=>⟨fun hg=>absurd (hI g hI0) (Nat.not_lt_of_le hg),fun _=>htg s hx'.1.2⟩) hsz hnc hsize hp h1 hcap hmax fun j e m c he hc'=>ih j e m c he hc' (Gk (jZ hx'.2 e (List.mem_of_getElem? he)) c (List.mem_of_getElem? hc'))
 | e x off g o cs T fz hI0 hh0 hp hsize h1 hc ih=>simp [AV.off] at hx
 | f g caps vs hl hc ih=>exact .f g caps vs hl fun m c hc'=>ih m c hc' (jZ (by simpa [AV.off] using hx) c (List.mem_of_getElem? hc'))
 | a cs vs hl h1 hc ih=>exact .a cs vs hl h1 fun m c hc'=>ih m c hc' (jZ (by simpa [AV.off] using hx) c (List.mem_of_getElem? hc'))
 | tp cs vs hl hc ih=>exact .tp cs vs hl fun m c hc'=>ih m c hc' (jZ (by simpa [AV.off] using hx) c (List.mem_of_getElem? hc'))
 | ifc t x v h ih=>exact .ifc t x v (ih (by simpa [AV.off] using hx))
 | p k off=>exact .p k off
theorem VR.uq{B B':bJ}{w:World}{I:Nat→Prop}{κ:Key→Nat}{t:TypeId}(hI:∀ b,I b→b<B'.n0)(htg:∀ s,s≠t→B'.tg s=true){x y:AV}{v:Value}(h : @VR B w I κ x v)(hx:AV.uq t x=some y) :
  @VR B' w I κ y v∧y.pure=true∧(x.one=true→y.one=true):=by
 unfold AV.uq at hx
 split at hx
 ·rename_i s es
  split at hx
  ·rename_i ho
   obtain rfl:=Option.some.inj hx
   refine ⟨?_,rfl,fun _=>rfl⟩
   cases h with
   | lnil _ A cap=>exact .lnil _ _ _
   | l _ _ g o cap cs T fz sz hI0 hh0 ht hsz hnc hsize hp h1 hcap hmax hc=>
    refine @VR.l B' w I κ (if s=t then 0 else s) es g o cap cs T fz sz hI0 hh0 (fun hne=>⟨fun hg=>absurd (hI g hI0) (Nat.not_lt_of_le hg),fun _=>htg _ fun e=>?_⟩) hsz hnc hsize hp h1 hcap hmax fun j e m c he hc'=>(hc j e m c he hc').other hI htg (Gk (jZ ho e (List.mem_of_getElem? he)) c (List.mem_of_getElem? hc'))
    split at e
    ·rename_i hs;rw [if_pos hs] at hne;exact hne rfl
    ·rename_i hs;exact hs e
  ·cases hx
 ·split at hx
  ·rename_i hc
   simp only [Bool.and_eq_true] at hc
   obtain rfl:=Option.some.inj hx
   exact ⟨h.other hI htg hc.2,hc.1,id⟩
  ·cases hx
theorem DI{t:TypeId} : ∀ {xs ys:List AV},AV.HT t xs=some ys→ys.length=xs.length∧∀ (m:Nat)(y:AV),ys[m]? =some y→∃ x,xs[m]? =some x∧AV.uq t x=some y
 | [],ys,h=>by
  obtain rfl:=Option.some.inj h
  exact ⟨rfl,fun m y hm=>by simp at hm⟩
 | x::xs,ys,h=>by
  obtain ⟨y,h1,h2⟩:=Option.bind_eq_some_iff.1 h
  obtain ⟨zs,h3,h4⟩:=Option.bind_eq_some_iff.1 h2
  obtain rfl:=Option.some.inj h4
  obtain ⟨h5,h6⟩:=DI h3
  refine ⟨by simp [h5],fun m z hm=>?_⟩
  cases m with
  | zero=>
    obtain rfl:y=z:=by simpa using hm
    exact ⟨x,rfl,h1⟩
  | succ m=>simpa using h6 m z (by simpa using hm)
theorem Gm{t:TypeId} : ∀ {xs ys:List AV},AV.HU t xs=some ys→ys.length=xs.length∧∀ (m:Nat)(y:AV),ys[m]? =some y→∃ x,xs[m]? =some x∧AV.Ho t x=some y
 | [],ys,h=>by
  obtain rfl:=Option.some.inj h
  exact ⟨rfl,fun m y hm=>by simp at hm⟩
 | x::xs,ys,h=>by
  obtain ⟨y,h1,h2⟩:=Option.bind_eq_some_iff.1 h
  obtain ⟨zs,h3,h4⟩:=Option.bind_eq_some_iff.1 h2
  obtain rfl:=Option.some.inj h4
  obtain ⟨h5,h6⟩:=Gm h3
  refine ⟨by simp [h5],fun m z hm=>?_⟩
  cases m with
  | zero=>
    obtain rfl:y=z:=by simpa using hm
    exact ⟨x,rfl,h1⟩
  | succ m=>simpa using h6 m z (by simpa using hm)
theorem VR.Ho{B B':bJ}{w:World}{I:Nat→Prop}{κ:Key→Nat}{t:TypeId}(hI:∀ b,I b→b<B'.n0)(htg:∀ s,s≠t→B'.tg s=true){x y:AV}{v:Value}(h : @VR B w I κ x v)(hx:AV.Ho t x=some y) :
  @VR B' w I κ y v∧y.pure=true:=by
 unfold AV.Ho at hx
 split at hx
 ·rename_i cs
  obtain ⟨ys,h1,rfl⟩:=Option.map_eq_some_iff.1 hx
  obtain ⟨h2,h3⟩:=DI h1
  cases h with
  | a _ vs hl h1 hc=>
   refine ⟨@VR.a B' w I κ ys vs (by omega) (fun c hm=>?_) fun m c hm=>?_,?_⟩
   ·obtain ⟨m,hm⟩:=List.mem_iff_getElem?.1 hm
    obtain ⟨x,h4,h5⟩:=h3 m c hm
    exact ((hc m x h4).uq hI htg h5).2.2 (h1 x (List.mem_of_getElem? h4))
   ·obtain ⟨x,h4,h5⟩:=h3 m c hm
    exact ((hc m x h4).uq hI htg h5).1
   ·refine jX fun c hm=>?_
    obtain ⟨m,hm⟩:=List.mem_iff_getElem?.1 hm
    obtain ⟨x,h4,h5⟩:=h3 m c hm
    exact ((hc m x h4).uq hI htg h5).2.1
 ·have:=h.uq hI htg hx
  exact ⟨this.1,this.2.1⟩
theorem qf{t:TypeId}{l:List AV}(h:AV.q8 t l=true):∀ x∈l,AV.kK t x=true:=by
 induction l with
 | nil=>intro x hx;cases hx
 | cons y l ih=>
  simp only [AV.q8,Bool.and_eq_true] at h
  intro x hx
  rcases List.mem_cons.1 hx with rfl | hx
  ·exact h.1
  ·exact ih h.2 x hx
theorem Ld{t:TypeId}{x:AV}(h:AV.kK t x=true):∀ c∈x.cl,AV.kK t c=true:=by
 intro c hc
 cases x<;>simp only [AV.cl,List.mem_singleton] at hc<;>first | (subst hc;exact h) | skip
 exact qf (by simpa [AV.kK] using h) c hc
theorem VR.fresh{B' B:bJ}{w:World}{I J:Nat→Prop}{κ:Key→Nat}{t:TypeId}(h0:t≠0)(htg:B'.tg t=false)(hn:B.n0≤B'.n0)(hJ:∀ b,I b→B'.n0≤b→(∃ cs,w.heap[b]? =some (.cells cs t (0,0)))→J b)
  {x:AV} {v:Value} (h : @VR B' w I κ x v) (hx:AV.kK t x=true) : @VR B w J κ x v:=by
 induction h with
 | u v=>exact .u v
 | sk=>exact .sk
 | b x=>exact .b x
 | i k n=>exact .i k n
 | s l=>exact .s l
 | n=>exact .n
 | z=>exact .z
 | nf=>exact .nf
 | ni=>exact .ni
 | lnil t A cap=>exact .lnil t A cap
 | l s es g o cap cs T fz sz hI0 hh0 ht hsz hnc hsize hp h1 hcap hmax hc ih=>
  cases es with
  | nil=>exact .lnil _ _ _
  | cons e0 es=>
   have hx':s=t∧AV.q8 t (e0::es)=true:=by
    simpa [AV.kK] using hx
   obtain ⟨rfl,hx2⟩:=hx'
   have hg:B'.n0≤g:=by
    rcases Nat.lt_or_ge g B'.n0 with hlt | hge
    ·have:=(ht h0).2 hlt
     rw [htg] at this;cases this
    ·exact hge
   obtain ⟨rfl,rfl⟩:=(ht h0).1 hg
   exact @VR.l B w J κ T (e0::es) g o cap cs T (0,0) sz (hJ g hI0 hg ⟨_,hh0⟩) hh0 (fun _=>⟨fun _=>⟨rfl,rfl⟩,fun h=>absurd (Nat.le_trans hn hg) (Nat.not_le_of_lt h)⟩) hsz hnc hsize hp h1 hcap hmax
    fun j e m c he hc'=>ih j e m c he hc' (Ld (qf hx2 e (List.mem_of_getElem? he)) c (List.mem_of_getElem? hc'))
 | e x off g o cs T fz hI0 hh0 hp hsize h1 hc ih=>simp [AV.kK] at hx
 | f g caps vs hl hc ih=>exact .f g caps vs hl fun m c hc'=>ih m c hc' (qf (by simpa [AV.kK] using hx) c (List.mem_of_getElem? hc'))
 | a cs vs hl h1 hc ih=>exact .a cs vs hl h1 fun m c hc'=>ih m c hc' (qf (by simpa [AV.kK] using hx) c (List.mem_of_getElem? hc'))
 | tp cs vs hl hc ih=>exact .tp cs vs hl fun m c hc'=>ih m c hc' (qf (by simpa [AV.kK] using hx) c (List.mem_of_getElem? hc'))
 | ifc t x v h ih=>exact .ifc t x v (ih (by simpa [AV.kK] using hx))
 | p k off=>exact .p k off
abbrev zU(w:World)(t:TypeId):bJ:=⟨w.heap.size,fun s=>s !=t⟩
theorem Rb{t:TypeId}{f:FuncId}{xs:List aP}(hR:kB C.P R)(h:ah C st a w σ)(hl:aI C.P (.cw t f xs) o.op=true)(he:execOp R Ω C.E st d (.cw t f xs)=some r):b6 C o d a w σ r.2 r.1:=by
 simp only [aI] at hl;split at hl
 ·rename_i c hop
  simp only [Bool.and_eq_true] at hl
  obtain ⟨h1,h2⟩:=hl
  split at h1
  ·rename_i f' hcal
   obtain rfl:f=f':=by simpa using h1
   obtain ⟨h3,h4⟩:=h.rL _ _ h2
   simp only [execOp] at he
   obtain ⟨dd,hdd0,he1⟩:=Option.bind_eq_some_iff.1 he
   clear he
   subst hdd0
   unfold Br at he1
   split at he1
   ·rename_i hc
    simp only [Bool.and_eq_true,bne_iff_ne] at hc
    obtain ⟨ys,hys,he2⟩:=Option.bind_eq_some_iff.1 he1
    clear he1
    obtain ⟨⟨q,hp'⟩,hq,he3⟩:=Option.bind_eq_some_iff.1 he2
    clear he2
    cases q with
    | new cs=>cases he3
    | ret x=>?_
    simp only at he3
    split at he3
    ·rename_i hx
     simp only [Bool.and_eq_true] at hx
     obtain rfl:=Option.some.inj he3
     obtain ⟨hlen,hget⟩:=Gm hys
     have hI:∀ b,σ.I b→b<(zU w t).n0:=fun b hb=>(h.bG b hb).1
     have htg:∀ s,s≠t→(zU w t).tg s=true:=fun s hs=>by show (s !=t)=true;simpa using hs
     have harg:∀ (i:Nat)(y:AV),ys[i]? =some y→@VR (zU w t) w σ.I σ.κ y ((List.map a.eval c.args.toList)[i]?.getD undef)∧y.pure=true:=by
      intro i y hi
      obtain ⟨x0,h5,h6⟩:=hget i y hi
      obtain ⟨n,hn⟩:=h4 i x0 h5
      exact (hn.xL (cT _ (iq hc.2 x0 (List.mem_of_getElem? h5)))).Ho hI htg h6
     have hok : @rm (zU w t) C.P f ys x:=@fV.pure (zU w t) C.P R (hR (zU w t)) f ys x hp' hq (fun y hy=>by
      obtain ⟨i,hi⟩:=List.mem_iff_getElem?.1 hy
      exact (harg i y hi).2)
     obtain ⟨hb,hcall⟩:=hok
     have hrun:(Go.execOp a.eval o).run C.P w= .ok (.enter f (c.args.map a.eval)) w:=by
      have hev:a.eval (.func f)= .func (.func f) #[] #[]:=rfl
      have hcf:=dm hb (List.map a.eval c.args.toList).toArray w
      have ha:(List.map a.eval c.args.toList).toArray=c.args.map a.eval:=by apply Array.ext';simp
      rw [ha] at hcf
      unfold Go.execOp
      simp [hop,resolve,hcal,hev,Deferred.ofValue,invoke]
      exact hcf
     intro K Q hK
     unfold Oper.wp
     rw [hrun,Oper.upon_enter]
     refine (hcall w σ.I σ.κ (c.args.map a.eval) ⟨Nat.le_refl _,h.lay⟩ (fun b hb=>(h.bG b hb).1) (by rw [hlen];simpa using h3.symm) (fun i y hi=>?_)).mono ?_
     ·have:=(harg i y hi).1
      simpa [Array.getD_eq_getD_getElem?] using this
     ·rintro e w' ⟨v,I',rfl,hv,hsize,hold,hup,hdn,hlt',hio⟩
      let J:Nat→Prop:=fun b=>I' b∧w.heap.size≤b
      let σ':Sp:={σ with ow:=fun b=>open Classical in if J b then some (.grp C.E.dp dd) else σ.ow b}
      have hnJ:∀ b,b<w.heap.size→σ'.ow b=σ.ow b:=fun b hb=>if_neg fun h=>Nat.not_le_of_lt hb h.2
      have hsame:eS C w σ w' σ' none:=
       ⟨fun b l hb _=>⟨hold b (h.own b l hb),(hnJ b (h.own b l hb)).trans hb⟩,fun b hb=>hold b (h.bG b hb).1,fun _ hb=>hb,rfl,hsize,fun b l hb=>by
        by_cases hj:J b
        ·exact hlt' b hj.1
        ·have:σ.ow b=some l:=by rw [←hb];exact (if_neg hj).symm
         exact Nat.lt_of_lt_of_le (h.own b l this) hsize,fun b hb=>⟨Nat.lt_of_lt_of_le (h.bG b hb).1 hsize,(hnJ b (h.bG b hb).1).trans (h.bG b hb).2⟩⟩
      refine hK v w' σ' ⟨⟨hsize,fun b hb _=>hold b hb,fun _ hb=>hb,hsame.bG,fun b hb=>.inl hb,fun _ _=>rfl,fun b hb _=>hnJ b hb,hio⟩,h.same hsame,fun dd' hdd=>?_,fun _ _ _ _ e=>by cases e⟩
      obtain rfl:=Option.some.inj hdd
      refine ⟨hx.1,VR.fresh (B':=zU w t) hc.1 (by show (t !=t)=false;simp) (h.new _ (Nat.le_refl _)).2 (fun b hb hge hh=>⟨if_pos ⟨hb,hge⟩,(h.new b hge).1,(h.new b hge).2,hh⟩) hv hx.2⟩
    ·cases he3
   ·cases he1
  ·cases h1
 ·cases hl
theorem mm.wrap{y:AV}{g:Nat}{t:TypeId}{v:Value}{n:Nat}(h:mm C.W C.E.dp w σ g t y v):SR C w σ st a n (Aa g t y) v:=by
 unfold Aa
 split
 ·obtain ⟨_,h⟩:=h
  cases h;exact .i _ _
 ·obtain ⟨_,h⟩:=h
  cases h;exact .b _
 ·exact h
theorem Rc{x:aP}{i:Nat}(h:ah C st a w σ)(hl:aI C.P (.xw x i) o.op=true)(he:execOp R Ω C.E st d (.xw x i)=some r):b6 C o d a w σ r.2 r.1:=by
 obtain ⟨y,hop,hlo⟩:∃ y,o.op= .extract y i∧aR y x=true:=by
  simp only [aI] at hl;split at hl
  ·rename_i y i' hy
   simp only [Bool.and_eq_true,beq_iff_eq] at hl
   exact ⟨y,by rw [hy,hl.2],hl.1⟩
  ·cases hl
 simp only [execOp] at he
 split at he
 ·rename_i g t vs hx
  obtain ⟨z,hz,he⟩:=Option.bind_eq_some_iff.1 he
  obtain rfl:=Option.some.inj he
  cases x with
  | c q=>
   have:=ji hlo
   simp only [St.ev] at hx
   rw [hx] at this;cases this
  | t n=>
   have hs:=h.slot hlo
   simp only [St.ev] at hx
   rw [hx] at hs
   obtain ⟨hp,hv⟩:=hs
   obtain ⟨us,hu,hlen,hc⟩:=hv.JN
   have hv:=hc i z hz
   have hi:i<us.size:=by
    rcases Nat.lt_or_ge i vs.length with h1 | h1
    ·omega
    ·simp [h1] at hz
   have hr:(Go.execOp a.eval o).run C.P w= .ok (.value us[i]) w:=by unfold Go.execOp;simp [hop,hu,Instr.extract,hi]
   simp only [hi,Array.getD_eq_getD_getElem?,getElem?_pos,Option.getD_some] at hv
   have hw:mm C.W C.E.dp w σ g t z us[i]:=⟨iq (by simpa [AV.pure] using hp) z (List.mem_of_getElem? hz),hv⟩
   exact .dV hr ⟨.refl _ _ _,h,fun _ _=>hw.wrap,fun _ _ _ _ e=>by unfold Aa at e;split at e<;>cases e⟩
 ·cases he
theorem Gn{g:Nat}{t:TypeId} : ∀ {xs ys:List AV},EK g t xs=some ys→ys.length=xs.length∧∀ (m:Nat)(y:AV),ys[m]? =some y→xs[m]? =some (.w g t y)
 | [],ys,h=>by
  obtain rfl:=Option.some.inj h
  exact ⟨rfl,fun m y hm=>by simp at hm⟩
 | x::xs,ys,h=>by
  cases x<;>first | (cases h;done) | skip
  rename_i g' t' x
  simp only [EK] at h
  split at h
  ·rename_i hc
   obtain ⟨zs,h3,h4⟩:=Option.bind_eq_some_iff.1 h
   obtain rfl:=Option.some.inj h4
   obtain ⟨h5,h6⟩:=Gn h3
   obtain ⟨rfl,rfl⟩:=hc
   refine ⟨by simp [h5],fun m z hm=>?_⟩
   cases m with
   | zero=>
     obtain rfl:x=z:=by simpa using hm
     rfl
   | succ m=>simpa using h6 m z (by simpa using hm)
  ·cases h
theorem Rd{n:Nat}{x:aP}(h:ah C st a w σ)(hl:aI C.P (.lw n x) o.op=true)(he:execOp R Ω C.E st d (.lw n x)=some r):b6 C o d a w σ r.2 r.1:=by
 obtain ⟨t,y,hop,hlo,hn⟩:∃ t y,o.op= .load t y∧aR y x=true∧kz C.P t (some n)=true:=by
  simp only [aI] at hl;split at hl
  ·rename_i t y hy
   simp only [Bool.and_eq_true] at hl
   exact ⟨t,y,hy,hl.1.1,hl.2⟩
  ·cases hl
 simp only [execOp] at he
 split at he
 ·rename_i k b hx
  obtain ⟨cs,hbx,he⟩:=Option.bind_eq_some_iff.1 he
  split at he
  ·rename_i hle
   obtain ⟨⟨g,t',ys⟩,hu,he⟩:=Option.bind_eq_some_iff.1 he
   simp only at he
   split at he
   ·rename_i hone
    obtain rfl:=Option.some.inj he
    have hv:=(hx▸h.cB hlo (by rw [hx];simp) (by rw [hx];rfl)).il
    obtain ⟨vs,T,hB⟩:=h.bx k cs hbx
    have hul:EK g t' ((cs.drop b).take n)=some ys:=by
     unfold NM at hu
     split at hu
     ·rename_i g0 t0 x0 xs0 hq
      obtain ⟨zs,h1,h2⟩:=Option.bind_eq_some_iff.1 hu
      have e:=Option.some.inj h2
      simp only [Prod.mk.injEq] at e
      obtain ⟨rfl,rfl,rfl⟩:=e
      rw [hq];exact h1
     ·cases hu
    obtain ⟨hlen,hget⟩:=Gn hul
    have hlen':ys.length=n:=by rw [hlen];simp;omega
    have hcell:∀ (j:Nat)(c:AV),ys[j]? =some c→mm C.W C.E.dp w σ g t' c (vs.getD (b+j) undef):=by
     intro j c hj
     have h5:=hget j c hj
     rw [List.getElem?_take] at h5
     split at h5
     ·rw [List.getElem?_drop] at h5
      exact hB.cell (b+j) _ h5
     ·cases h5
    have hpu:AV.b7 ys=true:=jX fun c hc=>by
     obtain ⟨j,hj⟩:=List.mem_iff_getElem?.1 hc
     exact (hcell j c hj).1
    obtain ⟨v,hr,hvr⟩:=ud (P:=C.P) (I:=fun b=>σ.ow b=some (.grp C.E.dp g)∧C.W b∧bJ.n0≤b∧∃ cs,w.heap[b]? =some (.cells cs t' (0,0))) (κ:=σ.κ) (b:=b) (cs:=ys) (off:=0) (n:=some n) (y:=.a ys) hB.hh
     (by rw [hB.size];omega) (fun off c hc _=>(hcell off c hc).2) (fun c hc _=>List.all_eq_true.1 hone c hc) (cT _ hpu) (by simp only [pick,Nat.zero_add,hlen',Nat.le_refl,if_true,List.drop_zero];rw [List.take_of_length_le (by omega)]) hn
    have hrun:(Go.execOp a.eval o).run C.P w= .ok (.value v) w:=by
     rw [Nat.add_zero] at hr
     unfold Go.execOp
     simp [hop,hv,Instr.loadAt,Instr.sureAddr,hr]
    exact .dV hrun ⟨.refl _ _ _,h,fun _ _=>⟨hpu,hvr⟩,fun _ _ _ _ e=>by cases e⟩
   ·cases he
  ·cases he
 ·cases he
theorem Re{n:Nat}{x y:aP}(h:ah C st a w σ)(hl:aI C.P (.sw n x y) o.op=true)(he:execOp R Ω C.E st d (.sw n x y)=some r):b6 C o d a w σ r.2 r.1:=by
 obtain ⟨t,x',y',hop,hlx,hly,hsz⟩:∃ t x' y',o.op= .store t x' y'∧aR x' x=true∧aR y' y=true∧sized C.P t n=true:=by
  simp only [aI] at hl;split at hl
  ·rename_i t x' y' hy
   simp only [Bool.and_eq_true] at hl
   exact ⟨t,x',y',hy,hl.1.1,hl.1.2,hl.2⟩
  ·cases hl
 simp only [execOp] at he
 split at he
 ·rename_i k off hx
  split at he
  ·rename_i hk
   obtain ⟨hkd,rfl⟩:=hk
   obtain ⟨bs,hbs,he⟩:=Option.bind_eq_some_iff.1 he
   split at he
   ·rename_i g t' cs hy
    split at he
    ·rename_i hn
     obtain ⟨hn,hle⟩:=hn
     obtain rfl:=Option.some.inj he
     have hv:=(hx▸h.cB hlx (by rw [hx];simp) (by rw [hx];rfl)).il
     have hbx:st.box C.E.dp k=some bs:=by simp only [St.box,if_pos hkd];exact hbs
     obtain ⟨vs,T,hB⟩:=h.bx k bs hbx
     cases y with
     | c q=>
      have:=ji hly
      simp only [St.ev] at hy
      rw [hy] at this;cases this
     | t m=>
      have hs:=h.slot hly
      simp only [St.ev] at hy
      rw [hy] at hs
      obtain ⟨hp,hw⟩:=hs
      obtain ⟨us,hu,hlen,h1,hc⟩:=hw.IG
      have hcs:(a.eval y').cells=us:=by rw [hu];rfl
      have hmine:(Pl.c k 0).fq C.E=true:=by simp [Pl.fq,hkd]
      have hone:∀ u∈us.toList,u.oneCell'=true:=by
       intro u hm
       obtain ⟨j,hj⟩:=List.mem_iff_getElem?.1 hm
       have hjl:j<cs.length:=by have:=bc hj;simp at this;omega
       have:=hc j _ (List.getElem?_eq_getElem hjl)
       have e:us.getD j undef=u:=by
        rw [Array.getElem?_toList] at hj
        simp [Array.getD_eq_getD_getElem?,hj]
       rw [e] at this
       exact this.yx (h1 _ (List.getElem_mem hjl))
      have hr:(Instr.storeAt t (a.eval x') (a.eval y')).run C.P w= .ok () (w.setRow (σ.κ k) (jk vs 0 us.toList)):=by
       rw [hv]
       have:=ox (C:=C) (w:=w) (t:=t) (off:=0) (v:=a.eval y') (n:=n) hB.hh hsz (by rw [hcs];omega) (by rw [hB.size];omega) (by rw [hcs];exact hone)
       rwa [hcs] at this
      have hrun:(Go.execOp a.eval o).run C.P w= .ok .skip (w.setRow (σ.κ k) (jk vs 0 us.toList)):=by
       unfold Go.execOp
       simp [hop,hr]
      refine .C6 hrun ⟨.setRow h hB.ow (hB.wr hmine) _,?_,fun _ _=>VR.u _,fun _ _ _ _ e=>by cases e⟩
      refine h.wh hbx hB (by simp [hlen]) (by simp;omega) (fun c hm=>?_) (fun j c hj=>?_) (fun j t es hj=>?_) (fun hne=>absurd hkd hne) (fun t' _ _ ht=>by obtain ⟨c',_,e⟩:=List.mem_map.1 ht;cases e)
      ·obtain ⟨c',_,rfl⟩:=List.mem_map.1 hm;rfl
      ·rw [List.getElem?_map] at hj
       obtain ⟨c',hj',rfl⟩:=Option.map_eq_some_iff.1 hj
       have:=hc j c' hj'
       refine ⟨iq (by simpa [AV.pure] using hp) c' (List.mem_of_getElem? hj'),?_⟩
       simpa [Array.getD_eq_getD_getElem?] using this
      ·rw [List.getElem?_map] at hj
       obtain ⟨c',hj',e⟩:=Option.map_eq_some_iff.1 hj
       cases e
    ·cases he
   ·cases he
  ·cases he
 ·cases he
theorem pr(g:Nat)(x:AV):x.yM g= .u∨x.yM g=x∧∀ t y,x≠.w g t y:=by
 cases x<;>first | exact .inr ⟨rfl,fun _ _ e=>by cases e⟩ | skip
 rename_i g' t y
 unfold AV.yM
 by_cases hg:g'=g
 ·exact .inl (by simp [hg])
 ·exact .inr ⟨by simp [hg],fun _ _ e=>by cases e;exact hg rfl⟩
theorem zV(g:Nat):∀ (fr:List (Nat×AV))(d:Nat),an (fr.map fun x=>(x.1,x.2.yM g)) d=(an fr d).yM g
 | [],d=>rfl
 | (k,x)::fr,d=>by
  simp only [List.map_cons,an]
  split
  ·rfl
  ·exact zV g fr d
theorem Gp(g:Nat):∀ (bx:List (Nat×List AV))(d:Nat),az (bx.map fun x=>(x.1,x.2.map (AV.yM g))) d=(az bx d).map fun cs=>cs.map (AV.yM g)
 | [],d=>rfl
 | (k,x)::bx,d=>by
  simp only [List.map_cons,az]
  split
  ·rfl
  ·exact Gp g bx d
theorem ah.spoilt{g:Nat}{w':World}(h:ah C st a w σ)(hs:eS C w σ w' σ (some (.grp C.E.dp g))):ah C (st.pA g) a w' σ:=by
 have hbox:∀ k cs,(st.pA g).box C.E.dp k=some cs→∃ cs0,st.box C.E.dp k=some cs0∧(cs=cs0∧k.dp≠C.E.dp∨cs=cs0.map (AV.yM g)):=by
  intro k cs hk
  simp only [St.box,St.pA] at hk ⊢
  by_cases hkd:k.dp=C.E.dp
  ·simp only [if_pos hkd,Gp] at hk ⊢
   obtain ⟨cs0,h1,rfl⟩:=Option.map_eq_some_iff.1 hk
   exact ⟨cs0,h1,.inr rfl⟩
  ·simp only [if_neg hkd] at hk ⊢
   exact ⟨cs,hk,.inl ⟨rfl,hkd⟩⟩
 have hheap:∀ k cs,st.box C.E.dp k=some cs→w'.heap[σ.κ k]? =w.heap[σ.κ k]? :=fun k cs hk=>by
  obtain ⟨vs,T,hB⟩:=h.bx k cs hk
  exact (hs.blk _ _ hB.ow (by simp)).1
 have hcellw:∀ k off c v,CR C w σ k off c v→(∀ t y,c≠.w g t y)→CR C w' σ k off c v:=by
  intro k off c v hc hne
  cases c with
  | o t es=>exact OwnAt.same hs (by simp) hc
  | w g' t x=>exact mm.same hs (by simp;exact fun e=>hne t x (by rw [e])) hc
  | bp t k' u=>exact hc
  | _=>exact VR.same hs hc
 have hrow:∀ pl r,(st.pA g).rowAt C.E.dp pl=some r→st.rowAt C.E.dp pl=some r∧du w' σ a pl=du w σ a pl:=by
  intro pl r hr
  cases pl with
  | s d'=>
   refine ⟨?_,rfl⟩
   simp only [St.rowAt,St.pA,zV] at hr ⊢
   rcases pr g (an st.fr d') with e | e
   ·rw [e] at hr;cases hr
   ·rw [e.1] at hr;exact hr
  | c k off=>
   simp only [St.rowAt] at hr
   cases hb:(st.pA g).box C.E.dp k with
   | none=>simp [hb] at hr
   | some cs=>
    obtain ⟨cs0,h1,h2⟩:=hbox k cs hb
    refine ⟨?_,by simp only [du,hheap k cs0 h1]⟩
    simp only [hb] at hr
    simp only [St.rowAt,h1]
    rcases h2 with ⟨rfl,_⟩ | rfl
    ·exact hr
    ·rw [List.getElem?_map] at hr
     cases hc:cs0[off]? with
     | none=>simp [hc] at hr
     | some c=>
      simp only [hc,Option.map_some] at hr
      rcases pr g c with e | e
      ·rw [e] at hr;cases hr
      ·rw [e.1] at hr;exact hr
 refine ⟨h.size,h.defers,fun d'=>?_,fun k cs hk=>?_,fun k cs hne hk=>?_,hs.own,hs.dn,fun b hb=>h.new b (Nat.le_trans hs.size hb),h.lay.bw hs.up hs.bG⟩
 ·have hx:=h.fr d'
  show SR C w' σ (st.pA g) a d' (an (st.pA g).fr d') _
  simp only [St.pA,zV]
  rcases pr g (an st.fr d') with e | ⟨e,hne⟩
  ·rw [e];exact VR.u _
  ·rw [e]
   generalize an st.fr d'=x at hx hne
   cases x with
   | o t es=>exact OwnAt.same hs (by simp) hx
   | r pl=>
    intro hsm
    obtain ⟨r,hr⟩:=Option.isSome_iff_exists.1 hsm
    obtain ⟨h2,h3⟩:=hrow pl r hr
    rw [h3]
    exact hx (by rw [h2];rfl)
   | v pl lo len=>
    intro t es ht hll
    obtain ⟨h2,h3⟩:=hrow pl _ ht
    rw [h3]
    exact hx t es h2 hll
   | q pl i sz off=>
    intro t es ht hll
    obtain ⟨h2,h3⟩:=hrow pl _ ht
    rw [h3]
    exact hx t es h2 hll
   | w g' t x=>exact mm.same hs (by simp;exact fun e=>hne t x (by rw [e])) hx
   | _=>exact VR.same hs hx
 ·obtain ⟨cs0,h1,h2⟩:=hbox k cs hk
  obtain ⟨vs,T,hB⟩:=h.bx k cs0 h1
  refine ⟨vs,T,(hheap k cs0 h1).trans hB.hh,?_,hB.ow,hB.wr,fun c hc=>?_,fun off c hc=>?_,fun t kk u ht=>?_⟩
  ·rcases h2 with ⟨rfl,_⟩ | rfl
   ·exact hB.size
   ·simpa using hB.size
  ·rcases h2 with ⟨rfl,_⟩ | rfl
   ·exact hB.one c hc
   ·obtain ⟨c',hc',rfl⟩:=List.mem_map.1 hc
    rcases pr g c' with e | e
    ·exact .inr e
    ·rw [e.1];exact hB.one c' hc'
  ·rcases h2 with ⟨rfl,hkd⟩ | rfl
   ·refine hcellw k off c _ (hB.cell off c hc) fun t y e=>?_
    subst e
    simp only [St.box,if_neg hkd] at h1
    have:=(h.hpd k cs hkd h1).2 _ (List.mem_of_getElem? hc)
    cases this
   ·rw [List.getElem?_map] at hc
    obtain ⟨c',hc',rfl⟩:=Option.map_eq_some_iff.1 hc
    rcases pr g c' with e | ⟨e,hne⟩
    ·rw [e];exact VR.u _
    ·rw [e];exact hcellw k off c' _ (hB.cell off c' hc') hne
  ·rcases h2 with ⟨rfl,_⟩ | rfl
   ·exact hB.ty t kk u ht
   ·obtain ⟨c',hc',e⟩:=List.mem_map.1 ht
    rcases pr g c' with e2 | ⟨e2,_⟩
    ·rw [e2] at e;cases e
    ·rw [e2] at e;subst e;exact hB.ty t kk u hc'
 ·exact h.hpd k cs hne hk
theorem Rf{f:FuncId}{x:aP}(hΩ:fe C.P Ω)(h:ah C st a w σ)(hl:aI C.P (.sp f x) o.op=true)(he:execOp R Ω C.E st d (.sp f x)=some r):b6 C o d a w σ r.2 r.1:=by
 simp only [aI] at hl;split at hl
 ·rename_i c hop
  simp only [Bool.and_eq_true] at hl
  obtain ⟨h1,h2⟩:=hl
  split at h1
  ·rename_i f' hcal
   obtain rfl:f=f':=by simpa using h1
   obtain ⟨y',hargs,hly⟩:∃ y',c.args.toList=[y']∧aR y' x=true:=by
    cases ha:c.args.toList with
    | nil=>rw [ha] at h2;simp [cF] at h2
    | cons y' l=>
     rw [ha] at h2
     cases l with
     | nil=>exact ⟨y',rfl,by simpa [cF] using h2⟩
     | cons z l=>simp [cF] at h2
   simp only [execOp] at he
   split at he
   ·rename_i g t y hx
    obtain ⟨q,hq,he⟩:=Option.bind_eq_some_iff.1 he
    split at he
    ·obtain rfl:=Option.some.inj he
     cases x with
     | c q=>
      have:=ji hly
      simp only [St.ev] at hx
      rw [hx] at this;cases this
     | t m=>
      have hs:=h.slot hly
      simp only [St.ev] at hx
      rw [hx] at hs
      obtain ⟨hp,hv⟩:=hs
      obtain ⟨hb,hcall⟩:=hΩ.spo f y hq hp
      have hrun:(Go.execOp a.eval o).run C.P w= .ok (.enter f #[a.eval y']) w:=by
       have hev:a.eval (.func f)= .func (.func f) #[] #[]:=rfl
       have hcf:=dm hb #[a.eval y'] w
       have ha:c.args.map a.eval=#[a.eval y']:=by apply Array.ext';simp [hargs]
       unfold Go.execOp
       simp [hop,resolve,hcal,hev,Deferred.ofValue,invoke,ha]
       exact hcf
      intro K Q hK
      unfold Oper.wp
      rw [hrun,Oper.upon_enter]
      refine (hcall w _ σ.κ (a.eval y') (fun b hb=>hb.2.2.2.imp fun cs e=>⟨t,e⟩) hv).mono ?_
      rintro e w' ⟨⟨v,rfl⟩,hsize,hold,hio⟩
      have hkeep:∀ b,b<w.heap.size→σ.ow b≠some (.grp C.E.dp g)→w'.heap[b]? =w.heap[b]? :=fun b hb hne=>hold b hb fun h=>hne h.1
      have hsame:eS C w σ w' σ (some (.grp C.E.dp g)):=
       ⟨fun b l hb hne=>⟨hkeep b (h.own b l hb) (by rw [hb];exact hne),hb⟩,fun b hb=>hkeep b (h.bG b hb).1 (by rw [(h.bG b hb).2];simp),fun _ hb=>hb,rfl,hsize,fun b l hb=>Nat.lt_of_lt_of_le (h.own b l hb) hsize,fun b hb=>⟨Nat.lt_of_lt_of_le (h.bG b hb).1 hsize,(h.bG b hb).2⟩⟩
      exact hK v w' σ ⟨⟨hsize,fun b hb hW=>hold b hb fun h=>hW h.2.1,fun _ hb=>hb,hsame.bG,fun b hb=>.inl hb,fun _ _=>rfl,fun _ _ _=>rfl,hio⟩,h.spoilt hsame,fun _ _=>VR.u _,fun _ _ _ _ e=>by cases e⟩
    ·cases he
   ·cases he
  ·cases h1
 ·cases hl
theorem Rg{g f:FuncId}{xs:List aP}(hR:fV C.P R)(hΩ:fe C.P Ω)(h:ah C st a w σ)(hl:aI C.P (.vi g f xs) o.op=true)(he:execOp R Ω C.E st d (.vi g f xs)=some r):b6 C o d a w σ r.2 r.1:=by
 simp only [aI] at hl;split at hl
 ·rename_i c hop
  simp only [Bool.and_eq_true] at hl
  obtain ⟨h1,h2⟩:=hl
  split at h1
  ·rename_i f' hcal
   obtain rfl:f=f':=by simpa using h1
   obtain ⟨h3,h4⟩:=h.rL _ _ h2
   simp only [execOp,Hp] at he
   obtain ⟨z,hz,he1⟩:=Option.bind_eq_some_iff.1 he
   clear he
   split at he1
   ·rename_i nn
    split at he1
    ·rename_i hc
     simp only [Bool.and_eq_true,Bool.not_eq_true'] at hc
     obtain ⟨⟨⟨hro,hcp⟩,hl1⟩,hdp⟩:=hc
     obtain ⟨⟨q,hp'⟩,hq,he2⟩:=Option.bind_eq_some_iff.1 he1
     clear he1
     cases q with
     | new cs=>cases he2
     | ret x=>?_
     simp only at he2
     split at he2
     case isFalse=>cases he2
     rename_i hagg
     obtain rfl:=Option.some.inj he2
     obtain ⟨cs,rfl,hcs⟩:∃ cs,x= .a cs∧(cs.length:Int)=nn:=by
      cases x<;>first | (cases hagg;done) | exact ⟨_,rfl,by simpa [NL] using hagg⟩
     have hcp':∀ x∈List.map st.ev xs,x.copy=true:=fun x hx=>List.all_eq_true.1 hcp x hx
     refine DG hro h h3 h4 hcp' (fun d cs hb c hm=>jE (ka (p:=fun cs=>AV.dB C.E.dp cs) _ hdp d cs hb) c hm) (hΩ.via f g nn hz _ _ _ _ _ (by simpa using hl1) hcs (hR.ret _ g _ _ _ hp' hq hcp')) fun hb=>?_
     have hev:a.eval (.func f)= .func (.func f) #[] #[]:=rfl
     have hcf:=dm hb (List.map a.eval c.args.toList).toArray w
     have ha:(List.map a.eval c.args.toList).toArray=c.args.map a.eval:=by apply Array.ext';simp
     rw [ha] at hcf
     rw [ha]
     unfold Go.execOp
     simp [hop,resolve,hcal,hev,Deferred.ofValue,invoke]
     exact hcf
    ·cases he1
   ·cases he1
  ·cases h1
 ·cases hl
theorem rn{bx:List (Nat×List AV)}{g:Nat→List AV→Bool} : yf bx g=true↔∀ d cs,az bx d=some cs→g d cs=true:=by
 unfold yf
 rw [List.all_eq_true]
 have hmem:∀ (l:List (Nat×List AV)) d cs,az l d=some cs→∃ y∈l,y.1=d:=by
  intro l d cs h
  induction l with
  | nil=>cases h
  | cons y l ih=>
   obtain ⟨k,c⟩:=y
   simp only [az] at h
   split at h
   ·rename_i e;exact ⟨(k,c),by simp,e⟩
   ·obtain ⟨z,hz,e⟩:=ih h
    exact ⟨z,List.mem_cons_of_mem _ hz,e⟩
 have hsome:∀ (l:List (Nat×List AV)) y,y∈l→∃ cs,az l y.1=some cs:=by
  intro l y hy
  induction l with
  | nil=>cases hy
  | cons z l ih=>
   obtain ⟨k,c⟩:=z
   simp only [az]
   split
   ·exact ⟨_,rfl⟩
   ·rename_i hne
    rcases List.mem_cons.1 hy with rfl | hy
    ·exact absurd rfl hne
    ·exact ih hy
 constructor
 ·intro h d cs hd
  obtain ⟨y,hy,rfl⟩:=hmem _ _ _ hd
  have:=h y hy
  rwa [hd] at this
 ·intro h y hy
  obtain ⟨cs,hc⟩:=hsome _ y hy
  rw [hc];exact h _ _ hc
theorem gO.still{C:Cx}{w w':World}{σ σ':Sp}{k:Key}{cs:List AV}{vs:Array Value}{T:TypeId}(h:gO C w σ k cs vs T)(hk:σ'.κ k=σ.κ k)(hb:∀ b l,σ.ow b=some l→(l= .box k∨∃ off,l= .rowC k off)→w'.heap[b]? =w.heap[b]? ∧σ'.ow b=some l)
  (hI:∀ b,σ.I b→σ'.I b) (hh:∀ b,σ.I b→w'.heap[b]? =w.heap[b]?) (hd:∀ c∈cs,∀ k',c.bn k'=false→σ'.κ k'=σ.κ k') (hnw:∀ c∈cs,∀ g t x,c≠.w g t x):gO C w' σ' k cs vs T:=by
 have h1:=hb _ _ h.ow (.inl rfl)
 refine ⟨by rw [hk,h1.1];exact h.hh,h.size,by rw [hk];exact h1.2,fun hm=>by rw [hk];exact h.wr hm,h.one,fun off c hc=>?_,h.ty⟩
 have hcell:=h.cell off c hc
 have hd':=hd c (List.mem_of_getElem? hc)
 have hnw':=hnw c (List.mem_of_getElem? hc)
 cases c with
 | o t es=>exact OwnAt.bw hcell (fun g hg=>hb g _ hg (.inr ⟨off,rfl⟩)) hI hh
 | w g t x=>exact absurd rfl (hnw' g t x)
 | bp t k' u=>exact ⟨hcell.1,by rw [hk];exact hcell.2⟩
 | _=>exact VR.mono hcell hI hh hd'
def Wh(C:Cx)(σ:Sp)(hid:Key→Bool):Nat→Prop:=fun b=>Wc C σ b∧∀ k,hid k=true→σ.ow b≠some (.box k)∧∀ off,σ.ow b≠some (.rowC k off)
theorem JT{f:FuncId}{xs:List AV}{vs:List Value}{x:AV}{hp':HP}{hid:Key→Bool}(hro:C.E.ro=false)(h:ah C st a w σ)(hl:xs.length=vs.length)(hx:∀ (i:Nat)(x:AV),xs[i]? =some x→∃ n,SR C w σ st a n x (vs[i]?.getD undef))
  (hcp:∀ x∈xs,x.copy=true) (hfr:(st.fr.all fun y=>!iR hid y.2)=true) (hdp:∀ d cs,az st.bx d=some cs→∀ c∈cs,c.deep C.E.dp=true) (hc:sB C.P (C.E.dp+1) f xs (fun k=>if hid k=true then none else st.box C.E.dp k) x hp')
  (hrun:dL C.P f→(Go.execOp a.eval o).run C.P w= .ok (.enter f vs.toArray) w):b6 C o d a w σ (st.bL C.E.dp (fun k=>if hid k=true then st.box C.E.dp k else hp' k)) x:=by
 obtain ⟨hpx,hb,hcall⟩:=hc
 have hp0:=h.Lc hro hdp
 intro K Q hK
 unfold Oper.wp
 rw [hrun hb,Oper.upon_enter]
 refine (hcall (Wh C σ hid) w σ vs.toArray (fun b hb=>⟨⟨⟨(h.new b hb).1,fun d=>⟨fun e=>?_,fun e=>?_⟩⟩,fun k _=>⟨fun e=>?_,fun off e=>?_⟩⟩,(h.new b hb).2⟩) ⟨fun k cs hk hkd=>?_,fun k cs hk hkd=>?_,h.own,h.bG,h.lay⟩ (by simpa using hl.symm) (fun i y hi=>?_)).mono ?_
 ·have:=h.own b _ e;omega
 ·have:=h.own b _ e;omega
 ·have:=h.own b _ e;omega
 ·have:=h.own b _ e;omega
 ·split at hk
  ·cases hk
  ·rename_i hn
   obtain ⟨vs',T,hB⟩:=hp0.bx k cs hk hkd
   refine ⟨vs',T,hB.xT rfl rfl (fun _ _ h _=>h) (fun _ h=>h) rfl (fun b l hl hor hW=>⟨hW,fun k' hk'=>⟨fun e=>?_,fun off e=>?_⟩⟩) (fun _ _ _ _=>rfl) fun c hc=>mq ((hp0.deep k cs hk (by omega)).2 c hc)⟩
   ·rw [hl] at e
    rcases hor with rfl | ⟨_,rfl⟩
    ·injection e with e;injection e with e;subst e;exact hn hk'
    ·cases e
   ·rw [hl] at e
    rcases hor with rfl | ⟨_,rfl⟩
    ·cases e
    ·injection e with e;injection e with e;subst e;exact hn hk'
 ·split at hk
  ·cases hk
  ·exact hp0.deep k cs hk hkd
 ·obtain ⟨n,hn⟩:=hx i y hi
  have:=hn.xL (hcp y (List.mem_of_getElem? hi))
  simpa [Array.getD_eq_getD_getElem?] using this
 ·rintro e w' ⟨v,σ1,rfl,hv,hst,hH⟩
  have hW:∀ b,Wh C σ hid b→Wc C σ b:=fun b hb=>hb.1
  have hst':dA (tv C.P (Wc C σ) (C.E.dp+1)) w σ w' σ1:=
   ⟨hst.size,fun b hb hn=>hst.bw b hb fun hh=>hn (hW b hh),hst.up,hst.bG,fun b hb=>(hst.dn b hb).imp id (hW b),hst.kap,fun b hb hn=>hst.ow b hb fun hh=>hn (hW b hh),hst.io⟩
  have hk1:∀ k:Key,k.dp<C.E.dp+1→σ1.κ k=σ.κ k:=fun k hk=>hst.kap k hk
  have hH':wj C.P (Wc C σ) (C.E.dp+1) (fun k=>if hid k=true then st.box C.E.dp k else hp' k) w' σ1:=by
   refine ⟨fun k cs hk hkd=>?_,fun k cs hk hkd=>?_,hH.own,hH.bG,hH.lay⟩
   ·split at hk
    ·rename_i hh
     obtain ⟨vs',T,hB⟩:=hp0.bx k cs hk hkd
     have hdeep:=(hp0.deep k cs hk (by omega)).2
     refine ⟨vs',T,hB.still (hk1 k hkd) (fun b l hl hor=>?_) hst.up hst.bG (fun c hc k' hk'=>hk1 k' ?_) fun c hc=>mq (hdeep c hc)⟩
     ·have hn:¬Wh C σ hid b:=fun hw=>by
       rcases hor with rfl | ⟨off,rfl⟩
       ·exact (hw.2 k hh).1 hl
       ·exact (hw.2 k hh).2 off hl
      exact ⟨hst.bw b (h.own b l hl) hn,(hst.ow b (h.own b l hl) hn).trans hl⟩
     ·have:=hB.MG hdeep c hc k' hk';omega
    ·obtain ⟨vs',T,hB⟩:=hH.bx k cs hk hkd
     exact ⟨vs',T,hB.xT rfl rfl (fun _ _ h _=>h) (fun _ h=>h) rfl (fun b l _ _ hw=>hW b hw) (fun _ _ _ _=>rfl) fun c hc=>mq ((hH.deep k cs hk (by omega)).2 c hc)⟩
   ·split at hk
    ·exact hp0.deep k cs hk hkd
    ·exact hH.deep k cs hk hkd
  obtain ⟨h1,h2⟩:=h.called hst' hH'
  have h3:ah C (st.bL C.E.dp (fun k=>if hid k=true then st.box C.E.dp k else hp' k)) a w' {σ1 with κ:=σ.κ}:=by
   refine ⟨h2.size,h2.defers,fun d=>?_,h2.bx,h2.hpd,h2.own,h2.bG,h2.new,h2.lay⟩
   have hrow:∀ pl,(st.bL C.E.dp (fun k=>if hid k=true then st.box C.E.dp k else hp' k)).rowAt C.E.dp pl=(st.back C.E.dp (fun k=>if hid k=true then st.box C.E.dp k else hp' k)).rowAt C.E.dp pl:=by
    intro pl
    cases pl with
    | c k off=>rfl
    | s d'=>
     simp only [St.rowAt,uh]
     show (match an st.fr d' with | .o t es=>some (t,es) | _=>none)=_
     generalize an st.fr d'=y
     cases y with
     | r pl=>cases pl<;>rfl
     | v pl lo len=>cases pl<;>rfl
     | q pl i sz off=>cases pl<;>rfl
     | _=>rfl
   have hnh:iR hid (an st.fr d)=false:=by
    have:=jj (p:=fun y=>!iR hid y) rfl _ hfr d
    simpa using this
   show SR C w' _ _ a d (an st.fr d) _
   by_cases hbc:sF (an st.fr d)=true
   ·have hx0:=h.fr d
    have hkey:∀ k off,hid k=true→∀ r,(st.bL C.E.dp (fun k=>if hid k=true then st.box C.E.dp k else hp' k)).rowAt C.E.dp (.c k off)=some r→st.rowAt C.E.dp (.c k off)=some r∧du w' {σ1 with κ:=σ.κ} a (.c k off)=du w σ a (.c k off):=by
     intro k off hk r hr
     have hbox:∀ cs,(st.bL C.E.dp (fun k=>if hid k=true then st.box C.E.dp k else hp' k)).box C.E.dp k=some cs→st.box C.E.dp k=some cs:=by
      intro cs hcs
      obtain ⟨kd,ke⟩:=k
      by_cases hkd:kd=C.E.dp
      ·subst hkd
       have h4:az (kJ C.E.dp (fun k=>if hid k=true then st.box C.E.dp k else hp' k) st.bx) ke=some cs:=by simpa [St.box,St.bL] using hcs
       have:=sn h4
       rw [if_pos hk] at this
       exact this
      ·have h4:(if kd<C.E.dp then (if hid ⟨kd,ke⟩=true then st.box C.E.dp ⟨kd,ke⟩ else hp' ⟨kd,ke⟩) else none)=some cs:=by
        have h5:(st.bL C.E.dp (fun k=>if hid k=true then st.box C.E.dp k else hp' k)).box C.E.dp ⟨kd,ke⟩=(if kd<C.E.dp then (if hid ⟨kd,ke⟩=true then st.box C.E.dp ⟨kd,ke⟩ else hp' ⟨kd,ke⟩) else none):=by
         show (if kd=C.E.dp then _ else _)=_
         rw [if_neg hkd]
         rfl
        rw [←h5];exact hcs
       rw [if_pos hk] at h4
       split at h4
       ·exact h4
       ·cases h4
     simp only [St.rowAt] at hr ⊢
     cases hb:(st.bL C.E.dp (fun k=>if hid k=true then st.box C.E.dp k else hp' k)).box C.E.dp k with
     | none=>simp [hb] at hr
     | some cs=>
      have hb':=hbox cs hb
      rw [hb] at hr
      rw [hb']
      refine ⟨hr,?_⟩
      obtain ⟨vs',T,hB⟩:=h.bx k cs hb'
      have hn:¬Wh C σ hid (σ.κ k):=fun hw=>(hw.2 k hk).1 hB.ow
      simp only [du]
      rw [hst.bw _ (h.own _ _ hB.ow) hn]
    generalize an st.fr d=y at hx0 hbc hnh
    cases y with
    | r pl=>
     cases pl with
     | s d'=>cases hbc
     | c k off=>
      have hk:hid k=true:=by simpa [iR] using hnh
      intro hs
      obtain ⟨r,hr⟩:=Option.isSome_iff_exists.1 hs
      obtain ⟨h4,h5⟩:=hkey k off hk r hr
      rw [h5]
      exact hx0 (by rw [h4];rfl)
    | v pl lo len=>
     cases pl with
     | s d'=>cases hbc
     | c k off=>
      have hk:hid k=true:=by simpa [iR] using hnh
      intro t es ht hle
      obtain ⟨h4,h5⟩:=hkey k off hk _ ht
      rw [h5]
      exact hx0 t es h4 hle
    | q pl i sz off'=>
     cases pl with
     | s d'=>cases hbc
     | c k off=>
      have hk:hid k=true:=by simpa [iR] using hnh
      intro t es ht hle
      obtain ⟨h4,h5⟩:=hkey k off hk _ ht
      rw [h5]
      exact hx0 t es h4 hle
    | _=>cases hbc
   ·have h4:=h2.fr d
    rw [uh,if_neg hbc] at h4
    exact h4.xM fun pl _ _=>⟨hrow pl,rfl⟩
  exact hK v w' {σ1 with κ:=σ.κ} ⟨h1,h3,fun _ _=>gP (hv.xS (fun _ h=>h) (fun _ _=>rfl) hpx),fun _ _ _ _ e=>by subst e;cases hpx⟩
theorem Rh{f:FuncId}{xs:List aP}{sl dl ow:List Nat}(hR:fV C.P R)(h:ah C st a w σ)(hl:aI C.P (.ch f xs sl dl ow) o.op=true)(he:execOp R Ω C.E st d (.ch f xs sl dl ow)=some r):b6 C o d a w σ r.2 r.1:=by
 simp only [aI] at hl;split at hl
 ·rename_i c hop
  simp only [Bool.and_eq_true] at hl
  obtain ⟨h1,h2⟩:=hl
  split at h1
  ·rename_i f' hcal
   obtain rfl:f=f':=by simpa using h1
   obtain ⟨h3,h4⟩:=h.rL _ _ h2
   simp only [execOp,sr] at he
   split at he
   ·rename_i hc
    simp only [Bool.and_eq_true,Bool.not_eq_true'] at hc
    obtain ⟨⟨⟨⟨⟨hro,hcp⟩,hdp⟩,hfr⟩,_⟩,_⟩:=hc
    obtain ⟨⟨q,hp'⟩,hq,he2⟩:=Option.bind_eq_some_iff.1 he
    clear he
    cases q with
    | new cs=>cases he2
    | ret x=>?_
    simp only at he2
    split at he2
    case isFalse=>cases he2
    obtain rfl:=Option.some.inj he2
    have hcp':∀ x∈List.map st.ev xs,x.copy=true:=fun x hx=>List.all_eq_true.1 hcp x hx
    refine JT (hid:=eW C.E.dp st sl dl ow) hro h h3 h4 hcp' hfr (fun d cs hb c hm=>jE (rn.1 hdp d cs hb) c hm) (hR.ret _ f _ _ _ hp' hq hcp') fun hb=>?_
    have hev:a.eval (.func f)= .func (.func f) #[] #[]:=rfl
    have hcf:=dm hb (List.map a.eval c.args.toList).toArray w
    have ha:(List.map a.eval c.args.toList).toArray=c.args.map a.eval:=by apply Array.ext';simp
    rw [ha] at hcf
    rw [ha]
    unfold Go.execOp
    simp [hop,resolve,hcal,hev,Deferred.ofValue,invoke]
    exact hcf
   ·cases he
  ·cases h1
 ·cases hl
theorem Ri{n:Option Nat}{x y:aP}{lv:Bool}(h:ah C st a w σ)(hl:aI C.P (.lk n x y lv) o.op=true)(he:execOp R Ω C.E st d (.lk n x y lv)=some r):b6 C o d a w σ r.2 r.1:=by
 refine Gb (R:=R) (Ω:=Ω) (n:=n) (x:=x) h hl ?_
 simp only [execOp] at he ⊢
 split at he
 ·rename_i k off hx
  rw [hx]
  split at he
  ·exact he
  ·cases he
 ·cases he
theorem Rj{f:FuncId}{x:aP}(hΩ:fe C.P Ω)(h:ah C st a w σ)(hl:aI C.P (.sb f x) o.op=true)(he:execOp R Ω C.E st d (.sb f x)=some r):b6 C o d a w σ r.2 r.1:=by
 simp only [aI] at hl;split at hl
 ·rename_i c hop
  simp only [Bool.and_eq_true] at hl
  obtain ⟨h1,h2⟩:=hl
  split at h1
  ·rename_i f' hcal
   obtain rfl:f=f':=by simpa using h1
   obtain ⟨y',hargs,hly⟩:∃ y',c.args.toList=[y']∧aR y' x=true:=by
    cases ha:c.args.toList with
    | nil=>rw [ha] at h2;simp [cF] at h2
    | cons y' l=>
     rw [ha] at h2
     cases l with
     | nil=>exact ⟨y',rfl,by simpa [cF] using h2⟩
     | cons z l=>simp [cF] at h2
   simp only [execOp] at he
   split at he
   ·rename_i k off hx
    split at he
    ·rename_i hm
     obtain ⟨cs,hbx,he2⟩:=Option.bind_eq_some_iff.1 he
     clear he
     split at he2
     ·rename_i t es hz
      obtain ⟨z,hq,he3⟩:=Option.bind_eq_some_iff.1 he2
      clear he2
      split at he3
      ·obtain ⟨l,hes,he4⟩:=Option.bind_eq_some_iff.1 he3
       clear he3
       split at he4
       ·cases he4
       ·rename_i hl0
        obtain rfl:=Option.some.inj he4
        have hv:=(hx▸h.cB hly (by rw [hx];simp) (by rw [hx];rfl)).il
        obtain ⟨vs,T,hB⟩:=h.bx k cs hbx
        have hlt:off+1<vs.size:=by rw [hB.size];exact bc hz
        have hes':=uY hes
        subst hes'
        rcases hB.cell (off+1) _ hz with ⟨h3,_⟩ | ⟨g,cap,cs',hvg,hR⟩
        ·exact absurd (by simpa using h3) hl0
        ·obtain ⟨hb,hcall⟩:=hΩ.str f t hq
         have hne:l≠[]:=hl0
         have hsz:C.P.cellsOf t=1:=by
          cases l with
          | nil=>exact absurd rfl hne
          | cons c l=>exact (hR.nc (af c) (by simp)).symm
         have hrun:(Go.execOp a.eval o).run C.P w= .ok (.enter f #[a.eval y']) w:=by
          have hev:a.eval (.func f)= .func (.func f) #[] #[]:=rfl
          have hcf:=dm hb #[a.eval y'] w
          have ha:c.args.map a.eval=#[a.eval y']:=by apply Array.ext';simp [hargs]
          unfold Go.execOp
          simp [hop,resolve,hcal,hev,Deferred.ofValue,invoke,ha]
          exact hcf
         obtain ⟨hc1,hid⟩:=(h.aT (.c k (off+1))).Bl (pl:=.c k (off+1)) (st':=(st.aT (.c k (off+1))).aL C.E.dp k (cs.set (off+1) .u)) (by
          simp only [St.putAt,JL,hbx])
         have hWg:C.W g:=hR.wr hm
         intro K Q hK
         unfold Oper.wp
         rw [hrun,Oper.upon_enter,hv]
         have hec:=hR.ecap
         rw [List.length_map] at hec hvg
         refine (hcall w (σ.κ k) off vs T g cap cs' l hB.hh hlt hvg hR.hh hec hR.max (by rw [hR.size,hsz,Nat.mul_one]) hne (fun j c hj=>?_)).mono ?_
         ·have h5:=hR.cell j (af c) 0 (af c) (by rw [List.getElem?_map,hj];rfl) rfl
          rw [hsz,Nat.mul_one,Nat.add_zero] at h5
          have h6:=VR.lT h5
          have hj2:j<cs'.size:=by rw [hR.size,hsz,Nat.mul_one];have:=bc hj;omega
          simpa [Array.getD_eq_getD_getElem?,hj2] using h6
         ·rintro e w' ⟨rfl,hsize,hold,hio⟩
          have hsame:eS C w σ w' σ (some ((Pl.c k (off+1)).nJ C.E.dp)):=
           ⟨fun b l hb hne=>⟨hold b (fun e=>hne (by subst e;rw [←hb,hR.ow];rfl)),hb⟩,fun b hb=>hold b (fun e=>by subst e;have:=(h.bG b hb).2;rw [hR.ow] at this;cases this),fun _ hb=>hb,rfl,by rw [hsize];exact Nat.le_refl _,
            fun b l hb=>by rw [hsize];exact h.own b l hb,fun b hb=>by rw [hsize];exact h.bG b hb⟩
          exact hK _ w' σ ⟨⟨by rw [hsize];exact Nat.le_refl _,fun b hb hW=>hold b (fun e=>hW (by subst e;exact hWg)),fun _ hb=>hb,hsame.bG,fun b hb=>.inl hb,fun _ _=>rfl,fun _ _ _=>rfl,hio⟩,hc1.yu hsame hid,fun _ _=>gP (.s _),fun _ _ _ _ e=>by cases e⟩
      ·cases he3
     ·cases he2
    ·cases he
   ·cases he
  ·cases h1
 ·cases hl
theorem xU(hR':kB C.P R)(hΩ:fe C.P Ω)(ao:lJ)(h:ah C st a w σ)(hl:aI C.P ao o.op=true)(he:execOp R Ω C.E st d ao=some r):b6 C o d a w σ r.2 r.1:=by
 have hR:=hR'.h
 cases ao with
 | mv x=>exact Qw h hl he
 | as x=>exact QQ h hl he
 | pk c x y=>exact Qx h hl he
 | bx x=>exact QP h hl he
 | al zs=>exact QO h hl he
 | ld n x=>exact Gb h hl he
 | st n x y=>exact QR h hl he
 | fa off x=>exact QF h hl he
 | fd n off x=>exact QG h hl he
 | ia sz arr x i=>exact QI h hl he
 | ix x i=>exact QH h hl he
 | bo op bl x y=>exact QK h hl he
 | no x=>exact Qy h hl he
 | ng x=>exact Qz h hl he
 | cv k x=>exact QA h hl he
 | cs x=>exact QB h hl he
 | ae ks ng x y=>exact QJ h hl he
 | bs t sz es=>exact QS h hl he
 | bd zs fs=>exact QN h hl he
 | ms t sz by_ x n=>exact QT h hl he
 | sl t sz x lo hi=>exact QM h hl he
 | ex x i=>exact QC h hl he
 | mf f caps=>exact QD h hl he
 | ca m f args=>exact Q5 hR hΩ h hl he
 | cf m x args=>exact Q6 hR hΩ h hl he
 | c2 f args=>exact Q9 hR hΩ h hl he
 | d2 x args=>exact Ra hR hΩ h hl he
 | c3 f args=>obtain ⟨h1,h2⟩:=HI hR h (fun _ _=>rfl) (fun _ _ h=>h) hl he;rw [h1];exact h2
 | d3 x args=>obtain ⟨h1,h2⟩:=HJ hR h (fun _ _=>rfl) (fun _ _ h=>h) hl he;rw [h1];exact h2
 | cn f args=>exact Q7 hR h hl he
 | cr t f args=>exact Q8 hΩ h hl he
 | ln str x=>exact QL h hl he
 | ap t sz by_ x y=>exact QV h hl he
 | nc x=>exact QE h hl he
 | cw t f args=>exact Rb hR' h hl he
 | vi g f args=>exact Rg hR hΩ h hl he
 | ch f args sl dl ow=>exact Rh hR h hl he
 | lk n x y lv=>exact Ri h hl he
 | bz t off x=>exact QY h hl he
 | lz x=>exact QZ h hl he
 | pe ng x y=>exact Q0 h hl he
 | cp t n off x=>exact Q1 h hl he
 | aq t x y=>exact Q2 h hl he
 | sb f x=>exact Rj hΩ h hl he
 | tx x=>exact Q3 h hl he
 | sz x y=>exact Q4 h hl he
 | xw x i=>exact Rc h hl he
 | sw n x y=>exact Re h hl he
 | lw n x=>exact Rd h hl he
 | sp f x=>exact Rf hΩ h hl he
end
end Go.Proofs.YtogbakbmphadfaaGreatDoor.A
