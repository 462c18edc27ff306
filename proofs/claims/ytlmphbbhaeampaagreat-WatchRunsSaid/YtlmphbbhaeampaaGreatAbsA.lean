/- Boxes and rows that are made, written, grown: the model does what the abstract run says. -/
import Derived.Test.YtlmphbbhaeampaaGreatAbs8
import Derived.Great.BuildSlice
import Derived.Laws.MakeOwn
import Derived.Deep.AppendSrc
import Derived.Deep.Upon
set_option linter.all false
namespace Go.Proofs.YtlmphbbhaeampaaGreat.A
open Go
variable [cN]
section
variable {C:Cx}{st:St}{a:Act}{w:World}{σ:Sp}{o:Oper}{d:Option Nat}{R:Rec}{Ω:ej}{r:AV×St}
theorem HM{k:Key}{l:List AV}(h:∀ x∈l,x.dD k=true):AV.jI k l=true:=by
 induction l with
 | nil=>rfl
 | cons y l ih=>
  grind [AV.jI]
theorem NC{I:Nat→Prop}{κ:Key→Nat}{n dp s:Nat}(hn:n<dp)(x:AV){v:Value}(h:VR w I κ x v)(hd:x.deep n=true):x.dD ⟨dp,s⟩=true:=by
 induction h with
 | f g cs vs hg hl hc ih=>
  refine HM fun c hm=>?_
  obtain ⟨m,aT⟩:=fP.1 hm
  exact ih m c aT (pS hd c hm)
 | fm g cs vs hl hc ih=>
  refine HM fun c hm=>?_
  obtain ⟨m,aT⟩:=fP.1 hm
  exact ih m c aT (pS hd c hm)
 | a cs vs hl h1 hc ih=>
  refine HM fun c hm=>?_
  obtain ⟨m,aT⟩:=fP.1 hm
  exact ih m c aT (pS hd c hm)
 | tp cs vs hl hc ih=>
  refine HM fun c hm=>?_
  obtain ⟨m,aT⟩:=fP.1 hm
  exact ih m c aT (pS hd c hm)
 | ifc t x v h ih=>exact ih hd
 | p k off=>
  grind [AV.deep,AV.dD]
 | sp k off m sz cap h1 h2=>
  grind [AV.deep,AV.dD]
 | _=>rfl
def Sp.add(σ:Sp)(b:Nat)(L:Option e8):Sp:={σ with ow:=fun x=>if x=b then L else σ.ow x}
theorem jB.alloc(h:aE C st a w σ)(o:Obj)(L:Option e8):jB C w σ (w.alloc o) (σ.add w.heap.size L) none:=by
 have V:∀ b l,σ.ow b=some l→b≠w.heap.size:=fun b l hb e=>by have:=h.own b l hb;omega
 refine ⟨fun b l hb _=>⟨heap_alloc_old w o (h.own b l hb),?_⟩,fun b hb=>heap_alloc_old w o (h.da b hb).1,fun _ h=>h,rfl,by simp,fun b l hb=>?_,fun b hb=>?_⟩
 ·grind [Sp.add]
 ·simp only [Sp.add] at hb
  split at hb
  ·simp;omega
  ·have:=h.own b l hb;simp;omega
 ·have bd:σ.I b:=hb
  obtain ⟨h1,h2⟩:=h.da b bd
  refine ⟨by simp;omega,?_⟩
  grind [Sp.add]
theorem jB.drew{w':World}{σ':Sp}{M:Option e8}(h:jB C w.drew σ w' σ' M):jB C w σ w' σ' M:=⟨h.blk,h.da,h.up,h.kap,h.size,h.own,h.dn⟩
theorem dJ.alloc(h:aE C st a w σ)(o:Obj)(L:Option e8):dJ C w σ (w.alloc o) (σ.add w.heap.size L):=
 ⟨by simp,by grind [heap_alloc_old],fun _ h=>h,fun b hb=>heap_alloc_old w o (h.da b hb).1,fun _ h=>.inl h,fun _ _=>rfl,fun b hb _=>ah (aj hb),rfl,rfl⟩
theorem aE.O8{d:Nat}{cs:List AV}{vs:Array Value}{T:TypeId}(h:aE C st a w σ)(hd:d<1000000)(aL:CA w σ.I σ.κ cs vs)(ap:∀ c∈cs,c.dD ⟨C.E.dp,d⟩=true)(bV:∀ c∈cs,∀ t es,c≠.o t es)
  (a0:∀ d',(aQ st.fr d').dD ⟨C.E.dp,d⟩=true) (aB:∀ d' cs',bH st.bx d'=some cs'→∀ c∈cs',c.dD ⟨C.E.dp,d⟩=true)
  (cC:∀ k cs',k.dp≠C.E.dp→st.hp k=some cs'→∀ c∈cs',c.dD ⟨C.E.dp,d⟩=true) :
  ∃ σ',dJ C w σ (w.alloc (.cells vs T)) σ'∧aE C {st with bx:=(d,cs)::st.bx} a (w.alloc (.cells vs T)) σ'∧σ'.κ ⟨C.E.dp,d⟩=w.heap.size∧σ'.I=σ.I:=by
 have hs:=jB.alloc h (.cells vs T) (some (.box ⟨C.E.dp,d⟩))
 have h1:=h.same hs
 refine ⟨{(σ.add w.heap.size (some (.box ⟨C.E.dp,d⟩))) with κ:=fun k=>if k=⟨C.E.dp,d⟩ then w.heap.size else σ.κ k},?_,?_,by simp,rfl⟩
 ·have:=dJ.alloc h (.cells vs T) (some (.box ⟨C.E.dp,d⟩))
  exact ⟨this.size,this.cn,this.up,this.da,this.dn,by grind,this.ow,this.io⟩
 ·have ak:∀ k,k≠⟨C.E.dp,d⟩→(if k=⟨C.E.dp,d⟩ then w.heap.size else σ.κ k)=σ.κ k:=fun k hk=>ah hk
  have bT:∀ (x:AV),x.dD ⟨C.E.dp,d⟩=true→∀ k,x.dD k=false→k≠⟨C.E.dp,d⟩:=by
   grind
  have D:∀ pl r,({st with bx:=(d,cs)::st.bx} : St).rowAt C.E.dp pl=some r→(∀ off,pl≠.c ⟨C.E.dp,d⟩ off)→st.rowAt C.E.dp pl=some r:=by
   intro pl r hr V
   cases pl with
   | s d'=>exact hr
   | c k off=>
    grind [St.rowAt,St.box,bH]
  refine ⟨h1.size,h1.defers,fun d'=>?_,fun k cs' hk=>?_,h1.hpd,h1.own,h1.da,h1.new,h1.lay⟩
  ·have hx:=h1.fr d'
   have hn:=a0 d'
   have a4:∀ pl,(∀ off,pl≠.c ⟨C.E.dp,d⟩ off)→ic (w.alloc (.cells vs T)) {(σ.add w.heap.size (some (.box ⟨C.E.dp,d⟩))) with κ:=fun k=>if k=⟨C.E.dp,d⟩ then w.heap.size else σ.κ k} a pl=
     ic (w.alloc (.cells vs T)) (σ.add w.heap.size (some (.box ⟨C.E.dp,d⟩))) a pl:=by
    intro pl V
    cases pl with
    | s d''=>rfl
    | c k off=>
     have:k≠⟨C.E.dp,d⟩:=fun e=>V off (by rw [e])
     simp only [ic,ah this]
     rfl
   generalize aQ st.fr d'=x at hx hn ⊢
   show SR _ _ _ _ _ _ x _
   cases x with
   | o t es=>exact OwnAt.cn (C:=C) hx (fun g hg=>⟨rfl,hg⟩) (fun _ h=>h) (fun _ _=>rfl)
   | r pl=>
    have V:∀ off,pl≠.c ⟨C.E.dp,d⟩ off:=by grind [AV.dD]
    intro aP
    obtain ⟨r,hr⟩:=jK.1 aP
    rw [a4 pl V]
    exact hx (by grind)
   | v pl lo len=>
    have V:∀ off,pl≠.c ⟨C.E.dp,d⟩ off:=by grind [AV.dD]
    intro t es ht ai
    rw [a4 pl V]
    exact hx t es (D pl _ ht V) ai
   | q pl i sz off=>
    have V:∀ off,pl≠.c ⟨C.E.dp,d⟩ off:=by grind [AV.dD]
    intro t es ht ai
    rw [a4 pl V]
    exact hx t es (D pl _ ht V) ai
   | w g t x=>exact ry.cn hx (fun b hb=>⟨rfl,hb⟩) fun _ h=>h
   | ag cs' rs=>exact zC.to hx (fun c hc v hv=>hv.mono (fun _ h=>h) (fun _ _=>rfl) fun k hk=>ak k ((by grind [lV,AV.dD]))) (fun _ _ hr=>⟨hr,rfl⟩)
   | _=>exact VR.mono hx (fun _ h=>h) (fun _ _=>rfl) fun k hk=>ak k (bT _ hn k hk)
  ·by_cases hK:k=⟨C.E.dp,d⟩
   ·subst hK
    simp only [St.box,aH,bH] at hk
    obtain rfl:=aq hk
    refine ⟨vs,T,by grind [heap_alloc_new],xt aL.len,by simp [Sp.add],fun _=>(h.new _ (by simp)).1,aL.one,fun off c hc=>?_,fun t _ _ ht=>(by obtain ⟨m,hm⟩:=fP.1 ht;cases aL.cell m _ hm),by grind,by simp only [aH];exact (h.new _ (bG _)).2⟩
    have cF:=cm hc
    have hv:=(aL.cell off c hc).mono (w':=w.alloc (.cells vs T)) (I':=σ.I) (κ':=fun k=>if k=⟨C.E.dp,d⟩ then w.heap.size else σ.κ k) (fun _ h=>h)
     (fun b hb=>heap_alloc_old w _ (h.da b hb).1) ((by grind))
    exact Vm hv
   ·have bh:st.box C.E.dp k=some cs':=by
     simp only [St.box] at hk ⊢
     by_cases aZ:k.dp=C.E.dp
     ·have V:d≠k.d:=fun e=>hK (by cases k;grind)
      grind [bH]
     grind
    obtain ⟨vs',T',hB⟩:=h1.bx k cs' bh
    have G:∀ c∈cs',c.dD ⟨C.E.dp,d⟩=true:=by
     grind [St.box]
    refine ⟨vs',T',by simp only [ah hK];exact hB.hh,hB.size,by simp only [ah hK];exact hB.ow,fun hw=>by simp only [ah hK];exact hB.wr hw,hB.one,fun off c hc=>?_,hB.ty,by simp only [ah hK];exact hB.kb⟩
    exact CR.cn (C:=C) (hB.cell off c hc) (fun g hg=>⟨rfl,hg⟩) (fun _ h=>h) (fun _ _=>rfl) (fun k hk=>ak k (bT c (G c (cm hc)) k hk)) fun b g hg=>⟨rfl,hg⟩
theorem nh{p:AV→Bool}(hu:p .u=true):∀ (fr:List (Nat×AV)),fr.all (fun y=>p y.2)=true→∀ d,p (aQ fr d)=true
 | [],_,_=>hu
 | (k,x)::fr,h,d=>by
  simp only [List.all_cons,aY] at h
  simp only [aQ]
  split
  ·exact h.1
  ·exact nh hu fr h.2 d
theorem oR{p:List AV→Bool} : ∀ (bx:List (Nat×List AV)),bx.all (fun y=>p y.2)=true→∀ d cs,bH bx d=some cs→p cs=true
 | [],_,_,_,h=>by cases h
 | (k,x)::bx,h,d,cs,hb=>by
  simp only [List.all_cons,aY] at h
  simp only [bH] at hb
  split at hb
  ·grind
  ·exact oR bx h.2 d cs hb
theorem HN(h:aE C st a w σ)(d:Nat):∀ k cs,k.dp≠C.E.dp→st.hp k=some cs→∀ c∈cs,c.dD ⟨C.E.dp,d⟩=true:=by
 intro k cs hk hc c hm
 obtain ⟨h1,h2⟩:=h.hpd k cs hk hc
 obtain ⟨vs,T,hB⟩:=h.bx k cs (by simp [St.box,hk,hc])
 obtain ⟨off,ho⟩:=fP.1 hm
 have F:=hB.cell off c ho
 have hd:=h2 c hm
 cases c with
 | o t es=>rfl
 | r _=>cases F
 | v _ _ _=>cases F
 | q _ _ _ _=>cases F
 | u=>rfl
 | w _ _ _=>rfl
 | bp _ k' _=>
  grind [AV.deep,AV.dD]
 | _=>exact NC h1 _ F hd
theorem OQ{w:World}{I:Nat→Prop}{κ:Key→Nat}{k:Key}{b:Nat}(h:κ k=b):VR w I κ (.p k 0) (.pointer (some ⟨b,0,none⟩)):=by
 subst h;exact .p k 0
theorem R8{zs:List AV}{dd:Nat}(h:aE C st a w σ)(hd:dd<1000000)(hl:cE C.P (.al zs) o.op=true)(Q:d=some dd)(a0:∀ d',(aQ st.fr d').dD ⟨C.E.dp,dd⟩=true)
  (aB:∀ d' cs',bH st.bx d'=some cs'→∀ c∈cs',c.dD ⟨C.E.dp,dd⟩=true):e9 C o d a w σ {st with bx:=(dd,zs)::st.bx} (.p ⟨C.E.dp,dd⟩ 0):=by
 simp only [cE] at hl
 split at hl
 ·rename_i t aF
  split at hl
  ·rename_i v hz
   simp only [aY] at hl
   obtain ⟨hlen,F⟩:=vd (w:=w) (I:=σ.I) (κ:=σ.κ) v.cells.toList zs hl.1
   have a5:∀ c∈zs,c.pure=true:=by grind [List.mem_iff_getElem?]
   have aL:CA w σ.I σ.κ zs v.cells:=⟨by grind,by grind,by grind [Array.getD_eq_getD_getElem?]⟩
   obtain ⟨σ',ac,a1,hk,hI⟩:=h.O8 (T:=t) hd aL ((by grind [lW])) (fun c hm t es e=>by have:=a5 c hm;rw [e] at this;cases this)
    a0 aB (HN h dd)
   refine .lg (cv:=.pointer (some ⟨w.heap.size,0,none⟩)) ?_ ⟨ac,a1,fun _ _=>o0 (OQ hk),fun _ _ _ _ e=>by cases e⟩
   simp_all [Go.execOp,Instr.alloc,I2,newVar,newRow]
  ·cases hl
 ·cases hl
theorem ZJ{P:Program}{zs:List AV}{op:Op}(hl:cE P (.al zs) op=true):∀ c∈zs,c.pure=true:=by
 simp only [cE] at hl
 split at hl
 ·split at hl
  ·rename_i v hz
   simp only [aY] at hl
   obtain ⟨hlen,F⟩:=vd (w:=default) (I:=fun _=>False) (κ:=fun _=>0) v.cells.toList zs hl.1
   grind [List.mem_iff_getElem?]
  ·cases hl
 ·cases hl
theorem ahh{zs:List AV}(h:aE C st a w σ)(hl:cE C.P (.al zs) o.op=true)(he:execOp R Ω C.E st d (.al zs)=some r) :
  e9 C o d a w σ r.2 r.1:=by
 simp only [execOp] at he
 obtain ⟨dd,Q,he⟩:=au.1 he
 split at he
 ·rename_i hc
  simp only [aY] at hc
  obtain rfl:=aq he
  exact R8 h (by grind [mq]) hl Q (nh rfl _ hc.1.2) (fun d' cs' hb c hm=>lV (oR _ hc.2 d' cs' hb) c hm)
 ·cases he
theorem ahi{x:bY}(h:aE C st a w σ)(hl:cE C.P (.bx x) o.op=true)(he:execOp R Ω C.E st d (.bx x)=some r) :
  e9 C o d a w σ r.2 r.1:=by
 simp only [cE] at hl
 split at hl
 ·rename_i t y aF
  simp only [execOp] at he
  obtain ⟨dd,Q,he⟩:=au.1 he
  split at he
  ·rename_i hc
   simp only [aY] at hc
   obtain ⟨⟨⟨⟨⟨aX,h1⟩,cD⟩,bt⟩,a0⟩,aB⟩:=hc
   have hd:dd<1000000:=by grind [mq]
   obtain rfl:=aq he
   have hv:=h.vA hl aX
   have be:∀ c∈(st.ev x).cl,c.one=true:=by grind
   obtain ⟨hlen,F⟩:=hv.cells be
   have aL:CA w σ.I σ.κ (st.ev x).cl (a.eval y).cells:=⟨hlen,fun c hc=>.inl (be c hc),F⟩
   have hK:(st.ev x).dD ⟨C.E.dp,dd⟩=true:=by
    cases x with
    | t n=>exact nh (p:=fun y=>y.dD ⟨C.E.dp,dd⟩) rfl _ a0 n
    | c z=>exact lW _ (si hl)
   have cz:∀ c∈(st.ev x).cl,c.dD ⟨C.E.dp,dd⟩=true:=by
    intro c hm
    generalize st.ev x=z at hm hK
    cases z<;>simp only [AV.cl,oM] at hm<;>first | (subst hm;exact hK) | exact lV hK c hm
   have br:∀ c∈(st.ev x).cl,∀ t es,c≠.o t es:=by
    intro c hm t es e
    subst e
    obtain ⟨m,hm⟩:=fP.1 hm
    have:=F m _ hm
    cases this
   obtain ⟨σ',ac,a1,hk,hI⟩:=h.O8 (T:=t) hd aL cz br
    (nh rfl _ a0) (fun d' cs' hb c hm=>lV (oR _ aB d' cs' hb) c hm) (HN h dd)
   refine .lg (cv:=.pointer (some ⟨w.heap.size,0,none⟩)) ?_ ⟨ac,a1,fun _ _=>o0 (OQ hk),fun _ _ _ _ e=>by cases e⟩
   simp_all [Go.execOp,Instr.box,newVar,newRow]
  ·cases he
 ·cases hl
end
variable [cN]
section
variable {C:Cx}{st:St}{a:Act}{w:World}{σ:Sp}{o:Oper}{d:Option Nat}{R:Rec}{Ω:ej}{r:AV×St}
theorem zg(bx:List (Nat×List AV))(d:Nat)(cs:List AV)(d':Nat) :
  bH (nO bx d cs) d'=if d'=d then (bH bx d).map fun _=>cs else bH bx d':=by
 induction bx with
 | nil=>simp [nO,bH]
 | cons x bx ih=>
  grind [nO,bH]
theorem kX{dp:Nat}{k:Key}{cs cs':List AV}(h:st.box dp k=some cs)(k':Key) :
  (st.bI dp k cs').box dp k'=if k'=k then some cs' else st.box dp k':=by
 simp only [St.box] at h
 by_cases hk:k.dp=dp
 ·simp only [hk,aH] at h
  simp only [St.box,St.bI,hk,aH,zg,h,kJ]
  by_cases bh:k'=k
  ·grind
  ·by_cases hd:k'.dp=dp
   ·have:k'.d≠k.d:=fun e=>bh (by cases k;cases k';grind)
    grind
   ·simp [hd,bh]
 ·simp only [ah hk] at h
  simp only [St.box,St.bI,ah hk,ar]
  grind
theorem pW(dp:Nat)(st:St)(k:Key)(cs:List AV):(st.bI dp k cs).fr=st.fr:=by
 grind [St.bI]
theorem s0{dp:Nat}{k:Key}{cs:List AV}(d:Nat):(st.bI dp k cs).rowAt dp (.s d)=st.rowAt dp (.s d):=by
 simp only [St.rowAt,pW]
theorem jB.setRow(h:aE C st a w σ){g:Nat}{L:e8}(bR:σ.ow g=some L)(cs:Array Value):jB C w σ (w.setRow g cs) σ (some L):=
 ⟨by grind [setRow_other],
  fun b hb=>setRow_other w g b cs (fun e=>by subst e;have:=(h.da b hb).2;grind),
  fun _ h=>h,rfl,by simp,fun b l hb=>by simpa using h.own b l hb,fun b hb=>by simpa using h.da b hb⟩
theorem dJ.setRow(h:aE C st a w σ){g:Nat}{L:e8}(bR:σ.ow g=some L)(hW:C.W g)(cs:Array Value):dJ C w σ (w.setRow g cs) σ:=
 ⟨by simp,by grind [setRow_other],fun _ h=>h,(jB.setRow h bR cs).da,fun _ h=>.inl h,fun _ _=>rfl,fun _ _ _=>rfl,rfl,rfl⟩
def tW(vs:Array Value)(off:Nat)(us:List Value):Array Value:=(vs.toList.take off++us++vs.toList.drop (off+us.length)).toArray
theorem Ez(vs:Array Value)(off:Nat)(us:List Value)(h:off+us.length≤vs.size):(tW vs off us).size=vs.size:=by
 simp [tW];omega
theorem EA(vs:Array Value)(off:Nat)(us:List Value)(h:off+us.length≤vs.size)(i:Nat) :
  (tW vs off us).getD i undef=if off≤i∧i<off+us.length then us[i - off]?.getD undef else vs.getD i undef:=by
 have h1:(vs.toList.take off).length=off:=by simp;omega
 simp only [tW,iy,B3]
 grind
theorem aE.O9{k:Key}{cs:List AV}{vs:Array Value}{T:TypeId}{off:Nat}{ys:List AV}{us:List Value}(h:aE C st a w σ)(hb:st.box C.E.dp k=some cs)(hB:lE C w σ k cs vs T)
  (hl:ys.length=us.length) (hle:off+ys.length≤cs.length) (h1:∀ c∈ys,c.one=true) (hc:∀ (j:Nat)(c:AV),ys[j]? =some c→CR C w σ k (off+j) c (us[j]?.getD undef))
  (bM:∀ (j:Nat) t es,ys[j]? =some (.o t es)→∀ d,(aQ st.fr d).fX (.c k (off+j))=false) (ap:k.dp≠C.E.dp→∀ c∈ys,c.deep k.dp=true) (cA:∀ t k u,AV.bp t k u∈ys→t=T∧vs.size=cs.length) :
  aE C (st.bI C.E.dp k (putCells cs off ys)) a (w.setRow (σ.κ k) (tW vs off us)) σ:=by
 have hs:=jB.setRow h hB.ow (tW vs off us)
 have N:off+us.length≤vs.size:=by have:=hB.size;omega
 have av:=fun k'=>kX (cs':=putCells cs off ys) hb k'
 have aI:(w.setRow (σ.κ k) (tW vs off us)).heap[σ.κ k]? =some (.cells (tW vs off us) T (0,0)):=setRow_heap w _ _ _ _ _ hB.hh
 have ad:∀ k',k'≠k→st.box C.E.dp k'≠none→(w.setRow (σ.κ k) (tW vs off us)).heap[σ.κ k']? =w.heap[σ.κ k']? :=by
  intro k' V bd
  obtain ⟨cs',aW⟩:=Option.ne_none_iff_exists'.1 bd
  obtain ⟨vs',T',ab⟩:=h.bx k' cs' aW
  exact (hs.blk _ _ ab.ow (by simp [V])).1
 have aA:∀ i,¬(off≤i∧i<off+ys.length)→(putCells cs off ys)[i]? =cs[i]? :=by
  intro i hi;rw [kd _ _ _ hle,ah hi]
 have D:∀ pl r,(st.bI C.E.dp k (putCells cs off ys)).rowAt C.E.dp pl=some r→(∀ j t es,ys[j]? =some (.o t es)→pl≠.c k (off+j))→
   st.rowAt C.E.dp pl=some r∧ic (w.setRow (σ.κ k) (tW vs off us)) σ a pl=ic w σ a pl:=by
  intro pl r hr V
  cases pl with
  | s d'=>rw [s0] at hr;exact ⟨hr,rfl⟩
  | c k' off'=>
   simp only [St.rowAt,av] at hr
   by_cases hk:k'=k
   ·subst hk
    simp only [aH] at hr
    by_cases hi:off≤off'∧off'<off+ys.length
    ·grind [kd]
    ·rw [aA off' hi] at hr
     refine ⟨by grind [St.rowAt],?_⟩
     simp only [ic,aI,hB.hh]
     grind [EA]
   ·simp only [ah hk] at hr
    refine ⟨by simp only [St.rowAt];exact hr,?_⟩
    have:st.box C.E.dp k'≠none:=fun e=>by simp [e] at hr
    simp only [ic,ad k' hk this]
 refine ⟨h.size,h.defers.same hs (by simp),fun d'=>?_,fun k' cs' hk=>?_,fun k' cs' hk S=>?_,hs.own,hs.dn,fun b hb=>h.new b (by simpa using hb),h.lay.cn hs.up hs.da⟩
 ·have hx:=h.fr d'
  have bg:∀ pl,(aQ st.fr d').fX pl=true→∀ j t es,ys[j]? =some (.o t es)→pl≠.c k (off+j):=by
   grind
  rw [pW]
  generalize aQ st.fr d'=x at hx bg ⊢
  cases x with
  | o t es=>exact OwnAt.same hs (by simp) hx
  | r pl=>
   intro aP
   obtain ⟨r,hr⟩:=jK.1 aP
   obtain ⟨h2,h3⟩:=D pl r hr (bg pl (by simp [AV.fX]))
   rw [h3]
   exact hx (by rw [h2];rfl)
  | v pl lo len=>
   intro t es ht ai
   obtain ⟨h2,h3⟩:=D pl _ ht (bg pl (by simp [AV.fX]))
   rw [h3]
   exact hx t es h2 ai
  | q pl i sz off=>
   intro t es ht ai
   obtain ⟨h2,h3⟩:=D pl _ ht (bg pl (by simp [AV.fX]))
   rw [h3]
   exact hx t es h2 ai
  | w g t x=>exact ry.same hs (by simp [Pl.rv]) hx
  | ag cs' rs=>
   refine zC.to hx (fun c _ v hv=>VR.same hs hv) (fun q hq hr=>?_)
   grind [Option.isSome_iff_exists]
  | _=>exact VR.same hs hx
 ·rw [av] at hk
  by_cases ax:k'=k
  ·subst ax
   simp only [aH] at hk
   cases hk
   refine ⟨tW vs off us,T,aI,by rw [Ez _ _ _ N,jN _ _ _ hle];exact hB.size,hB.ow,hB.wr,fun c hm=>?_,fun i c hi=>?_,fun t kk u ht=>?_,hB.kb⟩
   ·unfold putCells at hm
    rcases iA.1 hm with hm | hm
    ·rcases iA.1 hm with hm | hm
     ·exact hB.one c (oL hm)
     grind
    ·exact hB.one c (xj hm)
   ·rw [EA _ _ _ N]
    rw [kd _ _ _ hle] at hi
    rw [hl] at hi
    by_cases bi:off≤i∧i<off+us.length
    ·rw [af bi] at hi ⊢
     have:=hc (i - off) c hi
     rw [show off+(i - off)=i by omega] at this
     exact CR.same hs (by simp) this
    ·rw [ah bi] at hi ⊢
     exact CR.same hs (by simp) (hB.cell i c hi)
   ·rw [Ez _ _ _ N,jN _ _ _ hle]
    unfold putCells at ht
    rcases iA.1 ht with ht | ht
    ·rcases iA.1 ht with ht | ht
     ·exact hB.ty t kk u (oL ht)
     grind
    ·exact hB.ty t kk u (xj ht)
  ·simp only [ah ax] at hk
   obtain ⟨vs',T',ab⟩:=h.bx k' cs' hk
   exact ⟨vs',T',(ad k' ax (by simp [hk])).trans ab.hh,ab.size,ab.ow,ab.wr,ab.one,fun i c hi=>CR.same hs (by simp) (ab.cell i c hi),ab.ty,ab.kb⟩
 ·by_cases aZ:k.dp=C.E.dp
  ·simp only [St.bI,aZ,aH] at S
   exact h.hpd k' cs' hk S
  ·simp only [St.bI,ah aZ,ar] at S
   split at S
   ·rename_i ax
    subst ax
    cases S
    have hold:=h.hpd k' cs hk (by grind [St.box])
    grind [putCells]
   ·exact h.hpd k' cs' hk S
theorem Pa(cs:List AV)(off:Nat)(x:AV)(h:off<cs.length):cs.set off x=putCells cs off [x]:=by
 apply F7
 grind [kd]
theorem C7{t:TypeId}{g off:Nat}{vs:Array Value}{T:TypeId}{v:Value}{n:Nat}(hh:w.heap[g]? =some (.cells vs T (0,0)))(hs:sized C.P t n=true)(hn:v.cells.size=n)
  (hle:off+n≤vs.size) (h1:∀ u∈v.cells.toList,u.oneCell'=true) :
  (Instr.storeAt t (.pointer (some ⟨g,off,none⟩)) v).run C.P w= .ok () (w.setRow g (tW vs off v.cells.toList)):=by
 obtain ⟨ba,B,_⟩:=og hs
 have:=run_storeCells_at C.P g off T v.cells.toList 0 vs w hh (by simp;omega) h1
 simp only [p8] at this
 simp [Instr.storeAt,Instr.sureAddr,storeVar,mQ ba,B,hn,this,tW]
theorem WY{e:AV}{off:Nat}{ys:List AV}(hle:off+ys.length≤e.nc)(h1:∀ c∈ys,c.one=true):(En e off ys).cl=putCells e.cl off ys:=by
 by_cases ha:∃ cs,e= .a cs
 ·obtain ⟨cs,rfl⟩:=ha;rfl
 ·have aK:e.cl=[e]:=by cases e<;>first | rfl | grind
  have Z:e.nc=1:=by simp [AV.nc,aK]
  have aR:En e off ys=J6 e ys:=by cases e<;>first | rfl | grind
  rw [aR,aK]
  rw [Z] at hle
  match ys,hle,h1 with
  | [],hle,_=>
   simp_all [putCells,J6]
  | [y],hle,h1=>
   have:off=0:=by grind
   subst this
   have:=h1 y (by simp)
   have hy:y.cl=[y]:=by cases y<;>first | rfl | (simp [AV.one] at this)
   simp [putCells,hy,J6]
  | y::z::ys,hle,_=>grind
theorem WZ{x:AV}(h:∀ c∈x.cl,c.pure=true):x.pure=true:=by
 cases x with
 | a cs=>exact lU h
 | _=>exact h _ (by simp [AV.cl])
theorem AZ{cs:List AV}{off:Nat}{ys:List AV}{c:AV}(h:c∈putCells cs off ys):c∈cs∨c∈ys:=by
 grind [putCells]
theorem fY.put{P:Program}{W:Nat→Prop}{L:e8}{wp:Prop}{t:TypeId}{es:List AV}{g cap:Nat}{cs:Array Value}{i off:Nat}{e:AV}{ys:List AV}{us:List Value}
  (hR:fY P W w σ L wp t es g cap cs) (hs:jB C w σ (w.setRow g (tW cs (i*P.cellsOf t+off) us)) σ (some L)) (he:es[i]? =some e) (hl:ys.length=us.length) (hle:off+ys.length≤P.cellsOf t)
  (h1:∀ c∈ys,c.one=true) (hp:∀ c∈ys,c.pure=true) (hv:∀ (m:Nat)(c:AV),ys[m]? =some c→VR w σ.I σ.κ c (us[m]?.getD undef)) :
  fY P W (w.setRow g (tW cs (i*P.cellsOf t+off) us)) σ L wp t (es.set i (En e off ys)) g cap (tW cs (i*P.cellsOf t+off) us):=by
 have bc:=cm he
 have hi:=eh he
 have Z:=hR.nc e bc
 have aK:=WY (e:=e) (off:=off) (ys:=ys) (by rw [Z];exact hle) h1
 have co:e.cl.length=P.cellsOf t:=Z
 have N:i*P.cellsOf t+off+us.length≤cs.size:=by
  rw [hR.size]
  have:(i+1)*P.cellsOf t≤cap*P.cellsOf t:=iz _ (by have:=hR.ecap;omega)
  grind
 have G:∀ x∈es.set i (En e off ys),x∈es∨x=En e off ys:=by grind
 refine ⟨hR.ow,hR.wr,setRow_heap w _ _ _ _ _ hR.hh,hR.pos,fun x hx=>?_,by simpa using hR.ecap,hR.max,by rw [Ez _ _ _ N,hR.size],fun x hx=>?_,fun x hx c hc=>?_,fun j x m c hj hm=>?_,hR.base⟩
 ·rcases G x hx with hx | rfl
  ·exact hR.nc x hx
  ·unfold AV.nc;rw [aK,jN _ _ _ (by omega)];exact Z
 ·rcases G x hx with hx | rfl
  ·exact hR.pure x hx
  ·refine WZ fun c hc=>?_
   rw [aK] at hc
   rcases AZ hc with hc | hc
   ·exact lA (hR.pure e bc) c hc
   ·exact hp c hc
 ·rcases G x hx with hx | rfl
  ·exact hR.one x hx c hc
  ·rw [aK] at hc
   rcases AZ hc with hc | hc
   ·exact hR.one e bc c hc
   ·exact h1 c hc
 ·rw [EA _ _ _ N]
  rw [xu] at hj
  by_cases bU:i=j
  ·subst bU
   rw [af rfl,af hi] at hj
   cases hj
   rw [aK,kd _ _ _ (by omega)] at hm
   by_cases bi:off≤m∧m<off+ys.length
   ·grind [VR.same]
   ·rw [ah bi] at hm
    rw [ah (by omega)]
    exact VR.same hs (hR.cell i e m c he hm)
  ·rw [ah bU] at hj
   have b1:=hR.nc x (cm hj)
   have aS:=eh hm
   have bf:x.cl.length=P.cellsOf t:=b1
   have:¬(i*P.cellsOf t+off≤j*P.cellsOf t+m∧j*P.cellsOf t+m<i*P.cellsOf t+off+us.length):=by
    rintro ⟨h2,h3⟩
    rcases rW i j with h4 | h4
    ·have:(i+1)*P.cellsOf t≤j*P.cellsOf t:=iz _ h4
     grind
    ·have:(j+1)*P.cellsOf t≤i*P.cellsOf t:=iz _ (by omega)
     grind
   rw [ah this]
   exact VR.same hs (hR.cell j x m c hj hm)
theorem aE.putRow{pl:Pl}{t:TypeId}{es aM:List AV}{w':World}{st':St}(h:aE C st a w σ)(D:st.rowAt C.E.dp pl=some (t,es))(hlen:aM.length=es.length)
  (hs:jB C w σ w' σ (some (pl.rv C.E.dp))) (U:OwnAt C.P C.W w' σ (pl.rv C.E.dp) (pl.kq C.E=true) t aM (ic w σ a pl)) (hp:st.putAt C.E.dp (.o t aM) pl=some st') :
  aE C st' a w' σ:=by
 have bE:∀ k,st.box C.E.dp k≠none→w'.heap[σ.κ k]? =w.heap[σ.κ k]? :=by
  intro k bd
  obtain ⟨cs',aW⟩:=Option.ne_none_iff_exists'.1 bd
  obtain ⟨vs',T',ab⟩:=h.bx k cs' aW
  exact (hs.blk _ _ ab.ow (by cases pl<;>simp [Pl.rv])).1
 have Y:∀ p r,st.rowAt C.E.dp p=some r→ic w' σ a p=ic w σ a p:=by
  intro p r hr
  cases p with
  | s d=>rfl
  | c k off=>
   grind [St.rowAt,ic]
 cases pl with
 | s d=>
  cases hp
  have hd:aQ st.fr d= .o t es:=by
   grind [St.rowAt]
  have aD:∀ p t2 es2,(st.dA d (.o t aM)).rowAt C.E.dp p=some (t2,es2)→∃ es0,st.rowAt C.E.dp p=some (t2,es0)∧es0.length=es2.length:=by
   intro p t2 es2 hr
   cases p with
   | s d2=>
    grind [St.rowAt,St.dA,oc]
   | c k off=>exact ⟨es2,hr,rfl⟩
  refine ⟨h.size,h.defers.same hs (by simp [Pl.rv]),fun d'=>?_,fun k cs hk=>?_,h.hpd,hs.own,hs.dn,fun b hb=>h.new b (eC hs.size hb),h.lay.cn hs.up hs.da⟩
  ·simp only [St.dA,oc]
   by_cases Q:d=d'
   ·subst Q
    rw [af rfl]
    exact OwnAt.Gl U fun _=>rfl
   ·rw [ah Q]
    have hx:=h.fr d'
    generalize aQ st.fr d'=x at hx ⊢
    cases x with
    | o t2 es2=>exact OwnAt.same hs (by grind [Pl.rv]) hx
    | r p=>
     intro aP
     obtain ⟨⟨t2,es2⟩,hr⟩:=jK.1 aP
     obtain ⟨es0,h2,_⟩:=aD p t2 es2 hr
     rw [Y p _ h2]
     exact hx (by rw [h2];rfl)
    | v p lo len=>
     intro t2 es2 hr ai
     obtain ⟨es0,h2,h3⟩:=aD p t2 es2 hr
     rw [Y p _ h2]
     exact hx t2 es0 h2 (by omega)
    | q p i sz off=>
     intro t2 es2 hr ai
     obtain ⟨es0,h2,h3⟩:=aD p t2 es2 hr
     rw [Y p _ h2]
     exact hx t2 es0 h2 (by omega)
    | w g t x=>exact ry.same hs (by simp [Pl.rv]) hx
    | ag cs' rs=>
     refine zC.to hx (fun c _ v hv=>VR.same hs hv) (fun q _ hr=>?_)
     obtain ⟨⟨t2,es2⟩,hr⟩:=jK.1 hr
     obtain ⟨es0,h2,_⟩:=aD (.s q.2) t2 es2 hr
     grind
    | _=>exact VR.same hs hx
  ·obtain ⟨vs,T,hB⟩:=h.bx k cs hk
   exact ⟨vs,T,(bE k (by rw [show st.box C.E.dp k=some cs from hk];simp)).trans hB.hh,hB.size,hB.ow,hB.wr,hB.one,fun off c hc=>CR.same hs (by simp [Pl.rv]) (hB.cell off c hc),hB.ty,hB.kb⟩
 | c k off=>
  simp only [St.rowAt] at D
  cases hb:st.box C.E.dp k with
  | none=>simp [hb] at D
  | some cs=>
   simp only [hb] at D
   have a1:cs[off]? =some (.o t es):=by
    grind
   have bS:=eh a1
   simp only [St.putAt,hb,p7] at hp
   subst hp
   have av:=fun k'=>kX (cs':=cs.set off (.o t aM)) hb k'
   have aD:∀ p t2 es2,(st.bI C.E.dp k (cs.set off (.o t aM))).rowAt C.E.dp p=some (t2,es2)→∃ es0,st.rowAt C.E.dp p=some (t2,es0)∧es0.length=es2.length:=by
    intro p t2 es2 hr
    cases p with
    | s d2=>rw [s0] at hr;exact ⟨es2,hr,rfl⟩
    | c k' off'=>
     simp only [St.rowAt,av] at hr
     by_cases hk:k'=k
     ·subst hk
      simp only [aH] at hr
      by_cases ho:off=off'
      ·subst ho
       rw [xu,af rfl,af bS] at hr
       simp only [p7,Prod.mk.injEq] at hr
       exact ⟨es,by simp only [St.rowAt,hb,a1,hr.1],by rw [←hr.2,hlen]⟩
      ·rw [xu,ah ho] at hr
       exact ⟨es2,by simp only [St.rowAt,hb];exact hr,rfl⟩
     ·simp only [ah hk] at hr
      exact ⟨es2,by simp only [St.rowAt];exact hr,rfl⟩
   refine ⟨h.size,h.defers.same hs (by simp [Pl.rv]),fun d'=>?_,fun k' cs' hk=>?_,fun k' cs' hk S=>?_,hs.own,hs.dn,fun b hb=>h.new b (eC hs.size hb),h.lay.cn hs.up hs.da⟩
   ·rw [pW]
    have hx:=h.fr d'
    generalize aQ st.fr d'=x at hx ⊢
    cases x with
    | o t2 es2=>exact OwnAt.same hs (by simp [Pl.rv]) hx
    | r p=>
     intro aP
     obtain ⟨⟨t2,es2⟩,hr⟩:=jK.1 aP
     obtain ⟨es0,h2,_⟩:=aD p t2 es2 hr
     rw [Y p _ h2]
     exact hx (by rw [h2];rfl)
    | v p lo len=>
     intro t2 es2 hr ai
     obtain ⟨es0,h2,h3⟩:=aD p t2 es2 hr
     rw [Y p _ h2]
     exact hx t2 es0 h2 (by omega)
    | q p i sz off=>
     intro t2 es2 hr ai
     obtain ⟨es0,h2,h3⟩:=aD p t2 es2 hr
     rw [Y p _ h2]
     exact hx t2 es0 h2 (by omega)
    | w g t x=>exact ry.same hs (by simp [Pl.rv]) hx
    | ag cs' rs=>
     refine zC.to hx (fun c _ v hv=>VR.same hs hv) (fun q _ hr=>?_)
     grind [Option.isSome_iff_exists]
    | _=>exact VR.same hs hx
   ·rw [av] at hk
    by_cases ax:k'=k
    ·subst ax
     simp only [aH] at hk
     cases hk
     obtain ⟨vs,T,hB⟩:=h.bx k' cs hb
     refine ⟨vs,T,(bE k' (by simp [hb])).trans hB.hh,by simpa using hB.size,hB.ow,hB.wr,fun c hm=>?_,fun i c hi=>?_,fun t kk u ht=>?_,hB.kb⟩
     ·rcases lX hm with hm | rfl
      ·exact hB.one c hm
      ·exact .inl rfl
     ·rw [xu] at hi
      by_cases ho:off=i
      ·subst ho
       rw [af rfl,af bS] at hi
       cases hi
       have:ic w σ a (.c k' off)=vs.getD off undef:=by simp only [ic,hB.hh]
       rw [this] at U
       exact U
      ·rw [ah ho] at hi
       exact CR.same hs (by grind [Pl.rv]) (hB.cell i c hi)
     ·rcases lX ht with ht | ht
      ·simpa using hB.ty t kk u ht
      ·cases ht
    ·simp only [ah ax] at hk
     obtain ⟨vs,T,hB⟩:=h.bx k' cs' hk
     exact ⟨vs,T,(bE k' (by simp [hk])).trans hB.hh,hB.size,hB.ow,hB.wr,hB.one,fun i c hi=>CR.same hs (by grind [Pl.rv]) (hB.cell i c hi),hB.ty,hB.kb⟩
   ·by_cases aZ:k.dp=C.E.dp
    ·simp only [St.bI,aZ,aH] at S
     exact h.hpd k' cs' hk S
    ·simp only [St.bI,ah aZ,ar] at S
     split at S
     ·rename_i ax
      subst ax
      cases S
      have hold:=h.hpd k' cs hk (by grind [St.box])
      refine ⟨hold.1,fun c hm=>?_⟩
      rcases lX hm with hm | rfl
      ·exact hold.2 c hm
      ·rfl
     ·exact h.hpd k' cs' hk S
end
variable [cN]
section
variable {C:Cx}{st:St}{a:Act}{w:World}{σ:Sp}{o:Oper}{d:Option Nat}{R:Rec}{Ω:ej}{r:AV×St}
theorem aE.relabel{g:Nat}{L M:e8}(h:aE C st a w σ)(hg:σ.ow g=some L)(hi:Idle C st (some L)):aE C st a w (σ.add g (some M)):=by
 refine h.ON (L:=some L) ⟨fun b l hb hl=>⟨rfl,?_⟩,fun _ _=>rfl,fun _ h=>h,rfl,bG _,fun b l hb=>?_,fun b hb=>?_⟩ hi
 ·grind [Sp.add]
 ·simp only [Sp.add] at hb
  split at hb
  ·rename_i e;subst e;exact h.own _ _ hg
  ·exact h.own b l hb
 ·obtain ⟨h1,h2⟩:=h.da b hb
  grind [Sp.add]
theorem dJ.relabel{g:Nat}{L:Option e8}(hW:C.W g):dJ C w σ w (σ.add g L):=
 ⟨bG _,fun _ _ _=>rfl,fun _ h=>h,fun _ _=>rfl,fun _ h=>.inl h,fun _ _=>rfl,fun b _ hb=>ah (fun e=>hb (by rw [e];exact hW)),rfl,rfl⟩
theorem fY.relabel{P:Program}{W:Nat→Prop}{L M:e8}{wp:Prop}{t:TypeId}{es:List AV}{g cap:Nat}{cs:Array Value}(h:fY P W w σ L wp t es g cap cs):fY P W w (σ.add g (some M)) M wp t es g cap cs:=
 ⟨by simp [Sp.add],h.wr,h.hh,h.pos,h.nc,h.ecap,h.max,h.size,h.pure,h.one,h.cell,h.base⟩
theorem aE.take{L M:e8}{wp:Prop}{t:TypeId}{es:List AV}{v:Value}(h:aE C st a w σ)(ho:OwnAt C.P C.W w σ L wp t es v)(b5:wp)(hi:Idle C st (some L)) :
  ∃ σ',aE C st a w σ'∧OwnAt C.P C.W w σ' M wp t es v∧dJ C w σ w σ'∧σ'.κ=σ.κ:=by
 rcases ho with ⟨h1,h2⟩ | ⟨g,cap,cs,hv,hR⟩
 ·exact ⟨σ,h,.inl ⟨h1,h2⟩,.refl _ _ _,rfl⟩
 ·exact ⟨_,h.relabel hR.ow hi,.inr ⟨g,cap,cs,hv,hR.relabel⟩,.relabel (hR.wr b5),rfl⟩
theorem fY.short{P:Program}{W:Nat→Prop}{L:e8}{wp:Prop}{t:TypeId}{es:List AV}{g cap:Nat}{cs:Array Value}(h:fY P W w σ L wp t es g cap cs)(n:Nat):fY P W w σ L wp t (es.take n) g cap cs:=
 ⟨h.ow,h.wr,h.hh,h.pos,fun e he=>h.nc e (oL he),by have:=h.ecap;simp;omega,h.max,h.size,fun e he=>h.pure e (oL he),fun e he=>h.one e (oL he),
  fun j e m c hj hm=>h.cell j e m c (by grind) hm,h.base⟩
theorem OwnAt.short{P:Program}{W:Nat→Prop}{L:e8}{wp:Prop}{t:TypeId}{es:List AV}{v v':Value}{len sz:Nat}(h:OwnAt P W w σ L wp t es v)(hl:len≤es.length)
  (hv:∃ A n cap,v= .slice A n cap∧v'= .slice (if cap=0 then A else A.map (·.add (0*sz))) len (cap - 0)):OwnAt P W w σ L wp t (es.take len) v':=by
 obtain ⟨A,n,cap,h1,h2⟩:=hv
 have hA:(if cap=0 then A else A.map (·.add (0*sz)))=A:=by
  simp_all [Addr.add]
 rw [hA,xr] at h2
 have hlen:(es.take len).length=len:=by simp;omega
 rcases h with ⟨rfl,hv⟩ | ⟨g,cap',cs,hv,hR⟩
 ·simp only [uY] at hl
  obtain rfl:len=0:=by omega
  refine .inl ⟨by simp,?_⟩
  grind
 ·rw [hv] at h1
  simp only [Value.slice.injEq] at h1
  exact .inr ⟨g,cap',cs,by grind,hR.short len⟩
theorem Tj(st:St)(pl:Pl)(d:Nat):aQ (st.ct pl).fr d= .u∨aQ (st.ct pl).fr d=aQ st.fr d:=by
 simp only [St.ct,pV]
 grind
theorem mS(st:St)(d d':Nat)(x:AV):aQ (st.dA d x).fr d'=if d=d' then x else aQ st.fr d':=rfl
theorem aE.Pb(h:aE C st a w σ)(n:Nat):aE C (st.dA n .u) a w σ:=
 h.forget ((by grind [mS])) (fun _ _ h=>h) rfl
theorem zh{n:Nat}(hn:∀ t es,aQ st.fr n≠.o t es):Idle C st (some (.rowS C.E.dp n)):=
 ⟨by grind,fun _ _ _=>by simp,fun _ _ _ _ _ _ _=>by simp,fun _=>by simp,by simp⟩
theorem Fi{pl:Pl}{n:Nat}(hn:∀ t es,aQ st.fr n≠.o t es):∀ t es,aQ (st.ct pl).fr n≠.o t es:=by
 grind [Tj]
theorem ahj{x:bY}(h:aE C st a w σ)(hl:cE C.P (.as x) o.op=true)(he:execOp R Ω C.E st d (.as x)=some r) :
  e9 C o d a w σ r.2 r.1:=by
 obtain ⟨y,aF,aG⟩:∃ y,o.op= .assign y∧cJ y x=true:=by
  simp only [cE] at hl;grind
 have hr:(Go.execOp a.eval o).run C.P w= .ok (.value (a.eval y)) w:=by unfold Go.execOp;simp [aF]
 cases x with
 | c z=>
  simp only [execOp] at he
  split at he
  ·rename_i hp
   cases he
   exact .quiet h hr (er z hp) (h.vA (x:=.c z) aG (er z hp))
  ·cases he
 | t n=>
  have hs:=h.slot aG
  simp only [execOp] at he
  have cj:∀ z,aQ st.fr n=z→(∀ t es,z≠.o t es)→r=(z,st)→e9 C o d a w σ r.2 r.1:=by
   intro z hz bt cb
   subst cb
   rw [hz] at hs
   exact .AY h hr bt fun dd=>Vq bt hs
  split at he
  ·rename_i t es hx
   obtain ⟨dd,Q,he⟩:=au.1 he
   cases he
   rw [hx] at hs
   have h1:=(h.Pb n).ct (.s dd)
   have hn:∀ t es,aQ ((st.dA n .u).ct (.s dd)).fr n≠.o t es:=
    by grind [Fi,mS]
   obtain ⟨σ',hc,ho,ac,_⟩:=h1.take (M:=.rowS C.E.dp dd) hs trivial (zh hn)
   refine .lg hr ⟨ac,hc,fun d2 aa=>?_,fun d2 t2 es2 aa _ d'=>?_⟩
   ·rw [Q] at aa;cases aa;exact ho
   grind [od]
  ·rename_i pl lo len hx
   obtain ⟨dd,Q,H⟩:=au.1 he
   clear he
   split at H
   ·rename_i hc
    simp only [aY,eS,eB] at hc
    obtain ⟨a6,aU⟩:=hc
    obtain ⟨⟨t,es⟩,D,K⟩:=au.1 H
    clear H
    simp only at K
    split at K
    ·rename_i hle
     cases K
     rw [hx] at hs
     subst aU
     have hv:=hs t es D (by omega)
     subst a6
     have ho:=(h.row D).short hle hv
     refine .lg hr ⟨.refl _ _ _,h.ct _,fun d2 aa=>?_,fun d2 t2 es2 aa _ d'=>?_⟩
     ·rw [Q] at aa;cases aa;exact ho.Gl fun _=>rfl
     grind [od]
    ·cases K
   grind
  grind
theorem L5{x:AV}(h:x.copy=true):∀ c∈x.cl,c.copy=true:=by
 intro c hc
 cases x<;>simp only [AV.cl,oM] at hc<;>first | (subst hc;exact h) | skip
 grind [BX,AV.copy]
theorem ZK{n:Nat}{x:AV}(h:x.deep n=true):∀ c∈x.cl,c.deep n=true:=by
 intro c hc
 cases x<;>simp only [AV.cl,oM] at hc<;>first | (subst hc;exact h) | skip
 grind [pS,AV.deep]
theorem amc{k:Key}{off:Nat}{c:AV}{v:Value}(hc:c.copy=true)(h:VR w σ.I σ.κ c v):CR C w σ k off c v:=by
 cases c<;>first | exact h | (simp [AV.copy] at hc)
theorem OwnAt.isSlice{P:Program}{W:Nat→Prop}{L:e8}{wp:Prop}{t:TypeId}{es:List AV}{v:Value}(h:OwnAt P W w σ L wp t es v):v.cells=#[v]∧v.oneCell'=true:=by
 rcases h with ⟨_,rfl⟩ | ⟨g,cap,cs,rfl,_⟩<;>exact ⟨rfl,rfl⟩
theorem aE.Pc{k:Key}{cs:List AV}{off:Nat}{t:TypeId}{es:List AV}{v:Value}(h:aE C st a w σ)(hb:st.box C.E.dp k=some cs)(ae:off<cs.length)
  (hm:(Pl.c k off).kq C.E=true) (ho:OwnAt C.P C.W w σ (.rowC k off) True t es v) (bM:∀ d,(aQ st.fr d).fX (.c k off)=false) {T:TypeId} (N:sized C.P T 1=true) :
  ∃ w',(Instr.storeAt T (.pointer (some ⟨σ.κ k,off,none⟩)) v).run C.P w= .ok () w'∧aE C (st.bI C.E.dp k (cs.set off (.o t es))) a w' σ∧dJ C w σ w' σ:=by
 obtain ⟨vs,T',hB⟩:=h.bx k cs hb
 obtain ⟨bW,cG⟩:=ho.isSlice
 refine ⟨_,C7 (n:=1) hB.hh N (by rw [bW];rfl) (by have:=hB.size;omega) (fun u hu=>?_),?_,.setRow h hB.ow (hB.wr hm) _⟩
 ·grind
 ·rw [Pa _ _ _ ae,bW]
  refine h.O9 hb hB (by simp) (by grind) (fun c hc=>?_) (fun j c hj=>?_) (fun j t' aM hj=>?_) (fun _ c hc=>?_) (fun t' _ _ ht=>by simp at ht)
  ·have:c= .o t es:=by simpa using hc
   rw [this];rfl
  ·cases j with
   | zero=>
    have:AV.o t es=c:=by simpa using hj
    subst this
    exact ho.Gl fun _=>trivial
   | succ j=>simp at hj
  ·grind
  ·have:c= .o t es:=by simpa using hc
   rw [this];rfl
theorem ahk{n:Nat}{x y:bY}(h:aE C st a w σ)(hl:cE C.P (.st n x y) o.op=true)(he:execOp R Ω C.E st d (.st n x y)=some r) :
  e9 C o d a w σ r.2 r.1:=by
 obtain ⟨t,x',y',aF,bz,a9,N⟩:∃ t x' y',o.op= .store t x' y'∧cJ x' x=true∧cJ y' y=true∧sized C.P t n=true:=by
  simp only [cE] at hl;grind
 have X:∀ g off w',a.eval x'= .pointer (some ⟨g,off,none⟩)→(Instr.storeAt t (.pointer (some ⟨g,off,none⟩)) (a.eval y')).run C.P w= .ok () w'→
   (Go.execOp a.eval o).run C.P w= .ok .skip w':=by
  simp_all [Go.execOp]
 have aV:∀ {w' σ' st'},(Go.execOp a.eval o).run C.P w= .ok .skip w'→dJ C w σ w' σ'→aE C st' a w' σ'→e9 C o d a w σ st' .u:=fun hr hs hc=>
  .ZH hr ⟨hs,hc,fun _ _=>VR.u _,fun _ _ _ _ e=>by cases e⟩
 simp only [execOp] at he
 split at he
 ·rename_i k off hx
  have hv:=(hx▸h.fS bz (by rw [hx];simp) (by rw [hx];rfl)).Ak
  split at he
  ·rename_i J
   obtain ⟨cs,aB,H⟩:=au.1 he
   clear he
   obtain ⟨vs,T,hB⟩:=h.bx k cs aB
   have cy:C.W (σ.κ k):=hB.wr J
   split at H
   ·rename_i t' es hy
    split at H
    ·rename_i m
     split at H
     ·rename_i hc
      simp only [aY,eB,eS] at hc
      obtain ⟨bv,ae⟩:=hc
      cases H
      have hs:=h.slot a9
      have b0:aQ st.fr m= .o t' es:=hy
      rw [b0] at hs
      have h1:=(h.Pb m).ct (.c k off)
      have hn:∀ t es,aQ ((st.dA m .u).ct (.c k off)).fr m≠.o t es:=
       by grind [Fi,mS]
      obtain ⟨σ',hc,ho,ac,ak⟩:=h1.take (M:=.rowC k off) hs trivial (zh hn)
      have bL:((st.dA m .u).ct (.c k off)).box C.E.dp k=some cs:=aB
      obtain ⟨w',hr,S,a2⟩:=hc.Pc bL ae J ho (fun d=>od _ _ _) (bv▸N)
      rw [ak] at hr
      exact aV (X _ _ _ hv hr) (ac.trans a2) S
     ·cases H
    ·cases H
   ·rename_i pl lo len hy
    split at H
    ·rename_i hc
     simp only [aY,eB,eS] at hc
     obtain ⟨⟨a6,aU⟩,bv⟩:=hc
     obtain ⟨⟨t',es⟩,D,K⟩:=au.1 H
     clear H
     simp only at K
     split at K
     ·rename_i hle
      cases K
      obtain ⟨m,rfl,hm⟩:=eM hy rfl a9
      have hs:=h.slot a9
      rw [hm] at hs
      subst aU
      have b6:=hs t' es D (by omega)
      subst a6
      have ho:=(h.row D).short hle b6
      have ae:off<cs.length:=by
       grind [St.rowAt]
      obtain ⟨w',hr,S,a2⟩:=(h.ct (.c k off)).Pc (show (st.ct (.c k off)).box C.E.dp k=some cs from aB) ae J (ho.Gl fun _=>J) (fun d=>od _ _ _) (bv▸N)
      grind
     ·cases K
    ·cases H
   ·split at H
    ·rename_i hc
     simp only [aY,eB,eS] at hc
     obtain ⟨⟨⟨⟨aX,Z⟩,bq⟩,ap⟩,hle⟩:=hc
     cases H
     have h1:∀ c∈(st.ev y).cl,c.one=true:=by grind
     obtain ⟨hlen,F⟩:=(h.vA a9 aX).cells h1
     have a7:(st.ev y).cl.length=n:=Z
     refine aV (X _ _ _ hv (C7 (n:=n) hB.hh N (by omega) (by have:=hB.size;omega) (fun u hu=>?_))) (.setRow h hB.ow cy _) ?_
     ·obtain ⟨m,hm⟩:=fP.1 hu
      have aS:m<(st.ev y).cl.length:=by grind
      have:=F m _ (bu aS)
      have e:(a.eval y').cells.getD m undef=u:=by
       simp_all
      rw [e] at this
      exact this.L4 (h1 _ (cg aS))
     ·refine h.O9 aB hB (by simpa using hlen) (by omega) h1 (fun j c hj=>?_) (fun j t' aM hj=>?_) (fun _ c hc=>ZK ap c hc) (fun t' _ _ ht=>by have:=L5 aX _ ht;cases this)
      ·grind [amc,L5,Array.getD_eq_getD_getElem?]
      ·have:=L5 aX _ (cm hj)
       simp [AV.copy] at this
    ·cases H
  ·cases he
 ·rename_i pl i sz off hx
  split at he
  ·rename_i J
   obtain ⟨⟨t',es⟩,D,H⟩:=au.1 he
   clear he
   obtain ⟨e,bF,K⟩:=au.1 H
   clear H
   simp only at K
   split at K
   ·rename_i hc
    simp only [aY,eB,eS] at hc
    obtain ⟨⟨⟨⟨bo,bQ⟩,Z⟩,bq⟩,hle⟩:=hc
    obtain ⟨st',aR,cp⟩:=au.1 K
    clear K
    cases cp
    have ae:i<es.length:=eh bF
    obtain ⟨m,rfl,hm⟩:=eM hx rfl bz
    obtain ⟨g,n',cap,a4,hv⟩:=(hm▸h.slot bz) t' es D ae
    obtain ⟨g',cap',cs,cd,hR⟩:=h.Ew D (fun e=>by grind)
    obtain ⟨rfl,rfl,rfl⟩:g=g'∧n'=es.length∧cap=cap':=by
     grind
    have bc:=cm bF
    have bn:sz=C.P.cellsOf t':=bo.symm.trans (hR.nc e bc)
    subst bn
    have h1:∀ c∈(st.ev y).cl,c.one=true:=by grind
    obtain ⟨hlen,F⟩:=(h.vA a9 (er _ bQ)).cells h1
    have a7:(st.ev y).cl.length=n:=Z
    have bB:i*C.P.cellsOf t'+off+n≤cs.size:=by
     rw [hR.size]
     have:(i+1)*C.P.cellsOf t'≤cap*C.P.cellsOf t':=iz _ (by have:=hR.ecap;omega)
     grind
    have aC:=jB.setRow h hR.ow (tW cs (i*C.P.cellsOf t'+off) (a.eval y').cells.toList)
    refine aV (X _ _ _ hv (C7 (n:=n) hR.hh N (by omega) bB (fun u hu=>?_))) (.setRow h hR.ow (hR.wr J) _) ?_
    ·obtain ⟨m,hm⟩:=fP.1 hu
     have aS:m<(st.ev y).cl.length:=by grind
     have:=F m _ (bu aS)
     have e:(a.eval y').cells.getD m undef=u:=by
      simp_all
     rw [e] at this
     exact this.L4 (h1 _ (cg aS))
    ·refine h.putRow D (by simp) aC (.inr ⟨g,cap,_,by rw [a4];simp,hR.put aC bF (by simpa using hlen) (by omega) h1 (lA bQ) fun m c hm=>?_⟩) aR
     grind [Array.getD_eq_getD_getElem?]
   ·cases K
  ·cases he
 ·cases he
end
variable [cN]
section
variable {C:Cx}{st:St}{a:Act}{w:World}{σ:Sp}{o:Oper}{d:Option Nat}{R:Rec}{Ω:ej}{r:AV×St}
theorem VR.Gq{w w':World}{I I':Nat→Prop}{κ κ':Key→Nat}{x:AV}{v:Value}(h:VR w I κ x v)(hI:∀ b,I b→I' b)(hh:∀ b,I b→w'.heap[b]? =w.heap[b]?)(hp:x.pure=true):VR w' I' κ' x v:=
 h.mono hI hh fun k hk=>by rw [lW x hp] at hk;cases hk
theorem aE.newRow(h:aE C st a w σ){L:e8}{t:TypeId}{es:List AV}{cap:Nat}{cs:Array Value}(ay:0<C.P.cellsOf t)(Z:∀ e∈es,e.nc=C.P.cellsOf t)(bJ:es.length≤cap)(az:cap≤maxLen)
  (O:cs.size=cap*C.P.cellsOf t) (hp:∀ e∈es,e.pure=true) (h1:∀ e∈es,∀ c∈e.cl,c.one=true)
  (hc:∀ (j:Nat)(e:AV)(m:Nat)(c:AV),es[j]? =some e→e.cl[m]? =some c→VR w σ.I σ.κ c (cs.getD (j*C.P.cellsOf t+m) undef)) :
  ∃ σ',dJ C w σ (w.alloc (.cells cs t)) σ'∧aE C st a (w.alloc (.cells cs t)) σ'∧OwnAt C.P C.W (w.alloc (.cells cs t)) σ' L True t es (.slice (some ⟨w.heap.size,0,none⟩) es.length cap)∧σ'.κ=σ.κ:=by
 have hs:=jB.alloc h (.cells cs t) (some L)
 refine ⟨_,dJ.alloc h _ (some L),h.same hs,.inr ⟨w.heap.size,cap,cs,rfl,by simp [Sp.add],fun _=>(h.new _ (bG _)).1,heap_alloc_new w _,ay,Z,bJ,az,O,hp,h1,fun j e m c he hm=>VR.same hs (hc j e m c he hm),(h.new _ (bG _)).2⟩,rfl⟩
theorem aE.drew(h:aE C st a w σ):aE C st a w.drew σ:=
 h.same ⟨fun _ _ hb _=>⟨rfl,hb⟩,fun _ _=>rfl,fun _ h=>h,rfl,bG _,h.own,h.da⟩
theorem dJ.drew{w':World}{σ':Sp}(h:dJ C w.drew σ w' σ'):dJ C w σ w' σ':=⟨h.size,h.cn,h.up,h.da,h.dn,h.kap,h.ow,h.io⟩
theorem ND(h:aE C st a w σ){sz:Nat} :
  ∀ (ps:List (Nat×Operand))(xs:List bY)(i:Nat)(vs:Array Value),ps.map (·.1)=List.range' i ps.length→iZ (ps.map (·.2)) xs=true→i*sz+xs.length*sz≤vs.size→
   (∀ x∈xs,(st.ev x).copy=true∧(st.ev x).nc=sz∧∀ c∈(st.ev x).cl,c.one=true)→
   ∃ vs',Instr.fill (fun i=>some (i*sz,sz)) vs (ps.map fun p=>(p.1,a.eval p.2))=some vs'∧vs'.size=vs.size∧(∀ j,j<i*sz→vs'[j]? =vs[j]?)∧
    ∀ (j:Nat)(x:bY)(m:Nat)(c:AV),xs[j]? =some x→(st.ev x).cl[m]? =some c→VR w σ.I σ.κ c (vs'.getD ((i+j)*sz+m) undef)
 | [],[],i,vs,_,_,_,_=>⟨vs,rfl,rfl,fun _ _=>rfl,fun j x m c hj=>by simp at hj⟩
 | (i',y)::ps,x::xs,i,vs,hi,hl,hle,hq=>by
  simp only [je,fj,F8,F9] at hi
  obtain ⟨rfl,hi⟩:=hi
  simp only [je,iZ,aY] at hl
  obtain ⟨aG,a3⟩:=hl
  obtain ⟨aX,Z,h1⟩:=hq x (by simp)
  obtain ⟨aK,cr⟩:=(h.vA aG aX).cells h1
  have a7:(st.ev x).cl.length=sz:=Z
  have cq:(a.eval y).cells.size=sz:=by omega
  simp only [fj,fQ,Nat.one_mul] at hle
  have ae:¬(i'*sz+sz>vs.size):=by omega
  have aN:=Gp (i'*sz) (a.eval y).cells.toList 0 vs (by simp;omega)
  have aO:=Ey (i'*sz) ((a.eval y).cells.toList.zipIdx) vs (fun z hz=>by
   have:=F5 hz
   simp at this;omega)
  have aJ:(a.eval y).cells.zipIdx.foldl (fun cs x=>cs.setIfInBounds (i'*sz+x.2) x.1) vs=(a.eval y).cells.toList.zipIdx.foldl (fun cs x=>cs.setIfInBounds (i'*sz+x.2) x.1) vs:=by
   rw [←Array.toList_zipIdx,Array.foldl_toList]
  generalize b7:(a.eval y).cells.toList.zipIdx.foldl (fun cs x=>cs.setIfInBounds (i'*sz+x.2) x.1) vs=vs2 at aN aO aJ
  obtain ⟨vs',ao,O,hold,U⟩:=ND h ps xs (i'+1) vs2 hi a3 (by rw [aO,fQ,Nat.one_mul];omega) (fun z hz=>hq z (by simp [hz]))
  refine ⟨vs',?_,O.trans aO,fun j hj=>?_,fun j z m c hj hm=>?_⟩
  ·simp only [je,Instr.fill,cq,ne_eq,xv,decide_false,uZ,ae,dy,cH]
   rw [aJ]
   exact ao
  ·rw [hold j (by rw [fQ];omega),aN,ah (by omega)]
  ·cases j with
   | zero=>
    obtain rfl:x=z:=by simpa using hj
    have aS:=eh hm
    have:=cr m c hm
    rw [iy,p8,hold _ (by rw [fQ];omega),aN,af (by simp;omega)]
    rw [show i'*sz+m - i'*sz - 0=m by omega]
    simpa [iy] using this
   | succ j=>
    have:=U j z m c (by simpa using hj) hm
    rwa [show i'+1+j=i'+(j+1) by omega] at this
 | [],_::_,_,_,_,hl,_,_=>by simp [iZ] at hl
 | _::_,[],_,_,_,hl,_,_=>by simp [iZ] at hl
theorem aE.vB{σ':Sp}{w':World}{st':St}{dd:Nat}{t:TypeId}{es:List AV}{cv:Value}(Q:d=some dd)(hs:dJ C w σ w' σ')(hc:aE C (st'.ct (.s dd)) a w' σ')(ho:OwnAt C.P C.W w' σ' (.rowS C.E.dp dd) True t es cv) :
  Nz C (st'.ct (.s dd)) a w σ d (.o t es) cv w' σ':=by
 refine ⟨hs,hc,fun d2 aa=>?_,fun d2 _ _ aa _ d'=>?_⟩
 ·rw [Q] at aa;obtain rfl:=aq aa;exact ho
 ·rw [Q] at aa;obtain rfl:=aq aa;exact od _ _ _
theorem A0{P:Program}{ty t:TypeId}(h:lF P ty=some t):P.underlying ty=some (.slice t):=by
 unfold lF at h
 split at h
 ·rename_i e hu;rw [hu];simp at h;rw [h]
 ·cases h
theorem ahl{t sz:Nat}{xs:List bY}(h:aE C st a w σ)(hl:cE C.P (.bs t sz xs) o.op=true)(he:execOp R Ω C.E st d (.bs t sz xs)=some r) :
  e9 C o d a w σ r.2 r.1:=by
 simp only [cE] at hl
 split at hl
 ·rename_i ty len parts aF
  simp only [aY,eB,eS] at hl
  obtain ⟨⟨⟨⟨⟨⟨bm,N⟩,hlen⟩,bb⟩,aG⟩,cw⟩,hz⟩:=hl
  split at hz
  ·rename_i zv bk
   have bl:zv.cells.size=sz:=by simpa using hz
   have hu:=A0 bm
   obtain ⟨i,hi,bC⟩:=Al bk
   obtain ⟨_,B,ay⟩:=og N
   have am:i.size=sz:=by rw [←B];simp [Program.cellsOf,hi]
   simp only [execOp] at he
   obtain ⟨dd,Q,H⟩:=au.1 he
   clear he
   split at H
   ·rename_i bN
    obtain rfl:=aq H
    have aw:∀ x∈xs,(st.ev x).pure=true∧(st.ev x).nc=sz∧∀ c∈(st.ev x).cl,c.one=true:=by
     intro x hx
     have:=dz.1 bN (st.ev x) (B4 hx)
     simp only [aY,eB] at this
     exact ⟨this.1.1,this.2,fun c hc=>dz.1 this.1.2 c hc⟩
    have a6:parts.toList.length=len:=by simpa using congrArg List.length bb
    have bf:xs.length=len:=hlen.symm
    let vs:Array Value:=if len*sz=0 then #[] else (Array.range (len*sz)).map (zv.cells[· % zv.cells.size]!)
    have bP:vs.size=len*sz:=by
     by_cases h0:len*sz=0<;>simp [vs,h0]
    obtain ⟨vs',ao,O,_,U⟩:=ND h (sz:=sz) parts.toList xs 0 vs (by rw [bb,a6,List.range_eq_range']) aG (by rw [bP,bf];omega) (fun x hx=>⟨er _ (aw x hx).1,(aw x hx).2⟩)
    have G:∀ e∈xs.map st.ev,e.pure=true∧e.nc=sz∧∀ c∈e.cl,c.one=true:=by
     intro e he
     obtain ⟨x,hx,rfl⟩:=oO.1 he
     exact aw x hx
    obtain ⟨σ',ac,hc,ho,_⟩:=(h.ct (.s dd)).newRow (L:=.rowS C.E.dp dd) (t:=t) (es:=xs.map st.ev) (cap:=len) (cs:=vs') (by omega) (fun e he=>by rw [B];exact (G e he).2.1) (by simp [bf]) (by simp [maxLen];have:=Nat.le_mul_of_pos_right len ay;omega)
     (by rw [O,bP,B]) (fun e he=>(G e he).1) (fun e he=>(G e he).2.2) (fun j e m c hj hm=>by
      rw [xp] at hj
      cases hx:xs[j]? with
      | none=>simp [hx] at hj
      | some x=>
       obtain rfl:st.ev x=e:=by simpa [hx] using hj
       have:=U j x m c hx hm
       rw [B]
       simpa using this)
    rw [jf,bf] at ho
    refine .lg ?_ (aE.vB Q ac hc ho)
    have an:Instr.fill (fun i=>some (i*sz,sz)) vs (parts.map fun x=>(x.1,a.eval x.2)).toList=some vs':=by rw [Array.toList_map];exact ao
    unfold Go.execOp
    simp only [aF]
    by_cases h0:len*sz=0
    ·have ch:len=0:=by
      rcases Nat.mul_eq_zero.1 h0 with e | e
      ·exact e
      ·omega
     have ce:parts=#[]:=by
      apply Array.ext'
      exact B5 (by omega)
     have ca:vs'=#[]:=Nq (by omega)
     subst ce;subst ca;subst ch
     simp [Instr.buildSlice,run_underlying hu,sizeOf,typeInfo,hi,Instr.fill,Go.newRow,Array.range_zero']
    ·simp only [vs,h0,cH] at an
     rw [Sem.run_bind,run_buildSlice w ty t len _ vs' i zv hu hi bC (by rw [am];omega) (by rw [am];exact h0) (by rw [am];exact an)]
     simp
   ·cases H
  ·cases hz
 ·cases hl
theorem ahm{t sz by_:Nat}{z:AV}{n:bY}(h:aE C st a w σ)(hl:cE C.P (.ms t sz by_ z n) o.op=true)(he:execOp R Ω C.E st d (.ms t sz by_ z n)=some r) :
  e9 C o d a w σ r.2 r.1:=by
 simp only [cE] at hl
 split at hl
 ·rename_i ty l' c' aF
  simp only [aY,eB] at hl
  obtain ⟨⟨⟨⟨⟨bm,N⟩,cu⟩,aG⟩,bA⟩,hz⟩:=hl
  split at hz
  ·rename_i zv bk
   simp only [aY,eB] at hz
   obtain ⟨⟨cf,bl⟩,h1⟩:=hz
   have hu:=A0 bm
   obtain ⟨i,hi,bC⟩:=Al bk
   obtain ⟨_,B,ay⟩:=og N
   have am:i.size=sz:=by rw [←B];simp [Program.cellsOf,hi]
   have bD:i.bytes=by_:=by rw [←cu];simp [Program.bytesOf,hi]
   simp only [execOp] at he
   obtain ⟨dd,Q,H⟩:=au.1 he
   clear he
   obtain ⟨m,hm,K⟩:=au.1 H
   clear H
   obtain ⟨k,x,hx,b4,b2⟩:=Gm hm
   split at K
   ·rename_i hc
    simp only [aY,eS] at hc
    obtain ⟨bK,az⟩:=hc
    obtain rfl:=aq K
    have b8:=(hx▸h.fS aG (by rw [hx];simp) (by rw [hx];rfl)).oe
    have b9:=(hx▸h.fS bA (by rw [hx];simp) (by rw [hx];rfl)).oe
    have b3:x=(m:Int):=by omega
    have cx:(i.bytes:Int)*x≤281474976710656:=by
     rw [b3,bD]
     have:m*by_=by_*m:=Nat.mul_comm _ _
     have h2:((by_*m:Nat):Int)≤281474976710656:=by omega
     rwa [Int.natCast_mul] at h2
    have a8:x≤9223372036854775807:=by simp [maxLen] at az;omega
    have X:=run_make (P:=C.P) w ty t i zv hu hi bC k k x x b4 (oP _) cx a8
    obtain ⟨bj,bX⟩:=HJ (w:=w) (I:=σ.I) (κ:=σ.κ) zv z cf
    have be:∀ c∈z.cl,c.one=true:=fun c hc=>dz.1 h1 c hc
    obtain ⟨bZ,bO⟩:=bj.cells be
    have G:∀ e∈List.replicate m z,e=z:=fun e he=>(List.mem_replicate.1 he).2
    obtain ⟨σ',ac,hc,ho,_⟩:=(h.ct (.s dd)).newRow (L:=.rowS C.E.dp dd) (t:=t) (es:=List.replicate m z) (cap:=m) (cs:=madeCells zv.cells (m*sz)) (by omega) (fun e he=>by rw [G e he,B];exact bZ.trans bl) (by simp) az
     (by rw [size_madeCells,B]) (fun e he=>by rw [G e he];exact bX) (fun e he=>by rw [G e he];exact be) (fun j e q c hj hq=>by
      have ci:=eh hj
      simp only [Ga] at ci
      have ck:=G e (cm hj)
      subst ck
      have cB:=eh hq
      have:=bO q c hq
      rw [B]
      have ae:j*sz+q<m*sz:=by
       have:(j+1)*sz≤m*sz:=iz _ (by omega)
       rw [fQ] at this
       omega
      have bw:(j*sz+q) % zv.cells.size=q:=by rw [bl,Nat.mul_comm,Nat.mul_add_mod];exact Nat.mod_eq_of_lt (by omega)
      have:(madeCells zv.cells (m*sz)).getD (j*sz+q) undef=zv.cells.getD q undef:=by
       simp [madeCells,iy,ae,bw]
       have cc:q<zv.cells.size:=by omega
       simp [cc]
      rw [this]
      exact bO q c hq)
    rw [Ga] at ho
    refine .lg ?_ (aE.vB Q ac hc ho)
    unfold Go.execOp
    rw [am,b2] at X
    simp [aF,b8,b9,X]
   ·cases K
  ·cases hz
 ·cases hl
end
end Go.Proofs.YtlmphbbhaeampaaGreat.A
