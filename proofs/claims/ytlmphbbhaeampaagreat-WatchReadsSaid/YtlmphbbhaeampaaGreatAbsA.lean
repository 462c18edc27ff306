/- Boxes and rows that are made, written, grown: the model does what the abstract run says. -/
import Derived.Test.YtlmphbbhaeampaaGreatAbs8
import Derived.Great.BuildSlice
import Derived.Laws.MakeOwn
import Derived.Deep.AppendSrc
import Derived.Deep.Upon
set_option linter.all false
namespace Go.Proofs.YtlmphbbhaeampaaGreat.A
open Go
variable [cj]
section
variable {C:Cx}{st:St}{a:Act}{w:World}{σ:Sp}{o:Oper}{d:Option Nat}{R:Rec}{Ω:dK}{r:AV×St}
theorem ER{k:Key}{l:List AV}(h:∀ x∈l,x.cU k=true):AV.iE k l=true:=by
 induction l with
 | nil=>rfl
 | cons y l ih=>
  grind [AV.iE]
theorem JX{I:Nat→Prop}{κ:Key→Nat}{n dp s:Nat}(hn:n<dp)(x:AV){v:Value}(h:VR w I κ x v)(hd:x.deep n=true):x.cU ⟨dp,s⟩=true:=by
 induction h with
 | f g cs vs hg hl hc ih=>
  refine ER fun c hm=>?_
  obtain ⟨m,aU⟩:=ey.1 hm
  exact ih m c aU (nm hd c hm)
 | fm g cs vs hl hc ih=>
  refine ER fun c hm=>?_
  obtain ⟨m,aU⟩:=ey.1 hm
  exact ih m c aU (nm hd c hm)
 | a cs vs hl h1 hc ih=>
  refine ER fun c hm=>?_
  obtain ⟨m,aU⟩:=ey.1 hm
  exact ih m c aU (nm hd c hm)
 | tp cs vs hl hc ih=>
  refine ER fun c hm=>?_
  obtain ⟨m,aU⟩:=ey.1 hm
  exact ih m c aU (nm hd c hm)
 | ifc t x v h ih=>exact ih hd
 | p k off=>
  grind [AV.deep,AV.cU]
 | sp k off m sz cap h1 h2=>
  grind [AV.deep,AV.cU]
 | _=>rfl
def Sp.add(σ:Sp)(b:Nat)(L:Option eI):Sp:={σ with ow:=fun x=>if x=b then L else σ.ow x}
theorem iY.alloc(h:aw C st a w σ)(o:Obj)(L:Option eI):iY C w σ (w.alloc o) (σ.add w.heap.size L) none:=by
 have V:∀ b l,σ.ow b=some l→b≠w.heap.size:=fun b l hb e=>by have:=h.own b l hb;omega
 refine ⟨fun b l hb _=>⟨heap_alloc_old w o (h.own b l hb),?_⟩,fun b hb=>heap_alloc_old w o (h.cz b hb).1,fun _ h=>h,rfl,by simp,fun b l hb=>?_,fun b hb=>?_⟩
 ·grind [Sp.add]
 ·simp only [Sp.add] at hb
  split at hb
  ·simp;omega
  ·have:=h.own b l hb;simp;omega
 ·have bh:σ.I b:=hb
  obtain ⟨h1,h2⟩:=h.cz b bh
  refine ⟨by simp;omega,?_⟩
  grind [Sp.add]
theorem iY.drew{w':World}{σ':Sp}{M:Option eI}(h:iY C w.drew σ w' σ' M):iY C w σ w' σ' M:=⟨h.blk,h.cz,h.up,h.kap,h.size,h.own,h.dn⟩
theorem cX.alloc(h:aw C st a w σ)(o:Obj)(L:Option eI):cX C w σ (w.alloc o) (σ.add w.heap.size L):=
 ⟨by simp,by grind [heap_alloc_old],fun _ h=>h,fun b hb=>heap_alloc_old w o (h.cz b hb).1,fun _ h=>.inl h,fun _ _=>rfl,fun b hb _=>ab (au hb),rfl,rfl⟩
theorem aw.LF{d:Nat}{cs:List AV}{vs:Array Value}{T:TypeId}(h:aw C st a w σ)(hd:d<1000000)(aN:CA w σ.I σ.κ cs vs)(ar:∀ c∈cs,c.cU ⟨C.E.dp,d⟩=true)(b1:∀ c∈cs,∀ t es,c≠.o t es)
  (a4:∀ d',(az st.fr d').cU ⟨C.E.dp,d⟩=true) (aE:∀ d' cs',aZ st.bx d'=some cs'→∀ c∈cs',c.cU ⟨C.E.dp,d⟩=true)
  (cH:∀ k cs',k.dp≠C.E.dp→st.hp k=some cs'→∀ c∈cs',c.cU ⟨C.E.dp,d⟩=true) :
  ∃ σ',cX C w σ (w.alloc (.cells vs T)) σ'∧aw C {st with bx:=(d,cs)::st.bx} a (w.alloc (.cells vs T)) σ'∧σ'.κ ⟨C.E.dp,d⟩=w.heap.size∧σ'.I=σ.I:=by
 have hs:=iY.alloc h (.cells vs T) (some (.box ⟨C.E.dp,d⟩))
 have h1:=h.same hs
 refine ⟨{(σ.add w.heap.size (some (.box ⟨C.E.dp,d⟩))) with κ:=fun k=>if k=⟨C.E.dp,d⟩ then w.heap.size else σ.κ k},?_,?_,by simp,rfl⟩
 ·have:=cX.alloc h (.cells vs T) (some (.box ⟨C.E.dp,d⟩))
  exact ⟨this.size,this.bB,this.up,this.cz,this.dn,by grind,this.ow,this.io⟩
 ·have am:∀ k,k≠⟨C.E.dp,d⟩→(if k=⟨C.E.dp,d⟩ then w.heap.size else σ.κ k)=σ.κ k:=fun k hk=>ab hk
  have bZ:∀ (x:AV),x.cU ⟨C.E.dp,d⟩=true→∀ k,x.cU k=false→k≠⟨C.E.dp,d⟩:=by
   grind
  have D:∀ pl r,({st with bx:=(d,cs)::st.bx} : St).rowAt C.E.dp pl=some r→(∀ off,pl≠.c ⟨C.E.dp,d⟩ off)→st.rowAt C.E.dp pl=some r:=by
   intro pl r hr V
   cases pl with
   | s d'=>exact hr
   | c k off=>
    grind [St.rowAt,St.box,aZ]
  refine ⟨h1.size,h1.defers,fun d'=>?_,fun k cs' hk=>?_,h1.hpd,h1.own,h1.cz,h1.new,h1.lay⟩
  ·have hx:=h1.fr d'
   have hn:=a4 d'
   have a8:∀ pl,(∀ off,pl≠.c ⟨C.E.dp,d⟩ off)→gm (w.alloc (.cells vs T)) {(σ.add w.heap.size (some (.box ⟨C.E.dp,d⟩))) with κ:=fun k=>if k=⟨C.E.dp,d⟩ then w.heap.size else σ.κ k} a pl=
     gm (w.alloc (.cells vs T)) (σ.add w.heap.size (some (.box ⟨C.E.dp,d⟩))) a pl:=by
    intro pl V
    cases pl with
    | s d''=>rfl
    | c k off=>
     have:k≠⟨C.E.dp,d⟩:=fun e=>V off (by rw [e])
     simp only [gm,ab this]
     rfl
   generalize az st.fr d'=x at hx hn ⊢
   show SR _ _ _ _ _ _ x _
   cases x with
   | o t es=>exact OwnAt.bB (C:=C) hx (fun g hg=>⟨rfl,hg⟩) (fun _ h=>h) (fun _ _=>rfl)
   | r pl=>
    have V:∀ off,pl≠.c ⟨C.E.dp,d⟩ off:=by grind [AV.cU]
    intro aR
    obtain ⟨r,hr⟩:=je.1 aR
    rw [a8 pl V]
    exact hx (by grind)
   | v pl lo len=>
    have V:∀ off,pl≠.c ⟨C.E.dp,d⟩ off:=by grind [AV.cU]
    intro t es ht ak
    rw [a8 pl V]
    exact hx t es (D pl _ ht V) ak
   | q pl i sz off=>
    have V:∀ off,pl≠.c ⟨C.E.dp,d⟩ off:=by grind [AV.cU]
    intro t es ht ak
    rw [a8 pl V]
    exact hx t es (D pl _ ht V) ak
   | w g t x=>exact qg.bB hx (fun b hb=>⟨rfl,hb⟩) fun _ h=>h
   | ag cs' rs=>exact wT.to hx (fun c hc v hv=>hv.mono (fun _ h=>h) (fun _ _=>rfl) fun k hk=>am k ((by grind [jZ,AV.cU]))) (fun _ _ hr=>⟨hr,rfl⟩)
   | _=>exact VR.mono hx (fun _ h=>h) (fun _ _=>rfl) fun k hk=>am k (bZ _ hn k hk)
  ·by_cases hK:k=⟨C.E.dp,d⟩
   ·subst hK
    simp only [St.box,aA,aZ] at hk
    obtain rfl:=ah hk
    refine ⟨vs,T,by grind [heap_alloc_new],uI aN.len,by simp [Sp.add],fun _=>(h.new _ (by simp)).1,aN.one,fun off c hc=>?_,fun t _ _ ht=>(by obtain ⟨m,hm⟩:=ey.1 ht;cases aN.cell m _ hm),by grind,by simp only [aA];exact (h.new _ (aY _)).2⟩
    have cK:=bu hc
    have hv:=(aN.cell off c hc).mono (w':=w.alloc (.cells vs T)) (I':=σ.I) (κ':=fun k=>if k=⟨C.E.dp,d⟩ then w.heap.size else σ.κ k) (fun _ h=>h)
     (fun b hb=>heap_alloc_old w _ (h.cz b hb).1) ((by grind))
    exact RC hv
   ·have bl:st.box C.E.dp k=some cs':=by
     simp only [St.box] at hk ⊢
     by_cases a3:k.dp=C.E.dp
     ·have V:d≠k.d:=fun e=>hK (by cases k;grind)
      grind [aZ]
     grind
    obtain ⟨vs',T',hB⟩:=h1.bx k cs' bl
    have G:∀ c∈cs',c.cU ⟨C.E.dp,d⟩=true:=by
     grind [St.box]
    refine ⟨vs',T',by simp only [ab hK];exact hB.hh,hB.size,by simp only [ab hK];exact hB.ow,fun hw=>by simp only [ab hK];exact hB.wr hw,hB.one,fun off c hc=>?_,hB.ty,by simp only [ab hK];exact hB.kb⟩
    exact CR.bB (C:=C) (hB.cell off c hc) (fun g hg=>⟨rfl,hg⟩) (fun _ h=>h) (fun _ _=>rfl) (fun k hk=>am k (bZ c (G c (bu hc)) k hk)) fun b g hg=>⟨rfl,hg⟩
theorem lu{p:AV→Bool}(hu:p .u=true):∀ (fr:List (Nat×AV)),fr.all (fun y=>p y.2)=true→∀ d,p (az fr d)=true
 | [],_,_=>hu
 | (k,x)::fr,h,d=>by
  simp only [wj,aL] at h
  simp only [az]
  split
  ·exact h.1
  ·exact lu hu fr h.2 d
theorem lx{p:List AV→Bool} : ∀ (bx:List (Nat×List AV)),bx.all (fun y=>p y.2)=true→∀ d cs,aZ bx d=some cs→p cs=true
 | [],_,_,_,h=>by cases h
 | (k,x)::bx,h,d,cs,hb=>by
  simp only [wj,aL] at h
  simp only [aZ] at hb
  split at hb
  ·grind
  ·exact lx bx h.2 d cs hb
theorem ES(h:aw C st a w σ)(d:Nat):∀ k cs,k.dp≠C.E.dp→st.hp k=some cs→∀ c∈cs,c.cU ⟨C.E.dp,d⟩=true:=by
 intro k cs hk hc c hm
 obtain ⟨h1,h2⟩:=h.hpd k cs hk hc
 obtain ⟨vs,T,hB⟩:=h.bx k cs (by simp [St.box,hk,hc])
 obtain ⟨off,ho⟩:=ey.1 hm
 have F:=hB.cell off c ho
 have hd:=h2 c hm
 cases c with
 | o t es=>rfl
 | r _=>cases F
 | v _ _ _=>cases F
 | q _ _ _ _=>cases F
 | u=>rfl
 | w _ _ _=>rfl
 | bp _ k' _=>
  grind [AV.deep,AV.cU]
 | _=>exact JX h1 _ F hd
theorem Hk{w:World}{I:Nat→Prop}{κ:Key→Nat}{k:Key}{b:Nat}(h:κ k=b):VR w I κ (.p k 0) (.pointer (some ⟨b,0,none⟩)):=by
 subst h;exact .p k 0
theorem Oy{zs:List AV}{dd:Nat}(h:aw C st a w σ)(hd:dd<1000000)(hl:bN C.P (.al zs) o.op=true)(Q:d=some dd)(a4:∀ d',(az st.fr d').cU ⟨C.E.dp,dd⟩=true)
  (aE:∀ d' cs',aZ st.bx d'=some cs'→∀ c∈cs',c.cU ⟨C.E.dp,dd⟩=true):ei C o d a w σ {st with bx:=(dd,zs)::st.bx} (.p ⟨C.E.dp,dd⟩ 0):=by
 simp only [bN] at hl
 split at hl
 ·rename_i t aH
  split at hl
  ·rename_i v hz
   simp only [aL] at hl
   obtain ⟨hlen,F⟩:=sX (w:=w) (I:=σ.I) (κ:=σ.κ) v.cells.toList zs hl.1
   have a9:∀ c∈zs,c.pure=true:=by grind [List.mem_iff_getElem?]
   have aN:CA w σ.I σ.κ zs v.cells:=⟨by grind,by grind,by grind [Array.getD_eq_getD_getElem?]⟩
   obtain ⟨σ',ad,a5,hk,hI⟩:=h.LF (T:=t) hd aN ((by grind [lq])) (fun c hm t es e=>by have:=a9 c hm;rw [e] at this;cases this)
    a4 aE (ES h dd)
   refine .jh (cv:=.pointer (some ⟨w.heap.size,0,none⟩)) ?_ ⟨ad,a5,fun _ _=>kR (Hk hk),fun _ _ _ _ e=>by cases e⟩
   simp_all [Go.execOp,Instr.alloc,FV,newVar,newRow]
  ·cases hl
 ·cases hl
theorem VM{P:Program}{zs:List AV}{op:Op}(hl:bN P (.al zs) op=true):∀ c∈zs,c.pure=true:=by
 simp only [bN] at hl
 split at hl
 ·split at hl
  ·rename_i v hz
   simp only [aL] at hl
   obtain ⟨hlen,F⟩:=sX (w:=default) (I:=fun _=>False) (κ:=fun _=>0) v.cells.toList zs hl.1
   grind [List.mem_iff_getElem?]
  ·cases hl
 ·cases hl
theorem acA{zs:List AV}(h:aw C st a w σ)(hl:bN C.P (.al zs) o.op=true)(he:execOp R Ω C.E st d (.al zs)=some r) :
  ei C o d a w σ r.2 r.1:=by
 simp only [execOp] at he
 obtain ⟨dd,Q,he⟩:=aj.1 he
 split at he
 ·rename_i hc
  simp only [aL] at hc
  obtain rfl:=ah he
  exact Oy h (by grind [jK]) hl Q (lu rfl _ hc.1.2) (fun d' cs' hb c hm=>jZ (lx _ hc.2 d' cs' hb) c hm)
 ·cases he
theorem acB{x:bz}(h:aw C st a w σ)(hl:bN C.P (.bx x) o.op=true)(he:execOp R Ω C.E st d (.bx x)=some r) :
  ei C o d a w σ r.2 r.1:=by
 simp only [bN] at hl
 split at hl
 ·rename_i t y aH
  simp only [execOp] at he
  obtain ⟨dd,Q,he⟩:=aj.1 he
  split at he
  ·rename_i hc
   simp only [aL] at hc
   obtain ⟨⟨⟨⟨⟨a2,h1⟩,cJ⟩,bD⟩,a4⟩,aE⟩:=hc
   have hd:dd<1000000:=by grind [jK]
   obtain rfl:=ah he
   have hv:=h.ta hl a2
   have bi:∀ c∈(st.ev x).cl,c.one=true:=by grind
   obtain ⟨hlen,F⟩:=hv.cells bi
   have aN:CA w σ.I σ.κ (st.ev x).cl (a.eval y).cells:=⟨hlen,fun c hc=>.inl (bi c hc),F⟩
   have hK:(st.ev x).cU ⟨C.E.dp,dd⟩=true:=by
    cases x with
    | t n=>exact lu (p:=fun y=>y.cU ⟨C.E.dp,dd⟩) rfl _ a4 n
    | c z=>exact lq _ (qL hl)
   have cD:∀ c∈(st.ev x).cl,c.cU ⟨C.E.dp,dd⟩=true:=by
    intro c hm
    generalize st.ev x=z at hm hK
    cases z<;>simp only [AV.cl,dS] at hm<;>first | (subst hm;exact hK) | exact jZ hK c hm
   have bA:∀ c∈(st.ev x).cl,∀ t es,c≠.o t es:=by
    intro c hm t es e
    subst e
    obtain ⟨m,hm⟩:=ey.1 hm
    have:=F m _ hm
    cases this
   obtain ⟨σ',ad,a5,hk,hI⟩:=h.LF (T:=t) hd aN cD bA
    (lu rfl _ a4) (fun d' cs' hb c hm=>jZ (lx _ aE d' cs' hb) c hm) (ES h dd)
   refine .jh (cv:=.pointer (some ⟨w.heap.size,0,none⟩)) ?_ ⟨ad,a5,fun _ _=>kR (Hk hk),fun _ _ _ _ e=>by cases e⟩
   simp_all [Go.execOp,Instr.box,newVar,newRow]
  ·cases he
 ·cases hl
end
variable [cj]
section
variable {C:Cx}{st:St}{a:Act}{w:World}{σ:Sp}{o:Oper}{d:Option Nat}{R:Rec}{Ω:dK}{r:AV×St}
theorem wD(bx:List (Nat×List AV))(d:Nat)(cs:List AV)(d':Nat) :
  aZ (mS bx d cs) d'=if d'=d then (aZ bx d).map fun _=>cs else aZ bx d':=by
 induction bx with
 | nil=>simp [mS,aZ]
 | cons x bx ih=>
  grind [mS,aZ]
theorem jj{dp:Nat}{k:Key}{cs cs':List AV}(h:st.box dp k=some cs)(k':Key) :
  (st.aW dp k cs').box dp k'=if k'=k then some cs' else st.box dp k':=by
 simp only [St.box] at h
 by_cases hk:k.dp=dp
 ·simp only [hk,aA] at h
  simp only [St.box,St.aW,hk,aA,wD,h,jf]
  by_cases bl:k'=k
  ·grind
  ·by_cases hd:k'.dp=dp
   ·have:k'.d≠k.d:=fun e=>bl (by cases k;cases k';grind)
    grind
   ·simp [hd,bl]
 ·simp only [ab hk] at h
  simp only [St.box,St.aW,ab hk,aq]
  grind
theorem oU(dp:Nat)(st:St)(k:Key)(cs:List AV):(st.aW dp k cs).fr=st.fr:=by
 grind [St.aW]
theorem rl{dp:Nat}{k:Key}{cs:List AV}(d:Nat):(st.aW dp k cs).rowAt dp (.s d)=st.rowAt dp (.s d):=by
 simp only [St.rowAt,oU]
theorem iY.setRow(h:aw C st a w σ){g:Nat}{L:eI}(bW:σ.ow g=some L)(cs:Array Value):iY C w σ (w.setRow g cs) σ (some L):=
 ⟨by grind [setRow_other],
  fun b hb=>setRow_other w g b cs (fun e=>by subst e;have:=(h.cz b hb).2;grind),
  fun _ h=>h,rfl,by simp,fun b l hb=>by simpa using h.own b l hb,fun b hb=>by simpa using h.cz b hb⟩
theorem cX.setRow(h:aw C st a w σ){g:Nat}{L:eI}(bW:σ.ow g=some L)(hW:C.W g)(cs:Array Value):cX C w σ (w.setRow g cs) σ:=
 ⟨by simp,by grind [setRow_other],fun _ h=>h,(iY.setRow h bW cs).cz,fun _ h=>.inl h,fun _ _=>rfl,fun _ _ _=>rfl,rfl,rfl⟩
def rR(vs:Array Value)(off:Nat)(us:List Value):Array Value:=(vs.toList.take off++us++vs.toList.drop (off+us.length)).toArray
theorem B6(vs:Array Value)(off:Nat)(us:List Value)(h:off+us.length≤vs.size):(rR vs off us).size=vs.size:=by
 simp [rR];omega
theorem B7(vs:Array Value)(off:Nat)(us:List Value)(h:off+us.length≤vs.size)(i:Nat) :
  (rR vs off us).getD i undef=if off≤i∧i<off+us.length then us[i - off]?.getD undef else vs.getD i undef:=by
 have h1:(vs.toList.take off).length=off:=by simp;omega
 simp only [rR,eL,zC]
 grind
theorem aw.LG{k:Key}{cs:List AV}{vs:Array Value}{T:TypeId}{off:Nat}{ys:List AV}{us:List Value}(h:aw C st a w σ)(hb:st.box C.E.dp k=some cs)(hB:kP C w σ k cs vs T)
  (hl:ys.length=us.length) (hle:off+ys.length≤cs.length) (h1:∀ c∈ys,c.one=true) (hc:∀ (j:Nat)(c:AV),ys[j]? =some c→CR C w σ k (off+j) c (us[j]?.getD undef))
  (bR:∀ (j:Nat) t es,ys[j]? =some (.o t es)→∀ d,(az st.fr d).fG (.c k (off+j))=false) (ar:k.dp≠C.E.dp→∀ c∈ys,c.deep k.dp=true) (cE:∀ t k u,AV.bp t k u∈ys→t=T∧vs.size=cs.length) :
  aw C (st.aW C.E.dp k (putCells cs off ys)) a (w.setRow (σ.κ k) (rR vs off us)) σ:=by
 have hs:=iY.setRow h hB.ow (rR vs off us)
 have N:off+us.length≤vs.size:=by have:=hB.size;omega
 have av:=fun k'=>jj (cs':=putCells cs off ys) hb k'
 have aJ:(w.setRow (σ.κ k) (rR vs off us)).heap[σ.κ k]? =some (.cells (rR vs off us) T (0,0)):=setRow_heap w _ _ _ _ _ hB.hh
 have ae:∀ k',k'≠k→st.box C.E.dp k'≠none→(w.setRow (σ.κ k) (rR vs off us)).heap[σ.κ k']? =w.heap[σ.κ k']? :=by
  intro k' V bh
  obtain ⟨cs',a1⟩:=Option.ne_none_iff_exists'.1 bh
  obtain ⟨vs',T',ac⟩:=h.bx k' cs' a1
  exact (hs.blk _ _ ac.ow (by simp [V])).1
 have aD:∀ i,¬(off≤i∧i<off+ys.length)→(putCells cs off ys)[i]? =cs[i]? :=by
  intro i hi;rw [jx _ _ _ hle,ab hi]
 have D:∀ pl r,(st.aW C.E.dp k (putCells cs off ys)).rowAt C.E.dp pl=some r→(∀ j t es,ys[j]? =some (.o t es)→pl≠.c k (off+j))→
   st.rowAt C.E.dp pl=some r∧gm (w.setRow (σ.κ k) (rR vs off us)) σ a pl=gm w σ a pl:=by
  intro pl r hr V
  cases pl with
  | s d'=>rw [rl] at hr;exact ⟨hr,rfl⟩
  | c k' off'=>
   simp only [St.rowAt,av] at hr
   by_cases hk:k'=k
   ·subst hk
    simp only [aA] at hr
    by_cases hi:off≤off'∧off'<off+ys.length
    ·grind [jx]
    ·rw [aD off' hi] at hr
     refine ⟨by grind [St.rowAt],?_⟩
     simp only [gm,aJ,hB.hh]
     grind [B7]
   ·simp only [ab hk] at hr
    refine ⟨by simp only [St.rowAt];exact hr,?_⟩
    have:st.box C.E.dp k'≠none:=fun e=>by simp [e] at hr
    simp only [gm,ae k' hk this]
 refine ⟨h.size,h.defers.same hs (by simp),fun d'=>?_,fun k' cs' hk=>?_,fun k' cs' hk S=>?_,hs.own,hs.dn,fun b hb=>h.new b (by simpa using hb),h.lay.bB hs.up hs.cz⟩
 ·have hx:=h.fr d'
  have bk:∀ pl,(az st.fr d').fG pl=true→∀ j t es,ys[j]? =some (.o t es)→pl≠.c k (off+j):=by
   grind
  rw [oU]
  generalize az st.fr d'=x at hx bk ⊢
  cases x with
  | o t es=>exact OwnAt.same hs (by simp) hx
  | r pl=>
   intro aR
   obtain ⟨r,hr⟩:=je.1 aR
   obtain ⟨h2,h3⟩:=D pl r hr (bk pl (by simp [AV.fG]))
   rw [h3]
   exact hx (by rw [h2];rfl)
  | v pl lo len=>
   intro t es ht ak
   obtain ⟨h2,h3⟩:=D pl _ ht (bk pl (by simp [AV.fG]))
   rw [h3]
   exact hx t es h2 ak
  | q pl i sz off=>
   intro t es ht ak
   obtain ⟨h2,h3⟩:=D pl _ ht (bk pl (by simp [AV.fG]))
   rw [h3]
   exact hx t es h2 ak
  | w g t x=>exact qg.same hs (by simp [Pl.qf]) hx
  | ag cs' rs=>
   refine wT.to hx (fun c _ v hv=>VR.same hs hv) (fun q hq hr=>?_)
   grind [Option.isSome_iff_exists]
  | _=>exact VR.same hs hx
 ·rw [av] at hk
  by_cases ay:k'=k
  ·subst ay
   simp only [aA] at hk
   cases hk
   refine ⟨rR vs off us,T,aJ,by rw [B6 _ _ _ N,ji _ _ _ hle];exact hB.size,hB.ow,hB.wr,fun c hm=>?_,fun i c hi=>?_,fun t kk u ht=>?_,hB.kb⟩
   ·unfold putCells at hm
    rcases eh.1 hm with hm | hm
    ·rcases eh.1 hm with hm | hm
     ·exact hB.one c (iF hm)
     grind
    ·exact hB.one c (sN hm)
   ·rw [B7 _ _ _ N]
    rw [jx _ _ _ hle] at hi
    rw [hl] at hi
    by_cases bm:off≤i∧i<off+us.length
    ·rw [af bm] at hi ⊢
     have:=hc (i - off) c hi
     rw [show off+(i - off)=i by omega] at this
     exact CR.same hs (by simp) this
    ·rw [ab bm] at hi ⊢
     exact CR.same hs (by simp) (hB.cell i c hi)
   ·rw [B6 _ _ _ N,ji _ _ _ hle]
    unfold putCells at ht
    rcases eh.1 ht with ht | ht
    ·rcases eh.1 ht with ht | ht
     ·exact hB.ty t kk u (iF ht)
     grind
    ·exact hB.ty t kk u (sN ht)
  ·simp only [ab ay] at hk
   obtain ⟨vs',T',ac⟩:=h.bx k' cs' hk
   exact ⟨vs',T',(ae k' ay (by simp [hk])).trans ac.hh,ac.size,ac.ow,ac.wr,ac.one,fun i c hi=>CR.same hs (by simp) (ac.cell i c hi),ac.ty,ac.kb⟩
 ·by_cases a3:k.dp=C.E.dp
  ·simp only [St.aW,a3,aA] at S
   exact h.hpd k' cs' hk S
  ·simp only [St.aW,ab a3,aq] at S
   split at S
   ·rename_i ay
    subst ay
    cases S
    have hold:=h.hpd k' cs hk (by grind [St.box])
    grind [putCells]
   ·exact h.hpd k' cs' hk S
theorem LH(cs:List AV)(off:Nat)(x:AV)(h:off<cs.length):cs.set off x=putCells cs off [x]:=by
 apply Dr
 grind [jx]
theorem Ay{t:TypeId}{g off:Nat}{vs:Array Value}{T:TypeId}{v:Value}{n:Nat}(hh:w.heap[g]? =some (.cells vs T (0,0)))(hs:sized C.P t n=true)(hn:v.cells.size=n)
  (hle:off+n≤vs.size) (h1:∀ u∈v.cells.toList,u.oneCell'=true) :
  (Instr.storeAt t (.pointer (some ⟨g,off,none⟩)) v).run C.P w= .ok () (w.setRow g (rR vs off v.cells.toList)):=by
 obtain ⟨be,B,_⟩:=nx hs
 have:=run_storeCells_at C.P g off T v.cells.toList 0 vs w hh (by simp;omega) h1
 simp only [mo] at this
 simp [Instr.storeAt,Instr.sureAddr,storeVar,kr be,B,hn,this,rR]
theorem Tw{e:AV}{off:Nat}{ys:List AV}(hle:off+ys.length≤e.nc)(h1:∀ c∈ys,c.one=true):(BV e off ys).cl=putCells e.cl off ys:=by
 by_cases ha:∃ cs,e= .a cs
 ·obtain ⟨cs,rfl⟩:=ha;rfl
 ·have aM:e.cl=[e]:=by cases e<;>first | rfl | grind
  have Z:e.nc=1:=by simp [AV.nc,aM]
  have aS:BV e off ys=GQ e ys:=by cases e<;>first | rfl | grind
  rw [aS,aM]
  rw [Z] at hle
  match ys,hle,h1 with
  | [],hle,_=>
   simp_all [putCells,GQ]
  | [y],hle,h1=>
   have:off=0:=by grind
   subst this
   have:=h1 y (by simp)
   have hy:y.cl=[y]:=by cases y<;>first | rfl | (simp [AV.one] at this)
   simp [putCells,hy,GQ]
  | y::z::ys,hle,_=>grind
theorem Tx{x:AV}(h:∀ c∈x.cl,c.pure=true):x.pure=true:=by
 cases x with
 | a cs=>exact jY h
 | _=>exact h _ (by simp [AV.cl])
theorem yt{cs:List AV}{off:Nat}{ys:List AV}{c:AV}(h:c∈putCells cs off ys):c∈cs∨c∈ys:=by
 grind [putCells]
theorem fv.put{P:Program}{W:Nat→Prop}{L:eI}{wp:Prop}{t:TypeId}{es:List AV}{g cap:Nat}{cs:Array Value}{i off:Nat}{e:AV}{ys:List AV}{us:List Value}
  (hR:fv P W w σ L wp t es g cap cs) (hs:iY C w σ (w.setRow g (rR cs (i*P.cellsOf t+off) us)) σ (some L)) (he:es[i]? =some e) (hl:ys.length=us.length) (hle:off+ys.length≤P.cellsOf t)
  (h1:∀ c∈ys,c.one=true) (hp:∀ c∈ys,c.pure=true) (hv:∀ (m:Nat)(c:AV),ys[m]? =some c→VR w σ.I σ.κ c (us[m]?.getD undef)) :
  fv P W (w.setRow g (rR cs (i*P.cellsOf t+off) us)) σ L wp t (es.set i (BV e off ys)) g cap (rR cs (i*P.cellsOf t+off) us):=by
 have bg:=bu he
 have hi:=dC he
 have Z:=hR.nc e bg
 have aM:=Tw (e:=e) (off:=off) (ys:=ys) (by rw [Z];exact hle) h1
 have ct:e.cl.length=P.cellsOf t:=Z
 have N:i*P.cellsOf t+off+us.length≤cs.size:=by
  rw [hR.size]
  have:(i+1)*P.cellsOf t≤cap*P.cellsOf t:=fL _ (by have:=hR.ecap;omega)
  grind
 have G:∀ x∈es.set i (BV e off ys),x∈es∨x=BV e off ys:=by grind
 refine ⟨hR.ow,hR.wr,setRow_heap w _ _ _ _ _ hR.hh,hR.pos,fun x hx=>?_,by simpa using hR.ecap,hR.max,by rw [B6 _ _ _ N,hR.size],fun x hx=>?_,fun x hx c hc=>?_,fun j x m c hj hm=>?_,hR.base⟩
 ·rcases G x hx with hx | rfl
  ·exact hR.nc x hx
  ·unfold AV.nc;rw [aM,ji _ _ _ (by omega)];exact Z
 ·rcases G x hx with hx | rfl
  ·exact hR.pure x hx
  ·refine Tx fun c hc=>?_
   rw [aM] at hc
   rcases yt hc with hc | hc
   ·exact j0 (hR.pure e bg) c hc
   ·exact hp c hc
 ·rcases G x hx with hx | rfl
  ·exact hR.one x hx c hc
  ·rw [aM] at hc
   rcases yt hc with hc | hc
   ·exact hR.one e bg c hc
   ·exact h1 c hc
 ·rw [B7 _ _ _ N]
  rw [qD] at hj
  by_cases b0:i=j
  ·subst b0
   rw [af rfl,af hi] at hj
   cases hj
   rw [aM,jx _ _ _ (by omega)] at hm
   by_cases bm:off≤m∧m<off+ys.length
   ·grind [VR.same]
   ·rw [ab bm] at hm
    rw [ab (by omega)]
    exact VR.same hs (hR.cell i e m c he hm)
  ·rw [ab b0] at hj
   have b6:=hR.nc x (bu hj)
   have aT:=dC hm
   have bj:x.cl.length=P.cellsOf t:=b6
   have:¬(i*P.cellsOf t+off≤j*P.cellsOf t+m∧j*P.cellsOf t+m<i*P.cellsOf t+off+us.length):=by
    rintro ⟨h2,h3⟩
    rcases nQ i j with h4 | h4
    ·have:(i+1)*P.cellsOf t≤j*P.cellsOf t:=fL _ h4
     grind
    ·have:(j+1)*P.cellsOf t≤i*P.cellsOf t:=fL _ (by omega)
     grind
   rw [ab this]
   exact VR.same hs (hR.cell j x m c hj hm)
theorem aw.putRow{pl:Pl}{t:TypeId}{es aO:List AV}{w':World}{st':St}(h:aw C st a w σ)(D:st.rowAt C.E.dp pl=some (t,es))(hlen:aO.length=es.length)
  (hs:iY C w σ w' σ (some (pl.qf C.E.dp))) (U:OwnAt C.P C.W w' σ (pl.qf C.E.dp) (pl.iI C.E=true) t aO (gm w σ a pl)) (hp:st.putAt C.E.dp (.o t aO) pl=some st') :
  aw C st' a w' σ:=by
 have bL:∀ k,st.box C.E.dp k≠none→w'.heap[σ.κ k]? =w.heap[σ.κ k]? :=by
  intro k bh
  obtain ⟨cs',a1⟩:=Option.ne_none_iff_exists'.1 bh
  obtain ⟨vs',T',ac⟩:=h.bx k cs' a1
  exact (hs.blk _ _ ac.ow (by cases pl<;>simp [Pl.qf])).1
 have Y:∀ p r,st.rowAt C.E.dp p=some r→gm w' σ a p=gm w σ a p:=by
  intro p r hr
  cases p with
  | s d=>rfl
  | c k off=>
   grind [St.rowAt,gm]
 cases pl with
 | s d=>
  cases hp
  have hd:az st.fr d= .o t es:=by
   grind [St.rowAt]
  have aG:∀ p t2 es2,(st.cS d (.o t aO)).rowAt C.E.dp p=some (t2,es2)→∃ es0,st.rowAt C.E.dp p=some (t2,es0)∧es0.length=es2.length:=by
   intro p t2 es2 hr
   cases p with
   | s d2=>
    grind [St.rowAt,St.cS,nv]
   | c k off=>exact ⟨es2,hr,rfl⟩
  refine ⟨h.size,h.defers.same hs (by simp [Pl.qf]),fun d'=>?_,fun k cs hk=>?_,h.hpd,hs.own,hs.dn,fun b hb=>h.new b (di hs.size hb),h.lay.bB hs.up hs.cz⟩
  ·simp only [St.cS,nv]
   by_cases Q:d=d'
   ·subst Q
    rw [af rfl]
    exact OwnAt.DP U fun _=>rfl
   ·rw [ab Q]
    have hx:=h.fr d'
    generalize az st.fr d'=x at hx ⊢
    cases x with
    | o t2 es2=>exact OwnAt.same hs (by grind [Pl.qf]) hx
    | r p=>
     intro aR
     obtain ⟨⟨t2,es2⟩,hr⟩:=je.1 aR
     obtain ⟨es0,h2,_⟩:=aG p t2 es2 hr
     rw [Y p _ h2]
     exact hx (by rw [h2];rfl)
    | v p lo len=>
     intro t2 es2 hr ak
     obtain ⟨es0,h2,h3⟩:=aG p t2 es2 hr
     rw [Y p _ h2]
     exact hx t2 es0 h2 (by omega)
    | q p i sz off=>
     intro t2 es2 hr ak
     obtain ⟨es0,h2,h3⟩:=aG p t2 es2 hr
     rw [Y p _ h2]
     exact hx t2 es0 h2 (by omega)
    | w g t x=>exact qg.same hs (by simp [Pl.qf]) hx
    | ag cs' rs=>
     refine wT.to hx (fun c _ v hv=>VR.same hs hv) (fun q _ hr=>?_)
     obtain ⟨⟨t2,es2⟩,hr⟩:=je.1 hr
     obtain ⟨es0,h2,_⟩:=aG (.s q.2) t2 es2 hr
     grind
    | _=>exact VR.same hs hx
  ·obtain ⟨vs,T,hB⟩:=h.bx k cs hk
   exact ⟨vs,T,(bL k (by rw [show st.box C.E.dp k=some cs from hk];simp)).trans hB.hh,hB.size,hB.ow,hB.wr,hB.one,fun off c hc=>CR.same hs (by simp [Pl.qf]) (hB.cell off c hc),hB.ty,hB.kb⟩
 | c k off=>
  simp only [St.rowAt] at D
  cases hb:st.box C.E.dp k with
  | none=>simp [hb] at D
  | some cs=>
   simp only [hb] at D
   have a5:cs[off]? =some (.o t es):=by
    grind
   have bX:=dC a5
   simp only [St.putAt,hb,mm] at hp
   subst hp
   have av:=fun k'=>jj (cs':=cs.set off (.o t aO)) hb k'
   have aG:∀ p t2 es2,(st.aW C.E.dp k (cs.set off (.o t aO))).rowAt C.E.dp p=some (t2,es2)→∃ es0,st.rowAt C.E.dp p=some (t2,es0)∧es0.length=es2.length:=by
    intro p t2 es2 hr
    cases p with
    | s d2=>rw [rl] at hr;exact ⟨es2,hr,rfl⟩
    | c k' off'=>
     simp only [St.rowAt,av] at hr
     by_cases hk:k'=k
     ·subst hk
      simp only [aA] at hr
      by_cases ho:off=off'
      ·subst ho
       rw [qD,af rfl,af bX] at hr
       simp only [mm,Prod.mk.injEq] at hr
       exact ⟨es,by simp only [St.rowAt,hb,a5,hr.1],by rw [←hr.2,hlen]⟩
      ·rw [qD,ab ho] at hr
       exact ⟨es2,by simp only [St.rowAt,hb];exact hr,rfl⟩
     ·simp only [ab hk] at hr
      exact ⟨es2,by simp only [St.rowAt];exact hr,rfl⟩
   refine ⟨h.size,h.defers.same hs (by simp [Pl.qf]),fun d'=>?_,fun k' cs' hk=>?_,fun k' cs' hk S=>?_,hs.own,hs.dn,fun b hb=>h.new b (di hs.size hb),h.lay.bB hs.up hs.cz⟩
   ·rw [oU]
    have hx:=h.fr d'
    generalize az st.fr d'=x at hx ⊢
    cases x with
    | o t2 es2=>exact OwnAt.same hs (by simp [Pl.qf]) hx
    | r p=>
     intro aR
     obtain ⟨⟨t2,es2⟩,hr⟩:=je.1 aR
     obtain ⟨es0,h2,_⟩:=aG p t2 es2 hr
     rw [Y p _ h2]
     exact hx (by rw [h2];rfl)
    | v p lo len=>
     intro t2 es2 hr ak
     obtain ⟨es0,h2,h3⟩:=aG p t2 es2 hr
     rw [Y p _ h2]
     exact hx t2 es0 h2 (by omega)
    | q p i sz off=>
     intro t2 es2 hr ak
     obtain ⟨es0,h2,h3⟩:=aG p t2 es2 hr
     rw [Y p _ h2]
     exact hx t2 es0 h2 (by omega)
    | w g t x=>exact qg.same hs (by simp [Pl.qf]) hx
    | ag cs' rs=>
     refine wT.to hx (fun c _ v hv=>VR.same hs hv) (fun q _ hr=>?_)
     grind [Option.isSome_iff_exists]
    | _=>exact VR.same hs hx
   ·rw [av] at hk
    by_cases ay:k'=k
    ·subst ay
     simp only [aA] at hk
     cases hk
     obtain ⟨vs,T,hB⟩:=h.bx k' cs hb
     refine ⟨vs,T,(bL k' (by simp [hb])).trans hB.hh,by simpa using hB.size,hB.ow,hB.wr,fun c hm=>?_,fun i c hi=>?_,fun t kk u ht=>?_,hB.kb⟩
     ·rcases ka hm with hm | rfl
      ·exact hB.one c hm
      ·exact .inl rfl
     ·rw [qD] at hi
      by_cases ho:off=i
      ·subst ho
       rw [af rfl,af bX] at hi
       cases hi
       have:gm w σ a (.c k' off)=vs.getD off undef:=by simp only [gm,hB.hh]
       rw [this] at U
       exact U
      ·rw [ab ho] at hi
       exact CR.same hs (by grind [Pl.qf]) (hB.cell i c hi)
     ·rcases ka ht with ht | ht
      ·simpa using hB.ty t kk u ht
      ·cases ht
    ·simp only [ab ay] at hk
     obtain ⟨vs,T,hB⟩:=h.bx k' cs' hk
     exact ⟨vs,T,(bL k' (by simp [hk])).trans hB.hh,hB.size,hB.ow,hB.wr,hB.one,fun i c hi=>CR.same hs (by grind [Pl.qf]) (hB.cell i c hi),hB.ty,hB.kb⟩
   ·by_cases a3:k.dp=C.E.dp
    ·simp only [St.aW,a3,aA] at S
     exact h.hpd k' cs' hk S
    ·simp only [St.aW,ab a3,aq] at S
     split at S
     ·rename_i ay
      subst ay
      cases S
      have hold:=h.hpd k' cs hk (by grind [St.box])
      refine ⟨hold.1,fun c hm=>?_⟩
      rcases ka hm with hm | rfl
      ·exact hold.2 c hm
      ·rfl
     ·exact h.hpd k' cs' hk S
end
variable [cj]
section
variable {C:Cx}{st:St}{a:Act}{w:World}{σ:Sp}{o:Oper}{d:Option Nat}{R:Rec}{Ω:dK}{r:AV×St}
theorem aw.relabel{g:Nat}{L M:eI}(h:aw C st a w σ)(hg:σ.ow g=some L)(hi:Idle C st (some L)):aw C st a w (σ.add g (some M)):=by
 refine h.Lb (L:=some L) ⟨fun b l hb hl=>⟨rfl,?_⟩,fun _ _=>rfl,fun _ h=>h,rfl,aY _,fun b l hb=>?_,fun b hb=>?_⟩ hi
 ·grind [Sp.add]
 ·simp only [Sp.add] at hb
  split at hb
  ·rename_i e;subst e;exact h.own _ _ hg
  ·exact h.own b l hb
 ·obtain ⟨h1,h2⟩:=h.cz b hb
  grind [Sp.add]
theorem cX.relabel{g:Nat}{L:Option eI}(hW:C.W g):cX C w σ w (σ.add g L):=
 ⟨aY _,fun _ _ _=>rfl,fun _ h=>h,fun _ _=>rfl,fun _ h=>.inl h,fun _ _=>rfl,fun b _ hb=>ab (fun e=>hb (by rw [e];exact hW)),rfl,rfl⟩
theorem fv.relabel{P:Program}{W:Nat→Prop}{L M:eI}{wp:Prop}{t:TypeId}{es:List AV}{g cap:Nat}{cs:Array Value}(h:fv P W w σ L wp t es g cap cs):fv P W w (σ.add g (some M)) M wp t es g cap cs:=
 ⟨by simp [Sp.add],h.wr,h.hh,h.pos,h.nc,h.ecap,h.max,h.size,h.pure,h.one,h.cell,h.base⟩
theorem aw.take{L M:eI}{wp:Prop}{t:TypeId}{es:List AV}{v:Value}(h:aw C st a w σ)(ho:OwnAt C.P C.W w σ L wp t es v)(ca:wp)(hi:Idle C st (some L)) :
  ∃ σ',aw C st a w σ'∧OwnAt C.P C.W w σ' M wp t es v∧cX C w σ w σ'∧σ'.κ=σ.κ:=by
 rcases ho with ⟨h1,h2⟩ | ⟨g,cap,cs,hv,hR⟩
 ·exact ⟨σ,h,.inl ⟨h1,h2⟩,.refl _ _ _,rfl⟩
 ·exact ⟨_,h.relabel hR.ow hi,.inr ⟨g,cap,cs,hv,hR.relabel⟩,.relabel (hR.wr ca),rfl⟩
theorem fv.short{P:Program}{W:Nat→Prop}{L:eI}{wp:Prop}{t:TypeId}{es:List AV}{g cap:Nat}{cs:Array Value}(h:fv P W w σ L wp t es g cap cs)(n:Nat):fv P W w σ L wp t (es.take n) g cap cs:=
 ⟨h.ow,h.wr,h.hh,h.pos,fun e he=>h.nc e (iF he),by have:=h.ecap;simp;omega,h.max,h.size,fun e he=>h.pure e (iF he),fun e he=>h.one e (iF he),
  fun j e m c hj hm=>h.cell j e m c (by grind) hm,h.base⟩
theorem OwnAt.short{P:Program}{W:Nat→Prop}{L:eI}{wp:Prop}{t:TypeId}{es:List AV}{v v':Value}{len sz:Nat}(h:OwnAt P W w σ L wp t es v)(hl:len≤es.length)
  (hv:∃ A n cap,v= .slice A n cap∧v'= .slice (if cap=0 then A else A.map (·.add (0*sz))) len (cap - 0)):OwnAt P W w σ L wp t (es.take len) v':=by
 obtain ⟨A,n,cap,h1,h2⟩:=hv
 have hA:(if cap=0 then A else A.map (·.add (0*sz)))=A:=by
  simp_all [Addr.add]
 rw [hA,uH] at h2
 have hlen:(es.take len).length=len:=by simp;omega
 rcases h with ⟨rfl,hv⟩ | ⟨g,cap',cs,hv,hR⟩
 ·simp only [qE] at hl
  obtain rfl:len=0:=by omega
  refine .inl ⟨by simp,?_⟩
  grind
 ·rw [hv] at h1
  simp only [Value.slice.injEq] at h1
  exact .inr ⟨g,cap',cs,by grind,hR.short len⟩
theorem PM(st:St)(pl:Pl)(d:Nat):az (st.bC pl).fr d= .u∨az (st.bC pl).fr d=az st.fr d:=by
 simp only [St.bC,oT]
 grind
theorem ma(st:St)(d d':Nat)(x:AV):az (st.cS d x).fr d'=if d=d' then x else az st.fr d':=rfl
theorem aw.LI(h:aw C st a w σ)(n:Nat):aw C (st.cS n .u) a w σ:=
 h.forget ((by grind [ma])) (fun _ _ h=>h) rfl
theorem wE{n:Nat}(hn:∀ t es,az st.fr n≠.o t es):Idle C st (some (.rowS C.E.dp n)):=
 ⟨by grind,fun _ _ _=>by simp,fun _ _ _ _ _ _ _=>by simp,fun _=>by simp,by simp⟩
theorem CY{pl:Pl}{n:Nat}(hn:∀ t es,az st.fr n≠.o t es):∀ t es,az (st.bC pl).fr n≠.o t es:=by
 grind [PM]
theorem acC{x:bz}(h:aw C st a w σ)(hl:bN C.P (.as x) o.op=true)(he:execOp R Ω C.E st d (.as x)=some r) :
  ei C o d a w σ r.2 r.1:=by
 obtain ⟨y,aH,aI⟩:∃ y,o.op= .assign y∧bY y x=true:=by
  simp only [bN] at hl;grind
 have hr:(Go.execOp a.eval o).run C.P w= .ok (.value (a.eval y)) w:=by unfold Go.execOp;simp [aH]
 cases x with
 | c z=>
  simp only [execOp] at he
  split at he
  ·rename_i hp
   cases he
   exact .quiet h hr (dO z hp) (h.ta (x:=.c z) aI (dO z hp))
  ·cases he
 | t n=>
  have hs:=h.slot aI
  simp only [execOp] at he
  have cq:∀ z,az st.fr n=z→(∀ t es,z≠.o t es)→r=(z,st)→ei C o d a w σ r.2 r.1:=by
   intro z hz bD cg
   subst cg
   rw [hz] at hs
   exact .yr h hr bD fun dd=>RF bD hs
  split at he
  ·rename_i t es hx
   obtain ⟨dd,Q,he⟩:=aj.1 he
   cases he
   rw [hx] at hs
   have h1:=(h.LI n).bC (.s dd)
   have hn:∀ t es,az ((st.cS n .u).bC (.s dd)).fr n≠.o t es:=
    by grind [CY,ma]
   obtain ⟨σ',hc,ho,ad,_⟩:=h1.take (M:=.rowS C.E.dp dd) hs trivial (wE hn)
   refine .jh hr ⟨ad,hc,fun d2 aa=>?_,fun d2 t2 es2 aa _ d'=>?_⟩
   ·rw [Q] at aa;cases aa;exact ho
   grind [kD]
  ·rename_i pl lo len hx
   obtain ⟨dd,Q,H⟩:=aj.1 he
   clear he
   split at H
   ·rename_i hc
    simp only [aL,eg,dH] at hc
    obtain ⟨ba,aX⟩:=hc
    obtain ⟨⟨t,es⟩,D,K⟩:=aj.1 H
    clear H
    simp only at K
    split at K
    ·rename_i hle
     cases K
     rw [hx] at hs
     subst aX
     have hv:=hs t es D (by omega)
     subst ba
     have ho:=(h.row D).short hle hv
     refine .jh hr ⟨.refl _ _ _,h.bC _,fun d2 aa=>?_,fun d2 t2 es2 aa _ d'=>?_⟩
     ·rw [Q] at aa;cases aa;exact ho.DP fun _=>rfl
     grind [kD]
    ·cases K
   grind
  grind
theorem IG{x:AV}(h:x.copy=true):∀ c∈x.cl,c.copy=true:=by
 intro c hc
 cases x<;>simp only [AV.cl,dS] at hc<;>first | (subst hc;exact h) | skip
 grind [zy,AV.copy]
theorem VN{n:Nat}{x:AV}(h:x.deep n=true):∀ c∈x.cl,c.deep n=true:=by
 intro c hc
 cases x<;>simp only [AV.cl,dS] at hc<;>first | (subst hc;exact h) | skip
 grind [nm,AV.deep]
theorem afn{k:Key}{off:Nat}{c:AV}{v:Value}(hc:c.copy=true)(h:VR w σ.I σ.κ c v):CR C w σ k off c v:=by
 cases c<;>first | exact h | (simp [AV.copy] at hc)
theorem OwnAt.isSlice{P:Program}{W:Nat→Prop}{L:eI}{wp:Prop}{t:TypeId}{es:List AV}{v:Value}(h:OwnAt P W w σ L wp t es v):v.cells=#[v]∧v.oneCell'=true:=by
 rcases h with ⟨_,rfl⟩ | ⟨g,cap,cs,rfl,_⟩<;>exact ⟨rfl,rfl⟩
theorem aw.LJ{k:Key}{cs:List AV}{off:Nat}{t:TypeId}{es:List AV}{v:Value}(h:aw C st a w σ)(hb:st.box C.E.dp k=some cs)(ai:off<cs.length)
  (hm:(Pl.c k off).iI C.E=true) (ho:OwnAt C.P C.W w σ (.rowC k off) True t es v) (bR:∀ d,(az st.fr d).fG (.c k off)=false) {T:TypeId} (N:sized C.P T 1=true) :
  ∃ w',(Instr.storeAt T (.pointer (some ⟨σ.κ k,off,none⟩)) v).run C.P w= .ok () w'∧aw C (st.aW C.E.dp k (cs.set off (.o t es))) a w' σ∧cX C w σ w' σ:=by
 obtain ⟨vs,T',hB⟩:=h.bx k cs hb
 obtain ⟨b2,cL⟩:=ho.isSlice
 refine ⟨_,Ay (n:=1) hB.hh N (by rw [b2];rfl) (by have:=hB.size;omega) (fun u hu=>?_),?_,.setRow h hB.ow (hB.wr hm) _⟩
 ·grind
 ·rw [LH _ _ _ ai,b2]
  refine h.LG hb hB (by simp) (by grind) (fun c hc=>?_) (fun j c hj=>?_) (fun j t' aO hj=>?_) (fun _ c hc=>?_) (fun t' _ _ ht=>by simp at ht)
  ·have:c= .o t es:=by simpa using hc
   rw [this];rfl
  ·cases j with
   | zero=>
    have:AV.o t es=c:=by simpa using hj
    subst this
    exact ho.DP fun _=>trivial
   | succ j=>simp at hj
  ·grind
  ·have:c= .o t es:=by simpa using hc
   rw [this];rfl
theorem acD{n:Nat}{x y:bz}(h:aw C st a w σ)(hl:bN C.P (.st n x y) o.op=true)(he:execOp R Ω C.E st d (.st n x y)=some r) :
  ei C o d a w σ r.2 r.1:=by
 obtain ⟨t,x',y',aH,bG,bd,N⟩:∃ t x' y',o.op= .store t x' y'∧bY x' x=true∧bY y' y=true∧sized C.P t n=true:=by
  simp only [bN] at hl;grind
 have X:∀ g off w',a.eval x'= .pointer (some ⟨g,off,none⟩)→(Instr.storeAt t (.pointer (some ⟨g,off,none⟩)) (a.eval y')).run C.P w= .ok () w'→
   (Go.execOp a.eval o).run C.P w= .ok .skip w':=by
  simp_all [Go.execOp]
 have a0:∀ {w' σ' st'},(Go.execOp a.eval o).run C.P w= .ok .skip w'→cX C w σ w' σ'→aw C st' a w' σ'→ei C o d a w σ st' .u:=fun hr hs hc=>
  .VK hr ⟨hs,hc,fun _ _=>VR.u _,fun _ _ _ _ e=>by cases e⟩
 simp only [execOp] at he
 split at he
 ·rename_i k off hx
  have hv:=(hx▸h.e7 bG (by rw [hx];simp) (by rw [hx];rfl)).xD
  split at he
  ·rename_i J
   obtain ⟨cs,aE,H⟩:=aj.1 he
   clear he
   obtain ⟨vs,T,hB⟩:=h.bx k cs aE
   have cC:C.W (σ.κ k):=hB.wr J
   split at H
   ·rename_i t' es hy
    split at H
    ·rename_i m
     split at H
     ·rename_i hc
      simp only [aL,dH,eg] at hc
      obtain ⟨bE,ai⟩:=hc
      cases H
      have hs:=h.slot bd
      have b5:az st.fr m= .o t' es:=hy
      rw [b5] at hs
      have h1:=(h.LI m).bC (.c k off)
      have hn:∀ t es,az ((st.cS m .u).bC (.c k off)).fr m≠.o t es:=
       by grind [CY,ma]
      obtain ⟨σ',hc,ho,ad,am⟩:=h1.take (M:=.rowC k off) hs trivial (wE hn)
      have bQ:((st.cS m .u).bC (.c k off)).box C.E.dp k=some cs:=aE
      obtain ⟨w',hr,S,a6⟩:=hc.LJ bQ ai J ho (fun d=>kD _ _ _) (bE▸N)
      rw [am] at hr
      exact a0 (X _ _ _ hv hr) (ad.trans a6) S
     ·cases H
    ·cases H
   ·rename_i pl lo len hy
    split at H
    ·rename_i hc
     simp only [aL,dH,eg] at hc
     obtain ⟨⟨ba,aX⟩,bE⟩:=hc
     obtain ⟨⟨t',es⟩,D,K⟩:=aj.1 H
     clear H
     simp only at K
     split at K
     ·rename_i hle
      cases K
      obtain ⟨m,rfl,hm⟩:=ej hy rfl bd
      have hs:=h.slot bd
      rw [hm] at hs
      subst aX
      have cb:=hs t' es D (by omega)
      subst ba
      have ho:=(h.row D).short hle cb
      have ai:off<cs.length:=by
       grind [St.rowAt]
      obtain ⟨w',hr,S,a6⟩:=(h.bC (.c k off)).LJ (show (st.bC (.c k off)).box C.E.dp k=some cs from aE) ai J (ho.DP fun _=>J) (fun d=>kD _ _ _) (bE▸N)
      grind
     ·cases K
    ·cases H
   ·split at H
    ·rename_i hc
     simp only [aL,dH,eg] at hc
     obtain ⟨⟨⟨⟨a2,Z⟩,bw⟩,ar⟩,hle⟩:=hc
     cases H
     have h1:∀ c∈(st.ev y).cl,c.one=true:=by grind
     obtain ⟨hlen,F⟩:=(h.ta bd a2).cells h1
     have bb:(st.ev y).cl.length=n:=Z
     refine a0 (X _ _ _ hv (Ay (n:=n) hB.hh N (by omega) (by have:=hB.size;omega) (fun u hu=>?_))) (.setRow h hB.ow cC _) ?_
     ·obtain ⟨m,hm⟩:=ey.1 hu
      have aT:m<(st.ev y).cl.length:=by grind
      have:=F m _ (aV aT)
      have e:(a.eval y').cells.getD m undef=u:=by
       simp_all
      rw [e] at this
      exact this.IF (h1 _ (cp aT))
     ·refine h.LG aE hB (by simpa using hlen) (by omega) h1 (fun j c hj=>?_) (fun j t' aO hj=>?_) (fun _ c hc=>VN ar c hc) (fun t' _ _ ht=>by have:=IG a2 _ ht;cases this)
      ·grind [afn,IG,Array.getD_eq_getD_getElem?]
      ·have:=IG a2 _ (bu hj)
       simp [AV.copy] at this
    ·cases H
  ·cases he
 ·rename_i pl i sz off hx
  split at he
  ·rename_i J
   obtain ⟨⟨t',es⟩,D,H⟩:=aj.1 he
   clear he
   obtain ⟨e,bM,K⟩:=aj.1 H
   clear H
   simp only at K
   split at K
   ·rename_i hc
    simp only [aL,dH,eg] at hc
    obtain ⟨⟨⟨⟨bv,bV⟩,Z⟩,bw⟩,hle⟩:=hc
    obtain ⟨st',aS,cu⟩:=aj.1 K
    clear K
    cases cu
    have ai:i<es.length:=dC bM
    obtain ⟨m,rfl,hm⟩:=ej hx rfl bG
    obtain ⟨g,n',cap,a8,hv⟩:=(hm▸h.slot bG) t' es D ai
    obtain ⟨g',cap',cs,ci,hR⟩:=h.B3 D (fun e=>by grind)
    obtain ⟨rfl,rfl,rfl⟩:g=g'∧n'=es.length∧cap=cap':=by
     grind
    have bg:=bu bM
    have bt:sz=C.P.cellsOf t':=bv.symm.trans (hR.nc e bg)
    subst bt
    have h1:∀ c∈(st.ev y).cl,c.one=true:=by grind
    obtain ⟨hlen,F⟩:=(h.ta bd (dO _ bV)).cells h1
    have bb:(st.ev y).cl.length=n:=Z
    have bI:i*C.P.cellsOf t'+off+n≤cs.size:=by
     rw [hR.size]
     have:(i+1)*C.P.cellsOf t'≤cap*C.P.cellsOf t':=fL _ (by have:=hR.ecap;omega)
     grind
    have aF:=iY.setRow h hR.ow (rR cs (i*C.P.cellsOf t'+off) (a.eval y').cells.toList)
    refine a0 (X _ _ _ hv (Ay (n:=n) hR.hh N (by omega) bI (fun u hu=>?_))) (.setRow h hR.ow (hR.wr J) _) ?_
    ·obtain ⟨m,hm⟩:=ey.1 hu
     have aT:m<(st.ev y).cl.length:=by grind
     have:=F m _ (aV aT)
     have e:(a.eval y').cells.getD m undef=u:=by
      simp_all
     rw [e] at this
     exact this.IF (h1 _ (cp aT))
    ·refine h.putRow D (by simp) aF (.inr ⟨g,cap,_,by rw [a8];simp,hR.put aF bM (by simpa using hlen) (by omega) h1 (j0 bV) fun m c hm=>?_⟩) aS
     grind [Array.getD_eq_getD_getElem?]
   ·cases K
  ·cases he
 ·cases he
end
variable [cj]
section
variable {C:Cx}{st:St}{a:Act}{w:World}{σ:Sp}{o:Oper}{d:Option Nat}{R:Rec}{Ω:dK}{r:AV×St}
theorem VR.zU{w w':World}{I I':Nat→Prop}{κ κ':Key→Nat}{x:AV}{v:Value}(h:VR w I κ x v)(hI:∀ b,I b→I' b)(hh:∀ b,I b→w'.heap[b]? =w.heap[b]?)(hp:x.pure=true):VR w' I' κ' x v:=
 h.mono hI hh fun k hk=>by rw [lq x hp] at hk;cases hk
theorem aw.newRow(h:aw C st a w σ){L:eI}{t:TypeId}{es:List AV}{cap:Nat}{cs:Array Value}(aB:0<C.P.cellsOf t)(Z:∀ e∈es,e.nc=C.P.cellsOf t)(bO:es.length≤cap)(aC:cap≤maxLen)
  (O:cs.size=cap*C.P.cellsOf t) (hp:∀ e∈es,e.pure=true) (h1:∀ e∈es,∀ c∈e.cl,c.one=true)
  (hc:∀ (j:Nat)(e:AV)(m:Nat)(c:AV),es[j]? =some e→e.cl[m]? =some c→VR w σ.I σ.κ c (cs.getD (j*C.P.cellsOf t+m) undef)) :
  ∃ σ',cX C w σ (w.alloc (.cells cs t)) σ'∧aw C st a (w.alloc (.cells cs t)) σ'∧OwnAt C.P C.W (w.alloc (.cells cs t)) σ' L True t es (.slice (some ⟨w.heap.size,0,none⟩) es.length cap)∧σ'.κ=σ.κ:=by
 have hs:=iY.alloc h (.cells cs t) (some L)
 refine ⟨_,cX.alloc h _ (some L),h.same hs,.inr ⟨w.heap.size,cap,cs,rfl,by simp [Sp.add],fun _=>(h.new _ (aY _)).1,heap_alloc_new w _,aB,Z,bO,aC,O,hp,h1,fun j e m c he hm=>VR.same hs (hc j e m c he hm),(h.new _ (aY _)).2⟩,rfl⟩
theorem aw.drew(h:aw C st a w σ):aw C st a w.drew σ:=
 h.same ⟨fun _ _ hb _=>⟨rfl,hb⟩,fun _ _=>rfl,fun _ h=>h,rfl,aY _,h.own,h.cz⟩
theorem cX.drew{w':World}{σ':Sp}(h:cX C w.drew σ w' σ'):cX C w σ w' σ':=⟨h.size,h.bB,h.up,h.cz,h.dn,h.kap,h.ow,h.io⟩
theorem JY(h:aw C st a w σ){sz:Nat} :
  ∀ (ps:List (Nat×Operand))(xs:List bz)(i:Nat)(vs:Array Value),ps.map (·.1)=List.range' i ps.length→gq (ps.map (·.2)) xs=true→i*sz+xs.length*sz≤vs.size→
   (∀ x∈xs,(st.ev x).copy=true∧(st.ev x).nc=sz∧∀ c∈(st.ev x).cl,c.one=true)→
   ∃ vs',Instr.fill (fun i=>some (i*sz,sz)) vs (ps.map fun p=>(p.1,a.eval p.2))=some vs'∧vs'.size=vs.size∧(∀ j,j<i*sz→vs'[j]? =vs[j]?)∧
    ∀ (j:Nat)(x:bz)(m:Nat)(c:AV),xs[j]? =some x→(st.ev x).cl[m]? =some c→VR w σ.I σ.κ c (vs'.getD ((i+j)*sz+m) undef)
 | [],[],i,vs,_,_,_,_=>⟨vs,rfl,rfl,fun _ _=>rfl,fun j x m c hj=>by simp at hj⟩
 | (i',y)::ps,x::xs,i,vs,hi,hl,hle,hq=>by
  simp only [eu,eM,Dt,Du] at hi
  obtain ⟨rfl,hi⟩:=hi
  simp only [eu,gq,aL] at hl
  obtain ⟨aI,a7⟩:=hl
  obtain ⟨a2,Z,h1⟩:=hq x (by simp)
  obtain ⟨aM,cx⟩:=(h.ta aI a2).cells h1
  have bb:(st.ev x).cl.length=sz:=Z
  have cw:(a.eval y).cells.size=sz:=by omega
  simp only [eM,eY,Nat.one_mul] at hle
  have ai:¬(i'*sz+sz>vs.size):=by omega
  have aP:=DS (i'*sz) (a.eval y).cells.toList 0 vs (by simp;omega)
  have aQ:=B5 (i'*sz) ((a.eval y).cells.toList.zipIdx) vs (fun z hz=>by
   have:=Dp hz
   simp at this;omega)
  have aK:(a.eval y).cells.zipIdx.foldl (fun cs x=>cs.setIfInBounds (i'*sz+x.2) x.1) vs=(a.eval y).cells.toList.zipIdx.foldl (fun cs x=>cs.setIfInBounds (i'*sz+x.2) x.1) vs:=by
   rw [←Array.toList_zipIdx,Array.foldl_toList]
  generalize cc:(a.eval y).cells.toList.zipIdx.foldl (fun cs x=>cs.setIfInBounds (i'*sz+x.2) x.1) vs=vs2 at aP aQ aK
  obtain ⟨vs',ap,O,hold,U⟩:=JY h ps xs (i'+1) vs2 hi a7 (by rw [aQ,eY,Nat.one_mul];omega) (fun z hz=>hq z (by simp [hz]))
  refine ⟨vs',?_,O.trans aQ,fun j hj=>?_,fun j z m c hj hm=>?_⟩
  ·simp only [eu,Instr.fill,cw,ne_eq,uJ,decide_false,uK,ai,dq,cF]
   rw [aK]
   exact ap
  ·rw [hold j (by rw [eY];omega),aP,ab (by omega)]
  ·cases j with
   | zero=>
    obtain rfl:x=z:=by simpa using hj
    have aT:=dC hm
    have:=cx m c hm
    rw [eL,mo,hold _ (by rw [eY];omega),aP,af (by simp;omega)]
    rw [show i'*sz+m - i'*sz - 0=m by omega]
    simpa [eL] using this
   | succ j=>
    have:=U j z m c (by simpa using hj) hm
    rwa [show i'+1+j=i'+(j+1) by omega] at this
 | [],_::_,_,_,_,hl,_,_=>by simp [gq] at hl
 | _::_,[],_,_,_,hl,_,_=>by simp [gq] at hl
theorem aw.td{σ':Sp}{w':World}{st':St}{dd:Nat}{t:TypeId}{es:List AV}{cv:Value}(Q:d=some dd)(hs:cX C w σ w' σ')(hc:aw C (st'.bC (.s dd)) a w' σ')(ho:OwnAt C.P C.W w' σ' (.rowS C.E.dp dd) True t es cv) :
  JU C (st'.bC (.s dd)) a w σ d (.o t es) cv w' σ':=by
 refine ⟨hs,hc,fun d2 aa=>?_,fun d2 _ _ aa _ d'=>?_⟩
 ·rw [Q] at aa;obtain rfl:=ah aa;exact ho
 ·rw [Q] at aa;obtain rfl:=ah aa;exact kD _ _ _
theorem yu{P:Program}{ty t:TypeId}(h:kQ P ty=some t):P.underlying ty=some (.slice t):=by
 unfold kQ at h
 split at h
 ·rename_i e hu;rw [hu];simp at h;rw [h]
 ·cases h
theorem acE{t sz:Nat}{xs:List bz}(h:aw C st a w σ)(hl:bN C.P (.bs t sz xs) o.op=true)(he:execOp R Ω C.E st d (.bs t sz xs)=some r) :
  ei C o d a w σ r.2 r.1:=by
 simp only [bN] at hl
 split at hl
 ·rename_i ty len parts aH
  simp only [aL,dH,eg] at hl
  obtain ⟨⟨⟨⟨⟨⟨br,N⟩,hlen⟩,bf⟩,aI⟩,cA⟩,hz⟩:=hl
  split at hz
  ·rename_i zv bo
   have bq:zv.cells.size=sz:=by simpa using hz
   have hu:=yu br
   obtain ⟨i,hi,bJ⟩:=xE bo
   obtain ⟨_,B,aB⟩:=nx N
   have an:i.size=sz:=by rw [←B];simp [Program.cellsOf,hi]
   simp only [execOp] at he
   obtain ⟨dd,Q,H⟩:=aj.1 he
   clear he
   split at H
   ·rename_i bS
    obtain rfl:=ah H
    have ax:∀ x∈xs,(st.ev x).pure=true∧(st.ev x).nc=sz∧∀ c∈(st.ev x).cl,c.one=true:=by
     intro x hx
     have:=cI.1 bS (st.ev x) (wk hx)
     simp only [aL,dH] at this
     exact ⟨this.1.1,this.2,fun c hc=>cI.1 this.1.2 c hc⟩
    have ba:parts.toList.length=len:=by simpa using congrArg List.length bf
    have bj:xs.length=len:=hlen.symm
    let vs:Array Value:=if len*sz=0 then #[] else (Array.range (len*sz)).map (zv.cells[· % zv.cells.size]!)
    have bU:vs.size=len*sz:=by
     by_cases h0:len*sz=0<;>simp [vs,h0]
    obtain ⟨vs',ap,O,_,U⟩:=JY h (sz:=sz) parts.toList xs 0 vs (by rw [bf,ba,List.range_eq_range']) aI (by rw [bU,bj];omega) (fun x hx=>⟨dO _ (ax x hx).1,(ax x hx).2⟩)
    have G:∀ e∈xs.map st.ev,e.pure=true∧e.nc=sz∧∀ c∈e.cl,c.one=true:=by
     intro e he
     obtain ⟨x,hx,rfl⟩:=iG.1 he
     exact ax x hx
    obtain ⟨σ',ad,hc,ho,_⟩:=(h.bC (.s dd)).newRow (L:=.rowS C.E.dp dd) (t:=t) (es:=xs.map st.ev) (cap:=len) (cs:=vs') (by omega) (fun e he=>by rw [B];exact (G e he).2.1) (by simp [bj]) (by simp [maxLen];have:=Nat.le_mul_of_pos_right len aB;omega)
     (by rw [O,bU,B]) (fun e he=>(G e he).1) (fun e he=>(G e he).2.2) (fun j e m c hj hm=>by
      rw [nT] at hj
      cases hx:xs[j]? with
      | none=>simp [hx] at hj
      | some x=>
       obtain rfl:st.ev x=e:=by simpa [hx] using hj
       have:=U j x m c hx hm
       rw [B]
       simpa using this)
    rw [iH,bj] at ho
    refine .jh ?_ (aw.td Q ad hc ho)
    have ao:Instr.fill (fun i=>some (i*sz,sz)) vs (parts.map fun x=>(x.1,a.eval x.2)).toList=some vs':=by rw [Array.toList_map];exact ap
    unfold Go.execOp
    simp only [aH]
    by_cases h0:len*sz=0
    ·have cn:len=0:=by
      rcases Nat.mul_eq_zero.1 h0 with e | e
      ·exact e
      ·omega
     have ck:parts=#[]:=by
      apply Array.ext'
      exact wm (by omega)
     have cf:vs'=#[]:=JJ (by omega)
     subst ck;subst cf;subst cn
     simp [Instr.buildSlice,run_underlying hu,sizeOf,typeInfo,hi,Instr.fill,Go.newRow,Array.range_zero']
    ·simp only [vs,h0,cF] at ao
     rw [Sem.run_bind,run_buildSlice w ty t len _ vs' i zv hu hi bJ (by rw [an];omega) (by rw [an];exact h0) (by rw [an];exact ao)]
     simp
   ·cases H
  ·cases hz
 ·cases hl
theorem acF{t sz by_:Nat}{z:AV}{n:bz}(h:aw C st a w σ)(hl:bN C.P (.ms t sz by_ z n) o.op=true)(he:execOp R Ω C.E st d (.ms t sz by_ z n)=some r) :
  ei C o d a w σ r.2 r.1:=by
 simp only [bN] at hl
 split at hl
 ·rename_i ty l' c' aH
  simp only [aL,dH] at hl
  obtain ⟨⟨⟨⟨⟨br,N⟩,cy⟩,aI⟩,bH⟩,hz⟩:=hl
  split at hz
  ·rename_i zv bo
   simp only [aL,dH] at hz
   obtain ⟨⟨cm,bq⟩,h1⟩:=hz
   have hu:=yu br
   obtain ⟨i,hi,bJ⟩:=xE bo
   obtain ⟨_,B,aB⟩:=nx N
   have an:i.size=sz:=by rw [←B];simp [Program.cellsOf,hi]
   have bK:i.bytes=by_:=by rw [←cy];simp [Program.bytesOf,hi]
   simp only [execOp] at he
   obtain ⟨dd,Q,H⟩:=aj.1 he
   clear he
   obtain ⟨m,hm,K⟩:=aj.1 H
   clear H
   obtain ⟨k,x,hx,b9,b7⟩:=DQ hm
   split at K
   ·rename_i hc
    simp only [aL,eg] at hc
    obtain ⟨bP,aC⟩:=hc
    obtain rfl:=ah K
    have cd:=(hx▸h.e7 aI (by rw [hx];simp) (by rw [hx];rfl)).mO
    have ce:=(hx▸h.e7 bH (by rw [hx];simp) (by rw [hx];rfl)).mO
    have b8:x=(m:Int):=by omega
    have cB:(i.bytes:Int)*x≤281474976710656:=by
     rw [b8,bK]
     have:m*by_=by_*m:=sO _ _
     have h2:((by_*m:Nat):Int)≤281474976710656:=by omega
     rwa [Int.natCast_mul] at h2
    have bc:x≤9223372036854775807:=by simp [maxLen] at aC;omega
    have X:=run_make (P:=C.P) w ty t i zv hu hi bJ k k x x b9 (uL _) cB bc
    obtain ⟨bn,b3⟩:=EN (w:=w) (I:=σ.I) (κ:=σ.κ) zv z cm
    have bi:∀ c∈z.cl,c.one=true:=fun c hc=>cI.1 h1 c hc
    obtain ⟨b4,bT⟩:=bn.cells bi
    have G:∀ e∈List.replicate m z,e=z:=fun e he=>(List.mem_replicate.1 he).2
    obtain ⟨σ',ad,hc,ho,_⟩:=(h.bC (.s dd)).newRow (L:=.rowS C.E.dp dd) (t:=t) (es:=List.replicate m z) (cap:=m) (cs:=madeCells zv.cells (m*sz)) (by omega) (fun e he=>by rw [G e he,B];exact b4.trans bq) (by simp) aC
     (by rw [size_madeCells,B]) (fun e he=>by rw [G e he];exact b3) (fun e he=>by rw [G e he];exact bi) (fun j e q c hj hq=>by
      have co:=dC hj
      simp only [Dv] at co
      have cr:=G e (bu hj)
      subst cr
      have cG:=dC hq
      have:=bT q c hq
      rw [B]
      have ai:j*sz+q<m*sz:=by
       have:(j+1)*sz≤m*sz:=fL _ (by omega)
       rw [eY] at this
       omega
      have bF:(j*sz+q) % zv.cells.size=q:=by rw [bq,sO,Nat.mul_add_mod];exact Nat.mod_eq_of_lt (by omega)
      have:(madeCells zv.cells (m*sz)).getD (j*sz+q) undef=zv.cells.getD q undef:=by
       simp [madeCells,eL,ai,bF]
       have ch:q<zv.cells.size:=by omega
       simp [ch]
      rw [this]
      exact bT q c hq)
    rw [Dv] at ho
    refine .jh ?_ (aw.td Q ad hc ho)
    unfold Go.execOp
    rw [an,b7] at X
    simp [aH,cd,ce,X]
   ·cases K
  ·cases hz
 ·cases hl
end
end Go.Proofs.YtlmphbbhaeampaaGreat.A
