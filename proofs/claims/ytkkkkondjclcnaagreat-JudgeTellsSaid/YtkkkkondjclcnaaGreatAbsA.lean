/- Boxes and rows that are made, written, grown: the model does what the abstract run says. -/
import Derived.Test.YtkkkkondjclcnaaGreatAbs8
import Derived.Great.BuildSlice
import Derived.Laws.MakeOwn
import Derived.Deep.AppendSrc
import Derived.Deep.Upon
set_option linter.all false
namespace Go.Proofs.YtkkkkondjclcnaaGreat.A
open Go
variable [bM]
section
variable {C:Cx}{st:St}{a:Act}{w:World}{σ:Sp}{o:Oper}{d:Option Nat}{R:Rec}{Ω:ef}{r:AV×St}
theorem G7{k:Key}{l:List AV}(h:∀ x∈l,x.cb k=true):AV.dm k l=true:=by
 induction l with
 | nil=>rfl
 | cons y l ih=>
  grind [AV.dm]
theorem My{I:Nat→Prop}{κ:Key→Nat}{n dp s:Nat}(hn:n<dp)(x:AV){v:Value}(h:VR w I κ x v)(hd:x.deep n=true):x.cb ⟨dp,s⟩=true:=by
 induction h with
 | f g cs vs hg hl hc ih=>
  refine G7 fun c hm=>?_
  obtain ⟨m,aZ⟩:=eZ.1 hm
  exact ih m c aZ (nX hd c hm)
 | fm g cs vs hl hc ih=>
  refine G7 fun c hm=>?_
  obtain ⟨m,aZ⟩:=eZ.1 hm
  exact ih m c aZ (nX hd c hm)
 | a cs vs hl h1 hc ih=>
  refine G7 fun c hm=>?_
  obtain ⟨m,aZ⟩:=eZ.1 hm
  exact ih m c aZ (nX hd c hm)
 | tp cs vs hl hc ih=>
  refine G7 fun c hm=>?_
  obtain ⟨m,aZ⟩:=eZ.1 hm
  exact ih m c aZ (nX hd c hm)
 | ifc t x v h ih=>exact ih hd
 | p k off=>
  grind [AV.deep,AV.cb]
 | sp k off m sz cap h1 h2=>
  grind [AV.deep,AV.cb]
 | _=>rfl
def Sp.add(σ:Sp)(b:Nat)(L:Option ez):Sp:={σ with ow:=fun x=>if x=b then L else σ.ow x}
theorem jo.alloc(h:aq C st a w σ)(o:Obj)(L:Option ez):jo C w σ (w.alloc o) (σ.add w.heap.size L) none:=by
 have V:∀ b l,σ.ow b=some l→b≠w.heap.size:=fun b l hb e=>by have:=h.own b l hb;omega
 refine ⟨fun b l hb _=>⟨heap_alloc_old w o (h.own b l hb),?_⟩,fun b hb=>heap_alloc_old w o (h.bP b hb).1,fun _ h=>h,rfl,by simp,fun b l hb=>?_,fun b hb=>?_⟩
 ·grind [Sp.add]
 ·simp only [Sp.add] at hb
  split at hb
  ·simp;omega
  ·have:=h.own b l hb;simp;omega
 ·have bk:σ.I b:=hb
  obtain ⟨h1,h2⟩:=h.bP b bk
  refine ⟨by simp;omega,?_⟩
  grind [Sp.add]
theorem jo.drew{w':World}{σ':Sp}{M:Option ez}(h:jo C w.drew σ w' σ' M):jo C w σ w' σ' M:=⟨h.blk,h.bP,h.up,h.kap,h.size,h.own,h.dn⟩
theorem cZ.alloc(h:aq C st a w σ)(o:Obj)(L:Option ez):cZ C w σ (w.alloc o) (σ.add w.heap.size L):=
 ⟨by simp,by grind [heap_alloc_old],fun _ h=>h,fun b hb=>heap_alloc_old w o (h.bP b hb).1,fun _ h=>.inl h,fun _ _=>rfl,fun b hb _=>aa (bQ hb),rfl,rfl⟩
theorem aq.UK{d:Nat}{cs:List AV}{vs:Array Value}{T:TypeId}(h:aq C st a w σ)(hd:d<1000000)(aQ:CA w σ.I σ.κ cs vs)(av:∀ c∈cs,c.cb ⟨C.E.dp,d⟩=true)(b7:∀ c∈cs,∀ t es,c≠.o t es)
  (a5:∀ d',(au st.fr d').cb ⟨C.E.dp,d⟩=true) (aF:∀ d' cs',aE st.bx d'=some cs'→∀ c∈cs',c.cb ⟨C.E.dp,d⟩=true)
  (cM:∀ k cs',k.dp≠C.E.dp→st.hp k=some cs'→∀ c∈cs',c.cb ⟨C.E.dp,d⟩=true) :
  ∃ σ',cZ C w σ (w.alloc (.cells vs T)) σ'∧aq C {st with bx:=(d,cs)::st.bx} a (w.alloc (.cells vs T)) σ'∧σ'.κ ⟨C.E.dp,d⟩=w.heap.size∧σ'.I=σ.I:=by
 have hs:=jo.alloc h (.cells vs T) (some (.box ⟨C.E.dp,d⟩))
 have h1:=h.same hs
 refine ⟨{(σ.add w.heap.size (some (.box ⟨C.E.dp,d⟩))) with κ:=fun k=>if k=⟨C.E.dp,d⟩ then w.heap.size else σ.κ k},?_,?_,by simp,rfl⟩
 ·have:=cZ.alloc h (.cells vs T) (some (.box ⟨C.E.dp,d⟩))
  exact ⟨this.size,this.aG,this.up,this.bP,this.dn,by grind,this.ow,this.io⟩
 ·have am:∀ k,k≠⟨C.E.dp,d⟩→(if k=⟨C.E.dp,d⟩ then w.heap.size else σ.κ k)=σ.κ k:=fun k hk=>aa hk
  have b5:∀ (x:AV),x.cb ⟨C.E.dp,d⟩=true→∀ k,x.cb k=false→k≠⟨C.E.dp,d⟩:=by
   grind
  have D:∀ pl r,({st with bx:=(d,cs)::st.bx} : St).rowAt C.E.dp pl=some r→(∀ off,pl≠.c ⟨C.E.dp,d⟩ off)→st.rowAt C.E.dp pl=some r:=by
   intro pl r hr V
   cases pl with
   | s d'=>exact hr
   | c k off=>
    grind [St.rowAt,St.box,aE]
  refine ⟨h1.size,h1.defers,fun d'=>?_,fun k cs' hk=>?_,h1.hpd,h1.own,h1.bP,h1.new,h1.lay⟩
  ·have hx:=h1.fr d'
   have hn:=a5 d'
   have a9:∀ pl,(∀ off,pl≠.c ⟨C.E.dp,d⟩ off)→gm (w.alloc (.cells vs T)) {(σ.add w.heap.size (some (.box ⟨C.E.dp,d⟩))) with κ:=fun k=>if k=⟨C.E.dp,d⟩ then w.heap.size else σ.κ k} a pl=
     gm (w.alloc (.cells vs T)) (σ.add w.heap.size (some (.box ⟨C.E.dp,d⟩))) a pl:=by
    intro pl V
    cases pl with
    | s d''=>rfl
    | c k off=>
     have:k≠⟨C.E.dp,d⟩:=fun e=>V off (by rw [e])
     simp only [gm,aa this]
     rfl
   generalize au st.fr d'=x at hx hn ⊢
   show SR _ _ _ _ _ _ x _
   cases x with
   | o t es=>exact OwnAt.aG (C:=C) hx (fun g hg=>⟨rfl,hg⟩) (fun _ h=>h) (fun _ _=>rfl)
   | r pl=>
    have V:∀ off,pl≠.c ⟨C.E.dp,d⟩ off:=by grind [AV.cb]
    intro aU
    obtain ⟨r,hr⟩:=jJ.1 aU
    rw [a9 pl V]
    exact hx (by grind)
   | v pl lo len=>
    have V:∀ off,pl≠.c ⟨C.E.dp,d⟩ off:=by grind [AV.cb]
    intro t es ht ak
    rw [a9 pl V]
    exact hx t es (D pl _ ht V) ak
   | q pl i sz off=>
    have V:∀ off,pl≠.c ⟨C.E.dp,d⟩ off:=by grind [AV.cb]
    intro t es ht ak
    rw [a9 pl V]
    exact hx t es (D pl _ ht V) ak
   | w g t x=>exact rD.aG hx (fun b hb=>⟨rfl,hb⟩) fun _ h=>h
   | ag cs' rs=>exact zi.to hx (fun c hc v hv=>hv.mono (fun _ h=>h) (fun _ _=>rfl) fun k hk=>am k ((by grind [mP,AV.cb]))) (fun _ _ hr=>⟨hr,rfl⟩)
   | _=>exact VR.mono hx (fun _ h=>h) (fun _ _=>rfl) fun k hk=>am k (b5 _ hn k hk)
  ·by_cases hK:k=⟨C.E.dp,d⟩
   ·subst hK
    simp only [St.box,az,aE] at hk
    obtain rfl:=af hk
    refine ⟨vs,T,by grind [heap_alloc_new],vt aQ.len,by simp [Sp.add],fun _=>(h.new _ (by simp)).1,aQ.one,fun off c hc=>?_,fun t _ _ ht=>(by obtain ⟨m,hm⟩:=eZ.1 ht;cases aQ.cell m _ hm),by grind,by simp only [az];exact (h.new _ (aV _)).2⟩
    have cO:=bg hc
    have hv:=(aQ.cell off c hc).mono (w':=w.alloc (.cells vs T)) (I':=σ.I) (κ':=fun k=>if k=⟨C.E.dp,d⟩ then w.heap.size else σ.κ k) (fun _ h=>h)
     (fun b hb=>heap_alloc_old w _ (h.bP b hb).1) ((by grind))
    exact UE hv
   ·have bo:st.box C.E.dp k=some cs':=by
     simp only [St.box] at hk ⊢
     by_cases a4:k.dp=C.E.dp
     ·have V:d≠k.d:=fun e=>hK (by cases k;grind)
      grind [aE]
     grind
    obtain ⟨vs',T',hB⟩:=h1.bx k cs' bo
    have G:∀ c∈cs',c.cb ⟨C.E.dp,d⟩=true:=by
     grind [St.box]
    refine ⟨vs',T',by simp only [aa hK];exact hB.hh,hB.size,by simp only [aa hK];exact hB.ow,fun hw=>by simp only [aa hK];exact hB.wr hw,hB.one,fun off c hc=>?_,hB.ty,by simp only [aa hK];exact hB.kb⟩
    exact CR.aG (C:=C) (hB.cell off c hc) (fun g hg=>⟨rfl,hg⟩) (fun _ h=>h) (fun _ _=>rfl) (fun k hk=>am k (b5 c (G c (bg hc)) k hk)) fun b g hg=>⟨rfl,hg⟩
theorem p8{p:AV→Bool}(hu:p .u=true):∀ (fr:List (Nat×AV)),fr.all (fun y=>p y.2)=true→∀ d,p (au fr d)=true
 | [],_,_=>hu
 | (k,x)::fr,h,d=>by
  simp only [vu,aC] at h
  simp only [au]
  split
  ·exact h.1
  ·exact p8 hu fr h.2 d
theorem p9{p:List AV→Bool} : ∀ (bx:List (Nat×List AV)),bx.all (fun y=>p y.2)=true→∀ d cs,aE bx d=some cs→p cs=true
 | [],_,_,_,h=>by cases h
 | (k,x)::bx,h,d,cs,hb=>by
  simp only [vu,aC] at h
  simp only [aE] at hb
  split at hb
  ·grind
  ·exact p9 bx h.2 d cs hb
theorem Lg(h:aq C st a w σ)(d:Nat):∀ k cs,k.dp≠C.E.dp→st.hp k=some cs→∀ c∈cs,c.cb ⟨C.E.dp,d⟩=true:=by
 intro k cs hk hc c hm
 obtain ⟨h1,h2⟩:=h.hpd k cs hk hc
 obtain ⟨vs,T,hB⟩:=h.bx k cs (by simp [St.box,hk,hc])
 obtain ⟨off,ho⟩:=eZ.1 hm
 have F:=hB.cell off c ho
 have hd:=h2 c hm
 cases c with
 | o t es=>rfl
 | r _=>cases F
 | v _ _ _=>cases F
 | q _ _ _ _=>cases F
 | u=>rfl
 | w _ _ _=>rfl
 | bp _ k' _=>
  grind [AV.deep,AV.cb]
 | _=>exact My h1 _ F hd
theorem S1{w:World}{I:Nat→Prop}{κ:Key→Nat}{k:Key}{b:Nat}(h:κ k=b):VR w I κ (.p k 0) (.pointer (some ⟨b,0,none⟩)):=by
 subst h;exact .p k 0
theorem Rx{zs:List AV}{dd:Nat}(h:aq C st a w σ)(hd:dd<1000000)(hl:bG C.P (.al zs) o.op=true)(Q:d=some dd)(a5:∀ d',(au st.fr d').cb ⟨C.E.dp,dd⟩=true)
  (aF:∀ d' cs',aE st.bx d'=some cs'→∀ c∈cs',c.cb ⟨C.E.dp,dd⟩=true):eM C o d a w σ {st with bx:=(dd,zs)::st.bx} (.p ⟨C.E.dp,dd⟩ 0):=by
 simp only [bG] at hl
 split at hl
 ·rename_i t aJ
  split at hl
  ·rename_i v hz
   simp only [aC] at hl
   obtain ⟨hlen,F⟩:=xh (w:=w) (I:=σ.I) (κ:=σ.κ) v.cells.toList zs hl.1
   have ba:∀ c∈zs,c.pure=true:=by grind [List.mem_iff_getElem?]
   have aQ:CA w σ.I σ.κ zs v.cells:=⟨by grind,by grind,by grind [Array.getD_eq_getD_getElem?]⟩
   obtain ⟨σ',ae,a6,hk,hI⟩:=h.UK (T:=t) hd aQ ((by grind [kN])) (fun c hm t es e=>by have:=ba c hm;rw [e] at this;cases this)
    a5 aF (Lg h dd)
   refine .lr (cv:=.pointer (some ⟨w.heap.size,0,none⟩)) ?_ ⟨ae,a6,fun _ _=>lE (S1 hk),fun _ _ _ _ e=>by cases e⟩
   simp_all [Go.execOp,Instr.alloc,OH,newVar,newRow]
  ·cases hl
 ·cases hl
theorem Zi{P:Program}{zs:List AV}{op:Op}(hl:bG P (.al zs) op=true):∀ c∈zs,c.pure=true:=by
 simp only [bG] at hl
 split at hl
 ·split at hl
  ·rename_i v hz
   simp only [aC] at hl
   obtain ⟨hlen,F⟩:=xh (w:=default) (I:=fun _=>False) (κ:=fun _=>0) v.cells.toList zs hl.1
   grind [List.mem_iff_getElem?]
  ·cases hl
 ·cases hl
theorem afs{zs:List AV}(h:aq C st a w σ)(hl:bG C.P (.al zs) o.op=true)(he:execOp R Ω C.E st d (.al zs)=some r) :
  eM C o d a w σ r.2 r.1:=by
 simp only [execOp] at he
 obtain ⟨dd,Q,he⟩:=ah.1 he
 split at he
 ·rename_i hc
  simp only [aC] at hc
  obtain rfl:=af he
  exact Rx h (by grind [ft]) hl Q (p8 rfl _ hc.1.2) (fun d' cs' hb c hm=>mP (p9 _ hc.2 d' cs' hb) c hm)
 ·cases he
theorem aft{x:aY}(h:aq C st a w σ)(hl:bG C.P (.bx x) o.op=true)(he:execOp R Ω C.E st d (.bx x)=some r) :
  eM C o d a w σ r.2 r.1:=by
 simp only [bG] at hl
 split at hl
 ·rename_i t y aJ
  simp only [execOp] at he
  obtain ⟨dd,Q,he⟩:=ah.1 he
  split at he
  ·rename_i hc
   simp only [aC] at hc
   obtain ⟨⟨⟨⟨⟨a3,h1⟩,cN⟩,bD⟩,a5⟩,aF⟩:=hc
   have hd:dd<1000000:=by grind [ft]
   obtain rfl:=af he
   have hv:=h.wQ hl a3
   have bl:∀ c∈(st.ev x).cl,c.one=true:=by grind
   obtain ⟨hlen,F⟩:=hv.cells bl
   have aQ:CA w σ.I σ.κ (st.ev x).cl (a.eval y).cells:=⟨hlen,fun c hc=>.inl (bl c hc),F⟩
   have hK:(st.ev x).cb ⟨C.E.dp,dd⟩=true:=by
    cases x with
    | t n=>exact p8 (p:=fun y=>y.cb ⟨C.E.dp,dd⟩) rfl _ a5 n
    | c z=>exact kN _ (vd hl)
   have cI:∀ c∈(st.ev x).cl,c.cb ⟨C.E.dp,dd⟩=true:=by
    intro c hm
    generalize st.ev x=z at hm hK
    cases z<;>simp only [AV.cl,jj] at hm<;>first | (subst hm;exact hK) | exact mP hK c hm
   have bC:∀ c∈(st.ev x).cl,∀ t es,c≠.o t es:=by
    intro c hm t es e
    subst e
    obtain ⟨m,hm⟩:=eZ.1 hm
    have:=F m _ hm
    cases this
   obtain ⟨σ',ae,a6,hk,hI⟩:=h.UK (T:=t) hd aQ cI bC
    (p8 rfl _ a5) (fun d' cs' hb c hm=>mP (p9 _ aF d' cs' hb) c hm) (Lg h dd)
   refine .lr (cv:=.pointer (some ⟨w.heap.size,0,none⟩)) ?_ ⟨ae,a6,fun _ _=>lE (S1 hk),fun _ _ _ _ e=>by cases e⟩
   simp_all [Go.execOp,Instr.box,newVar,newRow]
  ·cases he
 ·cases hl
end
variable [bM]
section
variable {C:Cx}{st:St}{a:Act}{w:World}{σ:Sp}{o:Oper}{d:Option Nat}{R:Rec}{Ω:ef}{r:AV×St}
theorem yH(bx:List (Nat×List AV))(d:Nat)(cs:List AV)(d':Nat) :
  aE (oU bx d cs) d'=if d'=d then (aE bx d).map fun _=>cs else aE bx d':=by
 induction bx with
 | nil=>simp [oU,aE]
 | cons x bx ih=>
  grind [oU,aE]
theorem jT{dp:Nat}{k:Key}{cs cs':List AV}(h:st.box dp k=some cs)(k':Key) :
  (st.aL dp k cs').box dp k'=if k'=k then some cs' else st.box dp k':=by
 simp only [St.box] at h
 by_cases hk:k.dp=dp
 ·simp only [hk,az] at h
  simp only [St.box,St.aL,hk,az,yH,h,fE]
  by_cases bo:k'=k
  ·grind
  ·by_cases hd:k'.dp=dp
   ·have:k'.d≠k.d:=fun e=>bo (by cases k;cases k';grind)
    grind
   ·simp [hd,bo]
 ·simp only [aa hk] at h
  simp only [St.box,St.aL,aa hk,ar]
  grind
theorem pM(dp:Nat)(st:St)(k:Key)(cs:List AV):(st.aL dp k cs).fr=st.fr:=by
 grind [St.aL]
theorem ta{dp:Nat}{k:Key}{cs:List AV}(d:Nat):(st.aL dp k cs).rowAt dp (.s d)=st.rowAt dp (.s d):=by
 simp only [St.rowAt,pM]
theorem jo.setRow(h:aq C st a w σ){g:Nat}{L:ez}(b3:σ.ow g=some L)(cs:Array Value):jo C w σ (w.setRow g cs) σ (some L):=
 ⟨by grind [setRow_other],
  fun b hb=>setRow_other w g b cs (fun e=>by subst e;have:=(h.bP b hb).2;grind),
  fun _ h=>h,rfl,by simp,fun b l hb=>by simpa using h.own b l hb,fun b hb=>by simpa using h.bP b hb⟩
theorem cZ.setRow(h:aq C st a w σ){g:Nat}{L:ez}(b3:σ.ow g=some L)(hW:C.W g)(cs:Array Value):cZ C w σ (w.setRow g cs) σ:=
 ⟨by simp,by grind [setRow_other],fun _ h=>h,(jo.setRow h b3 cs).bP,fun _ h=>.inl h,fun _ _=>rfl,fun _ _ _=>rfl,rfl,rfl⟩
def tW(vs:Array Value)(off:Nat)(us:List Value):Array Value:=(vs.toList.take off++us++vs.toList.drop (off+us.length)).toArray
theorem Eb(vs:Array Value)(off:Nat)(us:List Value)(h:off+us.length≤vs.size):(tW vs off us).size=vs.size:=by
 simp [tW];omega
theorem Ec(vs:Array Value)(off:Nat)(us:List Value)(h:off+us.length≤vs.size)(i:Nat) :
  (tW vs off us).getD i undef=if off≤i∧i<off+us.length then us[i - off]?.getD undef else vs.getD i undef:=by
 have h1:(vs.toList.take off).length=off:=by simp;omega
 simp only [tW,dK,BG]
 grind
theorem aq.OJ{k:Key}{cs:List AV}{vs:Array Value}{T:TypeId}{off:Nat}{ys:List AV}{us:List Value}(h:aq C st a w σ)(hb:st.box C.E.dp k=some cs)(hB:jS C w σ k cs vs T)
  (hl:ys.length=us.length) (hle:off+ys.length≤cs.length) (h1:∀ c∈ys,c.one=true) (hc:∀ (j:Nat)(c:AV),ys[j]? =some c→CR C w σ k (off+j) c (us[j]?.getD undef))
  (bY:∀ (j:Nat) t es,ys[j]? =some (.o t es)→∀ d,(au st.fr d).kq (.c k (off+j))=false) (av:k.dp≠C.E.dp→∀ c∈ys,c.deep k.dp=true) (cK:∀ t k u,AV.bp t k u∈ys→t=T∧vs.size=cs.length) :
  aq C (st.aL C.E.dp k (putCells cs off ys)) a (w.setRow (σ.κ k) (tW vs off us)) σ:=by
 have hs:=jo.setRow h hB.ow (tW vs off us)
 have N:off+us.length≤vs.size:=by have:=hB.size;omega
 have aw:=fun k'=>jT (cs':=putCells cs off ys) hb k'
 have aM:(w.setRow (σ.κ k) (tW vs off us)).heap[σ.κ k]? =some (.cells (tW vs off us) T (0,0)):=setRow_heap w _ _ _ _ _ hB.hh
 have ai:∀ k',k'≠k→st.box C.E.dp k'≠none→(w.setRow (σ.κ k) (tW vs off us)).heap[σ.κ k']? =w.heap[σ.κ k']? :=by
  intro k' V bk
  obtain ⟨cs',a2⟩:=Option.ne_none_iff_exists'.1 bk
  obtain ⟨vs',T',ad⟩:=h.bx k' cs' a2
  exact (hs.blk _ _ ad.ow (by simp [V])).1
 have aD:∀ i,¬(off≤i∧i<off+ys.length)→(putCells cs off ys)[i]? =cs[i]? :=by
  intro i hi;rw [km _ _ _ hle,aa hi]
 have D:∀ pl r,(st.aL C.E.dp k (putCells cs off ys)).rowAt C.E.dp pl=some r→(∀ j t es,ys[j]? =some (.o t es)→pl≠.c k (off+j))→
   st.rowAt C.E.dp pl=some r∧gm (w.setRow (σ.κ k) (tW vs off us)) σ a pl=gm w σ a pl:=by
  intro pl r hr V
  cases pl with
  | s d'=>rw [ta] at hr;exact ⟨hr,rfl⟩
  | c k' off'=>
   simp only [St.rowAt,aw] at hr
   by_cases hk:k'=k
   ·subst hk
    simp only [az] at hr
    by_cases hi:off≤off'∧off'<off+ys.length
    ·grind [km]
    ·rw [aD off' hi] at hr
     refine ⟨by grind [St.rowAt],?_⟩
     simp only [gm,aM,hB.hh]
     grind [Ec]
   ·simp only [aa hk] at hr
    refine ⟨by simp only [St.rowAt];exact hr,?_⟩
    have:st.box C.E.dp k'≠none:=fun e=>by simp [e] at hr
    simp only [gm,ai k' hk this]
 refine ⟨h.size,h.defers.same hs (by simp),fun d'=>?_,fun k' cs' hk=>?_,fun k' cs' hk S=>?_,hs.own,hs.dn,fun b hb=>h.new b (by simpa using hb),h.lay.aG hs.up hs.bP⟩
 ·have hx:=h.fr d'
  have bn:∀ pl,(au st.fr d').kq pl=true→∀ j t es,ys[j]? =some (.o t es)→pl≠.c k (off+j):=by
   grind
  rw [pM]
  generalize au st.fr d'=x at hx bn ⊢
  cases x with
  | o t es=>exact OwnAt.same hs (by simp) hx
  | r pl=>
   intro aU
   obtain ⟨r,hr⟩:=jJ.1 aU
   obtain ⟨h2,h3⟩:=D pl r hr (bn pl (by simp [AV.kq]))
   rw [h3]
   exact hx (by rw [h2];rfl)
  | v pl lo len=>
   intro t es ht ak
   obtain ⟨h2,h3⟩:=D pl _ ht (bn pl (by simp [AV.kq]))
   rw [h3]
   exact hx t es h2 ak
  | q pl i sz off=>
   intro t es ht ak
   obtain ⟨h2,h3⟩:=D pl _ ht (bn pl (by simp [AV.kq]))
   rw [h3]
   exact hx t es h2 ak
  | w g t x=>exact rD.same hs (by simp [Pl.rC]) hx
  | ag cs' rs=>
   refine zi.to hx (fun c _ v hv=>VR.same hs hv) (fun q hq hr=>?_)
   grind [Option.isSome_iff_exists]
  | _=>exact VR.same hs hx
 ·rw [aw] at hk
  by_cases ay:k'=k
  ·subst ay
   simp only [az] at hk
   cases hk
   refine ⟨tW vs off us,T,aM,by rw [Eb _ _ _ N,n9 _ _ _ hle];exact hB.size,hB.ow,hB.wr,fun c hm=>?_,fun i c hi=>?_,fun t kk u ht=>?_,hB.kb⟩
   ·unfold putCells at hm
    rcases dk.1 hm with hm | hm
    ·rcases dk.1 hm with hm | hm
     ·exact hB.one c (oA hm)
     grind
    ·exact hB.one c (uU hm)
   ·rw [Ec _ _ _ N]
    rw [km _ _ _ hle] at hi
    rw [hl] at hi
    by_cases bq:off≤i∧i<off+us.length
    ·rw [ab bq] at hi ⊢
     have:=hc (i - off) c hi
     rw [show off+(i - off)=i by omega] at this
     exact CR.same hs (by simp) this
    ·rw [aa bq] at hi ⊢
     exact CR.same hs (by simp) (hB.cell i c hi)
   ·rw [Eb _ _ _ N,n9 _ _ _ hle]
    unfold putCells at ht
    rcases dk.1 ht with ht | ht
    ·rcases dk.1 ht with ht | ht
     ·exact hB.ty t kk u (oA ht)
     grind
    ·exact hB.ty t kk u (uU ht)
  ·simp only [aa ay] at hk
   obtain ⟨vs',T',ad⟩:=h.bx k' cs' hk
   exact ⟨vs',T',(ai k' ay (by simp [hk])).trans ad.hh,ad.size,ad.ow,ad.wr,ad.one,fun i c hi=>CR.same hs (by simp) (ad.cell i c hi),ad.ty,ad.kb⟩
 ·by_cases a4:k.dp=C.E.dp
  ·simp only [St.aL,a4,az] at S
   exact h.hpd k' cs' hk S
  ·simp only [St.aL,aa a4,ar] at S
   split at S
   ·rename_i ay
    subst ay
    cases S
    have hold:=h.hpd k' cs hk (by grind [St.box])
    grind [putCells]
   ·exact h.hpd k' cs' hk S
theorem OK(cs:List AV)(off:Nat)(x:AV)(h:off<cs.length):cs.set off x=putCells cs off [x]:=by
 apply List.ext_getElem?
 grind [km]
theorem CE{t:TypeId}{g off:Nat}{vs:Array Value}{T:TypeId}{v:Value}{n:Nat}(hh:w.heap[g]? =some (.cells vs T (0,0)))(hs:sized C.P t n=true)(hn:v.cells.size=n)
  (hle:off+n≤vs.size) (h1:∀ u∈v.cells.toList,u.oneCell'=true) :
  (Instr.storeAt t (.pointer (some ⟨g,off,none⟩)) v).run C.P w= .ok () (w.setRow g (tW vs off v.cells.toList)):=by
 obtain ⟨bh,B,_⟩:=pL hs
 have:=run_storeCells_at C.P g off T v.cells.toList 0 vs w hh (by simp;omega) h1
 simp only [oC] at this
 simp [Instr.storeAt,Instr.sureAddr,storeVar,lg bh,B,hn,this,tW]
theorem Wt{e:AV}{off:Nat}{ys:List AV}(hle:off+ys.length≤e.nc)(h1:∀ c∈ys,c.one=true):(D0 e off ys).cl=putCells e.cl off ys:=by
 by_cases ha:∃ cs,e= .a cs
 ·obtain ⟨cs,rfl⟩:=ha;rfl
 ·have aO:e.cl=[e]:=by cases e<;>first | rfl | grind
  have Z:e.nc=1:=by simp [AV.nc,aO]
  have aW:D0 e off ys=Ji e ys:=by cases e<;>first | rfl | grind
  rw [aW,aO]
  rw [Z] at hle
  match ys,hle,h1 with
  | [],hle,_=>
   simp_all [putCells,Ji]
  | [y],hle,h1=>
   have:off=0:=by grind
   subst this
   have:=h1 y (by simp)
   have hy:y.cl=[y]:=by cases y<;>first | rfl | (simp [AV.one] at this)
   simp [putCells,hy,Ji]
  | y::z::ys,hle,_=>grind
theorem Wu{x:AV}(h:∀ c∈x.cl,c.pure=true):x.pure=true:=by
 cases x with
 | a cs=>exact kM h
 | _=>exact h _ (by simp [AV.cl])
theorem AR{cs:List AV}{off:Nat}{ys:List AV}{c:AV}(h:c∈putCells cs off ys):c∈cs∨c∈ys:=by
 grind [putCells]
theorem gx.put{P:Program}{W:Nat→Prop}{L:ez}{wp:Prop}{t:TypeId}{es:List AV}{g cap:Nat}{cs:Array Value}{i off:Nat}{e:AV}{ys:List AV}{us:List Value}
  (hR:gx P W w σ L wp t es g cap cs) (hs:jo C w σ (w.setRow g (tW cs (i*P.cellsOf t+off) us)) σ (some L)) (he:es[i]? =some e) (hl:ys.length=us.length) (hle:off+ys.length≤P.cellsOf t)
  (h1:∀ c∈ys,c.one=true) (hp:∀ c∈ys,c.pure=true) (hv:∀ (m:Nat)(c:AV),ys[m]? =some c→VR w σ.I σ.κ c (us[m]?.getD undef)) :
  gx P W (w.setRow g (tW cs (i*P.cellsOf t+off) us)) σ L wp t (es.set i (D0 e off ys)) g cap (tW cs (i*P.cellsOf t+off) us):=by
 have bj:=bg he
 have hi:=dB he
 have Z:=hR.nc e bj
 have aO:=Wt (e:=e) (off:=off) (ys:=ys) (by rw [Z];exact hle) h1
 have cz:e.cl.length=P.cellsOf t:=Z
 have N:i*P.cellsOf t+off+us.length≤cs.size:=by
  rw [hR.size]
  have:(i+1)*P.cellsOf t≤cap*P.cellsOf t:=gK _ (by have:=hR.ecap;omega)
  grind
 have G:∀ x∈es.set i (D0 e off ys),x∈es∨x=D0 e off ys:=by grind
 refine ⟨hR.ow,hR.wr,setRow_heap w _ _ _ _ _ hR.hh,hR.pos,fun x hx=>?_,by simpa using hR.ecap,hR.max,by rw [Eb _ _ _ N,hR.size],fun x hx=>?_,fun x hx c hc=>?_,fun j x m c hj hm=>?_,hR.base⟩
 ·rcases G x hx with hx | rfl
  ·exact hR.nc x hx
  ·unfold AV.nc;rw [aO,n9 _ _ _ (by omega)];exact Z
 ·rcases G x hx with hx | rfl
  ·exact hR.pure x hx
  ·refine Wu fun c hc=>?_
   rw [aO] at hc
   rcases AR hc with hc | hc
   ·exact kO (hR.pure e bj) c hc
   ·exact hp c hc
 ·rcases G x hx with hx | rfl
  ·exact hR.one x hx c hc
  ·rw [aO] at hc
   rcases AR hc with hc | hc
   ·exact hR.one e bj c hc
   ·exact h1 c hc
 ·rw [Ec _ _ _ N]
  rw [uX] at hj
  by_cases b6:i=j
  ·subst b6
   rw [ab rfl,ab hi] at hj
   cases hj
   rw [aO,km _ _ _ (by omega)] at hm
   by_cases bq:off≤m∧m<off+ys.length
   ·grind [VR.same]
   ·rw [aa bq] at hm
    rw [aa (by omega)]
    exact VR.same hs (hR.cell i e m c he hm)
  ·rw [aa b6] at hj
   have cd:=hR.nc x (bg hj)
   have aX:=dB hm
   have bm:x.cl.length=P.cellsOf t:=cd
   have:¬(i*P.cellsOf t+off≤j*P.cellsOf t+m∧j*P.cellsOf t+m<i*P.cellsOf t+off+us.length):=by
    rintro ⟨h2,h3⟩
    rcases oz i j with h4 | h4
    ·have:(i+1)*P.cellsOf t≤j*P.cellsOf t:=gK _ h4
     grind
    ·have:(j+1)*P.cellsOf t≤i*P.cellsOf t:=gK _ (by omega)
     grind
   rw [aa this]
   exact VR.same hs (hR.cell j x m c hj hm)
theorem aq.putRow{pl:Pl}{t:TypeId}{es aR:List AV}{w':World}{st':St}(h:aq C st a w σ)(D:st.rowAt C.E.dp pl=some (t,es))(hlen:aR.length=es.length)
  (hs:jo C w σ w' σ (some (pl.rC C.E.dp))) (U:OwnAt C.P C.W w' σ (pl.rC C.E.dp) (pl.jM C.E=true) t aR (gm w σ a pl)) (hp:st.putAt C.E.dp (.o t aR) pl=some st') :
  aq C st' a w' σ:=by
 have bO:∀ k,st.box C.E.dp k≠none→w'.heap[σ.κ k]? =w.heap[σ.κ k]? :=by
  intro k bk
  obtain ⟨cs',a2⟩:=Option.ne_none_iff_exists'.1 bk
  obtain ⟨vs',T',ad⟩:=h.bx k cs' a2
  exact (hs.blk _ _ ad.ow (by cases pl<;>simp [Pl.rC])).1
 have Y:∀ p r,st.rowAt C.E.dp p=some r→gm w' σ a p=gm w σ a p:=by
  intro p r hr
  cases p with
  | s d=>rfl
  | c k off=>
   grind [St.rowAt,gm]
 cases pl with
 | s d=>
  cases hp
  have hd:au st.fr d= .o t es:=by
   grind [St.rowAt]
  have aI:∀ p t2 es2,(st.dC d (.o t aR)).rowAt C.E.dp p=some (t2,es2)→∃ es0,st.rowAt C.E.dp p=some (t2,es0)∧es0.length=es2.length:=by
   intro p t2 es2 hr
   cases p with
   | s d2=>
    grind [St.rowAt,St.dC,sn]
   | c k off=>exact ⟨es2,hr,rfl⟩
  refine ⟨h.size,h.defers.same hs (by simp [Pl.rC]),fun d'=>?_,fun k cs hk=>?_,h.hpd,hs.own,hs.dn,fun b hb=>h.new b (bS hs.size hb),h.lay.aG hs.up hs.bP⟩
  ·simp only [St.dC,sn]
   by_cases Q:d=d'
   ·subst Q
    rw [ab rfl]
    exact OwnAt.FY U fun _=>rfl
   ·rw [aa Q]
    have hx:=h.fr d'
    generalize au st.fr d'=x at hx ⊢
    cases x with
    | o t2 es2=>exact OwnAt.same hs (by grind [Pl.rC]) hx
    | r p=>
     intro aU
     obtain ⟨⟨t2,es2⟩,hr⟩:=jJ.1 aU
     obtain ⟨es0,h2,_⟩:=aI p t2 es2 hr
     rw [Y p _ h2]
     exact hx (by rw [h2];rfl)
    | v p lo len=>
     intro t2 es2 hr ak
     obtain ⟨es0,h2,h3⟩:=aI p t2 es2 hr
     rw [Y p _ h2]
     exact hx t2 es0 h2 (by omega)
    | q p i sz off=>
     intro t2 es2 hr ak
     obtain ⟨es0,h2,h3⟩:=aI p t2 es2 hr
     rw [Y p _ h2]
     exact hx t2 es0 h2 (by omega)
    | w g t x=>exact rD.same hs (by simp [Pl.rC]) hx
    | ag cs' rs=>
     refine zi.to hx (fun c _ v hv=>VR.same hs hv) (fun q _ hr=>?_)
     obtain ⟨⟨t2,es2⟩,hr⟩:=jJ.1 hr
     obtain ⟨es0,h2,_⟩:=aI (.s q.2) t2 es2 hr
     grind
    | _=>exact VR.same hs hx
  ·obtain ⟨vs,T,hB⟩:=h.bx k cs hk
   exact ⟨vs,T,(bO k (by rw [show st.box C.E.dp k=some cs from hk];simp)).trans hB.hh,hB.size,hB.ow,hB.wr,hB.one,fun off c hc=>CR.same hs (by simp [Pl.rC]) (hB.cell off c hc),hB.ty,hB.kb⟩
 | c k off=>
  simp only [St.rowAt] at D
  cases hb:st.box C.E.dp k with
  | none=>simp [hb] at D
  | some cs=>
   simp only [hb] at D
   have a6:cs[off]? =some (.o t es):=by
    grind
   have b4:=dB a6
   simp only [St.putAt,hb,oy] at hp
   subst hp
   have aw:=fun k'=>jT (cs':=cs.set off (.o t aR)) hb k'
   have aI:∀ p t2 es2,(st.aL C.E.dp k (cs.set off (.o t aR))).rowAt C.E.dp p=some (t2,es2)→∃ es0,st.rowAt C.E.dp p=some (t2,es0)∧es0.length=es2.length:=by
    intro p t2 es2 hr
    cases p with
    | s d2=>rw [ta] at hr;exact ⟨es2,hr,rfl⟩
    | c k' off'=>
     simp only [St.rowAt,aw] at hr
     by_cases hk:k'=k
     ·subst hk
      simp only [az] at hr
      by_cases ho:off=off'
      ·subst ho
       rw [uX,ab rfl,ab b4] at hr
       simp only [oy,Prod.mk.injEq] at hr
       exact ⟨es,by simp only [St.rowAt,hb,a6,hr.1],by rw [←hr.2,hlen]⟩
      ·rw [uX,aa ho] at hr
       exact ⟨es2,by simp only [St.rowAt,hb];exact hr,rfl⟩
     ·simp only [aa hk] at hr
      exact ⟨es2,by simp only [St.rowAt];exact hr,rfl⟩
   refine ⟨h.size,h.defers.same hs (by simp [Pl.rC]),fun d'=>?_,fun k' cs' hk=>?_,fun k' cs' hk S=>?_,hs.own,hs.dn,fun b hb=>h.new b (bS hs.size hb),h.lay.aG hs.up hs.bP⟩
   ·rw [pM]
    have hx:=h.fr d'
    generalize au st.fr d'=x at hx ⊢
    cases x with
    | o t2 es2=>exact OwnAt.same hs (by simp [Pl.rC]) hx
    | r p=>
     intro aU
     obtain ⟨⟨t2,es2⟩,hr⟩:=jJ.1 aU
     obtain ⟨es0,h2,_⟩:=aI p t2 es2 hr
     rw [Y p _ h2]
     exact hx (by rw [h2];rfl)
    | v p lo len=>
     intro t2 es2 hr ak
     obtain ⟨es0,h2,h3⟩:=aI p t2 es2 hr
     rw [Y p _ h2]
     exact hx t2 es0 h2 (by omega)
    | q p i sz off=>
     intro t2 es2 hr ak
     obtain ⟨es0,h2,h3⟩:=aI p t2 es2 hr
     rw [Y p _ h2]
     exact hx t2 es0 h2 (by omega)
    | w g t x=>exact rD.same hs (by simp [Pl.rC]) hx
    | ag cs' rs=>
     refine zi.to hx (fun c _ v hv=>VR.same hs hv) (fun q _ hr=>?_)
     grind [Option.isSome_iff_exists]
    | _=>exact VR.same hs hx
   ·rw [aw] at hk
    by_cases ay:k'=k
    ·subst ay
     simp only [az] at hk
     cases hk
     obtain ⟨vs,T,hB⟩:=h.bx k' cs hb
     refine ⟨vs,T,(bO k' (by simp [hb])).trans hB.hh,by simpa using hB.size,hB.ow,hB.wr,fun c hm=>?_,fun i c hi=>?_,fun t kk u ht=>?_,hB.kb⟩
     ·rcases mU hm with hm | rfl
      ·exact hB.one c hm
      ·exact .inl rfl
     ·rw [uX] at hi
      by_cases ho:off=i
      ·subst ho
       rw [ab rfl,ab b4] at hi
       cases hi
       have:gm w σ a (.c k' off)=vs.getD off undef:=by simp only [gm,hB.hh]
       rw [this] at U
       exact U
      ·rw [aa ho] at hi
       exact CR.same hs (by grind [Pl.rC]) (hB.cell i c hi)
     ·rcases mU ht with ht | ht
      ·simpa using hB.ty t kk u ht
      ·cases ht
    ·simp only [aa ay] at hk
     obtain ⟨vs,T,hB⟩:=h.bx k' cs' hk
     exact ⟨vs,T,(bO k' (by simp [hk])).trans hB.hh,hB.size,hB.ow,hB.wr,hB.one,fun i c hi=>CR.same hs (by grind [Pl.rC]) (hB.cell i c hi),hB.ty,hB.kb⟩
   ·by_cases a4:k.dp=C.E.dp
    ·simp only [St.aL,a4,az] at S
     exact h.hpd k' cs' hk S
    ·simp only [St.aL,aa a4,ar] at S
     split at S
     ·rename_i ay
      subst ay
      cases S
      have hold:=h.hpd k' cs hk (by grind [St.box])
      refine ⟨hold.1,fun c hm=>?_⟩
      rcases mU hm with hm | rfl
      ·exact hold.2 c hm
      ·rfl
     ·exact h.hpd k' cs' hk S
end
variable [bM]
section
variable {C:Cx}{st:St}{a:Act}{w:World}{σ:Sp}{o:Oper}{d:Option Nat}{R:Rec}{Ω:ef}{r:AV×St}
theorem aq.relabel{g:Nat}{L M:ez}(h:aq C st a w σ)(hg:σ.ow g=some L)(hi:Idle C st (some L)):aq C st a w (σ.add g (some M)):=by
 refine h.JK (L:=some L) ⟨fun b l hb hl=>⟨rfl,?_⟩,fun _ _=>rfl,fun _ h=>h,rfl,aV _,fun b l hb=>?_,fun b hb=>?_⟩ hi
 ·grind [Sp.add]
 ·simp only [Sp.add] at hb
  split at hb
  ·rename_i e;subst e;exact h.own _ _ hg
  ·exact h.own b l hb
 ·obtain ⟨h1,h2⟩:=h.bP b hb
  grind [Sp.add]
theorem cZ.relabel{g:Nat}{L:Option ez}(hW:C.W g):cZ C w σ w (σ.add g L):=
 ⟨aV _,fun _ _ _=>rfl,fun _ h=>h,fun _ _=>rfl,fun _ h=>.inl h,fun _ _=>rfl,fun b _ hb=>aa (fun e=>hb (by rw [e];exact hW)),rfl,rfl⟩
theorem gx.relabel{P:Program}{W:Nat→Prop}{L M:ez}{wp:Prop}{t:TypeId}{es:List AV}{g cap:Nat}{cs:Array Value}(h:gx P W w σ L wp t es g cap cs):gx P W w (σ.add g (some M)) M wp t es g cap cs:=
 ⟨by simp [Sp.add],h.wr,h.hh,h.pos,h.nc,h.ecap,h.max,h.size,h.pure,h.one,h.cell,h.base⟩
theorem aq.take{L M:ez}{wp:Prop}{t:TypeId}{es:List AV}{v:Value}(h:aq C st a w σ)(ho:OwnAt C.P C.W w σ L wp t es v)(ch:wp)(hi:Idle C st (some L)) :
  ∃ σ',aq C st a w σ'∧OwnAt C.P C.W w σ' M wp t es v∧cZ C w σ w σ'∧σ'.κ=σ.κ:=by
 rcases ho with ⟨h1,h2⟩ | ⟨g,cap,cs,hv,hR⟩
 ·exact ⟨σ,h,.inl ⟨h1,h2⟩,.refl _ _ _,rfl⟩
 ·exact ⟨_,h.relabel hR.ow hi,.inr ⟨g,cap,cs,hv,hR.relabel⟩,.relabel (hR.wr ch),rfl⟩
theorem gx.short{P:Program}{W:Nat→Prop}{L:ez}{wp:Prop}{t:TypeId}{es:List AV}{g cap:Nat}{cs:Array Value}(h:gx P W w σ L wp t es g cap cs)(n:Nat):gx P W w σ L wp t (es.take n) g cap cs:=
 ⟨h.ow,h.wr,h.hh,h.pos,fun e he=>h.nc e (oA he),by have:=h.ecap;simp;omega,h.max,h.size,fun e he=>h.pure e (oA he),fun e he=>h.one e (oA he),
  fun j e m c hj hm=>h.cell j e m c (by grind) hm,h.base⟩
theorem OwnAt.short{P:Program}{W:Nat→Prop}{L:ez}{wp:Prop}{t:TypeId}{es:List AV}{v v':Value}{len sz:Nat}(h:OwnAt P W w σ L wp t es v)(hl:len≤es.length)
  (hv:∃ A n cap,v= .slice A n cap∧v'= .slice (if cap=0 then A else A.map (·.add (0*sz))) len (cap - 0)):OwnAt P W w σ L wp t (es.take len) v':=by
 obtain ⟨A,n,cap,h1,h2⟩:=hv
 have hA:(if cap=0 then A else A.map (·.add (0*sz)))=A:=by
  simp_all [Addr.add]
 rw [hA,uW] at h2
 have hlen:(es.take len).length=len:=by simp;omega
 rcases h with ⟨rfl,hv⟩ | ⟨g,cap',cs,hv,hR⟩
 ·simp only [jk] at hl
  obtain rfl:len=0:=by omega
  refine .inl ⟨by simp,?_⟩
  grind
 ·rw [hv] at h1
  simp only [Value.slice.injEq] at h1
  exact .inr ⟨g,cap',cs,by grind,hR.short len⟩
theorem S2(st:St)(pl:Pl)(d:Nat):au (st.bc pl).fr d= .u∨au (st.bc pl).fr d=au st.fr d:=by
 simp only [St.bc,pK]
 grind
theorem mw(st:St)(d d':Nat)(x:AV):au (st.dC d x).fr d'=if d=d' then x else au st.fr d':=rfl
theorem aq.OL(h:aq C st a w σ)(n:Nat):aq C (st.dC n .u) a w σ:=
 h.forget ((by grind [mw])) (fun _ _ h=>h) rfl
theorem yI{n:Nat}(hn:∀ t es,au st.fr n≠.o t es):Idle C st (some (.rowS C.E.dp n)):=
 ⟨by grind,fun _ _ _=>by simp,fun _ _ _ _ _ _ _=>by simp,fun _=>by simp,by simp⟩
theorem EO{pl:Pl}{n:Nat}(hn:∀ t es,au st.fr n≠.o t es):∀ t es,au (st.bc pl).fr n≠.o t es:=by
 grind [S2]
theorem afu{x:aY}(h:aq C st a w σ)(hl:bG C.P (.as x) o.op=true)(he:execOp R Ω C.E st d (.as x)=some r) :
  eM C o d a w σ r.2 r.1:=by
 obtain ⟨y,aJ,aK⟩:∃ y,o.op= .assign y∧bR y x=true:=by
  simp only [bG] at hl;grind
 have hr:(Go.execOp a.eval o).run C.P w= .ok (.value (a.eval y)) w:=by unfold Go.execOp;simp [aJ]
 cases x with
 | c z=>
  simp only [execOp] at he
  split at he
  ·rename_i hp
   cases he
   exact .quiet h hr (ed z hp) (h.wQ (x:=.c z) aK (ed z hp))
  ·cases he
 | t n=>
  have hs:=h.slot aK
  simp only [execOp] at he
  have cx:∀ z,au st.fr n=z→(∀ t es,z≠.o t es)→r=(z,st)→eM C o d a w σ r.2 r.1:=by
   intro z hz bD co
   subst co
   rw [hz] at hs
   exact .AQ h hr bD fun dd=>UH bD hs
  split at he
  ·rename_i t es hx
   obtain ⟨dd,Q,he⟩:=ah.1 he
   cases he
   rw [hx] at hs
   have h1:=(h.OL n).bc (.s dd)
   have hn:∀ t es,au ((st.dC n .u).bc (.s dd)).fr n≠.o t es:=
    by grind [EO,mw]
   obtain ⟨σ',hc,ho,ae,_⟩:=h1.take (M:=.rowS C.E.dp dd) hs trivial (yI hn)
   refine .lr hr ⟨ae,hc,fun d2 ac=>?_,fun d2 t2 es2 ac _ d'=>?_⟩
   ·rw [Q] at ac;cases ac;exact ho
   grind [lq]
  ·rename_i pl lo len hx
   obtain ⟨dd,Q,H⟩:=ah.1 he
   clear he
   split at H
   ·rename_i hc
    simp only [aC,eI,eh] at hc
    obtain ⟨bb,a0⟩:=hc
    obtain ⟨⟨t,es⟩,D,K⟩:=ah.1 H
    clear H
    simp only at K
    split at K
    ·rename_i hle
     cases K
     rw [hx] at hs
     subst a0
     have hv:=hs t es D (by omega)
     subst bb
     have ho:=(h.row D).short hle hv
     refine .lr hr ⟨.refl _ _ _,h.bc _,fun d2 ac=>?_,fun d2 t2 es2 ac _ d'=>?_⟩
     ·rw [Q] at ac;cases ac;exact ho.FY fun _=>rfl
     grind [lq]
    ·cases K
   grind
  grind
theorem Lh{x:AV}(h:x.copy=true):∀ c∈x.cl,c.copy=true:=by
 intro c hc
 cases x<;>simp only [AV.cl,jj] at hc<;>first | (subst hc;exact h) | skip
 grind [Bz,AV.copy]
theorem Zj{n:Nat}{x:AV}(h:x.deep n=true):∀ c∈x.cl,c.deep n=true:=by
 intro c hc
 cases x<;>simp only [AV.cl,jj] at hc<;>first | (subst hc;exact h) | skip
 grind [nX,AV.deep]
theorem akg{k:Key}{off:Nat}{c:AV}{v:Value}(hc:c.copy=true)(h:VR w σ.I σ.κ c v):CR C w σ k off c v:=by
 cases c<;>first | exact h | (simp [AV.copy] at hc)
theorem OwnAt.isSlice{P:Program}{W:Nat→Prop}{L:ez}{wp:Prop}{t:TypeId}{es:List AV}{v:Value}(h:OwnAt P W w σ L wp t es v):v.cells=#[v]∧v.oneCell'=true:=by
 rcases h with ⟨_,rfl⟩ | ⟨g,cap,cs,rfl,_⟩<;>exact ⟨rfl,rfl⟩
theorem aq.OM{k:Key}{cs:List AV}{off:Nat}{t:TypeId}{es:List AV}{v:Value}(h:aq C st a w σ)(hb:st.box C.E.dp k=some cs)(aj:off<cs.length)
  (hm:(Pl.c k off).jM C.E=true) (ho:OwnAt C.P C.W w σ (.rowC k off) True t es v) (bY:∀ d,(au st.fr d).kq (.c k off)=false) {T:TypeId} (N:sized C.P T 1=true) :
  ∃ w',(Instr.storeAt T (.pointer (some ⟨σ.κ k,off,none⟩)) v).run C.P w= .ok () w'∧aq C (st.aL C.E.dp k (cs.set off (.o t es))) a w' σ∧cZ C w σ w' σ:=by
 obtain ⟨vs,T',hB⟩:=h.bx k cs hb
 obtain ⟨b8,cP⟩:=ho.isSlice
 refine ⟨_,CE (n:=1) hB.hh N (by rw [b8];rfl) (by have:=hB.size;omega) (fun u hu=>?_),?_,.setRow h hB.ow (hB.wr hm) _⟩
 ·grind
 ·rw [OK _ _ _ aj,b8]
  refine h.OJ hb hB (by simp) (by grind) (fun c hc=>?_) (fun j c hj=>?_) (fun j t' aR hj=>?_) (fun _ c hc=>?_) (fun t' _ _ ht=>by simp at ht)
  ·have:c= .o t es:=by simpa using hc
   rw [this];rfl
  ·cases j with
   | zero=>
    have:AV.o t es=c:=by simpa using hj
    subst this
    exact ho.FY fun _=>trivial
   | succ j=>simp at hj
  ·grind
  ·have:c= .o t es:=by simpa using hc
   rw [this];rfl
theorem afv{n:Nat}{x y:aY}(h:aq C st a w σ)(hl:bG C.P (.st n x y) o.op=true)(he:execOp R Ω C.E st d (.st n x y)=some r) :
  eM C o d a w σ r.2 r.1:=by
 obtain ⟨t,x',y',aJ,bH,bf,N⟩:∃ t x' y',o.op= .store t x' y'∧bR x' x=true∧bR y' y=true∧sized C.P t n=true:=by
  simp only [bG] at hl;grind
 have X:∀ g off w',a.eval x'= .pointer (some ⟨g,off,none⟩)→(Instr.storeAt t (.pointer (some ⟨g,off,none⟩)) (a.eval y')).run C.P w= .ok () w'→
   (Go.execOp a.eval o).run C.P w= .ok .skip w':=by
  simp_all [Go.execOp]
 have a1:∀ {w' σ' st'},(Go.execOp a.eval o).run C.P w= .ok .skip w'→cZ C w σ w' σ'→aq C st' a w' σ'→eM C o d a w σ st' .u:=fun hr hs hc=>
  .Zg hr ⟨hs,hc,fun _ _=>VR.u _,fun _ _ _ _ e=>by cases e⟩
 simp only [execOp] at he
 split at he
 ·rename_i k off hx
  have hv:=(hx▸h.fJ bH (by rw [hx];simp) (by rw [hx];rfl)).zS
  split at he
  ·rename_i J
   obtain ⟨cs,aF,H⟩:=ah.1 he
   clear he
   obtain ⟨vs,T,hB⟩:=h.bx k cs aF
   have cH:C.W (σ.κ k):=hB.wr J
   split at H
   ·rename_i t' es hy
    split at H
    ·rename_i m
     split at H
     ·rename_i hc
      simp only [aC,eh,eI] at hc
      obtain ⟨bE,aj⟩:=hc
      cases H
      have hs:=h.slot bf
      have cc:au st.fr m= .o t' es:=hy
      rw [cc] at hs
      have h1:=(h.OL m).bc (.c k off)
      have hn:∀ t es,au ((st.dC m .u).bc (.c k off)).fr m≠.o t es:=
       by grind [EO,mw]
      obtain ⟨σ',hc,ho,ae,am⟩:=h1.take (M:=.rowC k off) hs trivial (yI hn)
      have bX:((st.dC m .u).bc (.c k off)).box C.E.dp k=some cs:=aF
      obtain ⟨w',hr,S,a7⟩:=hc.OM bX aj J ho (fun d=>lq _ _ _) (bE▸N)
      rw [am] at hr
      exact a1 (X _ _ _ hv hr) (ae.trans a7) S
     ·cases H
    ·cases H
   ·rename_i pl lo len hy
    split at H
    ·rename_i hc
     simp only [aC,eh,eI] at hc
     obtain ⟨⟨bb,a0⟩,bE⟩:=hc
     obtain ⟨⟨t',es⟩,D,K⟩:=ah.1 H
     clear H
     simp only at K
     split at K
     ·rename_i hle
      cases K
      obtain ⟨m,rfl,hm⟩:=eN hy rfl bf
      have hs:=h.slot bf
      rw [hm] at hs
      subst a0
      have ci:=hs t' es D (by omega)
      subst bb
      have ho:=(h.row D).short hle ci
      have aj:off<cs.length:=by
       grind [St.rowAt]
      obtain ⟨w',hr,S,a7⟩:=(h.bc (.c k off)).OM (show (st.bc (.c k off)).box C.E.dp k=some cs from aF) aj J (ho.FY fun _=>J) (fun d=>lq _ _ _) (bE▸N)
      grind
     ·cases K
    ·cases H
   ·split at H
    ·rename_i hc
     simp only [aC,eh,eI] at hc
     obtain ⟨⟨⟨⟨a3,Z⟩,bA⟩,av⟩,hle⟩:=hc
     cases H
     have h1:∀ c∈(st.ev y).cl,c.one=true:=by grind
     obtain ⟨hlen,F⟩:=(h.wQ bf a3).cells h1
     have bd:(st.ev y).cl.length=n:=Z
     refine a1 (X _ _ _ hv (CE (n:=n) hB.hh N (by omega) (by have:=hB.size;omega) (fun u hu=>?_))) (.setRow h hB.ow cH _) ?_
     ·obtain ⟨m,hm⟩:=eZ.1 hu
      have aX:m<(st.ev y).cl.length:=by grind
      have:=F m _ (aP aX)
      have e:(a.eval y').cells.getD m undef=u:=by
       simp_all
      rw [e] at this
      exact this.Lf (h1 _ (bN aX))
     ·refine h.OJ aF hB (by simpa using hlen) (by omega) h1 (fun j c hj=>?_) (fun j t' aR hj=>?_) (fun _ c hc=>Zj av c hc) (fun t' _ _ ht=>by have:=Lh a3 _ ht;cases this)
      ·grind [akg,Lh,Array.getD_eq_getD_getElem?]
      ·have:=Lh a3 _ (bg hj)
       simp [AV.copy] at this
    ·cases H
  ·cases he
 ·rename_i pl i sz off hx
  split at he
  ·rename_i J
   obtain ⟨⟨t',es⟩,D,H⟩:=ah.1 he
   clear he
   obtain ⟨e,bT,K⟩:=ah.1 H
   clear H
   simp only at K
   split at K
   ·rename_i hc
    simp only [aC,eh,eI] at hc
    obtain ⟨⟨⟨⟨bz,b2⟩,Z⟩,bA⟩,hle⟩:=hc
    obtain ⟨st',aW,cA⟩:=ah.1 K
    clear K
    cases cA
    have aj:i<es.length:=dB bT
    obtain ⟨m,rfl,hm⟩:=eN hx rfl bH
    obtain ⟨g,n',cap,a9,hv⟩:=(hm▸h.slot bH) t' es D aj
    obtain ⟨g',cap',cs,cq,hR⟩:=h.D8 D (fun e=>by grind)
    obtain ⟨rfl,rfl,rfl⟩:g=g'∧n'=es.length∧cap=cap':=by
     grind
    have bj:=bg bT
    have bw:sz=C.P.cellsOf t':=bz.symm.trans (hR.nc e bj)
    subst bw
    have h1:∀ c∈(st.ev y).cl,c.one=true:=by grind
    obtain ⟨hlen,F⟩:=(h.wQ bf (ed _ b2)).cells h1
    have bd:(st.ev y).cl.length=n:=Z
    have bJ:i*C.P.cellsOf t'+off+n≤cs.size:=by
     rw [hR.size]
     have:(i+1)*C.P.cellsOf t'≤cap*C.P.cellsOf t':=gK _ (by have:=hR.ecap;omega)
     grind
    have aH:=jo.setRow h hR.ow (tW cs (i*C.P.cellsOf t'+off) (a.eval y').cells.toList)
    refine a1 (X _ _ _ hv (CE (n:=n) hR.hh N (by omega) bJ (fun u hu=>?_))) (.setRow h hR.ow (hR.wr J) _) ?_
    ·obtain ⟨m,hm⟩:=eZ.1 hu
     have aX:m<(st.ev y).cl.length:=by grind
     have:=F m _ (aP aX)
     have e:(a.eval y').cells.getD m undef=u:=by
      simp_all
     rw [e] at this
     exact this.Lf (h1 _ (bN aX))
    ·refine h.putRow D (by simp) aH (.inr ⟨g,cap,_,by rw [a9];simp,hR.put aH bT (by simpa using hlen) (by omega) h1 (kO b2) fun m c hm=>?_⟩) aW
     grind [Array.getD_eq_getD_getElem?]
   ·cases K
  ·cases he
 ·cases he
end
variable [bM]
section
variable {C:Cx}{st:St}{a:Act}{w:World}{σ:Sp}{o:Oper}{d:Option Nat}{R:Rec}{Ω:ef}{r:AV×St}
theorem VR.BX{w w':World}{I I':Nat→Prop}{κ κ':Key→Nat}{x:AV}{v:Value}(h:VR w I κ x v)(hI:∀ b,I b→I' b)(hh:∀ b,I b→w'.heap[b]? =w.heap[b]?)(hp:x.pure=true):VR w' I' κ' x v:=
 h.mono hI hh fun k hk=>by rw [kN x hp] at hk;cases hk
theorem aq.newRow(h:aq C st a w σ){L:ez}{t:TypeId}{es:List AV}{cap:Nat}{cs:Array Value}(aA:0<C.P.cellsOf t)(Z:∀ e∈es,e.nc=C.P.cellsOf t)(bV:es.length≤cap)(aB:cap≤maxLen)
  (O:cs.size=cap*C.P.cellsOf t) (hp:∀ e∈es,e.pure=true) (h1:∀ e∈es,∀ c∈e.cl,c.one=true)
  (hc:∀ (j:Nat)(e:AV)(m:Nat)(c:AV),es[j]? =some e→e.cl[m]? =some c→VR w σ.I σ.κ c (cs.getD (j*C.P.cellsOf t+m) undef)) :
  ∃ σ',cZ C w σ (w.alloc (.cells cs t)) σ'∧aq C st a (w.alloc (.cells cs t)) σ'∧OwnAt C.P C.W (w.alloc (.cells cs t)) σ' L True t es (.slice (some ⟨w.heap.size,0,none⟩) es.length cap)∧σ'.κ=σ.κ:=by
 have hs:=jo.alloc h (.cells cs t) (some L)
 refine ⟨_,cZ.alloc h _ (some L),h.same hs,.inr ⟨w.heap.size,cap,cs,rfl,by simp [Sp.add],fun _=>(h.new _ (aV _)).1,heap_alloc_new w _,aA,Z,bV,aB,O,hp,h1,fun j e m c he hm=>VR.same hs (hc j e m c he hm),(h.new _ (aV _)).2⟩,rfl⟩
theorem aq.drew(h:aq C st a w σ):aq C st a w.drew σ:=
 h.same ⟨fun _ _ hb _=>⟨rfl,hb⟩,fun _ _=>rfl,fun _ h=>h,rfl,aV _,h.own,h.bP⟩
theorem cZ.drew{w':World}{σ':Sp}(h:cZ C w.drew σ w' σ'):cZ C w σ w' σ':=⟨h.size,h.aG,h.up,h.bP,h.dn,h.kap,h.ow,h.io⟩
theorem Mz(h:aq C st a w σ){sz:Nat} :
  ∀ (ps:List (Nat×Operand))(xs:List aY)(i:Nat)(vs:Array Value),ps.map (·.1)=List.range' i ps.length→eG (ps.map (·.2)) xs=true→i*sz+xs.length*sz≤vs.size→
   (∀ x∈xs,(st.ev x).copy=true∧(st.ev x).nc=sz∧∀ c∈(st.ev x).cl,c.one=true)→
   ∃ vs',Instr.fill (fun i=>some (i*sz,sz)) vs (ps.map fun p=>(p.1,a.eval p.2))=some vs'∧vs'.size=vs.size∧(∀ j,j<i*sz→vs'[j]? =vs[j]?)∧
    ∀ (j:Nat)(x:aY)(m:Nat)(c:AV),xs[j]? =some x→(st.ev x).cl[m]? =some c→VR w σ.I σ.κ c (vs'.getD ((i+j)*sz+m) undef)
 | [],[],i,vs,_,_,_,_=>⟨vs,rfl,rfl,fun _ _=>rfl,fun j x m c hj=>by simp at hj⟩
 | (i',y)::ps,x::xs,i,vs,hi,hl,hle,hq=>by
  simp only [fj,cC,Ft,Fm] at hi
  obtain ⟨rfl,hi⟩:=hi
  simp only [fj,eG,aC] at hl
  obtain ⟨aK,a8⟩:=hl
  obtain ⟨a3,Z,h1⟩:=hq x (by simp)
  obtain ⟨aO,cD⟩:=(h.wQ aK a3).cells h1
  have bd:(st.ev x).cl.length=sz:=Z
  have cB:(a.eval y).cells.size=sz:=by omega
  simp only [cC,fF,Nat.one_mul] at hle
  have aj:¬(i'*sz+sz>vs.size):=by omega
  have aS:=F1 (i'*sz) (a.eval y).cells.toList 0 vs (by simp;omega)
  have aT:=Ea (i'*sz) ((a.eval y).cells.toList.zipIdx) vs (fun z hz=>by
   have:=Fs hz
   simp at this;omega)
  have aN:(a.eval y).cells.zipIdx.foldl (fun cs x=>cs.setIfInBounds (i'*sz+x.2) x.1) vs=(a.eval y).cells.toList.zipIdx.foldl (fun cs x=>cs.setIfInBounds (i'*sz+x.2) x.1) vs:=by
   rw [←Array.toList_zipIdx,Array.foldl_toList]
  generalize cj:(a.eval y).cells.toList.zipIdx.foldl (fun cs x=>cs.setIfInBounds (i'*sz+x.2) x.1) vs=vs2 at aS aT aN
  obtain ⟨vs',ap,O,hold,U⟩:=Mz h ps xs (i'+1) vs2 hi a8 (by rw [aT,fF,Nat.one_mul];omega) (fun z hz=>hq z (by simp [hz]))
  refine ⟨vs',?_,O.trans aT,fun j hj=>?_,fun j z m c hj hm=>?_⟩
  ·simp only [fj,Instr.fill,cB,ne_eq,vv,decide_false,pS,aj,bU,bB]
   rw [aN]
   exact ap
  ·rw [hold j (by rw [fF];omega),aS,aa (by omega)]
  ·cases j with
   | zero=>
    obtain rfl:x=z:=by simpa using hj
    have aX:=dB hm
    have:=cD m c hm
    rw [dK,oC,hold _ (by rw [fF];omega),aS,ab (by simp;omega)]
    rw [show i'*sz+m - i'*sz - 0=m by omega]
    simpa [dK] using this
   | succ j=>
    have:=U j z m c (by simpa using hj) hm
    rwa [show i'+1+j=i'+(j+1) by omega] at this
 | [],_::_,_,_,_,hl,_,_=>by simp [eG] at hl
 | _::_,[],_,_,_,hl,_,_=>by simp [eG] at hl
theorem aq.tc{σ':Sp}{w':World}{st':St}{dd:Nat}{t:TypeId}{es:List AV}{cv:Value}(Q:d=some dd)(hs:cZ C w σ w' σ')(hc:aq C (st'.bc (.s dd)) a w' σ')(ho:OwnAt C.P C.W w' σ' (.rowS C.E.dp dd) True t es cv) :
  Mw C (st'.bc (.s dd)) a w σ d (.o t es) cv w' σ':=by
 refine ⟨hs,hc,fun d2 ac=>?_,fun d2 _ _ ac _ d'=>?_⟩
 ·rw [Q] at ac;obtain rfl:=af ac;exact ho
 ·rw [Q] at ac;obtain rfl:=af ac;exact lq _ _ _
theorem AS{P:Program}{ty t:TypeId}(h:lD P ty=some t):P.underlying ty=some (.slice t):=by
 unfold lD at h
 split at h
 ·rename_i e hu;rw [hu];simp at h;rw [h]
 ·cases h
theorem afw{t sz:Nat}{xs:List aY}(h:aq C st a w σ)(hl:bG C.P (.bs t sz xs) o.op=true)(he:execOp R Ω C.E st d (.bs t sz xs)=some r) :
  eM C o d a w σ r.2 r.1:=by
 simp only [bG] at hl
 split at hl
 ·rename_i ty len parts aJ
  simp only [aC,eh,eI] at hl
  obtain ⟨⟨⟨⟨⟨⟨bv,N⟩,hlen⟩,bi⟩,aK⟩,cF⟩,hz⟩:=hl
  split at hz
  ·rename_i zv bt
   have bu:zv.cells.size=sz:=by simpa using hz
   have hu:=AS bv
   obtain ⟨i,hi,bK⟩:=zT bt
   obtain ⟨_,B,aA⟩:=pL N
   have an:i.size=sz:=by rw [←B];simp [Program.cellsOf,hi]
   simp only [execOp] at he
   obtain ⟨dd,Q,H⟩:=ah.1 he
   clear he
   split at H
   ·rename_i bZ
    obtain rfl:=af H
    have ax:∀ x∈xs,(st.ev x).pure=true∧(st.ev x).nc=sz∧∀ c∈(st.ev x).cl,c.one=true:=by
     intro x hx
     have:=cJ.1 bZ (st.ev x) (yp hx)
     simp only [aC,eh] at this
     exact ⟨this.1.1,this.2,fun c hc=>cJ.1 this.1.2 c hc⟩
    have bb:parts.toList.length=len:=by simpa using congrArg List.length bi
    have bm:xs.length=len:=hlen.symm
    let vs:Array Value:=if len*sz=0 then #[] else (Array.range (len*sz)).map (zv.cells[· % zv.cells.size]!)
    have b1:vs.size=len*sz:=by
     by_cases h0:len*sz=0<;>simp [vs,h0]
    obtain ⟨vs',ap,O,_,U⟩:=Mz h (sz:=sz) parts.toList xs 0 vs (by rw [bi,bb,List.range_eq_range']) aK (by rw [b1,bm];omega) (fun x hx=>⟨ed _ (ax x hx).1,(ax x hx).2⟩)
    have G:∀ e∈xs.map st.ev,e.pure=true∧e.nc=sz∧∀ c∈e.cl,c.one=true:=by
     intro e he
     obtain ⟨x,hx,rfl⟩:=iJ.1 he
     exact ax x hx
    obtain ⟨σ',ae,hc,ho,_⟩:=(h.bc (.s dd)).newRow (L:=.rowS C.E.dp dd) (t:=t) (es:=xs.map st.ev) (cap:=len) (cs:=vs') (by omega) (fun e he=>by rw [B];exact (G e he).2.1) (by simp [bm]) (by simp [maxLen];have:=Nat.le_mul_of_pos_right len aA;omega)
     (by rw [O,b1,B]) (fun e he=>(G e he).1) (fun e he=>(G e he).2.2) (fun j e m c hj hm=>by
      rw [yl] at hj
      cases hx:xs[j]? with
      | none=>simp [hx] at hj
      | some x=>
       obtain rfl:st.ev x=e:=by simpa [hx] using hj
       have:=U j x m c hx hm
       rw [B]
       simpa using this)
    rw [eY,bm] at ho
    refine .lr ?_ (aq.tc Q ae hc ho)
    have ao:Instr.fill (fun i=>some (i*sz,sz)) vs (parts.map fun x=>(x.1,a.eval x.2)).toList=some vs':=by rw [Array.toList_map];exact ap
    unfold Go.execOp
    simp only [aJ]
    by_cases h0:len*sz=0
    ·have cu:len=0:=by
      rcases Nat.mul_eq_zero.1 h0 with e | e
      ·exact e
      ·omega
     have cr:parts=#[]:=by
      apply Array.ext'
      exact yq (by omega)
     have cn:vs'=#[]:=Fu (by omega)
     subst cr;subst cn;subst cu
     simp [Instr.buildSlice,run_underlying hu,sizeOf,typeInfo,hi,Instr.fill,Go.newRow,Array.range_zero']
    ·simp only [vs,h0,bB] at ao
     rw [Sem.run_bind,run_buildSlice w ty t len _ vs' i zv hu hi bK (by rw [an];omega) (by rw [an];exact h0) (by rw [an];exact ao)]
     simp
   ·cases H
  ·cases hz
 ·cases hl
theorem afx{t sz by_:Nat}{z:AV}{n:aY}(h:aq C st a w σ)(hl:bG C.P (.ms t sz by_ z n) o.op=true)(he:execOp R Ω C.E st d (.ms t sz by_ z n)=some r) :
  eM C o d a w σ r.2 r.1:=by
 simp only [bG] at hl
 split at hl
 ·rename_i ty l' c' aJ
  simp only [aC,eh] at hl
  obtain ⟨⟨⟨⟨⟨bv,N⟩,cE⟩,aK⟩,bI⟩,hz⟩:=hl
  split at hz
  ·rename_i zv bt
   simp only [aC,eh] at hz
   obtain ⟨⟨ct,bu⟩,h1⟩:=hz
   have hu:=AS bv
   obtain ⟨i,hi,bK⟩:=zT bt
   obtain ⟨_,B,aA⟩:=pL N
   have an:i.size=sz:=by rw [←B];simp [Program.cellsOf,hi]
   have bL:i.bytes=by_:=by rw [←cE];simp [Program.bytesOf,hi]
   simp only [execOp] at he
   obtain ⟨dd,Q,H⟩:=ah.1 he
   clear he
   obtain ⟨m,hm,K⟩:=ah.1 H
   clear H
   obtain ⟨k,x,hx,cg,ce⟩:=FZ hm
   split at K
   ·rename_i hc
    simp only [aC,eI] at hc
    obtain ⟨bW,aB⟩:=hc
    obtain rfl:=af K
    have ck:=(hx▸h.fJ aK (by rw [hx];simp) (by rw [hx];rfl)).kB
    have cm:=(hx▸h.fJ bI (by rw [hx];simp) (by rw [hx];rfl)).kB
    have cf:x=(m:Int):=by omega
    have cG:(i.bytes:Int)*x≤281474976710656:=by
     rw [cf,bL]
     have:m*by_=by_*m:=mV _ _
     have h2:((by_*m:Nat):Int)≤281474976710656:=by omega
     rwa [Int.natCast_mul] at h2
    have be:x≤9223372036854775807:=by simp [maxLen] at aB;omega
    have X:=run_make (P:=C.P) w ty t i zv hu hi bK k k x x cg (Int.le_refl _) cG be
    obtain ⟨br,b9⟩:=G2 (w:=w) (I:=σ.I) (κ:=σ.κ) zv z ct
    have bl:∀ c∈z.cl,c.one=true:=fun c hc=>cJ.1 h1 c hc
    obtain ⟨ca,b0⟩:=br.cells bl
    have G:∀ e∈List.replicate m z,e=z:=fun e he=>(List.mem_replicate.1 he).2
    obtain ⟨σ',ae,hc,ho,_⟩:=(h.bc (.s dd)).newRow (L:=.rowS C.E.dp dd) (t:=t) (es:=List.replicate m z) (cap:=m) (cs:=madeCells zv.cells (m*sz)) (by omega) (fun e he=>by rw [G e he,B];exact ca.trans bu) (by simp) aB
     (by rw [size_madeCells,B]) (fun e he=>by rw [G e he];exact b9) (fun e he=>by rw [G e he];exact bl) (fun j e q c hj hq=>by
      have cw:=dB hj
      simp only [Fv] at cw
      have cy:=G e (bg hj)
      subst cy
      have cL:=dB hq
      have:=b0 q c hq
      rw [B]
      have aj:j*sz+q<m*sz:=by
       have:(j+1)*sz≤m*sz:=gK _ (by omega)
       rw [fF] at this
       omega
      have bF:(j*sz+q) % zv.cells.size=q:=by rw [bu,mV,Nat.mul_add_mod];exact Nat.mod_eq_of_lt (by omega)
      have:(madeCells zv.cells (m*sz)).getD (j*sz+q) undef=zv.cells.getD q undef:=by
       simp [madeCells,dK,aj,bF]
       have cp:q<zv.cells.size:=by omega
       simp [cp]
      rw [this]
      exact b0 q c hq)
    rw [Fv] at ho
    refine .lr ?_ (aq.tc Q ae hc ho)
    unfold Go.execOp
    rw [an,ce] at X
    simp [aJ,ck,cm,X]
   ·cases K
  ·cases hz
 ·cases hl
end
end Go.Proofs.YtkkkkondjclcnaaGreat.A
